import Derived.Test.YthbihnpoghlfaaaGreatDoorZr37
import Derived.Test.YthbihnpoghlfaaaGreatDoorZr40
set_option linter.unusedVariables false
set_option linter.unusedSimpArgs false
set_option maxHeartbeats 8000000
set_option maxRecDepth 100000
namespace Go.Proofs.YthbihnpoghlfaaaGreatDoor
open Go.Proofs.Tryz
section
open Go.RowKit Q Go.Lib
def S3 (c:Q.Af) (d:Wk) (i:Nat):Wk:=
 if Tr.kd c.Ar i=4 then N4 c i (Tr.up c.Ar (Tr.up c.Ar i).toNat) ((Wk.block c d (CB c i)).raise (nm c (Tr.up c.Ar i).toNat))else Wk.block c d (CB c i)
theorem TX (c:Q.Af) (d:Wk) (i:Nat):Wk.C3 c d i=S3 c {d with Ag:=Ce c.Aa.length d.Ag i} i:=rfl
theorem ZaR {c:Q.Af} {d:Wk} {i:Nat} (h:Tr.kd c.Ar i≠4):S3 c d i=Wk.block c d (CB c i):=if_neg h
theorem Zas {c:Q.Af} {d:Wk} {i p:Nat} (h:Tr.kd c.Ar i=4) (hp:Tr.up c.Ar i=(p:Int)):S3 c d i=N4 c i (Tr.up c.Ar p) ((Wk.block c d (CB c i)).raise (nm c p)):=by
 unfold S3;rw[if_pos h,hp,bI]
theorem Yx {B p:Nat} {D:DV} {R:RV} {cl:List Nat} {dj:Wk} {c:Q.Af} (v:Valid c) {m:Nat} (hm:m<=10000) (i:Nat) (J:i<c.Aa.length) (av:Value) (wq:World) (h:Ay wq B p 82 D R cl dj) (c2:B<=wq.heap.size) (hC:AQ wq B D.ev D.vv D.sv D.tv c)
  (hd:Wk.Ok c m dj) (l9:Dd c.Ar dj.Ag) (A4:dj.Ag.length<=40) (b3:wq.ownsRow B 3 1 av dj.Ag.length (ints dj.Ag)) (n1:∀k,av.ownBlock=some k->¬AX p R k) :
  Calls prog 116 #[.pointer (some ⟨p,0,none⟩),.int .i64 (i:Int),av] wq fun e w'=>e=.returned (.tuple #[])/\AR wq B p 82 D R cl (S3 c dj i) w':=by
 have hr:=v.tree;have A9:=v.vars;have y1:=v.Aa;obtain⟨aA,ac,rfl⟩:=Al b3;obtain⟨EA,ec,n2,-,-⟩:=hC.events.form;obtain⟨VA,B0,n3,-,-⟩:=hC.vars.form;obtain⟨TA,tc,n5,-,-⟩:=hC.trans.form;obtain⟨SA,sc,k0,E0,s8⟩:=hC.Aa.form;have H1:=jK h;have HA:=jK b3;have HF:=jK n1;have o0:=jK hC;have b5:=jK k0;have o1:=jK n2;have o2:=jK n3;have o3:=jK n5;have y2:=jK hd;have s9:=jK l9;have c5:A6 wq wq.heap.size D.sv c.Aa:=hC.Aa.keep AU c2 (fun _ _=>rfl);obtain⟨-,-,-,o4,-⟩:=h.cells;have u0:=h.Bq.lt;rw[k0]at o4 c5;obtain⟨ad,u3,F1⟩:=s8 i J;subst u3;have F2:(i:Int)<(c.Aa.length:Int):=by omega
 obtain⟨uA,uc,zA,zc,d0,d1,d2,d3,d4,d5,hu,-⟩:=A5 (c:=c) c5 J;have h8:=TV h c2 hC _ _ hu (v.Eh (bK J)).1 (m:=m) hd (by omega) (by omega);have o5:c.Aa[i].entry=CB c i:=(JC c J).symm;have c6:Wk.Ok c (m+8) (Wk.block c dj c.Aa[i].entry):=Wk.Ok.block hd (v.Eh (bK J)).1.len;obtain⟨dB,i1⟩:∃dB,Wk.block c dj c.Aa[i].entry=dB:=⟨_,rfl⟩;have o6:=jK (show Wk.block c dj (CB c i)=dB by rw[<-o5];exact i1);have j4:dB.Ag=dj.Ag:=by rw[<-i1];exact(JI c _ _).1
 rw[i1]at h8 c6;have c7:=jK c6;have o7:=jK j4;clear h b3 n1 hC k0 n2 n3 n5 hd l9 c6 o5 i1 c5 j4;generalize c.Aa[i]=x at d0 d1 d2 d3 d4 d5 hu h8;go_enter func116,ntmps116;go_wp2_with fail;(with_reducible refine h8.mono ?_);rintro e w5⟨rfl,R5,h5,t5,f5⟩;have T5:=jK t5;have F5:=jK f5;have o8:Below B wq w5:=t5.below c2 fun k hk=>(H1.out.Dx hk).1
 have o9:=jK (o0.out.below o8);have k1:=aV c2 t5.size;have b9:A6 w5 w5.heap.size D.sv c.Aa:=o9.out.Aa.keep AU k1 (fun _ _=>rfl);obtain⟨-,-,-,p0,-⟩:=h5.cells;have u6:=h5.Bq.lt;rw[b5.out]at p0 b9;obtain⟨_,_,_,_,-,g1,-⟩:=A5 (c:=c) b9 J;rw[<-Cb c J]at g1;have j:=DU (c:=c) b9 hr i J;have H5:=jK h5;obtain⟨kd,k2⟩:∃kd,Tr.kd c.Ar i=kd:=⟨_,rfl⟩;rw[k2]at g1;have k3:=jK k2;clear h5 t5 f5 o8 b9 k2 d0 d1 d2 d3 d4 d5 hu h8 o4 u0;by_cases h4:kd=4;rotate_left
 ·have z4:=Bc h4;have u7:=Bg h4;have c9:=ZaR (c:=c) (d:=dj) (i:=i) (by rw[k3.out];exact h4);rw[o6.out]at c9;have p2:=jK c9;clear h4 c9;go_wp2
  (first|go_end0|refine aI (cO rfl _ _ _) rfl ?_)
  exact⟨rfl,by rw[p2.out];exact⟨R5,H5.out,T5.out,F5.out⟩⟩
 obtain⟨p1,k4,y5⟩:=v.KA J (show Tr.kd c.Ar i≠2 by rw[k3.out,h4];omega);have I:=Zas (c:=c) (d:=dj) (i:=i) (p:=p1) (by rw[k3.out];exact h4) k4;rw[o6.out]at I;have p3:=jK I;have z4:=Bj h4;have u7:=Be h4;rw[k4]at j;have c0:p1<c.Aa.length:=by omega
 have y6:(p1:Int)<(c.Aa.length:Int):=by omega
 clear I h4 k4;go_wp2_with fail;(with_reducible refine j.mono ?_);rintro e w6⟨rfl,i7⟩;have h6:=H5.out.below i7;have j0:=aV k1 i7.size;have p5:=jK (o9.out.below (i7.mono k1));have e0:A6 w6 w6.heap.size D.sv c.Aa:=p5.out.Aa.keep AU j0 (fun _ _=>rfl);obtain⟨-,-,-,p6,-⟩:=h6.cells;have u9:=h6.Bq.lt;rw[b5.out]at p6 e0;obtain⟨_,_,_,_,n0,-⟩:=A5 (c:=c) e0 c0;have U:=Jy h6 j0 c7.out.queue c7.out.lost (nm c p1);have k5:=jK (PG c0);rw[k5.out]at U;have T6:=jK (T5.out.trans (Touch.AK (S:=AX p R) i7) (fun k h=>.inl h));have e1:=GZ v c0;have a6:¬(9223372036854775807:Int)<((5+c.Aa[p1].name.size:Nat):Int):=by omega
 have a7:((5+c.Aa[p1].name.size:Nat):Int)<=(9223372036854775807:Int):=by omega
 have a8:(5:Int)+(c.Aa[p1].name.size:Int)<=(9223372036854775807:Int):=by omega
 generalize c.Aa[p1].name=s1 at n0 U k5 e1 a6 a7 a8;have H6:=jK h6;clear h6 p0 u6 g1 e0 j;go_wp2_with fail;(with_reducible refine U.mono ?_);rintro e w7⟨rfl,R7,h7,t7,f7⟩;rw[<-k5.out]at h7;have p8:Below B w6 w7:=t7.below j0 fun k hk=>(H6.out.Dx hk).1
 have T7:=jK (T6.out.trans t7 F5.out);have G1:wq.heap.size<=w6.heap.size:=T6.out.size;have F7:=jK (show ∀k,AX p R7 k->AX p R k\/wq.heap.size<=k from fun k hk=>by
  rcases f7 k hk with h9|h9
  ·exact F5.out k h9
  ·exact .inr (by omega))
 have v8:=jK (p5.out.below p8);have w0:=aV j0 t7.size;have e2:A6 w7 w7.heap.size D.sv c.Aa:=v8.out.Aa.keep AU w0 (fun _ _=>rfl);obtain⟨-,-,-,p9,-⟩:=h7.cells;have w1:=h7.Bq.lt;rw[b5.out]at p9 e2;have j:=DU (c:=c) e2 hr p1 c0;have H7:=jK h7;have e3:=c7.out.raise (nm c p1);obtain⟨q0,-,-,-⟩:=DJ dB (nm c p1);have e4:=q0.trans o7.out;obtain⟨dR,k6⟩:∃dR,dB.raise (nm c p1)=dR:=⟨_,rfl⟩;have k7:=p3.out;rw[k6]at k7 e3 e4;have H7:=jK (show Ay w7 B p 82 D R7 cl dR by rw[<-k6];exact H7.out);have w3:=jK k7;have q1:=jK e3;have q2:=jK e4;have j5:Tr.up c.Ar p1<(p1:Int)/\-1<=Tr.up c.Ar p1:=by
  rcases Tr.Ep c.Ar p1 with⟨h9,-⟩|⟨q,h9,c3,-⟩
  ·omega
  ·omega
 obtain⟨u1,j1⟩:∃u1,Tr.up c.Ar p1=u1:=⟨_,rfl⟩;rw[j1]at j j5;have w4:=jK j1;clear h7 t7 f7 p8 e2 k7 e3 e4 q0 k6 j1 p6 u9 n0 U e1 a6 a7 a8;go_wp2_with fail;(with_reducible refine j.mono ?_);rintro e w8⟨rfl,k8⟩;have H8:=jK (H7.out.below k8);have T8:=jK (T7.out.trans (Touch.AK (S:=AX p R) k8) (fun k h=>.inl h));clear j p9 w1 k8;go_wp2
 go_loopw [6] (fun u wr=>∃(g:Nat) (u':Int) (dd:Wk) (Rr:RV),u=.int .i64 u'/\u'<(g:Int)/\-1<=u'/\u'<(c.Aa.length:Int)/\dd.Ag=dj.Ag/\Wk.Ok c (m+8) dd/\N4 c g u' dd=S3 c dj i/\Ay wr B p 82 D Rr cl dd/\Touch (AX p R) wq wr/\∀k,AX p Rr k->AX p R k\/wq.heap.size<=k) (fun u _=>(intOf u+1).toNat)
 case atStart=>exact⟨i,u1,dR,R7,rfl,by omega,j5.2,by omega,q2.out,q1.out,by rw[w3.out,w4.out],H8.out,T8.out,F7.out⟩
 case round=>
  obtain⟨g,u',dd,Rr,rfl,H4,j1,L0,q3,j6,I,hD,hT,hF⟩:=hrel;have HT:=jK hT;have k9:=jK hF;have q5:=jK I;have l0:=jK q3;have e5:=jK j6;clear hT hF I q3 j6;have j2:=aV c2 HT.out.size;have q6:Below B wq wr:=HT.out.below c2 fun k hk=>(H1.out.Dx hk).1
  have l1:=jK (o0.out.below q6);have c1:A6 wr wr.heap.size D.sv c.Aa:=l1.out.Aa.keep AU j2 (fun _ _=>rfl);obtain⟨b0,b1,b2,l2,b4,-⟩:=hD.cells;have R1:=hD.Bq.lt;rw[b5.out]at l2 c1;rw[o1.out]at b1;rw[o2.out]at b2;rw[o3.out]at b4;have b3:=HT.out.own HA.out HF.out;have HD:=jK hD;have e6:∀(q7:¬(0<=u'/\Tr.kd c.Ar u'.toNat=3/\over c.Ar dd.Ag u'.toNat=true)),AR wq B p 82 D R cl (S3 c dj i) wr:=fun q7=>by
   rw[<-q5.out,Sr q7];exact⟨Rr,HD.out,HT.out,k9.out⟩
  have HN:=jK e6;clear hD e6 q6;by_cases h0:0<=u';rotate_left
  ·have e7:=jK (HN.out fun h9=>h0 h9.1);clear c1 l2 b3;go_wp2
   (first|go_end0|refine aI (cO rfl _ _ _) rfl ?_)
   exact⟨rfl,e7.out⟩
  obtain⟨q,rfl⟩:∃q:Nat,u'=(q:Int):=⟨u'.toNat,by omega⟩;have b7:q<c.Aa.length:=by omega
  have R8:(0:Int)<=(q:Int):=by omega
  obtain⟨_,_,_,_,nq,g1,-⟩:=A5 (c:=c) c1 b7;rw[<-Cb c b7]at g1;have l3:=l1.out.more j2;rw[o1.out,o2.out,o3.out,b5.out]at l3;have e8:=Ho c D.nm _ _ _ _ hr dj.Ag _ s9.out c.Aa.length q (by omega) b7 wr l3 (BD.GM b3 (by omega));obtain⟨kq,l4⟩:∃kq,Tr.kd c.Ar q=kq:=⟨_,rfl⟩;rw[l4]at g1;have q8:=jK l4;clear l4 l3 b3;by_cases h3:kq=3;rotate_left
  ·have z3:=Bg h3;have e7:=jK (HN.out fun h9=>h3 (by have:=h9.2.1;rwa[bI,q8.out]at this));clear h3 e8;go_wp2
   (first|go_end0|refine aI (cO rfl _ _ _) rfl ?_)
   exact⟨rfl,e7.out⟩
  have z3:=Be h3;obtain⟨o,ho⟩:∃o,over c.Ar dj.Ag q=o:=⟨_,rfl⟩;rw[ho]at e8;have HO:=jK ho;have H3:=jK h3;clear ho h3;go_wp2_with fail;(with_reducible refine e8.mono ?_);rintro e w9⟨rfl,e9⟩;have H9:=jK (HD.out.below e9);have T9:=jK (HT.out.trans (Touch.AK (S:=AX p R) e9) (fun k h=>.inl h));have j3:=aV j2 e9.size;have q9:=jK (l1.out.below (e9.mono j2));cases o
  ·have e7:=jK ((HN.out fun h9=>by have:=h9.2.2;rw[l0.out,bI,HO.out]at this;cases this).behind e9);clear e8;go_wp2
   (first|go_end0|refine aI (cO rfl _ _ _) rfl ?_)
   exact⟨rfl,e7.out⟩
  obtain⟨g',S1,r0⟩:=ZF (c:=c) (p:=q) (d:=dd) (f:=g) (by rw[q8.out,H3.out]) (by rw[l0.out,HO.out]) (by omega);have x3:=jK r0;have h1:A6 w9 w9.heap.size D.sv c.Aa:=q9.out.Aa.keep AU j3 (fun _ _=>rfl);obtain⟨-,-,-,r1,-⟩:=H9.out.cells;have x4:=H9.out.Bq.lt;rw[b5.out]at r1 h1;obtain⟨_,_,_,_,n9,-⟩:=A5 (c:=c) h1 b7;have T2:(q:Int)<(c.Aa.length:Int):=by omega
  have U:=Jy H9.out j3 e5.out.queue e5.out.lost (nm c q);have l5:=jK (PG b7);rw[l5.out]at U;have e1:=GZ v b7;have a6:¬(9223372036854775807:Int)<((5+c.Aa[q].name.size:Nat):Int):=by omega
  have a7:((5+c.Aa[q].name.size:Nat):Int)<=(9223372036854775807:Int):=by omega
  have a8:(5:Int)+(c.Aa[q].name.size:Int)<=(9223372036854775807:Int):=by omega
  generalize c.Aa[q].name=s2 at n9 nq U l5 e1 a6 a7 a8;clear r0 e8 l2 g1 nq c1 h1 b0 b1 b2 b4;go_wp2_with fail;(with_reducible refine U.mono ?_);rintro e l6⟨rfl,r2,c3,t10,f10⟩;rw[<-l5.out]at c3;have j7:Below B w9 l6:=t10.below j3 fun k hk=>(H9.out.Dx hk).1
  have x5:=jK (T9.out.trans t10 k9.out);have V1:wq.heap.size<=w9.heap.size:=T9.out.size;have x6:=jK (show ∀k,AX p r2 k->AX p R k\/wq.heap.size<=k from fun k hk=>by
   rcases f10 k hk with h9|h9
   ·exact k9.out k h9
   ·exact .inr (by omega))
  have r3:=jK (q9.out.below j7);have r4:=aV j3 t10.size;have b8:A6 l6 l6.heap.size D.sv c.Aa:=r3.out.Aa.keep AU r4 (fun _ _=>rfl);obtain⟨-,-,-,j8,-⟩:=c3.cells;have r5:=c3.Bq.lt;rw[b5.out]at j8 b8;have j:=DU (c:=c) b8 hr q b7;have x7:=jK c3;have j9:Tr.up c.Ar q<(q:Int)/\-1<=Tr.up c.Ar q:=by
   rcases Tr.Ep c.Ar q with⟨h9,-⟩|⟨q',h9,A3,-⟩
   ·omega
   ·omega
  obtain⟨u2,l7⟩:∃u2,Tr.up c.Ar q=u2:=⟨_,rfl⟩;rw[l7]at j j9;have x8:=jK l7;clear c3 t10 f10 j7 b8 l7 r1 x4 n9 U e1 a6 a7 a8;go_wp2_with fail;(with_reducible refine j.mono ?_);rintro e V2⟨rfl,h2⟩;have x9:=jK (x7.out.below h2);have y0:=jK (x5.out.trans (Touch.AK (S:=AX p R) h2) (fun k h=>.inl h));clear j j8 r5 h2;go_wp2;go_roundw
  case rel=>exact⟨g',u2,dd.raise (nm c q),r2,rfl,by omega,j9.2,by omega,(DJ dd (nm c q)).1.trans l0.out,e5.out.raise _,by rw[<-x8.out,<-x3.out];exact q5.out,x9.out,y0.out,x6.out⟩
  case measure=>simp[intOf];omega
end
section
open Go.RowKit Q Go.Lib
theorem QX (n:Nat) (Ag:List Nat) (k:Nat):Cf n (Co Ag) [] [(k:Int)]=Co (Ce n Ag k):=by
 unfold Cf Ce Co;rw[List.filter_map];congr 1;refine List.filter_congr fun j _=>?_
 have I:decide (((j:Nat):Int)∈[(k:Int)])=decide (j=k):=by
  rw[cH,aP,aP,dH];omega
 have o:=J4 Ag j;unfold Co at o;show(decide (((j:Nat):Int)∈[(k:Int)])||decide (((j:Nat):Int)∈Ag.map fun(k:Nat)=>(k:Int))&&!decide (((j:Nat):Int)∈([]:List Int)))=(decide (j=k)||Ag.contains j);rw[I,o];simp
section
variable {w w' w1 w2:World} {B p t:Nat} {D:DV} {R R1:RV} {cl cl1:List Nat} {d d1:Wk}
theorem AY.swap {cs:List Value} {Rs:List Fw} (h:AY w B p t cs Rs) (i:Nat) (y:Fw) (ho:w.ownsRow B y.e y.k y.v y.n y.xs) (hy:∀k,y.v.ownBlock=some k->¬Iv p Rs k):AY w B p t cs (Rs.set i y):=by
 have a1:∀z,z∈Rs.set i y->z=y\/z∈Rs:=fun z I=>(iV I).symm
 refine⟨h.base,h.Bq,fun z I=>?_,fun z I=>?_,fun a b z1 z2 o j a7 k J U=>?_⟩
 ·rcases a1 z I with rfl|I
  ·exact ho
  ·exact h.rows z I
 ·rcases a1 z I with rfl|I
  ·exact fun e=>hy p e (.inl rfl)
  ·exact h.off z I
 ·rw[jC]at o j;by_cases ha:i=a
  ·rw[if_pos ha]at o;split at o
   ·injection o with o
    subst o;rw[if_neg (by omega)]at j;exact hy k J (.inr ⟨z2,bR j,U⟩)
   ·cases o
  ·rw[if_neg ha]at o;by_cases hb:i=b
   ·rw[if_pos hb]at j;split at j
    ·injection j with j
     subst j;exact hy k U (.inr ⟨z1,bR o,J⟩)
    ·cases j
   ·rw[if_neg hb]at j;exact h.apart a b z1 z2 o j a7 k J U
theorem Ay.Zbb (h:Ay w B p t D R cl d) {V:Value} {l:List Nat} (o:w.ownsRow B 3 1 V l.length (ints l)) (I:∀k,V.ownBlock=some k->¬AX p R k) :
  Ay (w.setCell ⟨p,5,none⟩ V) B p t D {R with vC:=V} l d/\Touch (AX p R) w (w.setCell ⟨p,5,none⟩ V)/\∀k,AX p {R with vC:=V} k->AX p R k\/V.ownBlock=some k:=by
 have J:=AY.swap h 0 ⟨3,1,V,l.length,ints l⟩ o (fun k j U=>I k j (Ed.1 U));have h2:=AY.BF J 5 V;refine⟨h2,Touch.C8 _ _ (.inl rfl),fun k j=>?_⟩;rcases j with e|e|e|e|e
 ·exact .inl (.inl e)
 ·exact .inr e
 ·exact .inl (.inr (.inr (.inl e)))
 ·exact .inl (.inr (.inr (.inr (.inl e))))
 ·exact .inl (.inr (.inr (.inr (.inr e))))
end
def K6 (c:Q.Af) (cl:List Nat) (k:Nat):Bool:=(List.range k).all fun i=>!decide (Tr.dp c.Ar i=0)||over c.Ar cl i
theorem Ve (c:Q.Af) (cl:List Nat):K6 c cl c.Aa.length=F4 c cl:=rfl
theorem Ro (c:Q.Af) (cl:List Nat) (k:Nat):K6 c cl (k+1)=(K6 c cl k&&(!decide (Tr.dp c.Ar k=0)||over c.Ar cl k)):=by
 unfold K6;rw[iK,List.all_append];simp
theorem U0 (c:Q.Af) (d:Wk) (l:List Nat) (k:Nat):Wk.enter c d ((List.range (k+1)).filter l.contains)=(if l.contains k=true then Wk.C3 c (Wk.enter c d ((List.range k).filter l.contains)) k else Wk.enter c d ((List.range k).filter l.contains)):=by
 rw[El];by_cases h:l.contains k=true
 ·rw[if_pos h,if_pos h,O4];rfl
 ·rw[if_neg h,if_neg h,cP]
theorem Dw.range {c:Q.Af} {Ag l:List Nat} (o:l.Pairwise (·<·)) (I:∀j∈l,j<c.Aa.length) (h:Dw c Ag l) {k:Nat} (hk:k<c.Aa.length) (J:l.contains k=true) (d:Wk) (U:d.Ag=Ag) :
  k∉(Wk.enter c d ((List.range k).filter l.contains)).Ag/\Dd c.Ar (Ce c.Aa.length (Wk.enter c d ((List.range k).filter l.contains)).Ag k):=by
 have e:=EQ o I;have e2:l=(List.range k).filter l.contains++(k::((List.range' (k+1) (c.Aa.length-k-1)).filter l.contains)):=by
  conv=>lhs;rw[e]
  have h3:List.range c.Aa.length=List.range k++(k::List.range' (k+1) (c.Aa.length-k-1)):=by
   have h5:List.range' 0 c.Aa.length=List.range' 0 k++List.range' (0+1*k) (c.Aa.length-k):=by
    rw[List.range'_append];congr 1;omega
   rw[List.range_eq_range',List.range_eq_range',h5];congr 1;rw[show c.Aa.length-k=(c.Aa.length-k-1)+1 by omega,List.range'_succ];simp
  rw[h3,dL,gN (show(fun j=>l.contains j) k=true from J)]
 rw[e2]at h;obtain⟨g1,g2,g3,g4,g5⟩:=Dw.QL _ _ _ h;rw[(DK c ((List.range k).filter l.contains) d).1,U];exact⟨g3,g4⟩
theorem Dw.closed {c:Q.Af}:∀(l Ag:List Nat),Dd c.Ar Ag->Dw c Ag l->Dd c.Ar (l.foldl (Ce c.Aa.length) Ag)
 | [],Ag,h,_=>h
 |i::l,Ag,_,⟨_,_,j,o⟩=>Dw.closed l _ j o
theorem TH {B p:Nat} {D:DV} {R:RV} {cl:List Nat} {d:Wk} {c:Q.Af} (v:Valid c) {m:Nat} (hm:m<=5000) (l:List Nat) (lv h7:Value) (wq:World) (h:Ay wq B p 82 D R cl d) (hB:B<=wq.heap.size) (hC:AQ wq B D.ev D.vv D.sv D.tv c)
  (hd:Wk.Ok c m d) (l3:l.Pairwise (·<·)) (l4:∀j∈l,j<c.Aa.length) (he:Dw c d.Ag l) (q4:d.Ag.length<=40) (l5:Dd c.Ar d.Ag) (k0:wq.ownsRow B 3 1 lv l.length (ints l)) (l6:∀k,lv.ownBlock=some k->¬AX p R k) (l7:∀k,lv.ownBlock=some k->h7.ownBlock≠some k) (w3:l.length<=40)
  (l8:wq.ownsRow B 3 1 h7 d.Ag.length (ints d.Ag)) (n0:∀k,h7.ownBlock=some k->¬AX p R k) :
  Calls prog 44 #[.pointer (some ⟨p,0,none⟩),h7,lv] wq fun e w'=>e=.returned (.tuple #[])/\(∃R',Ay w' B p 82 D R' (Wk.enter c d l).Ag (Wk.settle c (Wk.enter c d l)))/\Below B wq w':=by
 have hr:=v.tree;have j4:=v.Aa;obtain⟨lA,lc,rfl⟩:=Al k0;obtain⟨EA,ec,n1,-,-⟩:=hC.events.form;obtain⟨VA,y1,n2,-,-⟩:=hC.vars.form;obtain⟨TA,tc,n3,-,-⟩:=hC.trans.form;obtain⟨SA,sc,n5,y2,q5⟩:=hC.Aa.form;have HH:=jK h;have HL:=jK k0;have HF:=jK l6;have HC:=jK hC;have e4:=jK n5;have i1:=jK n1;have i6:=jK n2;have i7:=jK n3;have q6:=jK hd;have n9:=jK l3;have o0:=jK l4;have j5:=jK he;have q7:=jK l8;have q8:=jK n0;have q9:=jK l5;clear h k0 l6 hC n5 n1 n2 n3 hd l3 l4 he l8 n0 l7 l5;go_enter func44,ntmps44;go_wp2
 go_loopw [7,6] (fun u a wr=>∃(k:Nat) (Rk:RV),k<=c.Aa.length/\u=.int .i64 (k:Int)/\wr.ownsRow B 3 1 a (Wk.enter c d ((List.range k).filter l.contains)).Ag.length (ints (Wk.enter c d ((List.range k).filter l.contains)).Ag)/\(∀b,a.ownBlock=some b->¬AX p Rk b)/\
   Ay wr B p 82 D Rk cl (Wk.enter c d ((List.range k).filter l.contains))/\Touch (AX p R) wq wr/\(∀b,AX p Rk b->AX p R b\/wq.heap.size<=b)) (fun u _ _=>c.Aa.length-(intOf u).toNat)
 case atStart=>exact⟨0,R,by omega,rfl,q7.out,q8.out,HH.out,Touch.refl _ _,fun b hb=>.inl hb⟩
 case round=>
  obtain⟨k,Rk,hk,rfl,U,e5,I,hT,hF⟩:=hrel;obtain⟨wp,r1⟩:∃x,x=wr:=⟨_,rfl⟩;subst r1;have c2:=aV hB hT.size;have o1:Below B wq wp:=hT.below hB fun b hb=>(HH.out.Dx hb).1
  have k1:=jK (HC.out.below o1);have k2:=hT.own HL.out HF.out;obtain⟨b0,b1,b2,b3,b4,c5,-⟩:=I.cells;have w6:=I.Bq.lt;rw[i1.out]at b1;rw[i6.out]at b2;rw[e4.out]at b3;rw[i7.out]at b4;have e7:Wk.Ok c (m+8*((List.range k).filter l.contains).length) (Wk.enter c d ((List.range k).filter l.contains)):=q6.out.enter v _ fun i hi=>by
   have:=cQ.1 (fO.1 hi).1;omega
  have y7:=EC l.contains k;have c3:(Wk.enter c d ((List.range k).filter l.contains)).Ag.length<=40:=by
   rw[(DK c _ d).1];have:∀(L Ag:List Nat),Ag.length<=40->(L.foldl (Ce c.Aa.length) Ag).length<=40:=fun L=>by
    induction L with
    |nil=>exact fun _ h=>h
    |cons a L ih=>exact fun Ag _=>ih _ (aV (Iu _ _ _) j4)
   exact this _ _ q4
  have j0:=jK (U0 c d l k);have a8:=jK I;have c8:=jK U;have o6:=jK e5;have HT:=jK hT;have k3:=jK hF;have e8:=jK e7;obtain⟨vA,vc,r6⟩:=Al U;subst r6;by_cases c4:k<c.Aa.length
  ·have r7:(k:Int)<(c.Aa.length:Int):=by omega
   have h1:=DO (Co l) _ (k:Int) wp (BD.GM k2 (by omega));rw[J4]at h1;obtain⟨x,hx⟩:∃x,l.contains k=x:=⟨_,rfl⟩;rw[hx]at h1;have HX:=jK hx;clear I U e5 hT hF e7 k2 hx;go_wp2_with fail;(with_reducible refine h1.mono ?_);rintro e w5⟨rfl,rfl⟩;cases x
   ·have b6:=j0.out;rw[HX.out,if_neg dT]at b6;have b7:=jK b6;clear b6 h1;go_wp2;go_roundw
    case rel=>exact⟨k+1,Rk,by omega,by go_num,by rw[b7.out];exact c8.out,o6.out,by rw[b7.out];exact a8.out,HT.out,k3.out⟩
    case measure=>simp[intOf];omega
   have b6:=j0.out;rw[HX.out,if_pos rfl,TX]at b6;obtain⟨w9,j8⟩:=Dw.range n9.out o0.out j5.out c4 HX.out d rfl;obtain⟨dk,c9⟩:∃dk,Wk.enter c d ((List.range k).filter l.contains)=dk:=⟨_,rfl⟩;have H1:=jK (show w5.ownsRow B 3 1 (.slice vA (Wk.enter c d ((List.range k).filter l.contains)).Ag.length vc) dk.Ag.length (ints dk.Ag)by rw[<-c9];exact c8.out);rw[c9]at b6 j8 c3;have j9:=jK (show Ay w5 B p 82 D Rk cl dk by rw[<-c9];exact a8.out);have a1:=jK (show Wk.Ok c (m+8*((List.range k).filter l.contains).length) dk by rw[<-c9];exact e8.out);rw[c9]at H1;clear a8 e8 c8;rw[c9]at *;have b7:=jK b6;obtain⟨W6,e6⟩:∃W6,w5.alloc (.cells #[.int .i64 (k:Int)] 3)=W6:=⟨_,rfl⟩;obtain⟨h2,s6,k6⟩:=Bi _ _ _ e6;have s0:w5.heap.size<W6.heap.size:=by omega
   have c6:=(k1.out.more c2).on h2;rw[i1.out,i6.out,i7.out,e4.out]at c6;have k4:=Na c D.nm _ _ _ _ (Co dk.Ag) [] [(k:Int)] (.slice vA dk.Ag.length vc) (.slice none 0 0) (.slice (some ⟨w5.heap.size,0,none⟩) 1 1) W6 c6 (by omega) ((BD.GM H1.out (by omega)).on h2) ⟨none,0,0,rfl,rfl,by omega,Reads.none_⟩
    ⟨_,1,1,rfl,rfl,by omega,rfl,fun _=>⟨_,rfl,s0,fun j u hu=>by
     rw[show(⟨w5.heap.size,0,none⟩:Addr).add j=⟨w5.heap.size,j,none⟩by unfold Addr.add;split<;>simp_all,k6.cell j];simpa[Gf]using hu⟩⟩
   rw[QX,<-Fo,Dj]at k4;clear b6 h1 s6 k6 c6 c5 j0;go_wp2_with fail;(with_reducible refine k4.mono ?_);rintro e w7⟨V7,rfl,s3,h3⟩;obtain⟨xA,xc,rfl⟩:=Al h3;have a6:=Ab h2 s3;have h4:=j9.out.below a6;have s4:=aV c2 a6.size;have k5:∀b,(Value.slice xA (Ce c.Aa.length dk.Ag k).length xc).ownBlock=some b->¬AX p Rk b:=fun b hb hf=>by
    have h8:=(j9.out.Dx hf).2;have h9:=(Bd h3 hb).2;omega
   have e0:=Yx (B:=B) (p:=p) (D:=D) (R:=Rk) (cl:=cl) (dj:={dk with Ag:=Ce c.Aa.length dk.Ag k}) v (m:=m+8*((List.range k).filter l.contains).length) (by omega) k c4 _ w7 h4 s4 (k1.out.below (a6.mono c2)) ⟨a1.out.queue,a1.out.lost,a1.out.Ac,a1.out.vok,a1.out.Ao⟩ j8 (aV (Iu _ _ _) j4) (Bk h3 (aV c2 h2.size)) k5;have o7:=jK (Bk h3 (aV c2 h2.size));have o8:=jK k5;have x4:=jK h4;have x5:=a6.size;have o9:=jK a6;clear h4 k5 k4 e6 b0 b1 b2 b3 b4 h3 a6;go_wp2_with fail;(with_reducible refine e0.mono ?_);rintro e w8⟨rfl,R8,h8,t8,f8⟩;have z1:wq.heap.size<=w5.heap.size:=HT.out.size;have p0:(S3 c {dk with Ag:=Ce c.Aa.length dk.Ag k} k).Ag=Ce c.Aa.length dk.Ag k:=(LJ c dk k).1;have s9:=jK (t8.own o7.out o8.out);have u0:=jK (show ∀b,(Value.slice xA (Ce c.Aa.length dk.Ag k).length xc).ownBlock=some b->¬AX p R8 b from fun b hb hf=>by
    rcases f8 b hf with h9|h9
    ·exact o8.out b hb h9
    ·have:=(Bd o7.out hb).1;omega)
   have u1:=jK ((HT.out.trans (Touch.AK (S:=AX p R) o9.out) (fun b h=>.inl h)).trans t8 k3.out);have u2:=jK (show ∀b,AX p R8 b->AX p R b\/wq.heap.size<=b from fun b hb=>by
    rcases f8 b hb with h9|h9
    ·exact k3.out b h9
    ·exact .inr (by omega))
   have p1:=jK h8;clear h8 t8 f8 e0;go_wp2;go_roundw
   case rel=>exact⟨k+1,R8,by omega,by go_num,by rw[b7.out,p0];exact s9.out,u0.out,by rw[b7.out];exact p1.out,u1.out,u2.out⟩
   case measure=>simp[intOf];omega
  obtain rfl:k=c.Aa.length:=by omega
  have p2:¬(c.Aa.length:Int)<(c.Aa.length:Int):=by omega
  have b5:(List.range c.Aa.length).filter l.contains=l:=(EQ n9.out o0.out).symm;have h5:Dd c.Ar (Wk.enter c d l).Ag:=by rw[(DK c l d).1];exact Dw.closed _ _ q9.out j5.out
  rw[b5]at I U c3;obtain⟨dE,h6⟩:∃dE,Wk.enter c d l=dE:=⟨_,rfl⟩;rw[h6]at I U c3 h5;have j1:=jK h6;rw[b5,h6]at e5;have f5:=I.frozen 5;obtain⟨kA,kc,p3⟩:=Al I.Ag;rw[p3]at c5;obtain⟨h9,t9,f9⟩:=I.Zbb U e5;rw[b5,h6];obtain⟨W9,e9⟩:∃W9,wp.setCell ⟨p,5,none⟩ (.slice vA dE.Ag.length vc)=W9:=⟨_,rfl⟩;rw[e9]at h9 t9;have k7:Below B wp W9:=t9.below c2 fun b hb=>(a8.out.Dx hb).1
  have u3:=jK (k1.out.below k7);have k8:=aV c2 t9.size;have u4:=jK (o1.trans k7);have H9:=jK h9;have u5:=jK h5;obtain⟨-,-,-,e3,-⟩:=h9.cells;have l9:=h9.Bq.lt;rw[e4.out]at e3;clear I U e5 hT hF e7 k2 b5 h6 p3 h9 t9 f9 h5 j0 a8 c8 o6 e8 k7;go_wp2;clear e9 c5 f5 b0 b1 b2 b3 b4 e3
  go_loopw [9,8] (fun u o wr=>∃k:Nat,k<=c.Aa.length/\u=.int .i64 (k:Int)/\o=.bool (K6 c dE.Ag k)/\Below W9.heap.size W9 wr) (fun u _ _=>c.Aa.length-(intOf u).toNat)
  case atStart=>exact⟨0,by omega,rfl,rfl,aJ _ _⟩
  case round=>
   obtain⟨k,hk,rfl,rfl,hb⟩:=hrel;have I:=H9.out.below hb;have a8:=jK I;have p5:=aV k8 hb.size;have p6:=u3.out.below (hb.mono k8);obtain⟨b0,b1,b2,b3,b4,-,-,-,-,-,-,z7,-⟩:=I.cells;have x8:=I.Bq.lt;have p7:A6 wr wr.heap.size D.sv c.Aa:=p6.Aa.keep AU p5 (fun _ _=>rfl);rw[i1.out]at b1;rw[i6.out]at b2;rw[e4.out]at b3 p7;rw[i7.out]at b4;have f11:=I.frozen 11;by_cases c4:k<c.Aa.length
   ·have r7:(k:Int)<(c.Aa.length:Int):=by omega
    obtain⟨ad,u6,z8⟩:=q5 k c4;subst u6;obtain⟨_,_,_,_,-,-,d2,-⟩:=A5 (c:=c) p7 c4;rw[<-K2 c c4]at d2;have c7:=jK (Ro c dE.Ag k);have c6:=p6.more p5;rw[i1.out,i6.out,i7.out,e4.out]at c6;have e0:=Ho c D.nm _ _ _ _ hr dE.Ag _ u5.out c.Aa.length k (by omega) c4 wr c6 (BD.GM I.Ag (by omega));obtain⟨dp,k9⟩:∃dp,Tr.dp c.Ar k=dp:=⟨_,rfl⟩;obtain⟨o,ho⟩:∃o,over c.Ar dE.Ag k=o:=⟨_,rfl⟩;rw[ho]at e0;rw[k9]at d2;have b8:=c7.out;rw[ho,k9]at b8;clear c7 k9 ho I c6;obtain⟨oo,j2⟩:∃oo,K6 c dE.Ag k=oo:=⟨_,rfl⟩;rw[j2]at b8;have A0:=jK j2;rw[j2];clear j2;by_cases h0:dp=0
    ·have hz:=Be h0;rw[aH h0,fA,cZ]at b8;have c7:=jK b8;clear h0 b8;go_wp2_with fail;(with_reducible refine e0.mono ?_);rintro e A1⟨rfl,p8⟩;have p9:=Ab hb p8;cases o
     ·go_wp2;go_roundw
      case rel=>exact⟨k+1,by omega,by go_num,by rw[c7.out,gT],p9⟩
      case measure=>simp[intOf];omega
     ·go_wp2;go_roundw
      case rel=>exact⟨k+1,by omega,by go_num,by rw[c7.out,Bool.and_true],p9⟩
      case measure=>simp[intOf];omega
    ·have hz:=Bg h0;rw[aF h0,fM,eI,Bool.and_true]at b8;have c7:=jK b8;clear h0 b8 e0;go_wp2;go_roundw
     case rel=>exact⟨k+1,by omega,by go_num,by rw[c7.out],hb⟩
     case measure=>simp[intOf];omega
   ·obtain rfl:k=c.Aa.length:=by omega
    have p2:¬(c.Aa.length:Int)<(c.Aa.length:Int):=by omega
    rw[Ve];have J:Wk.settle c dE=if F4 c dE.Ag=true/\dE.status=0 then {dE with status:=1}else dE:=rfl
    obtain⟨ao,q0⟩:∃ao,F4 c dE.Ag=ao:=⟨_,rfl⟩;rw[q0]at J⊢;clear q0;have j3:=u4.out.trans (hb.mono k8);by_cases hs:dE.status=0
    ·have hz:=Be hs;cases ao
     ·rw[if_neg (by rintro⟨h9,_⟩;cases h9)]at J;have e1:=jK J;clear J hs I;go_wp2
      (first|go_end0|refine aI (cO rfl _ _ _) rfl ?_)
      exact⟨rfl,⟨_,by rw[j1.out,e1.out];exact a8.out⟩,j3⟩
     ·rw[if_pos ⟨rfl,hs⟩]at J;have e1:=jK J;have HE:=jK (I.BF 11 (.int .i64 1) (d':={dE with status:=1}) rfl rfl);have v7:=jK (j3.setCell (p:=⟨p,11,none⟩) I.base (.int .i64 1));clear J hs I;go_wp2
      (first|go_end0|refine aI (cO rfl _ _ _) rfl ?_)
      refine⟨rfl,?_⟩;rw[j1.out,e1.out];obtain⟨R',h',-,-⟩:=HE.out;exact⟨⟨R',h'⟩,v7.out⟩
    ·have hz:=Bg hs;rw[if_neg (fun h9=>hs h9.2)]at J;have e1:=jK J;clear J hs I;cases ao
     ·go_wp2
      (first|go_end0|refine aI (cO rfl _ _ _) rfl ?_)
      exact⟨rfl,⟨_,by rw[j1.out,e1.out];exact a8.out⟩,j3⟩
     ·go_wp2
      (first|go_end0|refine aI (cO rfl _ _ _) rfl ?_)
      exact⟨rfl,⟨_,by rw[j1.out,e1.out];exact a8.out⟩,j3⟩
end
end Go.Proofs.YthbihnpoghlfaaaGreatDoor
