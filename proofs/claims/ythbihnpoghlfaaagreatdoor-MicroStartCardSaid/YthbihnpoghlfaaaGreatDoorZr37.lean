import Derived.Test.YthbihnpoghlfaaaGreatDoorZr34
import Derived.Test.YthbihnpoghlfaaaGreatDoorZr36
set_option linter.unusedVariables false
set_option linter.unusedSimpArgs false
set_option maxHeartbeats 8000000
set_option maxRecDepth 100000
namespace Go.Proofs.YthbihnpoghlfaaaGreatDoor
open Go.Proofs.Tryz
section
open Go.RowKit Q Go.Lib
section
variable {w w' w1 w2:World} {B p t:Nat} {D:DV} {R R1:RV} {cl cl1:List Nat} {d d1:Wk}
theorem Ay.ZcN (h:Ay w B p t D R cl d) (i:Nat) {j:Value} (I:w2.ownsRow B 3 1 j (cl.length+1) (ints cl++[.int .i64 (i:Int)])) {o:Obj} (hg:(w.alloc o).grownBy w2 R.vC.ownBlock) (J:j.ownBlock=R.vC.ownBlock\/j.ownBlock=some (w.heap.size+1)) (U:List Nat) :
  Ay (w2.setCell ⟨p,5,none⟩ j) B p t D {R with vC:=j} (cl++[i]) {d with Ag:=U}/\Touch (AX p R) w (w2.setCell ⟨p,5,none⟩ j)/\(∀k,AX p {R with vC:=j} k->AX p R k\/w.heap.size<=k)/\Bw w2 p t (Ei D R d).toArray:=by
 obtain⟨ht,hb⟩:=GA hg J;exact h.IZ 0 5 ⟨3,1,R.vC,cl.length,ints cl⟩ ⟨3,1,j,cl.length+1,ints cl++[.int .i64 (i:Int)]⟩ rfl ht I hb (d':={d with Ag:=U}) (by unfold DF;simp only[aC,Mu,aO,cR]) rfl
theorem Ay.ZcW (h:Ay w B p t D R cl d) (j:w1.ownsRow B 3 1 R.vC cl1.length (ints cl1)) (J:w.grownBy w1 R.vC.ownBlock) :
  Ay w1 B p t D R cl1 d/\Touch (AX p R) w w1:=by
 have I:Touch (fun k=>R.vC.ownBlock=some k) w w1:=Touch.Dt J fun k o=>o
 exact⟨AY.IZ h 0 ⟨3,1,R.vC,cl.length,ints cl⟩ ⟨3,1,R.vC,cl1.length,ints cl1⟩ rfl I j (fun k o=>.inl o),I.more fun k o=>.inr (.inl o)⟩
end
theorem ZcI {c:Q.Af} {k:Nat} (j:k<c.Aa.length):nm c k=⟨(DE++c.Aa[k].name.data.toList).toArray⟩:=by
 unfold nm;rw[LX c j]
theorem PG {c:Q.Af} {k:Nat} (j:k<c.Aa.length):nm c k=(⟨#[100,111,110,101,46]⟩:ByteArray)++c.Aa[k].name:=by
 rw[ZcI j];apply gO;rw[ByteArray.data_append];apply fT;simp[DE]
theorem Iu (n:Nat) (Ag:List Nat) (i:Nat):(Ce n Ag i).length<=n:=EC _ n
theorem Pq (c:Q.Af) (d:Wk) (l:List Nat) (j:d.Ag.length<=c.Aa.length):(Wk.enter c d l).Ag.length<=c.Aa.length:=by
 rw[(DK c l d).1];have:∀(l Ag:List Nat),Ag.length<=c.Aa.length->(l.foldl (Ce c.Aa.length) Ag).length<=c.Aa.length:=fun l=>by
  induction l with
  |nil=>exact fun _ h=>h
  |cons i l ih=>exact fun Ag _=>ih _ (Iu _ _ _)
 exact this l d.Ag j
theorem GZ {c:Q.Af} (v:Valid c) {k:Nat} (j:k<c.Aa.length):c.Aa[k].name.size<=12:=by
 have h:=v.names c.Aa[k].name (bA _ (gV _ (gV _ (gH (bK j)))));unfold Bv I8 at h;show c.Aa[k].name.data.size<=12;split at h
 ·cases h
 ·rename_i a l e;simp only[aG,aP]at h;rw[<-bS];exact h.1.1.1
theorem Tu {c:Q.Af} {d:Wk} {i:Nat} (h:Tr.kd c.Ar i≠4):Wk.C3 c d i=Wk.block c {d with Ag:=Ce c.Aa.length d.Ag i} (CB c i):=by
 unfold Wk.C3;exact if_neg h
theorem Ts {c:Q.Af} {d:Wk} {i p:Nat} (h:Tr.kd c.Ar i=4) (hp:Tr.up c.Ar i=(p:Int)):Wk.C3 c d i=N4 c i (Tr.up c.Ar p) ((Wk.block c {d with Ag:=Ce c.Aa.length d.Ag i} (CB c i)).raise (nm c p)):=by
 unfold Wk.C3;dsimp only;rw[if_pos h,hp,bI]
theorem T4 {B p:Nat} {D:DV} {R:RV} {d:Wk} {c:Q.Af} (v:Valid c) (f:Fit c) {m:Nat} (hm:m<=10000) (l:List Nat) (af:l.length<=40) (lv:Value) (w:World) (h:Ay w B p 75 D R d.Ag d) (hB:B<=w.heap.size) (hC:AQ w B D.ev D.vv D.sv D.tv c)
  (hd:Wk.Ok c m d) (z7:d.Ag.Pairwise (·<·)) (q1:∀j∈d.Ag,j<c.Aa.length) (he:Dw c d.Ag l) (n1:w.ownsRow B 3 1 lv l.length (ints l)) (q2:∀k,lv.ownBlock=some k->¬AX p R k) :
  Calls prog 39 #[.pointer (some ⟨p,0,none⟩),lv] w fun e w'=>e=.returned (.tuple #[])/\AR w B p 75 D R (Wk.enter c d l).Ag (Wk.enter c d l) w':=by
 obtain⟨i0,z8,A0,A1,A3⟩:=dC Fg;have hr:=v.tree;have bd:=v.vars;have ah:=v.Aa;obtain⟨lA,lc,rfl⟩:=Al n1;obtain⟨SA,sc,q3,be,A8⟩:=hC.Aa.form;have A9:=h.Bq.lt;have HH:=jK h;have HL:=jK n1;have HF:=jK q2;have HC:=jK hC;have b3:=jK q3;clear h n1 q2 hC q3;go_enter func39,ntmps39;go_wp2
 go_loopw [9] (fun u wr=>∃j:Nat,j<=l.length/\u=.int .i64 (j:Int)/\AR w B p 75 D R (Wk.enter c d (l.take j)).Ag (Wk.enter c d (l.take j)) wr) (fun u _=>l.length-(intOf u).toNat)
 case atStart=>exact⟨0,by omega,rfl,AR.refl HH.out⟩
 case round=>
  obtain⟨j,hj,rfl,R1,h1,t1,f1⟩:=hrel;obtain⟨wq,B0⟩:∃x,x=wr:=⟨_,rfl⟩;subst B0;have E0:Below B w wq:=t1.below hB fun k hk=>(HH.out.Dx hk).1
  have k0:=aV hB t1.size;have n2:=t1.own HL.out HF.out;have q4:=jK (HC.out.below E0);by_cases n3:j<l.length;rotate_left
  ·obtain rfl:j=l.length:=by omega
   have A9:¬(l.length:Int)<(l.length:Int):=by omega
   rw[bT]at h1;have HE:=jK (show AR w B p 75 D R (Wk.enter c d l).Ag (Wk.enter c d l) wq from⟨R1,h1,t1,f1⟩);clear h1 t1 f1 n2;go_wp2
   (first|go_end0|refine aI (cO rfl _ _ _) rfl ?_)
   exact⟨rfl,HE.out⟩
  have bj:(j:Int)<(l.length:Int):=by omega
  obtain⟨la,rfl,bk,E1⟩:=GK (Reads.BL n2) rfl n3;obtain⟨U,F0,q5⟩:=he.at_ n3 d rfl;have e1:Wk.Ok c (m+8*(l.take j).length) (Wk.enter c d (l.take j)):=hd.enter v _ fun i hi=>by
   obtain⟨q,hq,rfl⟩:=cU hi;have e2:q<l.length:=by rw[bF]at hq;omega
   have:=(he.at_ e2 d rfl).1
   rwa[List.getElem_take]
  have F1:(l.take j).length=j:=by rw[bF];omega
  rw[F1]at e1;have q7:=jK (TO c d n3);have aj:(Ce c.Aa.length (Wk.enter c d (l.take j)).Ag l[j]).length<=c.Aa.length:=Iu _ _ _;have e4:(Wk.enter c d (l.take j)).Ag.Pairwise (·<·)/\∀q∈(Wk.enter c d (l.take j)).Ag,q<c.Aa.length:=by
   rw[(DK c (l.take j) d).1];obtain⟨g1,g2⟩:=S2 (n:=c.Aa.length) (l.take j) d.Ag z7 q1 fun q hq=>by
    obtain⟨r,n5,rfl⟩:=cU hq;have e2:r<l.length:=by rw[bF]at n5;omega
    rw[List.getElem_take];exact(he.at_ e2 d rfl).1
   refine⟨g1,fun q hq=>?_⟩;rcases(g2 q).1 hq with J|J
   ·exact q1 q J
   ·obtain⟨r,n5,rfl⟩:=cU J;have e2:r<l.length:=by rw[bF]at n5;omega
    rw[List.getElem_take];exact(he.at_ e2 d rfl).1
  have b4:=WU e4.1 e4.2 U F0;have e5:(Co ((Wk.enter c d (l.take j)).Ag++[l[j]])).mergeSort leI=Co (Ce c.Aa.length (Wk.enter c d (l.take j)).Ag l[j]):=Px b4 (Il _ _ _);have b5:=b4.length_eq;have ak:(Wk.enter c d (l.take j)).Ag.length<=40:=by
   rw[aO,cR]at b5;omega
  generalize hi:l[j]=i at *;generalize q8:Wk.enter c d (l.take j)=dj at *;have HI:=jK hi;have bl:=jK q8;have q9:=jK t1;have r0:=jK f1;have r1:=jK e5;have bm:=jK q5;have I:=jK e1;have r2:=jK b5;clear hi q8 t1 f1 e5 q5 e1 e4 b4 b5 n2;obtain⟨vA,vc,k1⟩:=Al h1.Ag;obtain⟨-,-,-,-,-,c5,-⟩:=h1.cells;rw[k1]at c5;have f5:=h1.frozen 5;have al:=h1.Bq.lt;have e6:=h1.Ag;rw[k1]at e6;have l3:∀u∈[Value.int .i64 (i:Int)],u.oneCell'=true:=by simp[Value.oneCell']
  have H1:=jK h1;have r3:=jK k1;clear h1 k1;go_wp2_with (at_builtin;refine Ap _ rfl _ _ 28 rfl B 3 i0 _ 1 8 underlying28 z8 A0 A1 A3 rfl (by decide) _ _ _ rfl (e6.alloc _) _ (some ⟨wq.heap.size,0,none⟩) 1 1 _ rfl (Bt wq (.int .i64 (i:Int)) 3 _ rfl) l3 ?c3 ?c4 ?c5 ?_)
  case c3=>unfold maxLen;omega
  case c4=>omega
  case c5=>(try simp);omega
  intro v' w2 b6 o0 c1
  (try rw[aW]at c1)
  rw[<-r3.out]at o0 c1;obtain⟨h2,t2,f2,k2⟩:=H1.out.ZcN i b6 o0 c1 (Ce c.Aa.length dj.Ag i);obtain⟨A2,ac2,rfl⟩:=Al b6;have F3:w2.cell? ⟨p,5,none⟩=some (.slice vA dj.Ag.length vc):=by rw[<-r3.out];exact k2.cell 5
  have f52:=k2.frozen 5;have F8:=k2.lt;obtain⟨W3,e3⟩:∃W3,w2.setCell ⟨p,5,none⟩ (.slice A2 (dj.Ag.length+1) ac2)=W3:=⟨_,rfl⟩;rw[e3]at h2 t2;have F9:W3.cell? ⟨p,5,none⟩=some (.slice A2 (dj.Ag.length+1) ac2):=h2.Bq.cell 5;have G1:=h2.Bq.lt;have b7:=h2.Ag;rw[Fo,<-Dj (dj.Ag++[i])]at b7;have o1:=Pm W3 B _ _ b7 (by rw[Dj,aO,cR];omega);rw[r1.out,Dj,r2.out,<-Fo]at o1;have H2:=jK h2;have T2:=jK t2;have F2:=jK f2;clear h2 t2 f2 k2 b6 o0 c1 e6 b7 c5 f5 l3;go_wp2_with fail;(with_reducible refine o1.mono ?_);rintro e w4⟨rfl,r5,r6⟩;obtain⟨h4,t4⟩:=H2.out.ZcW r5 r6;have k3:=T2.out.trans t4 F2.out;have r7:Below B wq w4:=k3.below k0 fun k hk=>(H1.out.Dx hk).1
  have o2:=jK (q4.out.below r7);have k4:=aV k0 k3.size;have e7:A6 w4 w4.heap.size D.sv c.Aa:=o2.out.Aa.keep AU k4 (fun _ _=>rfl);obtain⟨-,-,-,r8,-⟩:=h4.cells;have G2:=h4.Bq.lt;rw[b3.out]at r8 e7;obtain⟨ad,H0,bq⟩:=A8 i U;subst H0;have br:(i:Int)<(c.Aa.length:Int):=by omega
  obtain⟨uA,uc,zA,zc,d0,d1,d2,d3,d4,d5,hu,-⟩:=A5 (c:=c) e7 U;have k5:=UL h4 k4 o2.out _ _ hu (v.Eh (bK U)).1 (m:=m+8*j) ⟨I.out.queue,I.out.lost,I.out.Ac,I.out.vok,I.out.Ao⟩ (by omega) (by omega);have r9:c.Aa[i].entry=CB c i:=(JC c U).symm;have bs:=jK (Cb c U);have e8:Wk.Ok c (m+8*j+8) (Wk.block c {dj with Ag:=Ce c.Aa.length dj.Ag i} c.Aa[i].entry):=Wk.Ok.block (d:={dj with Ag:=Ce c.Aa.length dj.Ag i}) ⟨I.out.queue,I.out.lost,I.out.Ac,I.out.vok,I.out.Ao⟩ (v.Eh (bK U)).1.len;obtain⟨dB,k6⟩:∃dB,Wk.block c {dj with Ag:=Ce c.Aa.length dj.Ag i} c.Aa[i].entry=dB:=⟨_,rfl⟩;have s0:=jK (show Wk.block c {dj with Ag:=Ce c.Aa.length dj.Ag i} (CB c i)=dB by rw[<-r9];exact k6);have l4:dB.Ag=Ce c.Aa.length dj.Ag i:=by rw[<-k6];exact(JI c _ _).1
  rw[k6]at k5 e8;have e9:=jK e8;have H4:=jK k3;have s3:=jK t4;clear h4 t4 k3 r7 r5 r6 o1 F9 G1 e3 e8 r9 k6 e7;generalize c.Aa[i]=x at d0 d1 d2 d3 d4 d5 hu k5;go_wp2_with fail;(with_reducible refine k5.mono ?_);rintro e w5⟨rfl,R5,h5,t5,f5⟩;have T5:=jK (T2.out.trans (s3.out.trans t5 (fun k h=>.inl h)) F2.out);have bt:wq.heap.size<=w4.heap.size:=H4.out.size;have F5:=jK (show ∀k,AX p R5 k->AX p R1 k\/wq.heap.size<=k from fun k hk=>by
   rcases f5 k hk with J|J
   ·exact F2.out k J
   ·exact .inr (by omega))
  have s4:Below B w4 w5:=t5.below k4 fun k hk=>by
   rcases F2.out k hk with J|J
   ·exact(H1.out.Dx J).1
   ·omega
  have s5:=jK (o2.out.below s4);have o3:=aV k4 t5.size;have c6:A6 w5 w5.heap.size D.sv c.Aa:=s5.out.Aa.keep AU o3 (fun _ _=>rfl);obtain⟨-,-,-,s6,-⟩:=h5.cells;have R2:=h5.Bq.lt;rw[b3.out]at s6 c6;obtain⟨_,_,_,_,-,g1,-⟩:=A5 (c:=c) c6 U;rw[<-Cb c U]at g1;have a1:=Gp (c:=c) c6 f hr i U;have H5:=jK h5;obtain⟨kd,o4⟩:∃kd,Tr.kd c.Ar i=kd:=⟨_,rfl⟩;rw[o4]at g1;have o5:=jK o4;clear h5 t5 f5 s4 c6 o4 d0 d1 d2 d3 d4 d5 hu k5 r8 G2 F3 f52 F8;by_cases h4:kd=4;rotate_left
  ·have z4:=Bc h4;have R8:=Bg h4;have h8:=Tu (c:=c) (d:=dj) (i:=i) (by rw[o5.out];exact h4);rw[s0.out]at h8;have s7:=jK h8;clear h4 h8;go_wp2;go_roundw
   case rel=>
    refine⟨j+1,by omega,by go_num,?_⟩;rw[<-q7.out,s7.out,l4];exact AR.FM q9.out r0.out ⟨R5,H5.out,T5.out,F5.out⟩
   case measure=>simp[intOf];omega
  obtain⟨p1,o6,av⟩:=v.KA U (show Tr.kd c.Ar i≠2 by rw[o5.out,h4];omega);have a6:=Ts (c:=c) (d:=dj) (i:=i) (p:=p1) (by rw[o5.out];exact h4) o6;rw[s0.out]at a6;have s8:=jK a6;have z4:=Bj h4;have R8:=Be h4;rw[o6]at a1;have c7:p1<c.Aa.length:=by omega
  have aw:(p1:Int)<(c.Aa.length:Int):=by omega
  clear a6 h4 o6;go_wp2_with fail;(with_reducible refine a1.mono ?_);rintro e w6⟨rfl,k7⟩;have h6:=H5.out.below k7;have k8:=aV o3 k7.size;have u0:=jK (s5.out.below (k7.mono o3));have i1:A6 w6 w6.heap.size D.sv c.Aa:=u0.out.Aa.keep AU k8 (fun _ _=>rfl);obtain⟨-,-,-,u3,-⟩:=h6.cells;have R9:=h6.Bq.lt;rw[b3.out]at u3 i1;obtain⟨_,_,_,_,n0,-⟩:=A5 (c:=c) i1 c7;have a7:=Js h6 k8 e9.out.queue e9.out.lost (nm c p1);have o7:=jK (PG c7);rw[o7.out]at a7;have T6:=jK (T5.out.trans (Touch.AK (S:=AX p R1) k7) (fun k h=>.inl h));have i6:=GZ v c7;have b0:¬(9223372036854775807:Int)<((5+c.Aa[p1].name.size:Nat):Int):=by omega
  have b1:((5+c.Aa[p1].name.size:Nat):Int)<=(9223372036854775807:Int):=by omega
  have b2:(5:Int)+(c.Aa[p1].name.size:Int)<=(9223372036854775807:Int):=by omega
  generalize c.Aa[p1].name=s1 at n0 a7 o7 i6 b0 b1 b2;have H6:=jK h6;clear h6 s6 R2 g1 i1 a1;go_wp2_with fail;(with_reducible refine a7.mono ?_);rintro e w7⟨rfl,R7,h7,t7,f7⟩;rw[<-o7.out]at h7;have u5:Below B w6 w7:=t7.below k8 fun k hk=>(H6.out.Dx hk).1
  have T7:=jK (T6.out.trans t7 F5.out);have bx:wq.heap.size<=w6.heap.size:=T6.out.size;have F7:=jK (show ∀k,AX p R7 k->AX p R1 k\/wq.heap.size<=k from fun k hk=>by
   rcases f7 k hk with J|J
   ·exact F5.out k J
   ·exact .inr (by omega))
  have S1:=jK (u0.out.below u5);have V1:=aV k8 t7.size;have i7:A6 w7 w7.heap.size D.sv c.Aa:=S1.out.Aa.keep AU V1 (fun _ _=>rfl);obtain⟨-,-,-,u6,-⟩:=h7.cells;have V2:=h7.Bq.lt;rw[b3.out]at u6 i7;have a1:=Gp (c:=c) i7 f hr p1 c7;have H7:=jK h7;have j0:=e9.out.raise (nm c p1);obtain⟨u7,-,-,-⟩:=DJ dB (nm c p1);have j1:=u7.trans l4;obtain⟨dR,o8⟩:∃dR,dB.raise (nm c p1)=dR:=⟨_,rfl⟩;have o9:=s8.out;rw[o8]at o9 j0 j1;have H7:=jK (show Ay w7 B p 75 D R7 (Ce c.Aa.length dj.Ag i) dR by rw[<-o8];exact H7.out);have V6:=jK o9;have u9:=jK j0;have v7:=jK j1;have l5:Tr.up c.Ar p1<(p1:Int)/\-1<=Tr.up c.Ar p1:=by
   rcases Tr.Ep c.Ar p1 with⟨J,-⟩|⟨q,J,c9,-⟩
   ·omega
   ·omega
  obtain⟨u1,k9⟩:∃u1,Tr.up c.Ar p1=u1:=⟨_,rfl⟩;rw[k9]at a1 l5;have V7:=jK k9;clear h7 t7 f7 u5 i7 o9 j0 j1 u7 o8 k9 u3 R9 n0 a7 i6 b0 b1 b2;go_wp2_with fail;(with_reducible refine a1.mono ?_);rintro e w8⟨rfl,p0⟩;have H8:=jK (H7.out.below p0);have T8:=jK (T7.out.trans (Touch.AK (S:=AX p R1) p0) (fun k h=>.inl h));clear a1 u6 V2 p0;go_wp2
  go_loopw [6] (fun u wr=>∃(g:Nat) (u':Int) (dd:Wk) (Rr:RV),u=.int .i64 u'/\u'<(g:Int)/\-1<=u'/\u'<(c.Aa.length:Int)/\dd.Ag=Ce c.Aa.length dj.Ag i/\Wk.Ok c (m+8*j+8) dd/\N4 c g u' dd=Wk.C3 c dj i/\Ay wr B p 75 D Rr (Ce c.Aa.length dj.Ag i) dd/\Touch (AX p R1) wq wr/\∀k,AX p Rr k->AX p R1 k\/wq.heap.size<=k) (fun u _=>(intOf u+1).toNat)
  case atStart=>exact⟨i,u1,dR,R7,rfl,by omega,l5.2,by omega,v7.out,u9.out,by rw[V6.out,V7.out],H8.out,T8.out,F7.out⟩
  case round=>
   obtain⟨g,u',dd,Rr,rfl,cb,k9,cc,w0,l6,a6,hD,hT,hF⟩:=hrel;have HT:=jK hT;have p2:=jK hF;have w3:=jK a6;have l0:=jK w0;have j2:=jK l6;clear hT hF a6 w0 l6;have l1:=aV k0 HT.out.size;have x0:Below B wq wr:=HT.out.below k0 fun k hk=>(H1.out.Dx hk).1
   have p3:=jK (q4.out.below x0);have c8:A6 wr wr.heap.size D.sv c.Aa:=p3.out.Aa.keep AU l1 (fun _ _=>rfl);obtain⟨-,-,-,p4,-⟩:=hD.cells;have cd:=hD.Bq.lt;rw[b3.out]at p4 c8;have HD:=jK hD;have j3:∀(x1:¬(0<=u'/\Tr.kd c.Ar u'.toNat=3/\over c.Ar dd.Ag u'.toNat=true)),AR w B p 75 D R (Wk.enter c d (l.take (j+1))).Ag (Wk.enter c d (l.take (j+1))) wr:=fun x1=>by
    rw[<-q7.out,<-w3.out,Sr x1,l0.out];exact AR.FM q9.out r0.out ⟨Rr,HD.out,HT.out,p2.out⟩
   have HN:=jK j3;clear hD j3 x0;by_cases h0:0<=u';rotate_left
   ·have j4:=jK (HN.out fun J=>h0 J.1);clear c8 p4;go_wp2;go_roundw
    case rel=>exact⟨j+1,by omega,by go_num,j4.out⟩
    case measure=>simp[intOf];omega
   obtain⟨q,rfl⟩:∃q:Nat,u'=(q:Int):=⟨u'.toNat,by omega⟩;have b8:q<c.Aa.length:=by omega
   have cg:(0:Int)<=(q:Int):=by omega
   obtain⟨_,_,_,_,nq,g1,-⟩:=A5 (c:=c) c8 b8;rw[<-Cb c b8]at g1;have j5:=KT (B:=B) (p:=p) (D:=D) (R:=Rr) (cl:=Ce c.Aa.length dj.Ag i) (d:=dd) v f (by have:=Iu c.Aa.length dj.Ag i;omega) c.Aa.length q (by omega) b8 wr HD.out l1 p3.out;obtain⟨kq,p5⟩:∃kq,Tr.kd c.Ar q=kq:=⟨_,rfl⟩;rw[p5]at g1;have x2:=jK p5;clear p5;by_cases h3:kq=3;rotate_left
   ·have z3:=Bg h3;have j4:=jK (HN.out fun J=>h3 (by have:=J.2.1;rwa[bI,x2.out]at this));clear h3 j5;go_wp2;go_roundw
    case rel=>exact⟨j+1,by omega,by go_num,j4.out⟩
    case measure=>simp[intOf];omega
   have z3:=Be h3;obtain⟨o,ho⟩:∃o,over c.Ar (Ce c.Aa.length dj.Ag i) q=o:=⟨_,rfl⟩;rw[ho]at j5;have HO:=jK ho;have H3:=jK h3;clear ho h3;go_wp2_with fail;(with_reducible refine j5.mono ?_);rintro e w9⟨rfl,j6⟩;have H9:=jK (HD.out.below j6);have T9:=jK (HT.out.trans (Touch.AK (S:=AX p R1) j6) (fun k h=>.inl h));have l2:=aV l1 j6.size;have x3:=jK (p3.out.below (j6.mono l1));cases o
   ·have j4:=jK ((HN.out fun J=>by have:=J.2.2;rw[l0.out,bI,HO.out]at this;cases this).behind j6);clear j5;go_wp2;go_roundw
    case rel=>exact⟨j+1,by omega,by go_num,j4.out⟩
    case measure=>simp[intOf];omega
   obtain⟨g',cj,x4⟩:=ZF (c:=c) (p:=q) (d:=dd) (f:=g) (by rw[x2.out,H3.out]) (by rw[l0.out,HO.out]) (by omega);have W5:=jK x4;have j7:A6 w9 w9.heap.size D.sv c.Aa:=x3.out.Aa.keep AU l2 (fun _ _=>rfl);obtain⟨-,-,-,x5,-⟩:=H9.out.cells;have W6:=H9.out.Bq.lt;rw[b3.out]at x5 j7;obtain⟨_,_,_,_,n9,-⟩:=A5 (c:=c) j7 b8;have ck:(q:Int)<(c.Aa.length:Int):=by omega
   have a7:=Js H9.out l2 j2.out.queue j2.out.lost (nm c q);have p6:=jK (PG b8);rw[p6.out]at a7;have i6:=GZ v b8;have b0:¬(9223372036854775807:Int)<((5+c.Aa[q].name.size:Nat):Int):=by omega
   have b1:((5+c.Aa[q].name.size:Nat):Int)<=(9223372036854775807:Int):=by omega
   have b2:(5:Int)+(c.Aa[q].name.size:Int)<=(9223372036854775807:Int):=by omega
   generalize c.Aa[q].name=s2 at n9 nq a7 p6 i6 b0 b1 b2;clear x4 j5 p4 g1 nq c8 j7;go_wp2_with fail;(with_reducible refine a7.mono ?_);rintro e p7⟨rfl,x6,c9,t10,f10⟩;rw[<-p6.out]at c9;have l7:Below B w9 p7:=t10.below l2 fun k hk=>(H9.out.Dx hk).1
   have W7:=jK (T9.out.trans t10 p2.out);have cm:wq.heap.size<=w9.heap.size:=T9.out.size;have W8:=jK (show ∀k,AX p x6 k->AX p R1 k\/wq.heap.size<=k from fun k hk=>by
    rcases f10 k hk with J|J
    ·exact p2.out k J
    ·exact .inr (by omega))
   have x7:=jK (x3.out.below l7);have x8:=aV l2 t10.size;have b9:A6 p7 p7.heap.size D.sv c.Aa:=x7.out.Aa.keep AU x8 (fun _ _=>rfl);obtain⟨-,-,-,l8,-⟩:=c9.cells;have x9:=c9.Bq.lt;rw[b3.out]at l8 b9;have a1:=Gp (c:=c) b9 f hr q b8;have W9:=jK c9;have l9:Tr.up c.Ar q<(q:Int)/\-1<=Tr.up c.Ar q:=by
    rcases Tr.Ep c.Ar q with⟨J,-⟩|⟨q',J,bb,-⟩
    ·omega
    ·omega
   obtain⟨u2,p8⟩:∃u2,Tr.up c.Ar q=u2:=⟨_,rfl⟩;rw[p8]at a1 l9;have aa:=jK p8;clear c9 t10 f10 l7 b9 p8 x5 W6 n9 a7 i6 b0 b1 b2;go_wp2_with fail;(with_reducible refine a1.mono ?_);rintro e cn⟨rfl,j8⟩;have ab:=jK (W9.out.below j8);have ae:=jK (W7.out.trans (Touch.AK (S:=AX p R1) j8) (fun k h=>.inl h));clear a1 l8 x9 j8;go_wp2;go_roundw
   case rel=>exact⟨g',u2,dd.raise (nm c q),x6,rfl,by omega,l9.2,by omega,(DJ dd (nm c q)).1.trans l0.out,j2.out.raise _,by rw[<-aa.out,<-W5.out];exact w3.out,ab.out,ae.out,W8.out⟩
   case measure=>simp[intOf];omega
end
section
open Go.RowKit Q Go.Lib
theorem U8 {c:Q.Af} {cl:List Nat} {k:Nat} (j:k<c.Aa.length) (o:Tr.dp c.Ar k=0) (p:over c.Ar cl k=false):F4 c cl=false:=by
 unfold F4;rw[fS];intro h;have:=aY.1 h k (cQ.2 j);rw[aH o,p]at this;cases this
theorem Re {c:Q.Af} {cl:List Nat} (h:∀j,j<c.Aa.length->Tr.dp c.Ar j=0->over c.Ar cl j=true):F4 c cl=true:=by
 unfold F4;rw[aY];intro j p;have:=h j (cQ.1 p);by_cases o:Tr.dp c.Ar j=0
 ·rw[this o,iS]
 ·rw[aF o];rfl
theorem Rb {w:World} {B p:Nat} {D:DV} {R:RV} {d:Wk} {c:Q.Af} (v:Valid c) (f:Fit c) (h:Ay w B p 75 D R d.Ag d) (hB:B<=w.heap.size) (hC:AQ w B D.ev D.vv D.sv D.tv c) (e1:d.Ag.length<=1000000) :
  Calls prog 41 #[.pointer (some ⟨p,0,none⟩)] w fun e w'=>e=.returned (.tuple #[])/\AR w B p 75 D R d.Ag (Wk.settle c d) w':=by
 obtain⟨-,-,-,c3,-⟩:=h.cells;have a8:A6 w w.heap.size D.sv c.Aa:=hC.Aa.keep AU hB (fun _ _=>rfl);obtain⟨SA,sc,b4,h6,e3⟩:=a8.form;rw[b4]at c3 a8;have h7:=h.Bq.lt;have HH:=jK h;have HC:=jK hC;clear h hC b4;go_enter func41,ntmps41;go_wp2;clear c3
 go_loopw [10] (fun u wr=>∃k:Nat,k<=c.Aa.length/\u=.int .i64 (k:Int)/\(∀j,j<k->Tr.dp c.Ar j=0->over c.Ar d.Ag j=true)/\Below w.heap.size w wr) (fun u _=>c.Aa.length-(intOf u).toNat)
 case atStart=>exact⟨0,by omega,rfl,fun j hj=>absurd hj (by omega),aJ _ _⟩
 case round=>
  obtain⟨k,hk,rfl,a6,hb⟩:=hrel;have HA:=jK a6;clear a6;by_cases U:k<c.Aa.length;rotate_left
  ·obtain rfl:k=c.Aa.length:=by omega
   have b6:¬(c.Aa.length:Int)<(c.Aa.length:Int):=by omega
   have e6:=Re HA.out;have hr:=HH.out.below hb;obtain⟨-,-,-,-,-,-,-,-,-,-,-,h9,-⟩:=hr.cells;have f11:=hr.frozen 11;have i1:=hr.Bq.lt;by_cases hs:d.status=0
   ·have hz:=Be hs;have J:Wk.settle c d={d with status:=1}:=by
     unfold Wk.settle;exact if_pos ⟨e6,hs⟩
    have HE:=jK (AR.ahead (w:=w) (R:=R) hb (hr.BF 11 (.int .i64 1) (d':={d with status:=1}) rfl rfl));have a1:=jK J;clear hr hs J;go_wp2
    (first|go_end0|refine aI (cO rfl _ _ _) rfl ?_)
    exact⟨rfl,by rw[a1.out];exact HE.out⟩
   ·have hz:=Bg hs;have J:Wk.settle c d=d:=by
     unfold Wk.settle;exact if_neg fun h=>hs h.2
    have HE:=jK (AR.behind (AR.refl HH.out) hb);have a1:=jK J;clear hr hs J;go_wp2
    (first|go_end0|refine aI (cO rfl _ _ _) rfl ?_)
    exact⟨rfl,by rw[a1.out];exact HE.out⟩
  have i6:(k:Int)<(c.Aa.length:Int):=by omega
  obtain⟨ad,rfl,i7⟩:=e3 k U;obtain⟨uA,uc,zA,zc,c0,c1,c2,c3,c4,c5,-,-⟩:=A5 (c:=c) (a8.on AU hb) U;rw[<-K2 c U]at c2;obtain⟨dp,b0⟩:∃dp,Tr.dp c.Ar k=dp:=⟨_,rfl⟩;rw[b0]at c2;have b8:=jK b0;clear b0;generalize c.Aa[k]=x at *;obtain⟨W2,e2⟩:∃W2,wr.alloc (.cells #[.string x.name,.int .i64 x.kind,.int .i64 dp,.string x.initial,.slice uA x.entry.length uc,.slice zA x.exit.length zc] 54)=W2:=⟨_,rfl⟩;obtain⟨e8,s2,k2⟩:=Bi _ _ _ e2;have b2:W2.cell? ⟨wr.heap.size,2,none⟩=some (.int .i64 dp):=k2.cell 2;have b6:wr.heap.size<W2.heap.size:=by omega
  have I:=Ab hb e8;clear s2 k2;by_cases J:dp=0
  ·have hz:=Be J;have HD:=jK J;have c6:=KT (B:=B) (p:=p) (D:=D) (R:=R) (cl:=d.Ag) (d:=d) v f e1 c.Aa.length k (by omega) U W2 (HH.out.below I) (aV hB I.size) (HC.out.below (I.mono hB));obtain⟨o,ho⟩:∃o,over c.Ar d.Ag k=o:=⟨_,rfl⟩;rw[ho]at c6;have HO:=jK ho;clear J ho;go_wp2_with fail;(with_reducible refine c6.mono ?_);rintro e w3⟨rfl,h2⟩;have a7:=Ab I h2;cases o
   ·have c7:Wk.settle c d=d:=by
     unfold Wk.settle;exact if_neg fun h=>by rw[U8 U (by rw[b8.out,HD.out]) HO.out]at h;cases h.1
    have HE:=jK (AR.behind (AR.refl HH.out) a7);have a1:=jK c7;clear c7;go_wp2
    (first|go_end0|refine aI (cO rfl _ _ _) rfl ?_)
    exact⟨rfl,by rw[a1.out];exact HE.out⟩
   ·go_wp2;go_roundw
    case rel=>exact⟨k+1,by omega,by go_num,fun j hj h0=>by
      by_cases e:j=k
      ·subst e;exact HO.out
      ·exact HA.out j (by omega) h0,a7⟩
    case measure=>simp[intOf];omega
  ·have hz:=Bg J;have HD:=jK J;clear J;go_wp2;go_roundw
   case rel=>exact⟨k+1,by omega,by go_num,fun j hj h0=>by
     by_cases e:j=k
     ·subst e;exact absurd (b8.out.symm.trans h0) HD.out
     ·exact HA.out j (by omega) h0,I⟩
   case measure=>simp[intOf];omega
end
end Go.Proofs.YthbihnpoghlfaaaGreatDoor
