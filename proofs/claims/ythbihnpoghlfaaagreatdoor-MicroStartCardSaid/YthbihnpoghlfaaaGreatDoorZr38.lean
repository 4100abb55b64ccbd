import Derived.Test.YthbihnpoghlfaaaGreatDoorZr37
set_option linter.unusedVariables false
set_option linter.unusedSimpArgs false
set_option maxHeartbeats 8000000
set_option maxRecDepth 100000
namespace Go.Proofs.YthbihnpoghlfaaaGreatDoor
open Go.Proofs.Tryz
section
open Go.RowKit Q Go.Lib
def NT (W:World) (x:BS) (v:Value) (j:World):Prop:=∃g,v=.slice (some ⟨g,0,none⟩) 1 1/\W.heap.size<=g/\Bw j g 60 #[.int .i64 x.kind,.int .i64 x.a,.int .i64 x.b]
def ZO (W:World) (B:Nat) (u:Value) (m:Nat) (xs:List Value) (v:Value) (j:World):Prop:=j.ownsRow B 60 3 v (m+1) xs/\∀k,v.ownBlock=some k->u.ownBlock=some k\/W.heap.size<=k
theorem NT.keep {W j o:World} {B m:Nat} {u:Value} {x:BS} {v:Value} {xs:List Value} (h:NT W x v j) (I:W.ownsRow B 60 3 u m xs) (J:Touch (fun k=>u.ownBlock=some k) j o):NT W x v o:=by
 obtain⟨g,e,U,hb⟩:=h;exact⟨g,e,U,J.Bq hb (fun hk=>by have:=(I.lt g hk).2;omega)⟩
section
variable {w w1 w2 W:World} {B p t:Nat} {D:DV} {R:RV} {cl:List Nat} {d:Wk}
theorem Ay.RY {x:BS} {j:Value} (h:Ay w B p t D R cl d) (I:Touch (fun k=>R.vV.ownBlock=some k) w w1) (J:w1.ownsRow B 60 3 j (d.Ac.length+1) ((d.Ac++[x]).flatMap BU)) (o:∀k,j.ownBlock=some k->R.vV.ownBlock=some k\/w.heap.size<=k) :
  Ay (w1.setCell ⟨p,7,none⟩ j) B p t D {R with vV:=j} cl {d with Ac:=d.Ac++[x]}/\Touch (AX p R) w (w1.setCell ⟨p,7,none⟩ j)/\(∀k,AX p {R with vV:=j} k->AX p R k\/w.heap.size<=k)/\Bw w1 p t (Ei D R d).toArray:=
 h.IZ 1 7 ⟨60,3,R.vV,d.Ac.length,d.Ac.flatMap BU⟩ ⟨60,3,j,d.Ac.length+1,(d.Ac++[x]).flatMap BU⟩ rfl I J o (by unfold DF;simp only[aD,aC,aO,cR]) rfl
def Z0:RV:=⟨.slice none 0 0,.slice none 0 0,.slice none 0 0,.slice none 0 0⟩
theorem Ay.new (D:DV) (U:B<=w.heap.size) (e:w.alloc (.cells #[.string D.nm,D.ev,D.vv,D.sv,D.tv,.slice none 0 0,D.vP,.slice none 0 0,.slice none 0 0,.int .i64 D.st,.int .i64 D.fu,.int .i64 0,.int .i64 0,.slice none 0 0] t)=W) :
  Ay W B w.heap.size t D Z0 [] ⟨[],[],[],0,0,[]⟩:=by
 obtain⟨hb,hs,J⟩:=Bi _ _ _ e;have o:∀x∈DF Z0 [] ⟨[],[],[],0,0,[]⟩,x.v=.slice none 0 0/\x.n=0/\x.xs=[]:=fun x I=>by
  simp only[DF,Z0,bJ,eS,iG]at I;rcases I with rfl|rfl|rfl|rfl<;>exact⟨rfl,rfl,rfl⟩
 refine⟨U,J,fun x I=>?_,fun x I=>?_,fun i j x y hi hj a1 k J=>?_⟩
 ·obtain⟨e1,e2,e3⟩:=o x I;rw[e1,e2,e3];exact bL _ _ _ _
 ·rw[(o x I).1];exact fun h=>by cases h
 ·rw[(o x (bR hi)).1]at J;cases J
end
def Jw (d:Wk):J9:=⟨Co d.Ag,[],d.Ac,d.queue,0,0,d.status,d.lost⟩
def X4 (W:World) (Z:Nat) (j:World):Prop:=Touch (fun k=>k=Z) W j/\∃o I J U y4 y5 y6 y7,Bw j Z 32 #[o,I,J,U,y4,y5,y6,y7]
theorem ZaN {W w:World} {Z:Nat} {o I J U y4 y5 y6 y7:Value} (hT:Touch (fun k=>k=Z) W w) (hz:Bw w Z 32 #[o,I,J,U,y4,y5,y6,y7]) (u0 u1 u2 u3 u4 u5 u6 u7:Value) :
  X4 W Z ((((((((w.setCell ⟨Z,0,none⟩ u0).setCell ⟨Z,1,none⟩ u1).setCell ⟨Z,2,none⟩ u2).setCell ⟨Z,3,none⟩ u3).setCell ⟨Z,4,none⟩ u4).setCell ⟨Z,5,none⟩ u5).setCell ⟨Z,6,none⟩ u6).setCell ⟨Z,7,none⟩ u7)/\
  Bw ((((((((w.setCell ⟨Z,0,none⟩ u0).setCell ⟨Z,1,none⟩ u1).setCell ⟨Z,2,none⟩ u2).setCell ⟨Z,3,none⟩ u3).setCell ⟨Z,4,none⟩ u4).setCell ⟨Z,5,none⟩ u5).setCell ⟨Z,6,none⟩ u6).setCell ⟨Z,7,none⟩ u7) Z 32 #[u0,u1,u2,u3,u4,u5,u6,u7]:=by
 have j:=(((((((hz.BF 0 u0).BF 1 u1).BF 2 u2).BF 3 u3).BF 4 u4).BF 5 u5).BF 6 u6).BF 7 u7;simp only[aB,aD,aC]at j;have st:∀ {a:World} (i:Nat) (u:Value),Touch (fun k=>k=Z) W a->Touch (fun k=>k=Z) W (a.setCell ⟨Z,i,none⟩ u):=fun i u h=>h.trans (Touch.C8 (S:=fun k=>k=Z) ⟨Z,i,none⟩ u rfl) fun k hk=>.inl hk
 exact⟨⟨st 7 u7 (st 6 u6 (st 5 u5 (st 4 u4 (st 3 u3 (st 2 u2 (st 1 u1 (st 0 u0 hT))))))),u0,u1,u2,u3,u4,u5,u6,u7,j⟩,j⟩
theorem Pw (c:Q.Af) {k:Nat} (j:k<c.vars.length):(c.vars.take (k+1)).map Q.Var.init=(c.vars.take k).map Q.Var.init++[c.vars[k].init]:=by
 rw[bM j,bN];rfl
theorem Sl {c:Q.Af} (v:Valid c) (f:Fit c):Wk.Ok c 0 ⟨[],c.vars.map Q.Var.init,[],0,0,[]⟩:=by
 refine⟨by simp,by simp,by simp,fun y I=>?_,by simp⟩;obtain⟨x,j,rfl⟩:=dF.1 I;have h:=v.var x j;by_cases o:By x.init/\fits x x.init=true
 ·exact⟨o.1,f.inits x j⟩
 ·exfalso
  revert h
  unfold Gc;rw[if_neg o]
  repeat' split
  all_goals omega
end
section
open Go.RowKit Q Go.Lib
theorem U5 (c:Q.Af) (ev vv sv tv:Value) (w:World) (h:AQ w w.heap.size ev vv sv tv c) (v:Valid c) (hE:DL c=0) (f:Fit c) :
  Calls prog 15 #[BZ c.name ev vv sv tv] w fun e w'=>∃cv pv xv qv zv,e=.returned (.tuple #[VJ cv pv xv qv (Jw (Cw c)),zv])/\Gd w' w'.heap.size cv pv xv qv (Jw (Cw c))/\AE w' w'.heap.size zv (Cw c).Ao/\Below w.heap.size w w':=by
 obtain⟨j0,F2,F3,F5,F7⟩:=dC Hp;obtain⟨EA,ec,rfl,ca,cb⟩:=h.events.form;obtain⟨VA,j5,rfl,cd,F8⟩:=h.vars.form;obtain⟨SA,sc,rfl,cf,cg⟩:=h.Aa.form;obtain⟨TA,tc,rfl,ch,ci⟩:=h.trans.form;have n1:=v.events;have n2:=v.vars;have n3:=v.Aa;have n4:=v.trans;obtain⟨W0,e0⟩:∃W0,w.alloc (.cells #[.string c.name,.slice EA c.events.length ec,.slice VA c.vars.length j5,.slice SA c.Aa.length sc,.slice TA c.trans.length tc] 27)=W0:=⟨_,rfl⟩;obtain⟨r6,s0,h0,p0,p1,p2,p3,p4⟩:=Bl h e0;obtain⟨W1,e1⟩:∃W1,W0.alloc (.cells #[.slice none 0 0,.slice none 0 0,.slice none 0 0,.slice none 0 0,.int .i64 0,.int .i64 0,.int .i64 0,.int .i64 0] 32)=W1:=⟨_,rfl⟩;obtain⟨j6,s1,kZ⟩:=Bi _ _ _ e1;have h1:=h0.on j6;have c1:w.heap.size<W1.heap.size:=by omega
 have e7:w.heap.size<W0.heap.size:=by omega
 have r8:W0.heap.size<W1.heap.size:=by omega
 obtain⟨c2,-⟩:=Ae j6;have q0:=(c2 _ 0 e7).trans p0;have q1:=(c2 _ 1 e7).trans p1;have q2:=(c2 _ 2 e7).trans p2;have q3:=(c2 _ 3 e7).trans p3;have q4:=(c2 _ 4 e7).trans p4;have l2:=Ju c c.name _ _ _ _ W1 h1 rfl f (by omega);rw[hE]at l2;have k4:=Ab r6 j6;have HZ:=jK kZ;have r9:=jK (Sl v f);have G1:=jK hE;have HV:=jK v;clear s0 s1 kZ p0 p1 p2 p3 p4 c2 r6 j6 h0 h hE;go_enter func15,ntmps15;go_wp2_with fail;(with_reducible refine l2.mono ?_);rintro e I⟨rfl,b5⟩;have h2:=h1.on b5;obtain⟨c6,-⟩:=Ae b5;have r0:=(c6 _ 0 c1).trans q0;have r1:=(c6 _ 1 c1).trans q1;have r2:=(c6 _ 2 c1).trans q2;have r3:=(c6 _ 3 c1).trans q3;have r4:=(c6 _ 4 c1).trans q4;have e8:=Ab k4 b5;have c7:=aK c1 b5.size;have s4:=aK r8 b5.size;have G2:=jK (HZ.out.below b5 r8);clear e0 e1 q0 q1 q2 q3 q4 c6 l2 h1 b5 k4;obtain⟨W3,e3⟩:∃W3,I.alloc (.cells #[.string c.name,.slice EA c.events.length ec,.slice VA c.vars.length j5,.slice SA c.Aa.length sc,.slice TA c.trans.length tc,.slice none 0 0,.slice none 0 0,.slice none 0 0,.slice none 0 0,.int .i64 0,.int .i64 0,.int .i64 0,.int .i64 0,.slice none 0 0] 75)=W3:=⟨_,rfl⟩;have k7:=Ay.new (B:=I.heap.size) ⟨c.name,.slice EA c.events.length ec,.slice VA c.vars.length j5,.slice SA c.Aa.length sc,.slice TA c.trans.length tc,.slice none 0 0,0,0⟩ (aL _) e3;obtain⟨e9,s3,-⟩:=Bi _ _ _ e3;obtain⟨s6,-⟩:=Ae e9;have t2:=(s6 _ 2 c7).trans r2;have s7:=jK k7;have H2:=jK e9;have cq:=e9.size;have cr:=(h2.on e9).vars;obtain⟨p,hp⟩:∃p,p=I.heap.size:=⟨_,rfl⟩;clear s3 k7 s6 e9 hp;go_wp2;clear e3 t2
 go_loopw [17] (fun u wr=>∃(k:Nat) (R:RV),k<=c.vars.length/\u=.int .i64 (k:Int)/\Ay wr I.heap.size I.heap.size 75 ⟨c.name,.slice EA c.events.length ec,.slice VA c.vars.length j5,.slice SA c.Aa.length sc,.slice TA c.trans.length tc,.slice none 0 0,0,0⟩ R [] ⟨[],(c.vars.take k).map Q.Var.init,[],0,0,[]⟩/\Below I.heap.size I wr) (fun u _=>c.vars.length-(intOf u).toNat)
 case atStart=>exact⟨0,Z0,by omega,rfl,s7.out,H2.out⟩
 case round=>
  obtain⟨k,R,U,rfl,a8,hb⟩:=hrel;by_cases l3:k<c.vars.length
  ·have cs:(k:Int)<(c.vars.length:Int):=by omega
   obtain⟨ad,rfl,ct⟩:=F8 k l3;obtain⟨v0,v1,v2,v3,v4,v5,v6⟩:=BK.at_ (h2.on hb).vars l3;have H3:=jK (Pw c l3);have s8:((c.vars.take k).map Q.Var.init).length=k:=by rw[bG,bF];omega
   generalize c.vars[k]=x0 at *;obtain⟨d,hd⟩:∃d:Wk,(⟨[],(c.vars.take k).map Q.Var.init,[],0,0,[]⟩:Wk)=d:=⟨_,rfl⟩;rw[hd]at a8;have l4:d.Ac=(c.vars.take k).map Q.Var.init:=by rw[<-hd]
   have bb:d.Ac.length<=1000:=by rw[l4,s8];omega
   have HD:=jK hd;have cw:=jK l4;clear hd l4 s8;obtain⟨W5,e5⟩:∃W5,wr.alloc (.cells #[.string x0.name,.int .i64 x0.kind,.int .i64 x0.lo,.int .i64 x0.hi,.int .i64 x0.init.kind,.int .i64 x0.init.a,.int .i64 x0.init.b] 66)=W5:=⟨_,rfl⟩;obtain⟨l5,s5,k5⟩:=Bi _ _ _ e5;have bc:wr.heap.size<W5.heap.size:=by omega
   have b0:=a8.below l5;have k8:=hb.trans (l5.mono hb.size);have h4:=b0.Ac;obtain⟨vA,vc,l6⟩:=Al h4;have s9:R.vV.ownBlock≠some I.heap.size:=Ay.L7 b0 (i:=1) rfl;have j7:R.vV.ownBlock≠some wr.heap.size:=fun e=>by
    have:=(a8.Dx (.inr (.inr (.inl e)))).2;omega
   have h5:∀o,Touch (fun k=>R.vV.ownBlock=some k) W5 o->o.cell? ⟨I.heap.size,7,none⟩=some (.slice vA d.Ac.length vc):=fun o ht=>by
    rw[<-l6];exact(ht.Bq b0.Bq s9).cell 7
   have l8:∀o,Touch (fun k=>R.vV.ownBlock=some k) W5 o->o.cell? ⟨wr.heap.size,4,none⟩=some (.int .i64 x0.init.kind):=fun o ht=>(ht.Bq k5 j7).cell 4
   have l9:∀o,Touch (fun k=>R.vV.ownBlock=some k) W5 o->o.cell? ⟨wr.heap.size,5,none⟩=some (.int .i64 x0.init.a):=fun o ht=>(ht.Bq k5 j7).cell 5
   have n0:∀o,Touch (fun k=>R.vV.ownBlock=some k) W5 o->o.cell? ⟨wr.heap.size,6,none⟩=some (.int .i64 x0.init.b):=fun o ht=>(ht.Bq k5 j7).cell 6
   have h6:=jK b0;have i1:=jK h4;have n5:=jK l6;have H5:=jK k8;have u0:=k8.size;obtain⟨x,hx⟩:∃x,x0.init=x:=⟨_,rfl⟩;rw[hx]at l8 l9 n0 v4 v5 v6 e5;have HX:=jK hx;clear hx a8 b0 l5 h4 l6 s9 j7 k5 s5;go_upto_region 7 with(fail)
   clear e5 v0 v1 v2 v3 v4 v5 v6;refine RegP.AM 13 [(8,NT W5 x),(9,ZO W5 I.heap.size R.vV d.Ac.length ((d.Ac++[x]).flatMap BU))] [8,9] (fun w'=>Touch (fun k=>R.vV.ownBlock=some k) W5 w') (Qe W5 8 9) (fun _ _=>False) (fun _ wa wb=>Touch (fun k=>R.vV.ownBlock=some k) wa wb) (by kernel_rfl) (by kernel_rfl) (by kernel_rfl) rfl (by kernel_rfl) (by kernel_rfl) (fun _ _ _ _ _ h=>h.elim) ((Touch.refl _ _).drewN 1) ?hpre (by decide) ?_
   case hpre=>
    intro k U;have n9:k=8:=by simpa using U.symm
    subst n9;exact(Touch.refl _ _).drewN 1
   simp only[aM,aT]
   iterate 8 (refine RegP.Ad rfl rfl ?_ ?_ ?_;rotate_left;(focus(intro o hI _;have H8:=h5 _ hI;have u1:=l8 _ hI;have u2:=l9 _ hI;have u3:=n0 _ hI;clear hI;go_simp;rfl)))
   simp only[Act.put,aB,aD,aC];refine RegP.Bh rfl rfl (fun _ _ _ _ _ _ hs h=>h.keep i1.out hs) (fun o hI hP _ KK o0=>?_) (fun v9=>?_)
   ·have c8:Touch (fun _=>False) W5 o:=hP;have o1:=(aJ o.heap.size o).alloc (aL _) (.cells #[.int .i64 x.kind,.int .i64 x.a,.int .i64 x.b] 60);have HA:=jK (show NT W5 x (.slice (some ⟨o.heap.size,0,none⟩) 1 1) (o.alloc (.cells #[.int .i64 x.kind,.int .i64 x.a,.int .i64 x.b] 60))from⟨_,rfl,c8.size,Bw.new _ _ _⟩);have L1:=jK (show Qe W5 8 9 9 (o.alloc (.cells #[.int .i64 x.kind,.int .i64 x.a,.int .i64 x.b] 60))from c8.trans (Touch.AK (S:=fun _=>False) o1) (fun _ h=>h.elim));clear hP;go_simp;exact o0 _ _ _ (by go_simp) HA.out (hI.trans (Touch.AK (S:=fun _=>False) o1) (fun _ h=>h.elim)) (Touch.AK o1) L1.out
   refine RegP.Bh rfl rfl (fun j v wa wb hj R1 _ _=>(R1 (by simp only[Aj.KE];rw[if_neg (by omega),if_neg (by omega)])).elim) (fun o hI hP hF KK o0=>?_) (fun v10=>?_)
   ·have c8:Touch (fun _=>False) W5 o:=hP;have f9:=hF _ (aR ..) (by kernel_rfl);dsimp only at f9;obtain⟨g,rfl,hg,R2⟩:=f9;have a1:=c8.own i1.out (fun _ _ h=>h);have R5:Reads o (g+1) 3 (some ⟨g,0,none⟩) 1 (BU x):=⟨rfl,fun _=>⟨_,rfl,eB _,fun j u hu=>by
     rw[show(⟨g,0,none⟩:Addr).add j=⟨g,j,none⟩by unfold Addr.add;split<;>simp_all,R2.cell j];simpa[BU]using hu⟩⟩
    have bi:I.heap.size<=o.heap.size:=aV u0 c8.size;rw[n5.out]at a1;clear hF hP;refine C0 _ _ _ _ rfl I.heap.size 60 j0 _ 3 24 underlying30 F2 F3 F5 F7 rfl (by decide) _ _ _ (by go_simp) a1 _ (some ⟨g,0,none⟩) 1 1 _ (by go_simp) R5 (fun u hu=>by simp only[BU,bJ,eS,iG]at hu;rcases hu with rfl|rfl|rfl<;>rfl) ?c3 ?c4 ?c5 ?_
    case c3=>unfold maxLen;omega
    case c4=>omega
    case c5=>omega
    intro v' w4 o2 u5 i6;rw[<-n5.out]at u5 i6;have u6:Touch (fun k=>R.vV.ownBlock=some k) o w4:=Touch.Dt u5 (fun k h=>h);refine o0 v' _ _ (by go_simp) ⟨by rw[eO,eQ];exact o2,fun k U=>?_⟩ (hI.trans u6 (fun k h=>.inl h)) u6 trivial;rcases i6 with h|h
    ·exact .inl (h.symm.trans U)
    ·rw[h]at U;injection U with U
     have:=c8.size;exact .inr (by omega)
   iterate 3 (refine RegP.Ad rfl rfl ?_ ?_ ?_;rotate_left;(focus(intro o hI _;have H8:=h5 _ hI;have u1:=l8 _ hI;have u2:=l9 _ hI;have u3:=n0 _ hI;clear hI;go_simp;rfl)))
   simp only[Act.put,aB,aD,aC];refine RegP.Ak (fun o hI hF=>?_);have f10:=hF _ (aR ..);dsimp only at f10;obtain⟨a1,i6⟩:=f10;clear hF;simp only[aN,aS];obtain⟨A',c',rfl⟩:=Al a1;obtain⟨l0,-,-,b8⟩:=h6.out.RY (x:=x) hI a1 i6;have g1:o.cell? ⟨I.heap.size,7,none⟩=some (.slice vA d.Ac.length vc):=by rw[<-n5.out];exact b8.cell 7
   have z1:=b8.frozen 7;have l1:=b8.lt;have u7:Below I.heap.size I o:=H5.out.trans (hI.below u0 fun k U=>(Bd i1.out U).2);have u9:=jK l0;have c9:=jK (u7.setCell (p:=⟨I.heap.size,7,none⟩) h6.out.base (.slice A' (d.Ac.length+1) c'));clear l0 b8 a1 i6 hI u7;go_wp2;refine RegP.Qg.normal ?_;go_wp2;go_roundw
   case rel=>exact⟨k+1,_,by omega,by go_num,by
     rw[show(⟨[],(c.vars.take (k+1)).map Q.Var.init,[],0,0,[]⟩:Wk)={d with Ac:=d.Ac++[x]}by rw[<-HD.out,H3.out,HX.out]];exact u9.out,c9.out⟩
   case measure=>simp[intOf];omega
  obtain rfl:k=c.vars.length:=by omega
  have dd:¬(c.vars.length:Int)<(c.vars.length:Int):=by omega
  rw[bT]at a8;obtain⟨d0,j8⟩:∃d0:Wk,(⟨[],c.vars.map Q.Var.init,[],0,0,[]⟩:Wk)=d0:=⟨_,rfl⟩;have b9:=r9.out;have b1:d0.Ag=[]:=by rw[<-j8]
  rw[j8]at a8 b9;have R8:=jK j8;obtain⟨e2,-⟩:=Ae hb;have g0:=(e2 _ 0 c7).trans r0;have g1:=(e2 _ 1 c7).trans r1;have g2:=(e2 _ 2 c7).trans r2;have g3:=(e2 _ 3 c7).trans r3;have g4:=(e2 _ 4 c7).trans r4;have hr:=h2.on hb;have v7:=Oi c c.name _ _ _ _ wr hr rfl HV.out G1.out f;have h6:=jK a8;have S0:=jK hb;have j9:=hb.size;have HC:=jK (h2.below hb);clear j8 a8 hb e2 hr;go_wp2_with fail;(with_reducible refine v7.mono ?_);rintro e w6⟨V6,rfl,k0,k1⟩;obtain⟨LA,lc,rfl⟩:=Al k1;have c0:=h6.out.below k0;have o3:=aV j9 k0.size;have o4:=HC.out.below (k0.mono j9);rw[<-b1]at c0;have v8:=T4 HV.out f (m:=0) (by omega) (CO c) HV.out.IK _ w6 c0 o3 o4 b9 (by rw[b1];exact .nil) (by rw[b1];intro j hj;cases hj) (by rw[b1];exact HV.out.OX) (Bk k1 j9) (fun k U hf=>by
   have h8:=(h6.out.Dx hf).2;have h9:=(Bd k1 U).2;omega)
  have w0:=jK c0;have S1:=jK (S0.out.trans (k0.mono j9));have T2:=jK o4;clear c0 o4 v7 g0 g1 g2 g3 g4 k1;go_wp2_with fail;(with_reducible refine v8.mono ?_);rintro e w7⟨rfl,R7,h7,t7,f7⟩;have o5:Below I.heap.size w6 w7:=t7.below o3 fun k U=>(w0.out.Dx U).1
  have w1:=aV o3 t7.size;obtain⟨dE,o6⟩:∃dE,Wk.enter c d0 (CO c)=dE:=⟨_,rfl⟩;have hlen:=Pq c d0 (CO c) (by rw[b1];simp);have b2:=b9.enter HV.out (CO c) (fun i hi=>HV.out.FA hi);rw[o6]at h7 hlen b2;have w8:=Rb HV.out f h7 w1 (T2.out.below o5) (by omega);have H7:=jK h7;have T5:=jK o6;have T6:=jK (S1.out.trans o5);clear h7 t7 f7 o5 v8 o6;go_wp2_with fail;(with_reducible refine w8.mono ?_);rintro e W9⟨rfl,R9,h9,t9,f9⟩;have w9:Below I.heap.size w7 W9:=t9.below w1 fun k U=>(H7.out.Dx U).1
  have j4:(Wk.settle c dE).Ag=dE.Ag:=by unfold Wk.settle;split<;>rfl
  have k2:(Wk.settle c dE).Ac=dE.Ac/\(Wk.settle c dE).queue=dE.queue/\(Wk.settle c dE).Ao=dE.Ao:=by unfold Wk.settle;split<;>exact⟨rfl,rfl,rfl⟩
  have b7:Wk.settle c dE=Cw c:=by
   unfold Cw;rw[<-T5.out,<-R8.out]
  have dh:=hlen;have T7:(Cw c).Ac.length<=1000:=by rw[<-b7,k2.1,b2.Ac];omega
  have T8:(Cw c).queue.length<=16:=by rw[<-b7,k2.2.1];exact b2.queue
  have T9:(Cw c).Ao.length<=1000:=by
   have:=b2.Ao;have:=HV.out.IK;rw[<-b7,k2.2.2];omega
  rw[b7]at h9;rw[<-j4,b7]at h9;have V1:(Cw c).Ag.length<=1000:=by rw[<-b7,j4];omega
  have c9:=jK (T6.out.trans w9);have V2:=jK (show ∃y0 y1 y2 y3 y4 y5 y6 y7,Bw W9 W0.heap.size 32 #[y0,y1,y2,y3,y4,y5,y6,y7]from⟨_,_,_,_,_,_,_,_,G2.out.below c9.out s4⟩);obtain⟨J,o7⟩:∃J,Cw c=J:=⟨_,rfl⟩;rw[o7]at h9 T7 T8 T9 V1;have V5:=jK o7;obtain⟨cA,cc,o8⟩:=Al h9.Ag;obtain⟨xA,xc,o9⟩:=Al h9.Ac;obtain⟨qA,qc,p5⟩:=Al h9.queue;obtain⟨zA,zc,p6⟩:=Al h9.Ao;have V7:I.heap.size≠W0.heap.size:=by omega
  have x8:=jK (show ∀w5,X4 W9 W0.heap.size w5->w5.cell? ⟨I.heap.size,5,none⟩=some (.slice cA J.Ag.length cc)/\w5.cell? ⟨I.heap.size,6,none⟩=some (.slice none 0 0)/\w5.cell? ⟨I.heap.size,7,none⟩=some (.slice xA J.Ac.length xc)/\w5.cell? ⟨I.heap.size,8,none⟩=some (.slice qA J.queue.length qc)/\
    w5.cell? ⟨I.heap.size,9,none⟩=some (.int .i64 0)/\w5.cell? ⟨I.heap.size,10,none⟩=some (.int .i64 0)/\w5.cell? ⟨I.heap.size,11,none⟩=some (.int .i64 J.status)/\w5.cell? ⟨I.heap.size,12,none⟩=some (.int .i64 J.lost)/\w5.cell? ⟨I.heap.size,13,none⟩=some (.slice zA J.Ao.length zc)from fun w5 hI=>by
   have U:=hI.1.Bq h9.Bq V7;rw[<-o8,<-o9,<-p5,<-p6];exact⟨U.cell 5,U.cell 6,U.cell 7,U.cell 8,U.cell 9,U.cell 10,U.cell 11,U.cell 12,U.cell 13⟩)
  have H9:=jK h9;have W2:=jK o8;have W4:=jK o9;have W6:=jK p5;have W7:=jK p6;have di:W0.heap.size<W9.heap.size:=aK s4 c9.out.size;generalize x9:J.status=dst at *;generalize y8:J.lost=k3 at *;have W8:=jK x9;have aa:=jK y8;clear h9 t9 f9 w9 w8 o8 o9 p5 p6 b7 k2 j4 o7 b2 hlen b9 x9 y8;go_upto_region 11 with(fail)
  refine Aj.AM 10 [(8,fun _ w'=>Bw w' W0.heap.size 32 #[.slice cA J.Ag.length cc,.slice none 0 0,.slice xA J.Ac.length xc,.slice qA J.queue.length qc,.int .i64 0,.int .i64 0,.int .i64 dst,.int .i64 k3])] (X4 W9 W0.heap.size) (fun w w'=>Bw w W0.heap.size 32 #[.slice cA J.Ag.length cc,.slice none 0 0,.slice xA J.Ac.length xc,.slice qA J.queue.length qc,.int .i64 0,.int .i64 0,.int .i64 dst,.int .i64 k3]->Bw w' W0.heap.size 32 #[.slice cA J.Ag.length cc,.slice none 0 0,.slice xA J.Ac.length xc,.slice qA J.queue.length qc,.int .i64 0,.int .i64 0,.int .i64 dst,.int .i64 k3]) (by kernel_rfl) (by kernel_rfl) (by kernel_rfl) (by kernel_rfl) (fun _ _ d _ _ h=>by cases d<;>exact h) ⟨(Touch.refl _ _).drewN 1,V2.out⟩ ?_;simp only[aM,aT]
  iterate 8 (refine Aj.Ad rfl rfl ?_ ?_ ?_;rotate_left;(focus(intro w5 hI _;obtain⟨m5,m6,m7,m8,m9,m10,m11,m12,m13⟩:=x8.out w5 hI;clear hI;go_simp;rfl)))
  refine Aj.Ah (a':=?_) ?_ ?_;rotate_left;(focus(simp only[Act.put,aB,aD,aC];rfl));refine Aj.Bh rfl (by kernel_rfl) (fun _ _ _ hs h=>hs h) (fun w5 hI _ K' y9=>?_) (fun v=>?_)
  ·obtain⟨hT,y0,y1,y2,y3,y4,y5,y6,y7,hz⟩:=hI;have zl:=hz.lt;have x0:=hz.cell 0;have x1:=hz.cell 1;have x2:=hz.cell 2;have x3:=hz.cell 3;have x4:=hz.cell 4;have x5:=hz.cell 5;have x6:=hz.cell 6;have x7:=hz.cell 7;have dj:=hz.frozen 0;have dk:=hz.frozen 1;have dl:=hz.frozen 2;have dm:=hz.frozen 3;have dn:=hz.frozen 4;have dp:=hz.frozen 5;have dq:=hz.frozen 6;have dr:=hz.frozen 7;have HJ:=jK (ZaN hT hz (.slice cA J.Ag.length cc) (.slice none 0 0) (.slice xA J.Ac.length xc) (.slice qA J.queue.length qc) (.int .i64 0) (.int .i64 0) (.int .i64 dst) (.int .i64 k3));have ab:=jK y9;clear hT hz y9;go_simp;obtain⟨j1,j2⟩:=HJ.out;exact ab.out undef _ _ rfl j2 j1 (fun _=>j2)
  (refine Aj.Ad rfl rfl ?_ ?_ ?_;rotate_left;(focus(intro w5 hI _;obtain⟨m5,m6,m7,m8,m9,m10,m11,m12,m13⟩:=x8.out w5 hI;clear hI;go_simp;rfl)))
  refine Aj.Ah (a':=?_) ?_ ?_;rotate_left;(focus(simp only[Act.put,aB,aD,aC];rfl));refine Aj.Ak (fun z6 hI hF=>?_);simp only[aN,aS];have p8:=hF _ (aR ..);dsimp only at p8;clear hF;obtain⟨hT,-⟩:=hI;have du:=jK hT;have z7:Below w.heap.size w z6:=(e8.trans (c9.out.mono e8.size)).trans (hT.below (aV e8.size c9.out.size) fun k U=>by have n9:k=W0.heap.size:=U;omega);have ae:=jK z7;have af:=jK p8;have a6:∀ {u:Value} {e k n xs},W9.ownsRow I.heap.size e k u n xs->z6.ownsRow I.heap.size e k u n xs:=fun ho=>hT.own ho fun b hb e=>by
   have:=(Bd ho hb).2;have n9:b=W0.heap.size:=e;omega
  have ag:=jK (a6 H9.out.Ag);have ah:=jK (a6 H9.out.Ac);have ai:=jK (a6 H9.out.queue);have aj:=jK (a6 H9.out.Ao);clear hT z7 p8 a6;go_wp2
  (try simp only[Exit.inBlock,Exit.then])
  refine aI (Ge rfl rfl (gJ _ _ _ _ _ _ _ af.out underlying32 rfl (by kernel_rfl))) rfl ?_;rw[V5.out];refine⟨.slice cA J.Ag.length cc,.slice none 0 0,.slice xA J.Ac.length xc,.slice qA J.queue.length qc,.slice zA J.Ao.length zc,?_,⟨?_,?_,?_,?_⟩,?_,ae.out⟩
  ·show Ending.returned _=Ending.returned (.tuple #[.agg #[_,_,_,_,.int .i64 0,.int .i64 0,.int .i64 J.status,.int .i64 J.lost],_]);rw[W8.out,aa.out];rfl
  ·rw[<-W2.out];exact BD.GM ag.out (by omega)
  ·exact⟨none,0,0,rfl,rfl,by omega,fun i hi=>absurd hi (by simp[Jw])⟩
  ·rw[<-W4.out];exact D1 ah.out (show J.Ac.length<=1000000 by omega)
  ·rw[<-W6.out];exact AE.BL ai.out (show J.queue.length<=9223372036854775807 by omega)
  ·rw[<-W7.out];exact AE.BL aj.out (by omega)
def Z5:Value:=.agg #[.slice none 0 0,.slice none 0 0,.slice none 0 0,.slice none 0 0,.int .i64 0,.int .i64 0,.int .i64 0,.int .i64 0]
theorem U4 (c:Q.Af) (ev vv sv tv:Value) (w:World) (h:AQ w w.heap.size ev vv sv tv c) (hE:DL c≠0) (f:Fit c) (hn:c.vars.length<=4398046511104/\c.Aa.length<=4398046511104) :
  Calls prog 15 #[BZ c.name ev vv sv tv] w fun e w'=>e=.returned (.tuple #[Z5,.slice none 0 0])/\Below w.heap.size w w':=by
 obtain⟨EA,ec,rfl,c5,c6⟩:=h.events.form;obtain⟨VA,b1,rfl,c8,c9⟩:=h.vars.form;obtain⟨SA,sc,rfl,e4,e5⟩:=h.Aa.form;obtain⟨TA,tc,rfl,e8,e9⟩:=h.trans.form;obtain⟨J,e0⟩:∃J,w.alloc (.cells #[.string c.name,.slice EA c.events.length ec,.slice VA c.vars.length b1,.slice SA c.Aa.length sc,.slice TA c.trans.length tc] 27)=J:=⟨_,rfl⟩;obtain⟨a6,s0,h0,p0,p1,p2,p3,p4⟩:=Bl h e0;obtain⟨W1,e1⟩:∃W1,J.alloc (.cells #[.slice none 0 0,.slice none 0 0,.slice none 0 0,.slice none 0 0,.int .i64 0,.int .i64 0,.int .i64 0,.int .i64 0] 32)=W1:=⟨_,rfl⟩;obtain⟨I,s1,kZ⟩:=Bi _ _ _ e1;have h1:=h0.on I;have h3:w.heap.size<W1.heap.size:=by omega
 have p:w.heap.size<J.heap.size:=by omega
 have b2:J.heap.size<W1.heap.size:=by omega
 obtain⟨o,-⟩:=Ae I;have q0:=(o _ 0 p).trans p0;have q1:=(o _ 1 p).trans p1;have q2:=(o _ 2 p).trans p2;have q3:=(o _ 3 p).trans p3;have q4:=(o _ 4 p).trans p4;have U:=Ju c c.name _ _ _ _ W1 h1 rfl f hn;have R:=Ab a6 I;have HZ:=jK kZ;have b3:=Bc hE;obtain⟨ce,a8⟩:∃ce,DL c=ce:=⟨_,rfl⟩;rw[a8]at U b3;clear s0 s1 kZ p0 p1 p2 p3 p4 o a6 I h0 h hE a8 hn;go_enter func15,ntmps15;go_wp2_with fail;(with_reducible refine U.mono ?_);rintro e w2⟨rfl,a1⟩;have b0:=jK (Ab R a1);have j:=HZ.out.below a1 b2;have zl:=j.lt;have x0:=j.cell 0;have x1:=j.cell 1;have x2:=j.cell 2;have x3:=j.cell 3;have x4:=j.cell 4;have x5:=j.cell 5;have x6:=j.cell 6;have x7:=j.cell 7;have i6:=j.frozen 0;have i7:=j.frozen 1;have j0:=j.frozen 2;have j1:=j.frozen 3;have j2:=j.frozen 4;have j3:=j.frozen 5;have j4:=j.frozen 6;have j5:=j.frozen 7;have HM:=jK (ZaN (Touch.refl (fun k=>k=J.heap.size) w2) j (.slice none 0 0) (.slice none 0 0) (.slice none 0 0) (.slice none 0 0) (.int .i64 0) (.int .i64 0) (.int .i64 0) (.int .i64 0));have j6:w.heap.size<=J.heap.size:=by omega
 clear e0 e1 q0 q1 q2 q3 q4 U h1 a1 R j;go_wp2
 (try simp only[Exit.inBlock,Exit.then])
 refine aI (Ge rfl rfl (gJ _ _ _ _ _ _ _ HM.out.2 underlying32 rfl (by kernel_rfl))) rfl ?_;exact⟨rfl,b0.out.trans (HM.out.1.1.below b0.out.size fun k hk=>by have j8:k=J.heap.size:=hk;omega)⟩
end
end Go.Proofs.YthbihnpoghlfaaaGreatDoor
