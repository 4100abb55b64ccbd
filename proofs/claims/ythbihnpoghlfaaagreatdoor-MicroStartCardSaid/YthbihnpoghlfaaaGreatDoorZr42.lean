import Derived.Test.YthbihnpoghlfaaaGreatDoorZr38
import Derived.Test.YthbihnpoghlfaaaGreatDoorZr41
set_option linter.unusedVariables false
set_option linter.unusedSimpArgs false
set_option maxHeartbeats 8000000
set_option maxRecDepth 100000
namespace Go.Proofs.YthbihnpoghlfaaaGreatDoor
open Go.Proofs.Tryz
section
open Go.RowKit Q Go.Lib
theorem Uo (c:Q.Af) (ev vv sv tv:Value) (w:World) (h:AQ w w.heap.size ev vv sv tv c) (v:Valid c) (f:Fit c) :
  Calls prog 17 #[BZ c.name ev vv sv tv] w fun e w'=>∃cv pv xv qv zv,e=.returned (.tuple #[VJ cv pv xv qv (Jw (Cw c)),zv])/\Gd w' w'.heap.size cv pv xv qv (Jw (Cw c))/\AE w' w'.heap.size zv (Cw c).Ao/\Below w.heap.size w w':=by
 obtain⟨j0,qz,qs,v7,v8⟩:=dC Hp;obtain⟨EA,ec,rfl,ak,al⟩:=h.events.form;obtain⟨VA,e2,rfl,an,w0⟩:=h.vars.form;obtain⟨SA,sc,rfl,ao,ap⟩:=h.Aa.form;obtain⟨TA,tc,rfl,aq,ar⟩:=h.trans.form;have n1:=v.events;have n2:=v.vars;have n3:=v.Aa;have n4:=v.trans;obtain⟨W0,e0⟩:∃W0,w.alloc (.cells #[.string c.name,.slice EA c.events.length ec,.slice VA c.vars.length e2,.slice SA c.Aa.length sc,.slice TA c.trans.length tc] 27)=W0:=⟨_,rfl⟩;obtain⟨o4,s0,h0,p0,p1,p2,p3,p4⟩:=Bl h e0;obtain⟨o,e1⟩:∃o,W0.alloc (.cells #[.slice none 0 0,.slice none 0 0,.slice none 0 0,.slice none 0 0,.int .i64 0,.int .i64 0,.int .i64 0,.int .i64 0] 32)=o:=⟨_,rfl⟩;obtain⟨h7,s1,kZ⟩:=Bi _ _ _ e1;have h2:=h0.on h7;have b5:w.heap.size<o.heap.size:=by omega
 have e4:w.heap.size<W0.heap.size:=by omega
 have o5:W0.heap.size<o.heap.size:=by omega
 obtain⟨c1,-⟩:=Ae h7;have r0:=(c1 _ 0 e4).trans p0;have r1:=(c1 _ 1 e4).trans p1;have r2:=(c1 _ 2 e4).trans p2;have r3:=(c1 _ 3 e4).trans p3;have r4:=(c1 _ 4 e4).trans p4;have e5:=Ab o4 h7;have w1:=jK kZ;have o6:=jK (Sl v f);have HV:=jK v;clear s0 s1 kZ p0 p1 p2 p3 p4 c1 o4 h7 h0 h;obtain⟨W3,e3⟩:∃W3,o.alloc (.cells #[.string c.name,.slice EA c.events.length ec,.slice VA c.vars.length e2,.slice SA c.Aa.length sc,.slice TA c.trans.length tc,.slice none 0 0,.slice none 0 0,.slice none 0 0,.slice none 0 0,.int .i64 0,.int .i64 0,.int .i64 0,.int .i64 0,.slice none 0 0] 82)=W3:=⟨_,rfl⟩;have j7:=Ay.new (B:=o.heap.size) ⟨c.name,.slice EA c.events.length ec,.slice VA c.vars.length e2,.slice SA c.Aa.length sc,.slice TA c.trans.length tc,.slice none 0 0,0,0⟩ (aL _) e3;obtain⟨o7,s3,-⟩:=Bi _ _ _ e3;have o8:=jK j7;have w8:=jK o7;clear s3 j7 o7;go_enter func17,ntmps17;go_wp2;clear e0 e1 e3
 go_loopw [5] (fun u wr=>∃(k:Nat) (R:RV),k<=c.vars.length/\u=.int .i64 (k:Int)/\Ay wr o.heap.size o.heap.size 82 ⟨c.name,.slice EA c.events.length ec,.slice VA c.vars.length e2,.slice SA c.Aa.length sc,.slice TA c.trans.length tc,.slice none 0 0,0,0⟩ R [] ⟨[],(c.vars.take k).map Q.Var.init,[],0,0,[]⟩/\Below o.heap.size o wr) (fun u _=>c.vars.length-(intOf u).toNat)
 case atStart=>exact⟨0,Z0,by omega,rfl,o8.out,w8.out⟩
 case round=>
  obtain⟨k,R,U,rfl,a6,hb⟩:=hrel;obtain⟨c2,-⟩:=Ae hb;have g2:=(c2 _ 2 b5).trans r2;by_cases k2:k<c.vars.length
  ·have aA:(k:Int)<(c.vars.length:Int):=by omega
   obtain⟨ad,rfl,o9⟩:=w0 k k2;replace o9:ad.block<o.heap.size:=Nat.lt_trans o9 b5;have w9:=(h2.on hb).vars;have x8:=jK (Pw c k2);have j9:∀I,Below wr.heap.size wr I\/Below o.heap.size wr I->I.cell? {block:=(ad.add (k*7)).block,off:=(ad.add (k*7)).off+4}=some (.int .i64 c.vars[k].init.kind)/\I.cell? {block:=(ad.add (k*7)).block,off:=(ad.add (k*7)).off+5}=some (.int .i64 c.vars[k].init.a)/\I.cell? {block:=(ad.add (k*7)).block,off:=(ad.add (k*7)).off+6}=some (.int .i64 c.vars[k].init.b)/\I.cell? ⟨w.heap.size,2,none⟩=some (.slice (some ad) c.vars.length e2):=fun I h3=>by
    have h4:Below o.heap.size o I:=hb.trans (h3.elim (fun h=>h.mono hb.size) id);obtain⟨_,_,_,_,v4,v5,v6⟩:=BK.at_ (h2.on h4).vars k2;exact⟨v4,v5,v6,((Ae h4).1 _ 2 b5).trans r2⟩
   have p5:((c.vars.take k).map Q.Var.init).length=k:=by rw[bG,bF];omega
   generalize c.vars[k]=x0 at *;obtain⟨d,hd⟩:∃d:Wk,(⟨[],(c.vars.take k).map Q.Var.init,[],0,0,[]⟩:Wk)=d:=⟨_,rfl⟩;rw[hd]at a6;have k3:d.Ac=(c.vars.take k).map Q.Var.init:=by rw[<-hd]
   have T7:d.Ac.length<=1000:=by rw[k3,p5];omega
   have HD:=jK hd;have bb:=jK k3;clear hd k3 p5;have b8:=a6.Ac;obtain⟨vA,vc,k4⟩:=Al b8;have p6:R.vV.ownBlock≠some o.heap.size:=Ay.L7 a6 (i:=1) rfl;have e6:∀I,Touch (fun k=>R.vV.ownBlock=some k) wr I->I.cell? ⟨o.heap.size,7,none⟩=some (.slice vA d.Ac.length vc):=fun I ht=>by
    rw[<-k4];exact(ht.Bq a6.Bq p6).cell 7
   have V1:=a6.Bq.lt;have k5:=hb.size;have k6:∀I,Touch (fun k=>R.vV.ownBlock=some k) wr I->_:=fun I ht=>j9 I (.inr (ht.below k5 fun k U=>(Bd b8 U).2))
   have e7:=jK a6;have e8:=jK b8;have k7:=jK k4;have y8:=jK hb;obtain⟨x,hx⟩:∃x,x0.init=x:=⟨_,rfl⟩;simp only[hx]at k6;have HX:=jK hx;clear hx a6 hb b8 k4 p6 w9 j9;go_upto_region 5 with(fail)
   refine RegP.AM 17 [(12,NT wr x),(13,ZO wr o.heap.size R.vV d.Ac.length ((d.Ac++[x]).flatMap BU))] [12,13] (fun w'=>Touch (fun k=>R.vV.ownBlock=some k) wr w') (Qe wr 12 13) (fun _ _=>False) (fun _ wa wb=>Touch (fun k=>R.vV.ownBlock=some k) wa wb) (by kernel_rfl) (by kernel_rfl) (by kernel_rfl) rfl (by kernel_rfl) (by kernel_rfl) (fun _ _ _ _ _ h=>h.elim) ((Touch.refl _ _).drewN 1) ?hpre (by decide) ?_
   case hpre=>
    intro k U;have k8:k=12:=by simpa using U.symm
    subst k8;exact(Touch.refl _ _).drewN 1
   simp only[aM,aT]
   iterate 12 (refine RegP.Ad rfl rfl ?_ ?_ ?_;rotate_left;(focus(intro I hI _;have z6:=e6 _ hI;obtain⟨p7,p8,p9,q0⟩:=k6 _ hI;clear hI;go_simp;rfl)))
   simp only[Act.put,aB,aD,aC];refine RegP.Bh rfl rfl (fun _ _ _ _ _ _ hs h=>h.keep e8.out hs) (fun I hI hP _ KK k9=>?_) (fun v9=>?_)
   ·have c6:Touch (fun _=>False) wr I:=hP;have l0:=(aJ I.heap.size I).alloc (aL _) (.cells #[.int .i64 x.kind,.int .i64 x.a,.int .i64 x.b] 60);have HA:=jK (show NT wr x (.slice (some ⟨I.heap.size,0,none⟩) 1 1) (I.alloc (.cells #[.int .i64 x.kind,.int .i64 x.a,.int .i64 x.b] 60))from⟨_,rfl,c6.size,Bw.new _ _ _⟩);have z8:=jK (show Qe wr 12 13 13 (I.alloc (.cells #[.int .i64 x.kind,.int .i64 x.a,.int .i64 x.b] 60))from c6.trans (Touch.AK (S:=fun _=>False) l0) (fun _ h=>h.elim));clear hP;go_simp;exact k9 _ _ _ (by go_simp) HA.out (hI.trans (Touch.AK (S:=fun _=>False) l0) (fun _ h=>h.elim)) (Touch.AK l0) z8.out
   refine RegP.Bh rfl rfl (fun j v wa wb hj A0 _ _=>(A0 (by simp only[Aj.KE];rw[if_neg (by omega),if_neg (by omega)])).elim) (fun I hI hP hF KK k9=>?_) (fun v10=>?_)
   ·have c6:Touch (fun _=>False) wr I:=hP;have f9:=hF _ (aR ..) (by kernel_rfl);dsimp only at f9;obtain⟨g,rfl,hg,A1⟩:=f9;have a1:=c6.own e8.out (fun _ _ h=>h);have A2:Reads I (g+1) 3 (some ⟨g,0,none⟩) 1 (BU x):=⟨rfl,fun _=>⟨_,rfl,eB _,fun j u hu=>by
     rw[show(⟨g,0,none⟩:Addr).add j=⟨g,j,none⟩by unfold Addr.add;split<;>simp_all,A1.cell j];simpa[BU]using hu⟩⟩
    have V7:o.heap.size<=I.heap.size:=aV k5 c6.size;rw[k7.out]at a1;clear hF hP;refine C0 _ _ _ _ rfl o.heap.size 60 j0 _ 3 24 underlying30 qz qs v7 v8 rfl (by decide) _ _ _ (by go_simp) a1 _ (some ⟨g,0,none⟩) 1 1 _ (by go_simp) A2 (fun u hu=>by simp only[BU,bJ,eS,iG]at hu;rcases hu with rfl|rfl|rfl<;>rfl) ?c3 ?c4 ?c5 ?_
    case c3=>unfold maxLen;omega
    case c4=>omega
    case c5=>omega
    intro v' w4 l2 q2 e9;rw[<-k7.out]at q2 e9;have q3:Touch (fun k=>R.vV.ownBlock=some k) I w4:=Touch.Dt q2 (fun k h=>h);refine k9 v' _ _ (by go_simp) ⟨by rw[eO,eQ];exact l2,fun k U=>?_⟩ (hI.trans q3 (fun k h=>.inl h)) q3 trivial;rcases e9 with h|h
    ·exact .inl (h.symm.trans U)
    ·rw[h]at U;injection U with U
     have:=c6.size;exact .inr (by omega)
   iterate 3 (refine RegP.Ad rfl rfl ?_ ?_ ?_;rotate_left;(focus(intro I hI _;have z6:=e6 _ hI;obtain⟨p7,p8,p9,q0⟩:=k6 _ hI;clear hI;go_simp;rfl)))
   simp only[Act.put,aB,aD,aC];refine RegP.Ak (fun I hI hF=>?_);have f10:=hF _ (aR ..);dsimp only at f10;obtain⟨a1,e9⟩:=f10;clear hF;simp only[aN,aS];obtain⟨A',c',rfl⟩:=Al a1;obtain⟨k1,-,-,b9⟩:=e7.out.RY (x:=x) hI a1 e9;have g1:I.cell? ⟨o.heap.size,7,none⟩=some (.slice vA d.Ac.length vc):=by rw[<-k7.out];exact b9.cell 7
   have z1:=b9.frozen 7;have l1:=b9.lt;have q4:Below o.heap.size o I:=y8.out.trans (hI.below k5 fun k U=>(Bd e8.out U).2);have q5:=jK k1;have c7:=jK (q4.setCell (p:=⟨o.heap.size,7,none⟩) e7.out.base (.slice A' (d.Ac.length+1) c'));clear k1 b9 a1 e9 hI q4;go_wp2;refine RegP.Qg.normal ?_;go_wp2;go_roundw
   case rel=>exact⟨k+1,_,by omega,by go_num,by
     rw[show(⟨[],(c.vars.take (k+1)).map Q.Var.init,[],0,0,[]⟩:Wk)={d with Ac:=d.Ac++[x]}by rw[<-HD.out,x8.out,HX.out]];exact q5.out,c7.out⟩
   case measure=>simp[intOf];omega
  obtain rfl:k=c.vars.length:=by omega
  have bj:¬(c.vars.length:Int)<(c.vars.length:Int):=by omega
  rw[bT]at a6;obtain⟨d0,i6⟩:∃d0:Wk,(⟨[],c.vars.map Q.Var.init,[],0,0,[]⟩:Wk)=d0:=⟨_,rfl⟩;have c0:=o6.out;have b1:d0.Ag=[]:=by rw[<-i6]
  rw[i6]at a6 c0;have A3:=jK i6;have g0:=(c2 _ 0 b5).trans r0;have g1:=(c2 _ 1 b5).trans r1;have g3:=(c2 _ 3 b5).trans r3;have g4:=(c2 _ 4 b5).trans r4;have hr:=h2.on hb;have q6:=QC c c.name _ _ _ _ wr hr HV.out;have e7:=jK a6;have A4:=jK hb;have i7:=hb.size;have HC:=jK (h2.below hb);clear i6 a6 hb c2 hr;go_wp2_with fail;(with_reducible refine q6.mono ?_);rintro e w6⟨V6,rfl,j3,j4⟩;obtain⟨LA,lc,rfl⟩:=Al j4;have h1:=e7.out.below j3;have A8:=aV i7 j3.size;have l3:=HC.out.below (j3.mono i7);have q7:=TH HV.out (m:=0) (by omega) (CO c) _ (.slice none 0 0) w6 h1 A8 l3 c0 HV.out.GX (fun j hj=>HV.out.FA hj) (by rw[b1];exact HV.out.OX) (by rw[b1];simp) (by rw[b1];intro j hj;cases hj) (Bk j4 i7) (fun k U hf=>by
   have h8:=(e7.out.Dx hf).2;have h9:=(Bd j4 U).2;omega) (fun k _ U=>by cases U) HV.out.IK (by rw[b1];exact bL _ _ _ _) (fun k U=>by cases U)
  have W2:=jK h1;have A9:=jK (A4.out.trans (j3.mono i7));have bn:=jK l3;clear h1 l3 q6 g0 g1 g2 g3 g4 j4;go_wp2_with fail;(with_reducible refine q7.mono ?_);rintro e W9⟨rfl,⟨R9,h9⟩,q9⟩;obtain⟨dE,r5⟩:∃dE,Wk.enter c d0 (CO c)=dE:=⟨_,rfl⟩;have hlen:=Pq c d0 (CO c) (by rw[b1];simp);have b2:=c0.enter HV.out (CO c) (fun i hi=>HV.out.FA hi);rw[r5]at h9 hlen b2;have h6:(Wk.settle c dE).Ag=dE.Ag:=by unfold Wk.settle;split<;>rfl
  have j5:(Wk.settle c dE).Ac=dE.Ac/\(Wk.settle c dE).queue=dE.queue/\(Wk.settle c dE).Ao=dE.Ao:=by unfold Wk.settle;split<;>exact⟨rfl,rfl,rfl⟩
  have b6:Wk.settle c dE=Cw c:=by
   unfold Cw;rw[<-r5,<-A3.out]
  have bo:=hlen;have B0:(Cw c).Ac.length<=1000:=by rw[<-b6,j5.1,b2.Ac];omega
  have E0:(Cw c).queue.length<=16:=by rw[<-b6,j5.2.1];exact b2.queue
  have E1:(Cw c).Ao.length<=1000:=by
   have:=b2.Ao;have:=HV.out.IK;rw[<-b6,j5.2.2];omega
  rw[b6]at h9;rw[<-h6,b6]at h9;have F0:(Cw c).Ag.length<=1000:=by rw[<-b6,h6];omega
  have c7:=jK (A9.out.trans q9);have F1:=jK (show ∃y0 y1 y2 y3 y4 y5 y6 y7,Bw W9 W0.heap.size 32 #[y0,y1,y2,y3,y4,y5,y6,y7]from⟨_,_,_,_,_,_,_,_,w1.out.below c7.out o5⟩);obtain⟨J,l4⟩:∃J,Cw c=J:=⟨_,rfl⟩;rw[l4]at h9 B0 E0 E1 F0;have F2:=jK l4;obtain⟨cA,cc,l5⟩:=Al h9.Ag;obtain⟨xA,xc,l6⟩:=Al h9.Ac;obtain⟨qA,qc,l7⟩:=Al h9.queue;obtain⟨zA,zc,l8⟩:=Al h9.Ao;have F3:o.heap.size≠W0.heap.size:=by omega
  have r6:=jK (show ∀w5,X4 W9 W0.heap.size w5->w5.cell? ⟨o.heap.size,5,none⟩=some (.slice cA J.Ag.length cc)/\w5.cell? ⟨o.heap.size,6,none⟩=some (.slice none 0 0)/\w5.cell? ⟨o.heap.size,7,none⟩=some (.slice xA J.Ac.length xc)/\w5.cell? ⟨o.heap.size,8,none⟩=some (.slice qA J.queue.length qc)/\
    w5.cell? ⟨o.heap.size,9,none⟩=some (.int .i64 0)/\w5.cell? ⟨o.heap.size,10,none⟩=some (.int .i64 0)/\w5.cell? ⟨o.heap.size,11,none⟩=some (.int .i64 J.status)/\w5.cell? ⟨o.heap.size,12,none⟩=some (.int .i64 J.lost)/\w5.cell? ⟨o.heap.size,13,none⟩=some (.slice zA J.Ao.length zc)from fun w5 hI=>by
   have U:=hI.1.Bq h9.Bq F3;rw[<-l5,<-l6,<-l7,<-l8];exact⟨U.cell 5,U.cell 6,U.cell 7,U.cell 8,U.cell 9,U.cell 10,U.cell 11,U.cell 12,U.cell 13⟩)
  have H9:=jK h9;have F5:=jK l5;have F7:=jK l6;have F8:=jK l7;have F9:=jK l8;have bp:W0.heap.size<W9.heap.size:=aK o5 c7.out.size;generalize r7:J.status=dst at *;generalize r8:J.lost=j6 at *;have G1:=jK r7;have G2:=jK r8;clear h9 q9 q7 l5 l6 l7 l8 b6 j5 h6 l4 b2 hlen c0 r7 r8;go_upto_region 7 with(fail)
  refine Aj.AM 10 [(8,fun _ w'=>Bw w' W0.heap.size 32 #[.slice cA J.Ag.length cc,.slice none 0 0,.slice xA J.Ac.length xc,.slice qA J.queue.length qc,.int .i64 0,.int .i64 0,.int .i64 dst,.int .i64 j6])] (X4 W9 W0.heap.size) (fun w w'=>Bw w W0.heap.size 32 #[.slice cA J.Ag.length cc,.slice none 0 0,.slice xA J.Ac.length xc,.slice qA J.queue.length qc,.int .i64 0,.int .i64 0,.int .i64 dst,.int .i64 j6]->Bw w' W0.heap.size 32 #[.slice cA J.Ag.length cc,.slice none 0 0,.slice xA J.Ac.length xc,.slice qA J.queue.length qc,.int .i64 0,.int .i64 0,.int .i64 dst,.int .i64 j6]) (by kernel_rfl) (by kernel_rfl) (by kernel_rfl) (by kernel_rfl) (fun _ _ d _ _ h=>by cases d<;>exact h) ⟨(Touch.refl _ _).drewN 1,F1.out⟩ ?_;simp only[aM,aT]
  iterate 8 (refine Aj.Ad rfl rfl ?_ ?_ ?_;rotate_left;(focus(intro w5 hI _;obtain⟨m5,m6,m7,m8,m9,m10,m11,m12,m13⟩:=r6.out w5 hI;clear hI;go_simp;rfl)))
  refine Aj.Ah (a':=?_) ?_ ?_;rotate_left;(focus(simp only[Act.put,aB,aD,aC];rfl));refine Aj.Bh rfl (by kernel_rfl) (fun _ _ _ hs h=>hs h) (fun w5 hI _ K' r9=>?_) (fun v=>?_)
  ·obtain⟨hT,y0,y1,y2,y3,y4,y5,y6,y7,hz⟩:=hI;have zl:=hz.lt;have x0:=hz.cell 0;have x1:=hz.cell 1;have x2:=hz.cell 2;have x3:=hz.cell 3;have x4:=hz.cell 4;have x5:=hz.cell 5;have x6:=hz.cell 6;have x7:=hz.cell 7;have bq:=hz.frozen 0;have br:=hz.frozen 1;have bs:=hz.frozen 2;have bt:=hz.frozen 3;have bu:=hz.frozen 4;have bw:=hz.frozen 5;have bx:=hz.frozen 6;have bz:=hz.frozen 7;have HJ:=jK (ZaN hT hz (.slice cA J.Ag.length cc) (.slice none 0 0) (.slice xA J.Ac.length xc) (.slice qA J.queue.length qc) (.int .i64 0) (.int .i64 0) (.int .i64 dst) (.int .i64 j6));have H0:=jK r9;clear hT hz r9;go_simp;obtain⟨j1,j2⟩:=HJ.out;exact H0.out undef _ _ rfl j2 j1 (fun _=>j2)
  (refine Aj.Ad rfl rfl ?_ ?_ ?_;rotate_left;(focus(intro w5 hI _;obtain⟨m5,m6,m7,m8,m9,m10,m11,m12,m13⟩:=r6.out w5 hI;clear hI;go_simp;rfl)))
  refine Aj.Ah (a':=?_) ?_ ?_;rotate_left;(focus(simp only[Act.put,aB,aD,aC];rfl));refine Aj.Ak (fun s4 hI hF=>?_);simp only[aN,aS];have n0:=hF _ (aR ..);dsimp only at n0;clear hF;obtain⟨hT,-⟩:=hI;have cb:=jK hT;have s5:Below w.heap.size w s4:=(e5.trans (c7.out.mono e5.size)).trans (hT.below (aV e5.size c7.out.size) fun k U=>by have k8:k=W0.heap.size:=U;omega);have H2:=jK s5;have H3:=jK n0;have a7:∀ {u:Value} {e k n xs},W9.ownsRow o.heap.size e k u n xs->s4.ownsRow o.heap.size e k u n xs:=fun ho=>hT.own ho fun b hb e=>by
   have:=(Bd ho hb).2;have k8:b=W0.heap.size:=e;omega
  have H4:=jK (a7 H9.out.Ag);have H5:=jK (a7 H9.out.Ac);have H6:=jK (a7 H9.out.queue);have H7:=jK (a7 H9.out.Ao);clear hT s5 n0 a7;go_wp2
  (try simp only[Exit.inBlock,Exit.then])
  refine aI (Ge rfl rfl (gJ _ _ _ _ _ _ _ H3.out underlying32 rfl (by kernel_rfl))) rfl ?_;rw[F2.out];refine⟨.slice cA J.Ag.length cc,.slice none 0 0,.slice xA J.Ac.length xc,.slice qA J.queue.length qc,.slice zA J.Ao.length zc,?_,⟨?_,?_,?_,?_⟩,?_,H2.out⟩
  ·show Ending.returned _=Ending.returned (.tuple #[.agg #[_,_,_,_,.int .i64 0,.int .i64 0,.int .i64 J.status,.int .i64 J.lost],_]);rw[G1.out,G2.out];rfl
  ·rw[<-F5.out];exact BD.GM H4.out (by omega)
  ·exact⟨none,0,0,rfl,rfl,by omega,fun i hi=>absurd hi (by simp[Jw])⟩
  ·rw[<-F7.out];exact D1 H5.out (show J.Ac.length<=1000000 by omega)
  ·rw[<-F8.out];exact AE.BL H6.out (show J.queue.length<=9223372036854775807 by omega)
  ·rw[<-F9.out];exact AE.BL H7.out (by omega)
end
end Go.Proofs.YthbihnpoghlfaaaGreatDoor
