import Derived.Test.YthbihnpoghlfaaaGreatDoorZr44
set_option linter.unusedVariables false
set_option linter.unusedSimpArgs false
set_option maxHeartbeats 8000000
set_option maxRecDepth 100000
namespace Go.Proofs.YthbihnpoghlfaaaGreatDoor
open Go.Proofs.Tryz
section
open Go.RowKit Q Go.Lib
theorem IC (e:Int) (l:List Int):Av (CN true e::l)=Av l:=by
 rw[show CN true e=0 from rfl,Av,if_pos rfl]
theorem IQ {e:Int} (he:e≠0) (l:List Int):Av (CN false e::l)=e:=by
 rw[show CN false e=e from rfl,Av,if_neg he]
theorem GI {e:Int} (he:e=0) (l:List Int):Av (e::l)=Av l:=by
 rw[Av,if_pos he]
theorem Cc {e:Int} (he:e≠0) (l:List Int):Av (e::l)=e:=by
 rw[Av,if_neg he]
theorem Sb {s:ByteArray} (h:Bv s=true):s.size<=12:=by
 unfold Bv I8 at h;show s.data.size<=12;split at h
 ·cases h
 ·rename_i a l e;simp only[aG,aP]at h;rw[<-bS];exact h.1.1.1
theorem Xs {l:List Q.Var} {k:Nat} (j:k<l.length):(l.take (k+1)).map Q.Var.name=(l.take k).map Q.Var.name++[l[k].name]:=by
 rw[bM j,bN];rfl
theorem QG (c:Q.Af) (nm:ByteArray) (ev vv sv tv:Value) (w:World) (h:AQ w w.heap.size ev vv sv tv c) (A1:nm=c.name) (f:Fit c) :
  Calls prog 26 #[BZ nm ev vv sv tv] w fun e w'=>e=.returned (.int .i64 (DL c))/\Below w.heap.size w w':=by
 obtain⟨i0,A2,A3,A4,A8⟩:=dC BX;obtain⟨EA,ec,rfl,V2,V5⟩:=h.events.form;obtain⟨VA,vc,rfl,W1,r8⟩:=h.vars.form;obtain⟨SA,sc,rfl,W2,E0⟩:=h.Aa.form;obtain⟨TA,tc,rfl,W3,W4⟩:=h.trans.form;subst A1;obtain⟨W0,e0⟩:∃W0,w.alloc (.cells #[.string c.name,.slice EA c.events.length ec,.slice VA c.vars.length vc,.slice SA c.Aa.length sc,.slice TA c.trans.length tc] 27)=W0:=⟨_,rfl⟩;obtain⟨r9,s0,h0,p0,p1,p2,p3,p4⟩:=Bl h e0;have s3:c.AN.length=c.vars.length:=bG _;have s4:c.An.length=c.Aa.length:=bG _;have U:w.heap.size<W0.heap.size:=by omega
 have E1:Hid (Du W0 W0.heap.size w.heap.size c.name (.slice EA c.events.length ec) (.slice VA c.vars.length vc) (.slice SA c.Aa.length sc) (.slice TA c.trans.length tc) c):=jK ⟨U,h0,p0,p1,p2,p3,p4⟩;have s5:=jK r9;have s6:=jK s3;have s7:=jK s4;obtain⟨l1,o8⟩:∃l1,(decide (c.events.length<=12)&&decide (c.vars.length<=8)&&decide (c.Aa.length<=40)&&decide (c.trans.length<=48))=l1:=⟨_,rfl⟩;obtain⟨l2,l9⟩:∃l2,(c.name::(c.events++(c.AN++c.An))).all Bv=l2:=⟨_,rfl⟩;obtain⟨l3,o9⟩:∃l3,(Q.distinct c.events&&Q.distinct c.AN&&Q.distinct c.An)=l3:=⟨_,rfl⟩;obtain⟨l4,p5⟩:∃l4,decide (Tr.right c.Ar)=l4:=⟨_,rfl⟩;obtain⟨e5,p6⟩:∃e5,Av (c.Aa.mapIdx fun i s=>Ew c i s)=e5:=⟨_,rfl⟩;obtain⟨e6,p7⟩:∃e6,Av (c.vars.map Gc)=e6:=⟨_,rfl⟩;obtain⟨e7,p8⟩:∃e7,Av (c.Aa.map (BB c))=e7:=⟨_,rfl⟩;obtain⟨e8,p9⟩:∃e8,Av (c.trans.mapIdx fun i t=>CR c i t)=e8:=⟨_,rfl⟩;obtain⟨r,q0⟩:∃r,DL c=r:=⟨_,rfl⟩;have hR:Av [CN l1 4,CN l2 2,CN l3 3,CN l4 9,e5,e6,e7,e8]=r:=by
  rw[<-q0,<-o8,<-l9,<-o9,<-p5,<-p6,<-p7,<-p8,<-p9];rfl
 rw[q0];rw[jE,List.all_append,List.all_append]at l9;have HR:=jK hR;have qu:=jK o8;have qw:=jK l9;have F0:=jK o9;have qx:=jK p5;have qy:=jK p6;have qz:=jK p7;have h7:=jK p8;have qs:=jK p9;clear hR o8 l9 o9 p5 p6 p7 p8 p9 s3 s4 s0 h h0 r9 q0;go_enter func26,ntmps26;go_upto_region 1 with(fail)
 clear e0
 go_cut [36]from 15 (fun v wx=>v=.bool (!l1)/\W0=wx)
 case first=>
  rcases ZcY qu.out with⟨a1,a⟩|⟨a1,a2,a⟩|⟨a1,a2,a3,a⟩|⟨a1,a2,a3,a4,a⟩|⟨a1,a2,a3,a4,a⟩
  ·have z1:(12:Int)<((c.events.length:Nat):Int):=by omega
   subst a;clear a1;go_wp2;go_meet
   case rel=>exact⟨rfl,rfl⟩
  ·have z1:¬(12:Int)<((c.events.length:Nat):Int):=by omega
   have z2:(8:Int)<((c.vars.length:Nat):Int):=by omega
   subst a;clear a1 a2;go_wp2;go_meet
   case rel=>exact⟨rfl,rfl⟩
  ·have z1:¬(12:Int)<((c.events.length:Nat):Int):=by omega
   have z2:¬(8:Int)<((c.vars.length:Nat):Int):=by omega
   have z3:(40:Int)<((c.Aa.length:Nat):Int):=by omega
   subst a;clear a1 a2 a3;go_wp2;go_meet
   case rel=>exact⟨rfl,rfl⟩
  ·have z1:¬(12:Int)<((c.events.length:Nat):Int):=by omega
   have z2:¬(8:Int)<((c.vars.length:Nat):Int):=by omega
   have z3:¬(40:Int)<((c.Aa.length:Nat):Int):=by omega
   have z4:(48:Int)<((c.trans.length:Nat):Int):=by omega
   subst a;clear a1 a2 a3 a4;go_wp2;go_meet
   case rel=>exact⟨rfl,rfl⟩
  ·have z1:¬(12:Int)<((c.events.length:Nat):Int):=by omega
   have z2:¬(8:Int)<((c.vars.length:Nat):Int):=by omega
   have z3:¬(40:Int)<((c.Aa.length:Nat):Int):=by omega
   have z4:¬(48:Int)<((c.trans.length:Nat):Int):=by omega
   subst a;clear a1 a2 a3 a4;go_wp2;go_meet
   case rel=>exact⟨rfl,rfl⟩
 case rest=>
 obtain⟨rfl,F1⟩:=hcut;subst F1;cases l1 with
 |false=>
  have J:=HR.out;rw[IQ (by decide)]at J;subst J;clear HR;go_wp2;go_ret;exact⟨rfl,s5.out⟩
 |true=>
 obtain⟨hn,W6⟩:(c.events.length<=12/\c.vars.length<=8/\c.Aa.length<=40)/\c.trans.length<=48:=by
  have h9:=qu.out;simp only[aG,aP]at h9;exact⟨⟨h9.1.1.1,h9.1.1.2,h9.1.2⟩,h9.2⟩
 have J:=HR.out;rw[IC]at J;clear HR;have HR:=jK J;clear J;go_wp2
 go_loopw [4,3] (fun v V wr=>∃k:Nat,k<=c.vars.length/\v=.int .i64 (k:Int)/\wr.ownsRow W0.heap.size 9 1 V k (strs ((c.vars.take k).map Q.Var.name))/\Below W0.heap.size W0 wr) (fun v _ _=>c.vars.length-(intOf v).toNat)
 case atStart=>exact⟨0,by omega,rfl,by simpa[strs]using bL _ _ _ _,aJ _ _⟩
 case round=>
  obtain⟨k,hk,rfl,i7,hb⟩:=hrel;have v8:=hb.size;have p:=jK (E1.out.on hb);clear p0 p1 p2 p3 p4 U;have p0:=p.out.p0;have p1:=p.out.p1;have p2:=p.out.p2;have p3:=p.out.p3;have p4:=p.out.p4;have U:=p.out.lt;by_cases b0:k<c.vars.length
  ·have n0:(k:Int)<(c.vars.length:Int):=by omega
   obtain⟨ad,rfl,w0⟩:=r8 k b0;obtain⟨c0,c1,c2,c3,c4,c5,c6⟩:=BK.at_ p.out.at_.vars b0;have F2:=jK (Xs b0);generalize c.vars[k]=x at *;have w1:=BE [x.name];have x0:((c.vars.take k).map Q.Var.name).length=k:=by rw[bG,bF];omega
   generalize (c.vars.take k).map Q.Var.name=M at *;have W7:=jK x0;clear x0;go_wp2_with (at_builtin;refine Ap _ rfl _ _ 22 rfl W0.heap.size 9 i0 _ 1 16 underlying22 A2 A3 A4 A8 rfl (by decide) _ _ _ rfl (i7.alloc _) _ (some ⟨wr.heap.size,0,none⟩) 1 1 _ rfl (Bt wr (.string x.name) 9 _ rfl) w1 ?c3 ?c4 ?c5 ?_)
   case c3=>unfold maxLen;omega
   case c4=>omega
   case c5=>simp;omega
   intro v' w2 k6 x1 _;have F3:Below W0.heap.size W0 w2:=(hb.alloc v8 (.cells #[.string x.name] 9)).grown x1 (by simp;omega) (fun j hj=>(Bd i7 hj).2);have HO:Hid (w2.ownsRow W0.heap.size 9 1 v' (k+1) (strs ((c.vars.take (k+1)).map Q.Var.name))):=jK (by
    rw[F2.out];have:=k6;unfold strs at this⊢;rw[bN];exact this)
   clear k6 x1 i7;go_wp2;go_roundw
   case rel=>
    repeat apply Exists.intro
    exact⟨⟨k+1,by omega,by go_num,HO.out,F3⟩,rfl⟩
   case measure=>simp[intOf];omega
  obtain rfl:k=c.vars.length:=by omega
  have j8:¬(c.vars.length:Int)<(c.vars.length:Int):=by omega
  rw[bT]at i7;have k7:wr.ownsRow W0.heap.size 9 1 u3 c.AN.length (strs c.AN):=by rw[s6.out];exact i7
  have HS:=jK (AE.BL k7 (by rw[s6.out];omega));have x2:=jK (Ab s5.out hb);obtain⟨w3,F7⟩:∃x,x=wr:=⟨_,rfl⟩;subst F7;clear i7 k7 hb v8;go_upto_region 8 with(fail)
  go_cut [73]from 53 (fun v wx=>v=.bool (!l2)/\Below w3.heap.size w3 wx)
  case first=>
   have b9:=Da c.name w3;have j1:=Hx c.events _ w3 p.out.at_.events;have j4:=Hx c.AN _ w3 HS.out;have c7:=Ec c c.name _ _ _ _ true w3 p.out.at_ (by omega);obtain⟨n1,k8⟩:∃b,Bv c.name=b:=⟨_,rfl⟩;obtain⟨n2,k0⟩:∃b,c.events.all Bv=b:=⟨_,rfl⟩;obtain⟨n3,k1⟩:∃b,c.AN.all Bv=b:=⟨_,rfl⟩;obtain⟨n4,q1⟩:∃b,c.An.all Bv=b:=⟨_,rfl⟩;have h2:=qw.out;rw[k8]at b9 h2;rw[k0]at j1 h2;rw[k1]at j4 h2;rw[q1]at h2;have F9:=jK q1;have H2:=jK h2;clear k8 k0 k1 q1 h2;have j5:=(aJ w3.heap.size w3);cases n1
   ·obtain rfl:false=l2:=H2.out;go_wp2_with fail;(with_reducible refine b9.mono ?_);rintro e w'⟨rfl,rfl⟩;go_wp2;go_meet
    case rel=>exact⟨rfl,j5⟩
   cases n2
   ·obtain rfl:false=l2:=H2.out;go_wp2_with fail;(with_reducible refine b9.mono ?_);rintro e w'⟨rfl,rfl⟩;go_wp2_with fail;(with_reducible refine j1.mono ?_);rintro e w'⟨rfl,rfl⟩;go_wp2;go_meet
    case rel=>exact⟨rfl,j5⟩
   cases n3
   ·obtain rfl:false=l2:=H2.out;go_wp2_with fail;(with_reducible refine b9.mono ?_);rintro e w'⟨rfl,rfl⟩;go_wp2_with fail;(with_reducible refine j1.mono ?_);rintro e w'⟨rfl,rfl⟩;go_wp2_with fail;(with_reducible refine j4.mono ?_);rintro e w'⟨rfl,rfl⟩;go_wp2;go_meet
    case rel=>exact⟨rfl,j5⟩
   obtain rfl:n4=l2:=H2.out;go_wp2_with fail;(with_reducible refine b9.mono ?_);rintro e w'⟨rfl,rfl⟩;go_wp2_with fail;(with_reducible refine j1.mono ?_);rintro e w'⟨rfl,rfl⟩;go_wp2_with fail;(with_reducible refine j4.mono ?_);rintro e w'⟨rfl,rfl⟩;go_wp2_with fail;(with_reducible refine c7.mono ?_);rintro e w6⟨V6,rfl,k9,q2⟩;rw[Lx]at q2;have x3:=Hx c.An V6 w6 (AE.BL q2 (by rw[s7.out];omega));rw[F9.out]at x3;clear q2;go_wp2_with fail;(with_reducible refine x3.mono ?_);rintro e w'⟨rfl,rfl⟩;cases n4
   ·go_wp2;go_meet
    case rel=>exact⟨rfl,k9⟩
   ·go_wp2;go_meet
    case rel=>exact⟨rfl,k9⟩
  case rest=>
  obtain⟨rfl,hb⟩:=hcut;have q3:=jK (Ab x2.out hb);cases l2 with
  |false=>
   have J:=HR.out;rw[IQ (by decide)]at J;subst J;clear HR;go_wp2;go_ret;exact⟨rfl,q3.out⟩
  |true=>
  have J:=HR.out;rw[IC]at J;clear HR;have HR:=jK J;clear J;have h8:=jK (p.out.on hb);have x4:=jK (HS.out.on hb);clear hb p HS x2;obtain⟨w4,G2⟩:∃x,x=wc:=⟨_,rfl⟩;subst G2;clear p0 p1 p2 p3 p4 U;have p0:=h8.out.p0;have p1:=h8.out.p1;have p2:=h8.out.p2;have p3:=h8.out.p3;have p4:=h8.out.p4;have U:=h8.out.lt;go_upto_region 10 with(fail)
  go_cut [85]from 74 (fun v wx=>v=.bool (!l3)/\Below w4.heap.size w4 wx)
  case first=>
   have j1:=KS c.events _ w4 h8.out.at_.events;have h3:=F0.out;obtain⟨n1,k8⟩:∃b,Q.distinct c.events=b:=⟨_,rfl⟩;obtain⟨n2,k0⟩:∃b,Q.distinct c.AN=b:=⟨_,rfl⟩;obtain⟨n3,k1⟩:∃b,Q.distinct c.An=b:=⟨_,rfl⟩;rw[k8]at j1 h3;rw[k0,k1]at h3;have H0:=jK k0;have H4:=jK k1;have H3:=jK h3;clear k8 k0 k1 h3;go_wp2_with fail;(with_reducible refine j1.mono ?_);rintro e w5⟨rfl,n9⟩;have b7:=jK (h8.out.on n9);clear p0 p1 p2 p3 p4 U;have p0:=b7.out.p0;have p1:=b7.out.p1;have p2:=b7.out.p2;have p3:=b7.out.p3;have p4:=b7.out.p4;have U:=b7.out.lt;cases n1
   ·obtain rfl:false=l3:=H3.out;go_wp2;go_meet
    case rel=>exact⟨rfl,n9⟩
   have j4:=KS c.AN _ w5 (x4.out.on n9);rw[H0.out]at j4;clear j1;go_wp2_with fail;(with_reducible refine j4.mono ?_);rintro e w6⟨rfl,k9⟩;have o5:=Ab n9 k9;have c8:=jK (b7.out.on k9);clear p0 p1 p2 p3 p4 U;have p0:=c8.out.p0;have p1:=c8.out.p1;have p2:=c8.out.p2;have p3:=c8.out.p3;have p4:=c8.out.p4;have U:=c8.out.lt;cases n2
   ·obtain rfl:false=l3:=H3.out;go_wp2;go_meet
    case rel=>exact⟨rfl,o5⟩
   have c7:=Ec c c.name _ _ _ _ true w6 c8.out.at_ (by omega);clear j4;go_wp2_with fail;(with_reducible refine c7.mono ?_);rintro e w7⟨V7,rfl,H7,q4⟩;have x5:=Ab o5 H7;rw[Lx]at q4;have x6:=KS c.An V7 w7 (AE.BL q4 (by rw[s7.out];omega));rw[H4.out]at x6;clear q4 c7;go_wp2_with fail;(with_reducible refine x6.mono ?_);rintro e w8⟨rfl,c9⟩;have o6:=Ab x5 c9;obtain rfl:n3=l3:=H3.out;cases n3
   ·go_wp2;go_meet
    case rel=>exact⟨rfl,o6⟩
   ·go_wp2;go_meet
    case rel=>exact⟨rfl,o6⟩
  case rest=>
  obtain⟨rfl,hb⟩:=hcut;have q5:=jK (Ab q3.out hb);cases l3 with
  |false=>
   have J:=HR.out;rw[IQ (by decide)]at J;subst J;clear HR;go_wp2;go_ret;exact⟨rfl,q5.out⟩
  |true=>
  have J:=HR.out;rw[IC]at J;clear HR;have HR:=jK J;clear J;have b7:=jK (h8.out.on hb);clear hb h8 x4 q3;obtain⟨w5,H8⟩:∃x,x=wc:=⟨_,rfl⟩;subst H8;clear p0 p1 p2 p3 p4 U;have p0:=b7.out.p0;have p1:=b7.out.p1;have p2:=b7.out.p2;have p3:=b7.out.p3;have p4:=b7.out.p4;have U:=b7.out.lt;have q6:=P0 w5 SA c.Aa.length sc c.Ar (CE b7.out.at_.Aa) f.wf;rw[qx.out]at q6;go_wp2_with fail;(with_reducible refine q6.mono ?_);rintro e w6⟨rfl,hb⟩;have q7:=jK (Ab q5.out hb);cases l4 with
  |false=>
   have J:=HR.out;rw[IQ (by decide)]at J;subst J;clear HR;go_wp2;go_ret;exact⟨rfl,q7.out⟩
  |true=>
  have J:=HR.out;rw[IC]at J;clear HR;have HR:=jK J;have x7:=jK (cV qx.out);clear J;have c8:=jK (b7.out.on hb);clear hb b7 q5 q6;clear p0 p1 p2 p3 p4 U;have p0:=c8.out.p0;have p1:=c8.out.p1;have p2:=c8.out.p2;have p3:=c8.out.p3;have p4:=c8.out.p4;have U:=c8.out.lt;have H9:=jK (show ∀s∈c.Aa,s.name.size<=12 from fun s hs=>Sb (aY.1 (show c.An.all Bv=true by
   have h2:=qw.out;simp only[aG]at h2;exact h2.2.2.2) _ (gH hs)))
  go_wp2
  go_loopw [5] (fun u wr=>∃k:Nat,k<=c.Aa.length/\u=.int .i64 (k:Int)/\(∀j (h:j<c.Aa.length),j<k->Ew c j c.Aa[j]=0)/\Below w6.heap.size w6 wr) (fun u _=>c.Aa.length-(intOf u).toNat)
  case atStart=>exact⟨0,by omega,rfl,fun j _ hj=>absurd hj (by omega),aJ _ _⟩
  case round=>
   obtain⟨k,hk,rfl,hz,hb⟩:=hrel;have HZ:=jK hz;have p:=jK (c8.out.on hb);clear hz p0 p1 p2 p3 p4 U;have p0:=p.out.p0;have p1:=p.out.p1;have p2:=p.out.p2;have p3:=p.out.p3;have p4:=p.out.p4;have U:=p.out.lt;by_cases b0:k<c.Aa.length
   ·have n0:(k:Int)<(c.Aa.length:Int):=by omega
    obtain⟨ce,R⟩:∃ce,Ew c k c.Aa[k]=ce:=⟨_,rfl⟩;have e4:=SM c c.name _ _ _ _ wr p.out.at_ x7.out k b0;rw[R]at e4;have b4:=jK R;clear R;go_wp2_with fail;(with_reducible refine e4.mono ?_);rintro e w9⟨rfl,e9⟩;clear e4;have b1:=Ab hb e9;by_cases I:ce=0
    ·have h1:=Bj I;have h4:=jK (show ∀j (h:j<c.Aa.length),j<k+1->Ew c j c.Aa[j]=0 from fun j hj a6=>by
      rcases bH j k with h9|h9
      ·exact HZ.out j hj h9
      ·obtain rfl:j=k:=by omega
       exact b4.out.trans I)
     clear I;go_wp2;go_roundw
     case rel=>exact⟨k+1,by omega,by go_num,h4.out,b1⟩
     case measure=>simp[intOf];omega
    ·have h1:=Bc I;have J:=HR.out;have o:e5=ce:=by
      rw[<-qy.out,OA b0 (fun j hj a6=>HZ.out j hj a6) (by show Ew c k c.Aa[k]≠0;rw[b4.out];exact I)];exact b4.out
     rw[Cc (by rw[o];exact I),o]at J;subst J;clear I HR o;go_wp2;go_ret;exact⟨rfl,Ab q7.out b1⟩
   obtain rfl:k=c.Aa.length:=by omega
   have j8:¬(c.Aa.length:Int)<(c.Aa.length:Int):=by omega
   have o:e5=0:=by
    rw[<-qy.out];exact LP (fun j hj=>HZ.out j hj hj)
   have J:=HR.out;rw[GI o]at J;clear HR;have HR:=jK J;have x8:=jK (Ab q7.out hb);obtain⟨w7,j6⟩:∃x,x=wr:=⟨_,rfl⟩;subst j6;have x9:=jK p.out;clear J o HZ hb p c8;go_wp2
   go_loopw [7] (fun u wr=>∃k:Nat,k<=c.vars.length/\u=.int .i64 (k:Int)/\(∀j (h:j<c.vars.length),j<k->Gc c.vars[j]=0)/\Below w7.heap.size w7 wr) (fun u _=>c.vars.length-(intOf u).toNat)
   case atStart=>exact⟨0,by omega,rfl,fun j _ hj=>absurd hj (by omega),aJ _ _⟩
   case round=>
    obtain⟨k,hk,rfl,hz,hb⟩:=hrel;have HZ:=jK hz;have p:=jK (x9.out.on hb);clear hz p0 p1 p2 p3 p4 U;have p0:=p.out.p0;have p1:=p.out.p1;have p2:=p.out.p2;have p3:=p.out.p3;have p4:=p.out.p4;have U:=p.out.lt;by_cases b0:k<c.vars.length
    ·have n0:(k:Int)<(c.vars.length:Int):=by omega
     obtain⟨ad,rfl,w0⟩:=r8 k b0;obtain⟨c0,c1,c2,c3,c4,c5,c6⟩:=BK.at_ p.out.at_.vars b0;have q8:=TJ c.vars[k] wr;unfold Nu at q8;obtain⟨ce,R⟩:∃ce,Gc c.vars[k]=ce:=⟨_,rfl⟩;have e4:=q8;clear q8;rw[R]at e4;have b4:=jK R;clear R;go_wp2_with fail;(with_reducible refine e4.mono ?_);rintro e w9⟨rfl,e9⟩;clear e4;have b1:=Ab hb e9;by_cases I:ce=0
     ·have h1:=Bj I;have h4:=jK (show ∀j (h:j<c.vars.length),j<k+1->Gc c.vars[j]=0 from fun j hj a6=>by
       rcases bH j k with h9|h9
       ·exact HZ.out j hj h9
       ·obtain rfl:j=k:=by omega
        exact b4.out.trans I)
      clear I;go_wp2;go_roundw
      case rel=>exact⟨k+1,by omega,by go_num,h4.out,b1⟩
      case measure=>simp[intOf];omega
     ·have h1:=Bc I;have J:=HR.out;have o:e6=ce:=by
       rw[<-qz.out,Cy b0 (fun j hj a6=>HZ.out j hj a6) (by show Gc c.vars[k]≠0;rw[b4.out];exact I)];exact b4.out
      rw[Cc (by rw[o];exact I),o]at J;subst J;clear I HR o;go_wp2;go_ret;exact⟨rfl,Ab x8.out b1⟩
    obtain rfl:k=c.vars.length:=by omega
    have j8:¬(c.vars.length:Int)<(c.vars.length:Int):=by omega
    have o:e6=0:=by
     rw[<-qz.out];exact FU (fun j hj=>HZ.out j hj hj)
    have J:=HR.out;rw[GI o]at J;clear HR;have HR:=jK J;have i1:=jK (Ab x8.out hb);obtain⟨w8,j6⟩:∃x,x=wr:=⟨_,rfl⟩;subst j6;have b2:=jK p.out;clear J o HZ hb p x9;go_wp2
    go_loopw [9] (fun u wr=>∃k:Nat,k<=c.Aa.length/\u=.int .i64 (k:Int)/\(∀j (h:j<c.Aa.length),j<k->BB c c.Aa[j]=0)/\Below w8.heap.size w8 wr) (fun u _=>c.Aa.length-(intOf u).toNat)
    case atStart=>exact⟨0,by omega,rfl,fun j _ hj=>absurd hj (by omega),aJ _ _⟩
    case round=>
     obtain⟨k,hk,rfl,hz,hb⟩:=hrel;have HZ:=jK hz;have p:=jK (b2.out.on hb);clear hz p0 p1 p2 p3 p4 U;have p0:=p.out.p0;have p1:=p.out.p1;have p2:=p.out.p2;have p3:=p.out.p3;have p4:=p.out.p4;have U:=p.out.lt;by_cases b0:k<c.Aa.length
     ·have n0:(k:Int)<(c.Aa.length:Int):=by omega
      obtain⟨ad,rfl,w0⟩:=E0 k b0;obtain⟨uA,uc,zA,zc,c0,c1,c2,c3,c4,c5,q9,r0⟩:=A5 (c:=c) p.out.at_.Aa b0;obtain⟨r1,r2⟩:=f.Ey _ (bK b0);have L0:∃x,c.Aa[k]=x:=⟨_,rfl⟩;obtain⟨x,hx⟩:=L0;rw[hx]at c0 c1 c2 c3 c4 c5 q9 r0 r1 r2;have e1:=jK (congrArg (BB c) hx);clear hx;obtain⟨X,eX⟩:∃X,wr.alloc (.cells #[.string x.name,.int .i64 x.kind,.int .i64 x.depth,.string x.initial,.slice uA x.entry.length uc,.slice zA x.exit.length zc] 54)=X:=⟨_,rfl⟩;obtain⟨l5,sX,a0,a1,a2,a3,a4,a5⟩:=Ff eX;have k2:=Ab hb l5;have k3:wr.heap.size<X.heap.size:=by omega
      have i6:=jK (p.out.on l5);have o1:=jK (r0.on Ax l5);have r3:=jK r2;have b9:=CC c c.name _ _ _ _ x.entry _ X i6.out.at_ (q9.on Ax l5) r1;have h5:=EV X x.kind;rw[Mi]at h5;obtain⟨pk,r4⟩:∃pk,BR x.kind=pk:=⟨_,rfl⟩;rw[r4]at h5;have l6:=jK r4;clear r4 l5 q9 r0 r1 r2;go_upto_region 30 with(fail)
      clear p0 p1 p2 p3 p4 U eX c0 c1 c2 c3 c4 c5;have p0:=i6.out.p0;have p1:=i6.out.p1;have p2:=i6.out.p2;have p3:=i6.out.p3;have p4:=i6.out.p4;have U:=i6.out.lt;cases pk
      ·by_cases k4:x.kind=4
       ·have z4:=Be k4;by_cases k5:x.exit.length=0
        ·have r6:¬(0:Int)<(x.exit.length:Int):=by omega
         have b8:=jK (show BB c x=Av [Br c x.entry,Br c x.exit]by
          unfold BB;rw[if_neg (fun h9=>by
           rcases h9 with h9|h9
           ·rw[l6.out]at h9;exact absurd h9.1 (by decide)
           ·omega)])
         clear k4 k5;go_wp2_with fail;(with_reducible refine h5.mono ?_);rintro e w'⟨rfl,rfl⟩;clear h5;go_wp2_with fail;(with_reducible refine b9.mono ?_);rintro e w8⟨rfl,c9⟩;have b2:=jK (i6.out.on c9);have h6:=(Ae c9).1;have y0:=(h6 _ 4 k3).trans a4;have y1:=(h6 _ 5 k3).trans a5;have c7:=CC c c.name _ _ _ _ x.exit _ w8 b2.out.at_ (o1.out.on Ax c9) r3.out;clear h6 b9 p0 p1 p2 p3 p4 U a4 a5;have p0:=b2.out.p0;have p1:=b2.out.p1;have p2:=b2.out.p2;have p3:=b2.out.p3;have p4:=b2.out.p4;have U:=b2.out.lt;have e3:=Ab k2 c9;by_cases b3:Br c x.entry=0;rotate_left
         ·have h1:=Bc b3;have R:BB c x=Br c x.entry:=by rw[b8.out,JA _ _ b3]
          have J:=HR.out;have o:e7=Br c x.entry:=by
           rw[<-h7.out,Cy b0 (fun j hj a6=>HZ.out j hj a6) (by rw[e1.out,R];exact b3),e1.out];exact R
          rw[Cc (by rw[o];exact b3),o]at J;generalize Br c x.entry=be at *;subst J;clear b3 HR o R;go_wp2;go_ret;exact⟨rfl,Ab i1.out e3⟩
         have h1:=Bj b3;have j2:=jK (show BB c x=Br c x.exit by rw[b8.out,b3,JG]);generalize Br c x.entry=be at *;clear b3;obtain⟨ce,R⟩:∃ce,Br c x.exit=ce:=⟨_,rfl⟩;rw[R]at c7;have b4:=jK (show BB c c.Aa[k]=ce by rw[e1.out,j2.out,R]);clear R;go_wp2_with fail;(with_reducible refine c7.mono ?_);rintro e w9⟨rfl,e9⟩;clear c7;have b1:=Ab e3 e9;by_cases I:ce=0
         ·have j3:=Bj I;have h4:=jK (show ∀j (h:j<c.Aa.length),j<k+1->BB c c.Aa[j]=0 from fun j hj a6=>by
           rcases bH j k with h9|h9
           ·exact HZ.out j hj h9
           ·obtain rfl:j=k:=by omega
            exact b4.out.trans I)
          clear I;go_wp2;go_roundw
          case rel=>exact⟨k+1,by omega,by go_num,h4.out,b1⟩
          case measure=>simp[intOf];omega
         ·have j3:=Bc I;have J:=HR.out;have o:e7=ce:=by
           rw[<-h7.out,Cy b0 (fun j hj a6=>HZ.out j hj a6) (by rw[b4.out];exact I)];exact b4.out
          rw[Cc (by rw[o];exact I),o]at J;subst J;clear I HR o;go_wp2;go_ret;exact⟨rfl,Ab i1.out b1⟩
        ·have r6:(0:Int)<(x.exit.length:Int):=by omega
         have b8:=jK (show BB c x=1 by
          unfold BB;rw[if_pos (.inr ⟨k4,by omega⟩)])
         clear k4 k5;have J:=HR.out;have o:e7=1:=by
          rw[<-h7.out,Cy b0 (fun j hj a6=>HZ.out j hj a6) (by rw[e1.out,b8.out];decide),e1.out,b8.out]
         rw[Cc (by rw[o];decide),o]at J;subst J;clear HR o b9;go_wp2_with fail;(with_reducible refine h5.mono ?_);rintro e w'⟨rfl,rfl⟩;go_wp2;go_ret;exact⟨rfl,Ab i1.out k2⟩
       ·have z4:=Bg k4;have b8:=jK (show BB c x=Av [Br c x.entry,Br c x.exit]by
         unfold BB;rw[if_neg (fun h9=>by
          rcases h9 with h9|h9
          ·rw[l6.out]at h9;exact absurd h9.1 (by decide)
          ·exact k4 h9.1)])
        clear k4;go_wp2_with fail;(with_reducible refine h5.mono ?_);rintro e w'⟨rfl,rfl⟩;clear h5;go_wp2_with fail;(with_reducible refine b9.mono ?_);rintro e w8⟨rfl,c9⟩;have b2:=jK (i6.out.on c9);have h6:=(Ae c9).1;have y0:=(h6 _ 4 k3).trans a4;have y1:=(h6 _ 5 k3).trans a5;have c7:=CC c c.name _ _ _ _ x.exit _ w8 b2.out.at_ (o1.out.on Ax c9) r3.out;clear h6 b9 p0 p1 p2 p3 p4 U a4 a5;have p0:=b2.out.p0;have p1:=b2.out.p1;have p2:=b2.out.p2;have p3:=b2.out.p3;have p4:=b2.out.p4;have U:=b2.out.lt;have e3:=Ab k2 c9;by_cases b3:Br c x.entry=0;rotate_left
        ·have h1:=Bc b3;have R:BB c x=Br c x.entry:=by rw[b8.out,JA _ _ b3]
         have J:=HR.out;have o:e7=Br c x.entry:=by
          rw[<-h7.out,Cy b0 (fun j hj a6=>HZ.out j hj a6) (by rw[e1.out,R];exact b3),e1.out];exact R
         rw[Cc (by rw[o];exact b3),o]at J;generalize Br c x.entry=be at *;subst J;clear b3 HR o R;go_wp2;go_ret;exact⟨rfl,Ab i1.out e3⟩
        have h1:=Bj b3;have j2:=jK (show BB c x=Br c x.exit by rw[b8.out,b3,JG]);generalize Br c x.entry=be at *;clear b3;obtain⟨ce,R⟩:∃ce,Br c x.exit=ce:=⟨_,rfl⟩;rw[R]at c7;have b4:=jK (show BB c c.Aa[k]=ce by rw[e1.out,j2.out,R]);clear R;go_wp2_with fail;(with_reducible refine c7.mono ?_);rintro e w9⟨rfl,e9⟩;clear c7;have b1:=Ab e3 e9;by_cases I:ce=0
        ·have j3:=Bj I;have h4:=jK (show ∀j (h:j<c.Aa.length),j<k+1->BB c c.Aa[j]=0 from fun j hj a6=>by
          rcases bH j k with h9|h9
          ·exact HZ.out j hj h9
          ·obtain rfl:j=k:=by omega
           exact b4.out.trans I)
         clear I;go_wp2;go_roundw
         case rel=>exact⟨k+1,by omega,by go_num,h4.out,b1⟩
         case measure=>simp[intOf];omega
        ·have j3:=Bc I;have J:=HR.out;have o:e7=ce:=by
          rw[<-h7.out,Cy b0 (fun j hj a6=>HZ.out j hj a6) (by rw[b4.out];exact I)];exact b4.out
         rw[Cc (by rw[o];exact I),o]at J;subst J;clear I HR o;go_wp2;go_ret;exact⟨rfl,Ab i1.out b1⟩
      by_cases o2:x.entry.length=0;rotate_left
      ·have r6:(0:Int)<(x.entry.length:Int):=by omega
       have R2:decide (0<x.entry.length)=true:=aH (by omega);have b8:=jK (show BB c x=1 by
        unfold BB;rw[if_pos (.inl ⟨l6.out,by omega⟩)])
       clear o2;have J:=HR.out;have o:e7=1:=by
        rw[<-h7.out,Cy b0 (fun j hj a6=>HZ.out j hj a6) (by rw[e1.out,b8.out];decide),e1.out,b8.out]
       rw[Cc (by rw[o];decide),o]at J;subst J;clear HR o b9;go_wp2_with fail;(with_reducible refine h5.mono ?_);rintro e w'⟨rfl,rfl⟩;go_wp2;go_ret;exact⟨rfl,Ab i1.out k2⟩
      by_cases k5:x.exit.length=0;rotate_left
      ·have aj:¬(0:Int)<(x.entry.length:Int):=by omega
       have ak:decide (0<x.entry.length)=false:=aF (by omega);have r6:(0:Int)<(x.exit.length:Int):=by omega
       have R2:decide (0<x.exit.length)=true:=aH (by omega);have b8:=jK (show BB c x=1 by
        unfold BB;rw[if_pos (.inl ⟨l6.out,by omega⟩)])
       clear o2 k5;have J:=HR.out;have o:e7=1:=by
        rw[<-h7.out,Cy b0 (fun j hj a6=>HZ.out j hj a6) (by rw[e1.out,b8.out];decide),e1.out,b8.out]
       rw[Cc (by rw[o];decide),o]at J;subst J;clear HR o b9;go_wp2_with fail;(with_reducible refine h5.mono ?_);rintro e w'⟨rfl,rfl⟩;go_wp2;go_ret;exact⟨rfl,Ab i1.out k2⟩
      have z4:(x.kind==4)=false:=Bg fun e=>by have:=l6.out;rw[e]at this;exact absurd this (by decide)
      have b8:=jK (show BB c x=Av [Br c x.entry,Br c x.exit]by
       unfold BB;rw[if_neg (fun h9=>by rcases h9 with h9|h9<;>omega)])
      rw[o2]at a4 b9;rw[k5]at a5 o1;clear o2 k5;go_wp2_with fail;(with_reducible refine h5.mono ?_);rintro e w'⟨rfl,rfl⟩;clear h5;go_wp2_with fail;(with_reducible refine b9.mono ?_);rintro e w8⟨rfl,c9⟩;have b2:=jK (i6.out.on c9);have h6:=(Ae c9).1;have y0:=(h6 _ 4 k3).trans a4;have y1:=(h6 _ 5 k3).trans a5;have c7:=CC c c.name _ _ _ _ x.exit _ w8 b2.out.at_ (o1.out.on Ax c9) r3.out;clear h6 b9 p0 p1 p2 p3 p4 U a4 a5;have p0:=b2.out.p0;have p1:=b2.out.p1;have p2:=b2.out.p2;have p3:=b2.out.p3;have p4:=b2.out.p4;have U:=b2.out.lt;have e3:=Ab k2 c9;by_cases b3:Br c x.entry=0;rotate_left
      ·have h1:=Bc b3;have R:BB c x=Br c x.entry:=by rw[b8.out,JA _ _ b3]
       have J:=HR.out;have o:e7=Br c x.entry:=by
        rw[<-h7.out,Cy b0 (fun j hj a6=>HZ.out j hj a6) (by rw[e1.out,R];exact b3),e1.out];exact R
       rw[Cc (by rw[o];exact b3),o]at J;generalize Br c x.entry=be at *;subst J;clear b3 HR o R;go_wp2;go_ret;exact⟨rfl,Ab i1.out e3⟩
      have h1:=Bj b3;have j2:=jK (show BB c x=Br c x.exit by rw[b8.out,b3,JG]);generalize Br c x.entry=be at *;clear b3;obtain⟨ce,R⟩:∃ce,Br c x.exit=ce:=⟨_,rfl⟩;rw[R]at c7;have b4:=jK (show BB c c.Aa[k]=ce by rw[e1.out,j2.out,R]);clear R;go_wp2_with fail;(with_reducible refine c7.mono ?_);rintro e w9⟨rfl,e9⟩;clear c7;have b1:=Ab e3 e9;by_cases I:ce=0
      ·have j3:=Bj I;have h4:=jK (show ∀j (h:j<c.Aa.length),j<k+1->BB c c.Aa[j]=0 from fun j hj a6=>by
        rcases bH j k with h9|h9
        ·exact HZ.out j hj h9
        ·obtain rfl:j=k:=by omega
         exact b4.out.trans I)
       clear I;go_wp2;go_roundw
       case rel=>exact⟨k+1,by omega,by go_num,h4.out,b1⟩
       case measure=>simp[intOf];omega
      ·have j3:=Bc I;have J:=HR.out;have o:e7=ce:=by
        rw[<-h7.out,Cy b0 (fun j hj a6=>HZ.out j hj a6) (by rw[b4.out];exact I)];exact b4.out
       rw[Cc (by rw[o];exact I),o]at J;subst J;clear I HR o;go_wp2;go_ret;exact⟨rfl,Ab i1.out b1⟩
     obtain rfl:k=c.Aa.length:=by omega
     have j8:¬(c.Aa.length:Int)<(c.Aa.length:Int):=by omega
     have o:e7=0:=by
      rw[<-h7.out];exact FU (fun j hj=>HZ.out j hj hj)
     have J:=HR.out;rw[GI o]at J;clear HR;have HR:=jK J;have y3:=jK (Ab i1.out hb);obtain⟨w9,j6⟩:∃x,x=wr:=⟨_,rfl⟩;subst j6;have y4:=jK p.out;clear J o HZ hb p b2;go_wp2
     go_loopw [13] (fun u wr=>∃k:Nat,k<=c.trans.length/\u=.int .i64 (k:Int)/\(∀j (h:j<c.trans.length),j<k->CR c j c.trans[j]=0)/\Below w9.heap.size w9 wr) (fun u _=>c.trans.length-(intOf u).toNat)
     case atStart=>exact⟨0,by omega,rfl,fun j _ hj=>absurd hj (by omega),aJ _ _⟩
     case round=>
      obtain⟨k,hk,rfl,hz,hb⟩:=hrel;have HZ:=jK hz;have p:=jK (y4.out.on hb);clear hz p0 p1 p2 p3 p4 U;have p0:=p.out.p0;have p1:=p.out.p1;have p2:=p.out.p2;have p3:=p.out.p3;have p4:=p.out.p4;have U:=p.out.lt;by_cases b0:k<c.trans.length
      ·have n0:(k:Int)<(c.trans.length:Int):=by omega
       obtain⟨ce,R⟩:∃ce,CR c k c.trans[k]=ce:=⟨_,rfl⟩;have e4:=PF c c.name _ _ _ _ wr p.out.at_ f x7.out H9.out k b0 (by omega);rw[R]at e4;have b4:=jK R;clear R;go_wp2_with fail;(with_reducible refine e4.mono ?_);rintro e w9⟨rfl,e9⟩;clear e4;have b1:=Ab hb e9;by_cases I:ce=0
       ·have h1:=Bj I;have h4:=jK (show ∀j (h:j<c.trans.length),j<k+1->CR c j c.trans[j]=0 from fun j hj a6=>by
         rcases bH j k with h9|h9
         ·exact HZ.out j hj h9
         ·obtain rfl:j=k:=by omega
          exact b4.out.trans I)
        clear I;go_wp2;go_roundw
        case rel=>exact⟨k+1,by omega,by go_num,h4.out,b1⟩
        case measure=>simp[intOf];omega
       ·have h1:=Bc I;have J:=HR.out;have o:e8=ce:=by
         rw[<-qs.out,OA b0 (fun j hj a6=>HZ.out j hj a6) (by show CR c k c.trans[k]≠0;rw[b4.out];exact I)];exact b4.out
        rw[Cc (by rw[o];exact I),o]at J;subst J;clear I HR o;go_wp2;go_ret;exact⟨rfl,Ab y3.out b1⟩
      obtain rfl:k=c.trans.length:=by omega
      have j8:¬(c.trans.length:Int)<(c.trans.length:Int):=by omega
      have o:e8=0:=by
       rw[<-qs.out];exact LP (fun j hj=>HZ.out j hj hj)
      have J:=HR.out;rw[GI o]at J;clear HR;have HR:=jK J;have y5:=jK (Ab y3.out hb);obtain⟨al,j6⟩:∃x,x=wr:=⟨_,rfl⟩;subst j6;have V1:=jK p.out;clear J o HZ hb p y4;go_wp2;go_ret;exact⟨D4 (show(0:Int)=r from HR.out),y5.out⟩
theorem KJ (c:Q.Af) (ev vv sv tv:Value) (w:World) (h:AQ w w.heap.size ev vv sv tv c) (f:Fit c) :
  Calls prog 10 #[BZ c.name ev vv sv tv] w fun e w'=>e=.returned (.bool (decide (DL c=0)))/\Below w.heap.size w w':=by
 obtain⟨p,U⟩:∃p,w.alloc (.cells #[.string c.name,ev,vv,sv,tv] 27)=p:=⟨_,rfl⟩;obtain⟨I,s0,h0,p0,p1,p2,p3,p4⟩:=Bl h U;have j:=QG c c.name _ _ _ _ p h0 rfl f;have a8:w.heap.size<p.heap.size:=by omega
 obtain⟨ce,o⟩:∃ce,DL c=ce:=⟨_,rfl⟩;rw[o]at j⊢;clear h s0 o;go_enter func10,ntmps10;go_wp2_with fail;(with_reducible refine j.mono ?_);rintro e w2⟨rfl,J⟩;have R:=Ab I J;clear j U p0 p1 p2 p3 p4;go_wp2;go_ret;exact⟨Db (by rw[cH,dI,aP]),R⟩
end
end Go.Proofs.YthbihnpoghlfaaaGreatDoor
