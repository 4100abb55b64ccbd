import Derived.WalkMore
import Derived.Test.YthbihnpoghlfaaaGreatDoorZr25
import Derived.Test.YthbihnpoghlfaaaGreatDoorZr27
set_option linter.unusedVariables false
set_option linter.unusedSimpArgs false
set_option maxHeartbeats 8000000
set_option maxRecDepth 100000
namespace Go.Proofs.YthbihnpoghlfaaaGreatDoor
open Go.Proofs.Tryz
section
open Go.RowKit Q Go.Lib
theorem OW {vars:List Q.Var} {a:Q.Act} {l:List Q.Act} {d D:N7} (h:I1 vars (a::l) d=D) (ha:a.kind=2):I1 vars l {d with raised:=d.raised++[a.name]}=D:=by
 rw[<-h,I1,if_pos ha]
theorem RM {vars:List Q.Var} {a:Q.Act} {l:List Q.Act} {d D:N7} (h:I1 vars (a::l) d=D) (ha:a.kind=3):I1 vars l {d with Ao:=d.Ao++[a.name]}=D:=by
 rw[<-h,I1,if_neg (by omega),if_pos ha]
theorem Vs {vars:List Q.Var} {a:Q.Act} {l:List Q.Act} {d D:N7} {Ac:List BS} (h:I1 vars (a::l) d=D) (ha:a.kind=1) (j:C5 vars d.Ac a=some Ac):I1 vars l {d with Ac:=Ac}=D:=by
 rw[<-h,I1,if_neg (by omega),if_neg (by omega),if_pos ha,j]
theorem E3 {vars:List Q.Var} {a:Q.Act} {l:List Q.Act} {d D:N7} (h:I1 vars (a::l) d=D) (o:a.kind≠2) (p:a.kind≠3) (I:a.kind=1->C5 vars d.Ac a=none):D={d with raised:=d.raised++[BJ],ok:=false}:=by
 rw[<-h,I1,if_neg o,if_neg p];by_cases j:a.kind=1
 ·rw[if_pos j,I j]
 ·rw[if_neg j]
theorem Mn (r:Rs BS):∃v y,Am r=.tuple #[.agg #[.int .i64 v.kind,.int .i64 v.a,.int .i64 v.b],.int .i64 y]/\((r=.ok v/\y=0)\/r=.err y):=by
 cases r with
 |ok v=>exact⟨v,0,rfl,.inl ⟨rfl,rfl⟩⟩
 |err e=>exact⟨AD,e,rfl,.inr rfl⟩
theorem QH {vars:List Q.Var} {Ac:List BS} {j:List ByteArray}:∀(t:T) {e:Int},(Dq vars Ac j).ev t=.err e->e≠0
 |.leaf c,e,h=>by
  unfold Hi.ev Dq EY at h;dsimp only at h
  repeat' split at h
  all_goals first
   |(cases h;done)
   |(cases h;omega)
 |.one c t,e,h=>by
  unfold Hi.ev at h;cases o:(Dq vars Ac j).ev t with
  |err x=>rw[o]at h;injection h with h;subst h;exact QH t o
  |ok x=>rw[o]at h;exact MM (op:=c.op) (x:=x) h
 |.two c s t,e,h=>by
  unfold Hi.ev at h;cases o:(Dq vars Ac j).ev s with
  |err x=>rw[o]at h;injection h with h;subst h;exact QH s o
  |ok x=>
   rw[o]at h;cases p:(Dq vars Ac j).ev t with
   |err y=>
    have I:(Rs.err y:Rs BS)=.err e:=by rw[<-h,p];rfl
    injection I with I
    subst I;exact QH t p
   |ok y=>
    refine NX (op:=c.op) (x:=x) (y:=y) ?_;rw[<-h,p];rfl
theorem NF {vars:List Q.Var} {Ac:List BS} {j:List ByteArray} {l:List Q.Cell} {e:Int} (h:C4 vars Ac j l=.err e):e≠0:=by
 by_cases o:BC l=true
 ·obtain⟨t,hw,rfl⟩:=Q.CE o;unfold C4 at h;rw[Mf _ hw o]at h;exact QH t h
 ·unfold C4 Hi.of at h;rw[if_neg o]at h;injection h with h
  omega
theorem Pp {vars:List Q.Var} {Ac:List BS} {a:Q.Act} (h:vars.findIdx? (named a.name)=none):C5 vars Ac a=none:=by
 unfold C5;rw[show Vp vars a.name=none from h]
theorem M1 {vars:List Q.Var} {Ac:List BS} {a:Q.Act} {y:Int} (h:C4 vars Ac [] a.expr=.err y):C5 vars Ac a=none:=by
 unfold C5;rw[h];split<;>rfl
theorem Nt {vars:List Q.Var} {Ac:List BS} {a:Q.Act} {i:Nat} {x:BS} (hi:i<vars.length) (h:vars.findIdx? (named a.name)=some i) (j:C4 vars Ac [] a.expr=.ok x):C5 vars Ac a=if fits vars[i] x=true then some (Ac.set i x)else none:=by
 unfold C5;rw[show Vp vars a.name=some i from h];dsimp only;rw[j,aQ hi]
theorem K8 (w:World) (p:Addr) (v:Value):w.grownBy (w.setCell p v) (some p.block):=⟨rfl,rfl,rfl,by rw[eK];exact aL _,fun k _ j=>cT _ _ _ k (fun e=>j (by rw[e]))⟩
theorem F6.put {w:World} {B g n c i:Nat} {R S:Value} {d:N7} (h:F6 B (.slice (some ⟨g,0,none⟩) n c) R S d w) (x:BS) (hi:i<d.Ac.length) :
  F6 B (.slice (some ⟨g,0,none⟩) n c) R S {d with Ac:=d.Ac.set i x} (((w.setCell ⟨g,i*3,none⟩ (.int .i64 x.kind)).setCell ⟨g,i*3+1,none⟩ (.int .i64 x.a)).setCell ⟨g,i*3+2,none⟩ (.int .i64 x.b)):=by
 have o:n=d.Ac.length:=by
  obtain⟨A,U,e⟩:=Al h.Ac;injection e
 subst o;have p:=Fm h.raised h.Ac (by decide);have I:=Fm h.Ao h.Ac (by decide);have Nf:∀ {v:Value} {m:Nat} {xs:List Value},w.ownsRow B 9 1 v m xs->(v.ownBlock=none\/v.ownBlock≠(Value.slice (some ⟨g,0,none⟩) d.Ac.length c).ownBlock)->
   (((w.setCell ⟨g,i*3,none⟩ (.int .i64 x.kind)).setCell ⟨g,i*3+1,none⟩ (.int .i64 x.a)).setCell ⟨g,i*3+2,none⟩ (.int .i64 x.b)).ownsRow B 9 1 v m xs:=fun J j=>by
  exact((J.kept (K8 w ⟨g,i*3,none⟩ _) j).kept (K8 _ ⟨g,i*3+1,none⟩ _) j).kept (K8 _ ⟨g,i*3+2,none⟩ _) j
 refine⟨?_,Nf h.raised p,Nf h.Ao I,h.apart⟩;show World.ownsRow _ B _ 3 _ (d.Ac.set i x).length ((d.Ac.set i x).flatMap BU);rw[List.length_set,Q2 _ _ _ hi];exact FT (FT (FT h.Ac _ _) _ _) _ _
theorem Sx {vars:List Q.Var} {Ac:List BS} {l:List Q.Cell} (j:BC l=true) (o:vars.length=Ac.length) (p:∀y∈Ac,FL y):Kv vars Ac [] l=C4 vars Ac [] l:=by
 unfold Kv;rw[if_pos j,if_pos];refine⟨o,?_⟩;rw[gS];intro x I;rw[aH (p x I).1];exact Bool.noConfusion
theorem D1 {w:World} {B:Nat} {V:Value} {l:List BS} (h:w.ownsRow B 60 3 V l.length (l.flatMap BU)) (hn:l.length<=1000000):Ci w w.heap.size V l:=by
 obtain⟨A,c,rfl⟩:=Al h;refine⟨A,l.length,c,rfl,rfl,by omega,fun i hi=>?_⟩;obtain⟨g,c',e,hg,p,_,_,o,_⟩:=Et h (by omega);injection e with U e2 e3
 subst U;refine⟨_,rfl,p,fun j I=>?_⟩;have R:=IT BU (fun _=>rfl) l i j hi I;have J:∃u,(BU l[i])[j]?=some u:=⟨_,aQ (by exact I)⟩;obtain⟨u,hu⟩:=J;rw[hu]at R;refine⟨u,?_,?_⟩
 ·have:=o _ _ R;rw[Ca,Addr.add];split
  ·rename_i h0;rw[h0]at this;exact this
  ·simpa using this
 ·match j,I,hu with
  | 0,_,hu=>injection hu with hu;exact hu.symm
  | 1,_,hu=>injection hu with hu;exact hu.symm
  | 2,_,hu=>injection hu with hu;exact hu.symm
theorem Zco (vars:List Q.Var) (Ac:List BS) (l:List Q.Act) (v vs xs:Value) (w:World) (hc:Cj w w.heap.size v l) (hv:BK w w.heap.size vs vars) (hx:Ci w w.heap.size xs Ac)
  (hlen:vars.length=Ac.length) (k8:∀y∈Ac,FL y) (l8:∀a∈l,a.kind=1->BC a.expr=true) (h8:l.length<=1000) (q7:Ac.length<=1000000) :
  Calls prog 142 #[v,vs,xs] w fun e w'=>∃V R S,e=.returned (.tuple #[V,R,S,.bool (I1 vars l ⟨Ac,[],[],true⟩).ok])/\F6 w.heap.size V R S (I1 vars l ⟨Ac,[],[],true⟩) w'/\Below w.heap.size w w':=by
 obtain⟨i0,e9,h0,h4,h5⟩:=dC BX;obtain⟨A,c,rfl,hn,hA⟩:=hc.form;obtain⟨VA,vc,rfl,u4,q8⟩:=hv.form;obtain⟨XA,xc,rfl,u5,x7⟩:=hx.form;obtain⟨D,hD⟩:∃D,I1 vars l ⟨Ac,[],[],true⟩=D:=⟨_,rfl⟩;rw[hD];have HD:=jK hD;have k1:=jK hlen;clear hD hlen;go_enter func142,ntmps142;go_wp2
 go_step3
 go_wp2_with fail;refine(Oe w _ Ac hx q7).mono ?_;rintro e w1⟨V,rfl,q9,hV⟩;go_wp2
 go_step3
 go_wp2
 go_loopw [23,11,12,13] (fun v R S o wr=>∃(k:Nat) (d:N7),k<=l.length/\v=.int .i64 (k:Int)/\o=.bool true/\d.ok=true/\I1 vars (l.drop k) d=D/\F6 w.heap.size V R S d wr/\d.Ac.length=Ac.length/\(∀y∈d.Ac,FL y)/\d.raised.length<=k/\d.Ao.length<=k/\Below w.heap.size w wr) (fun v _ _ _ _=>l.length-(intOf v).toNat)
 case atStart=>exact⟨0,⟨Ac,[],[],true⟩,by omega,rfl,rfl,rfl,HD.out,⟨hV,bL _ _ _ _,bL _ _ _ _,.inl rfl⟩,rfl,k8,by simp,by simp,q9⟩
 case round=>
  obtain⟨k,d,hk,rfl,rfl,h7,hD,b4,i1,i6,x9,y3,hb⟩:=hrel;have HD:=jK hD;have j4:=jK h7;have HL:=jK i1;clear hD h7 i1;have y4:=hb.size;by_cases j5:k<l.length
  ·have y5:(k:Int)<(l.length:Int):=by omega
   obtain⟨ad,rfl,y6⟩:=hA k j5;obtain⟨u,c0,c1,c2,hu⟩:=Cj.at_ (hc.on Ax hb) j5;obtain⟨uA,uc,rfl,y8,-⟩:=hu.form;have hex:=l8 _ (bK j5);have k9:=HD.out;rw[dV j5]at k9;generalize l[k]=a at *;have c9:=jK k9;clear k9 HD;obtain⟨W,eW⟩:∃W,wr.alloc (.cells #[.int .i64 a.kind,.string a.name,.slice uA a.expr.length uc] 169)=W:=⟨_,rfl⟩;obtain⟨b9,sA,e4⟩:=Bi _ _ _ eW;have q0:W.cell? ⟨wr.heap.size,0,none⟩=some (.int .i64 a.kind):=e4.cell 0;have q1:W.cell? ⟨wr.heap.size,1,none⟩=some (.string a.name):=e4.cell 1;have q2:W.cell? ⟨wr.heap.size,2,none⟩=some (.slice uA a.expr.length uc):=e4.cell 2;have v8:=b4.below b9;have r0:=Ab hb b9;have k2:=jK hex;clear hex e4;go_upto_region 7 with(fail)
   clear c0 c1 c2 eW;by_cases h2:a.kind=2
   ·rw[h2]at q0;have r1:=jK h2;clear h2;have b2:=Bt W (.string a.name) 9 _ sA;have a8:=BE [a.name];go_wp2_with (at_builtin;refine Ap _ rfl _ _ 22 rfl w.heap.size 9 i0 _ 1 16 underlying22 e9 h0 h4 h5 rfl (by decide) _ _ _ rfl ((b4.below b9).raised.alloc _) _ (some ⟨_,0,none⟩) 1 1 _ rfl b2 a8 ?c3 ?c4 ?c5 ?_)
    case c3=>unfold maxLen;omega
    case c4=>omega
    case c5=>(have h9:=(Ab hb b9).size;(try simp only[aW]);omega)
    intro v' wz U b1 J;have a7:Below wr.heap.size wr (W.alloc (.cells #[.string a.name] 9)):=CU b9 _;have a1:=b4.below a7;have a6:=a1.raise U b1 (by first|exact J|(rw[aW];exact J)|(rw[aW,sA];exact J));have b3:Below w.heap.size w wz:=(Ab hb a7).grown b1 (Ab hb a7).size (fun k hk=>(Bd a1.raised hk).2);have b0:=jK a6;have b5:=jK b3;clear a6 b3 a1 a7 U b1 J b2 a8;go_wp2;go_roundw
    case rel=>exact⟨k+1,{d with raised:=d.raised++[a.name]},by omega,by go_num,rfl,j4.out,OW c9.out r1.out,b0.out,HL.out,i6,by simp;omega,by show d.Ao.length<=k+1;omega,b5.out⟩
    case measure=>simp[intOf];omega
   have z2:=Bg h2;by_cases h3:a.kind=3
   ·rw[h3]at q0;have r2:=jK h3;clear h3 h2 z2;have b2:=Bt W (.string a.name) 9 _ sA;have a8:=BE [a.name];go_wp2_with (at_builtin;refine Ap _ rfl _ _ 22 rfl w.heap.size 9 i0 _ 1 16 underlying22 e9 h0 h4 h5 rfl (by decide) _ _ _ rfl ((b4.below b9).Ao.alloc _) _ (some ⟨_,0,none⟩) 1 1 _ rfl b2 a8 ?c3 ?c4 ?c5 ?_)
    case c3=>unfold maxLen;omega
    case c4=>omega
    case c5=>(have h9:=(Ab hb b9).size;(try simp only[aW]);omega)
    intro v' wz U b1 J;have a7:Below wr.heap.size wr (W.alloc (.cells #[.string a.name] 9)):=CU b9 _;have a1:=b4.below a7;have a6:=a1.tell U b1 (by first|exact J|(rw[aW];exact J)|(rw[aW,sA];exact J));have b3:Below w.heap.size w wz:=(Ab hb a7).grown b1 (Ab hb a7).size (fun k hk=>(Bd a1.Ao hk).2);have b0:=jK a6;have b5:=jK b3;clear a6 b3 a1 a7 U b1 J b2 a8;go_wp2;go_roundw
    case rel=>exact⟨k+1,{d with Ao:=d.Ao++[a.name]},by omega,by go_num,rfl,j4.out,RM c9.out r2.out,b0.out,HL.out,i6,by show d.raised.length<=k+1;omega,by simp;omega,b5.out⟩
    case measure=>simp[intOf];omega
   have z3:=Bg h3;by_cases h1:a.kind=1;rotate_left
   ·have z1:=Bg h1;have r3:=jK h2;have r4:=jK h3;have r5:=jK h1;clear h1 h2 h3;have b2:=Bt W (.string BJ) 9 _ sA;have a8:=BE [BJ];go_wp2_with (at_builtin;refine Ap _ rfl _ _ 22 rfl w.heap.size 9 i0 _ 1 16 underlying22 e9 h0 h4 h5 rfl (by decide) _ _ _ rfl ((b4.below b9).raised.alloc _) _ (some ⟨_,0,none⟩) 1 1 _ rfl b2 a8 ?c3 ?c4 ?c5 ?_)
    case c3=>unfold maxLen;omega
    case c4=>omega
    case c5=>(have h9:=(Ab hb b9).size;(try simp only[aW]);omega)
    intro v' wz U b1 J;have a7:Below wr.heap.size wr (W.alloc (.cells #[.string BJ] 9)):=CU b9 _;have a1:=b4.below a7;have a6:=a1.raise U b1 (by first|exact J|(rw[aW];exact J)|(rw[aW,sA];exact J));have b3:Below w.heap.size w wz:=(Ab hb a7).grown b1 (Ab hb a7).size (fun k hk=>(Bd a1.raised hk).2);have b0:=jK a6;have b5:=jK b3;clear a6 b3 a1 a7 U b1 J b2 a8;have e0:=E3 c9.out r3.out r4.out (fun e=>absurd e r5.out);go_wp2
    (try simp only[Exit.inBlock,Exit.then,iM])
    refine aI (En rfl _ _) rfl ?_;rw[e0];exact⟨_,_,_,rfl,⟨b0.out.Ac,b0.out.raised,b0.out.Ao,b0.out.apart⟩,b5.out⟩
   rw[h1]at q0;have r6:=k2.out h1;have e1:=jK h1;clear h1 h2 h3 z2 z3 k2;go_wp2_with fail;refine(EK (enters_of func222 (by decide) rfl) (hv.on AL r0) (SN a.name wr.heap.size W (by omega) q1)).mono ?_;rintro e w3⟨rfl,l2⟩;have e6:=Ab b9 l2;have o0:=Ab hb e6;have z6:wr.heap.size<w3.heap.size:=by have:=l2.size;omega
   have w0:wr.heap.size<W.heap.size:=by omega
   obtain⟨r7,r8⟩:=Ae l2;have o1:=HL.out;have e7:Ci w3 w3.heap.size V d.Ac:=D1 (AG b4.Ac e6) (by omega);have o2:=jK o1;clear o1;obtain⟨I,hI⟩:∃I,ET (named a.name) vars=I:=⟨_,rfl⟩;rw[hI];have HI:=jK hI;clear hI;have o3:AE w3 w3.heap.size (.slice none 0 0) []:=⟨none,0,0,rfl,rfl,by omega,Reads.none_⟩;have k5:∀x∈d.Ac,AP x.a:=fun x hx=>(i6 x hx).2
   have o4:=hu.on Aw e6;have o5:=hv.on AL o0;go_wp2_with fail
   (with_reducible refine(S8 vars d.Ac [] a.expr _ _ V (.slice none 0 0) w3 o4 o5 e7 o3 k5).mono ?_)
   rintro e w4⟨rfl,r9⟩;have o6:Kv vars d.Ac [] a.expr=C4 vars d.Ac [] a.expr:=Sx r6 (k1.out.trans o2.out.symm) i6;rw[o6];clear o6;obtain⟨v,y,o7,o8⟩:=Mn (C4 vars d.Ac [] a.expr);rw[o7];clear o7;obtain⟨W5,e5⟩:∃W5,w4.alloc (.cells #[.int .i64 v.kind,.int .i64 v.a,.int .i64 v.b] 60)=W5:=⟨_,rfl⟩;obtain⟨s0,s5,j7⟩:=Bi _ _ _ e5;have v0:W5.cell? ⟨w4.heap.size,0,none⟩=some (.int .i64 v.kind):=j7.cell 0;have v1:W5.cell? ⟨w4.heap.size,1,none⟩=some (.int .i64 v.a):=j7.cell 1;have v2:W5.cell? ⟨w4.heap.size,2,none⟩=some (.int .i64 v.b):=j7.cell 2;have e8:=Ab e6 (Ab r9 s0);have o9:=Ab hb e8;have p0:=jK o8;clear o8 o3 k5 o4 o5 e7 q0 q1 q2 r8;go_upto_region 15 with(fail)
   clear e5 r7 j7;rcases DY (named a.name) vars with⟨hi,-,j1⟩|⟨i,j2,hi,-,j1⟩
   ·have s3:I=-1:=HI.out.symm.trans hi;subst s3;have HS:=jK (Pp (Ac:=d.Ac) j1);clear hi j1;refine Aj.AM 14 [] (fun w'=>Below W5.heap.size W5 w') (fun w w'=>Below w.heap.size w w') (by kernel_rfl) (by kernel_rfl) (by kernel_rfl) (by kernel_rfl) (fun _ _ d _ _ h=>by cases d<;>exact h) (aJ _ _).drew ?_;simp only[aM,aT]
    iterate 3 (refine Aj.Ad rfl rfl ?_ ?_ ?_;rotate_left;(focus(intro w1 hI _;obtain⟨b6,_⟩:=Ae hI;go_simp;rfl)))
    simp only[Act.put,aB,aD,aC]
    iterate 2 (refine Aj.Bb rfl (by kernel_rfl) ?_)
    iterate 2 (refine Aj.Ad rfl rfl ?_ ?_ ?_;rotate_left;(focus(intro w1 hI _;obtain⟨b6,_⟩:=Ae hI;go_simp;rfl)))
    simp only[Act.put,aB,aD,aC]
    iterate 6 (refine Aj.Bb rfl (by kernel_rfl) ?_)
    (refine Aj.Ad rfl rfl ?_ ?_ ?_;rotate_left;(focus(intro w1 hI _;obtain⟨b6,_⟩:=Ae hI;go_simp;rfl)))
    simp only[Act.put,aB,aD,aC];refine Aj.Ak (fun w6 e2 _=>?_);simp only[aN,aS];have b7:=Ab e8 e2;have b2:=Bt w6 (.string BJ) 9 _ (rfl:w6.heap.size=w6.heap.size);have a8:=BE [BJ];go_wp2_with (at_builtin;refine Ap _ rfl _ _ 22 rfl w.heap.size 9 i0 _ 1 16 underlying22 e9 h0 h4 h5 rfl (by decide) _ _ _ rfl ((b4.below b7).raised.alloc _) _ (some ⟨_,0,none⟩) 1 1 _ rfl b2 a8 ?c3 ?c4 ?c5 ?_)
    case c3=>unfold maxLen;omega
    case c4=>omega
    case c5=>(have h9:=(Ab hb b7).size;(try simp only[aW]);omega)
    intro v' wz U b1 J;have a7:Below wr.heap.size wr (w6.alloc (.cells #[.string BJ] 9)):=CU b7 _;have a1:=b4.below a7;have a6:=a1.raise U b1 (by first|exact J|(rw[aW];exact J)|(rw[aW,sA];exact J));have b3:Below w.heap.size w wz:=(Ab hb a7).grown b1 (Ab hb a7).size (fun k hk=>(Bd a1.raised hk).2);have b0:=jK a6;have b5:=jK b3;clear a6 b3 a1 a7 U b1 J b2 a8;have e0:=E3 c9.out (by rw[e1.out];omega) (by rw[e1.out];omega) (fun _=>HS.out);go_wp2
    (try simp only[Exit.inBlock,Exit.then,iM])
    refine aI (En rfl _ _) rfl ?_;rw[e0];exact⟨_,_,_,rfl,⟨b0.out.Ac,b0.out.raised,b0.out.Ao,b0.out.apart⟩,b5.out⟩
   have s4:I=(i:Int):=HI.out.symm.trans hi;subst s4;have w8:(0:Int)<=(i:Int):=by omega
   have z7:=jK j2;have s6:=jK j1;clear hi j1;by_cases hy:y=0;rotate_left
   ·have z8:=Bg hy;have HS:Hid (C5 vars d.Ac a=none):=jK (by
     rcases p0.out with⟨_,e⟩|e
     ·exact absurd e hy
     ·exact M1 e)
    clear hy;refine Aj.AM 14 [] (fun w'=>Below W5.heap.size W5 w') (fun w w'=>Below w.heap.size w w') (by kernel_rfl) (by kernel_rfl) (by kernel_rfl) (by kernel_rfl) (fun _ _ d _ _ h=>by cases d<;>exact h) (aJ _ _).drew ?_;simp only[aM,aT]
    iterate 3 (refine Aj.Ad rfl rfl ?_ ?_ ?_;rotate_left;(focus(intro w1 hI _;obtain⟨b6,_⟩:=Ae hI;go_simp;rfl)))
    simp only[Act.put,aB,aD,aC]
    iterate 2 (refine Aj.Aq rfl (by kernel_rfl) ?_ ?_ ?_;rotate_left;(focus(intro w1 hI _;obtain⟨b6,_⟩:=Ae hI;go_simp;rfl)))
    simp only[Act.put,aB,aD,aC]
    iterate 2 (refine Aj.Ad rfl rfl ?_ ?_ ?_;rotate_left;(focus(intro w1 hI _;obtain⟨b6,_⟩:=Ae hI;go_simp;rfl)))
    simp only[Act.put,aB,aD,aC]
    iterate 6 (refine Aj.Bb rfl (by kernel_rfl) ?_)
    (refine Aj.Ad rfl rfl ?_ ?_ ?_;rotate_left;(focus(intro w1 hI _;obtain⟨b6,_⟩:=Ae hI;go_simp;rfl)))
    simp only[Act.put,aB,aD,aC];refine Aj.Ak (fun w6 e2 _=>?_);simp only[aN,aS];have b7:=Ab e8 e2;have b2:=Bt w6 (.string BJ) 9 _ (rfl:w6.heap.size=w6.heap.size);have a8:=BE [BJ];go_wp2_with (at_builtin;refine Ap _ rfl _ _ 22 rfl w.heap.size 9 i0 _ 1 16 underlying22 e9 h0 h4 h5 rfl (by decide) _ _ _ rfl ((b4.below b7).raised.alloc _) _ (some ⟨_,0,none⟩) 1 1 _ rfl b2 a8 ?c3 ?c4 ?c5 ?_)
    case c3=>unfold maxLen;omega
    case c4=>omega
    case c5=>(have h9:=(Ab hb b7).size;(try simp only[aW]);omega)
    intro v' wz U b1 J;have a7:Below wr.heap.size wr (w6.alloc (.cells #[.string BJ] 9)):=CU b7 _;have a1:=b4.below a7;have a6:=a1.raise U b1 (by first|exact J|(rw[aW];exact J)|(rw[aW,sA];exact J));have b3:Below w.heap.size w wz:=(Ab hb a7).grown b1 (Ab hb a7).size (fun k hk=>(Bd a1.raised hk).2);have b0:=jK a6;have b5:=jK b3;clear a6 b3 a1 a7 U b1 J b2 a8;have e0:=E3 c9.out (by rw[e1.out];omega) (by rw[e1.out];omega) (fun _=>HS.out);go_wp2
    (try simp only[Exit.inBlock,Exit.then,iM])
    refine aI (En rfl _ _) rfl ?_;rw[e0];exact⟨_,_,_,rfl,⟨b0.out.Ac,b0.out.raised,b0.out.Ao,b0.out.apart⟩,b5.out⟩
   subst hy;have h7:C4 vars d.Ac [] a.expr=.ok v:=by
    rcases p0.out with⟨e,_⟩|e
    ·exact e
    ·exact absurd rfl (NF e)
   have HS:=jK (Nt j2 s6.out h7);clear h7;obtain⟨ft,p2⟩:∃ft,fits vars[i] v=ft:=⟨_,rfl⟩;have l3:=jK p2;have p3:=hv.on AL o9;obtain⟨A0,rfl,w9⟩:=q8 i j2;have x3:(i:Int)<(vars.length:Int):=by omega
   clear p2;refine Aj.AF 14 [(12,.bool ft)] [(12,fun _ _=>True)] (fun w'=>Below W5.heap.size W5 w') (fun w w'=>Below w.heap.size w w') (by kernel_rfl) (by kernel_rfl) (by kernel_rfl) (by kernel_rfl) (fun _ _ d _ _ h=>by cases d<;>exact h) (aJ _ _).drew ?_;simp only[aM,aT]
   iterate 3 (refine Aj.Ad rfl rfl ?_ ?_ ?_;rotate_left;(focus(intro w1 hI _;obtain⟨b6,_⟩:=Ae hI;go_simp;rfl)))
   simp only[Act.put,aB,aD,aC]
   iterate 2 (refine Aj.Aq rfl (by kernel_rfl) ?_ ?_ ?_;rotate_left;(focus(intro w1 hI _;obtain⟨b6,_⟩:=Ae hI;go_simp;rfl)))
   simp only[Act.put,aB,aD,aC]
   iterate 2 (refine Aj.Ad rfl rfl ?_ ?_ ?_;rotate_left;(focus(intro w1 hI _;obtain⟨b6,_⟩:=Ae hI;go_simp;rfl)))
   simp only[Act.put,aB,aD,aC]
   iterate 3 (refine Aj.Aq rfl (by kernel_rfl) ?_ ?_ ?_;rotate_left;(focus(intro w1 hI _;obtain⟨b6,_⟩:=Ae hI;go_simp;rfl)))
   (refine Aj.Aq rfl (by kernel_rfl) ?_ ?_ ?_;rotate_left;(focus(intro w1 hI _;obtain⟨b6,_⟩:=Ae hI;obtain⟨n0,n1,n2,n3,n4,n5,n6⟩:=BK.at_ (p3.on AL hI) j2;go_simp;rfl)))
   (refine Aj.Aq rfl (by kernel_rfl) ?_ ?_ ?_;rotate_left;(focus(intro w1 hI _;obtain⟨b6,_⟩:=Ae hI;go_simp;rfl)))
   simp only[Act.put,aB,aD,aC];refine Aj.AC (.bool ft) rfl rfl (by kernel_rfl) (fun _ _ _ _ _=>trivial) (fun w1 hI _ K' s7=>?_) ?_
   ·go_simp;refine(ZY vars[i] v w1).mono ?_;rintro e w2⟨rfl,p4⟩;rw[l3.out];exact s7 _ _ (by go_simp) trivial (hI.trans (p4.mono hI.size)) p4
   simp only[Act.put,aB,aD,aC]
   (refine Aj.Ad rfl rfl ?_ ?_ ?_;rotate_left;(focus(intro w1 hI _;obtain⟨b6,_⟩:=Ae hI;go_simp;rfl)))
   simp only[Act.put,aB,aD,aC];refine Aj.Ak (fun w6 e2 _=>?_);simp only[aN,aS];have b7:=Ab e8 e2;have A1:=e2.size;have A2:w4.heap.size<w6.heap.size:=by omega
   obtain⟨j8,s8⟩:=Ae e2;cases ft
   ·have j9:Hid (C5 vars d.Ac a=none):=jK (by rw[HS.out];exact if_neg (fun e=>Bool.noConfusion (l3.out.symm.trans e)));have b2:=Bt w6 (.string BJ) 9 _ (rfl:w6.heap.size=w6.heap.size);have a8:=BE [BJ];go_wp2_with (at_builtin;refine Ap _ rfl _ _ 22 rfl w.heap.size 9 i0 _ 1 16 underlying22 e9 h0 h4 h5 rfl (by decide) _ _ _ rfl ((b4.below b7).raised.alloc _) _ (some ⟨_,0,none⟩) 1 1 _ rfl b2 a8 ?c3 ?c4 ?c5 ?_)
    case c3=>unfold maxLen;omega
    case c4=>omega
    case c5=>(have h9:=(Ab hb b7).size;(try simp only[aW]);omega)
    intro v' wz U b1 J;have a7:Below wr.heap.size wr (w6.alloc (.cells #[.string BJ] 9)):=CU b7 _;have a1:=b4.below a7;have a6:=a1.raise U b1 (by first|exact J|(rw[aW];exact J)|(rw[aW,sA];exact J));have b3:Below w.heap.size w wz:=(Ab hb a7).grown b1 (Ab hb a7).size (fun k hk=>(Bd a1.raised hk).2);have b0:=jK a6;have b5:=jK b3;clear a6 b3 a1 a7 U b1 J b2 a8;have e0:=E3 c9.out (by rw[e1.out];omega) (by rw[e1.out];omega) (fun _=>j9.out);go_wp2
    (try simp only[Exit.inBlock,Exit.then,iM])
    refine aI (En rfl _ _) rfl ?_;rw[e0];exact⟨_,_,_,rfl,⟨b0.out.Ac,b0.out.raised,b0.out.Ao,b0.out.apart⟩,b5.out⟩
   ·have j9:Hid (C5 vars d.Ac a=some (d.Ac.set i v)):=jK (by rw[HS.out];exact if_pos l3.out);have p5:i<d.Ac.length:=by rw[o2.out,<-k1.out];exact j2
    have k7:=b4.below b7;obtain⟨g,cg,rfl,l4,A3,s9,x4,c7,k0,-⟩:=Et k7.Ac (by omega);have hx:=fun j (hj:j<3)=>IT BU (fun _=>rfl) d.Ac i j p5 hj
    have x0:w6.cell? ⟨g,i*3,none⟩=some (.int .i64 d.Ac[i].kind):=c7 _ _ (hx 0 (by omega));have x1:w6.cell? ⟨g,i*3+1,none⟩=some (.int .i64 d.Ac[i].a):=c7 _ _ (hx 1 (by omega));have x2:w6.cell? ⟨g,i*3+2,none⟩=some (.int .i64 d.Ac[i].b):=c7 _ _ (hx 2 (by omega));have f0:=k0 (i*3);have f1:=k0 (i*3+1);have f2:=k0 (i*3+2);have x5:(i:Int)<(d.Ac.length:Int):=by omega
    have y0:w6.cell? ⟨w4.heap.size,0,none⟩=some (.int .i64 v.kind):=by rw[j8 _ _ (by omega)];exact v0
    have y1:w6.cell? ⟨w4.heap.size,1,none⟩=some (.int .i64 v.a):=by rw[j8 _ _ (by omega)];exact v1
    have y2:w6.cell? ⟨w4.heap.size,2,none⟩=some (.int .i64 v.b):=by rw[j8 _ _ (by omega)];exact v2
    have a6:=k7.put v p5;have b0:=jK a6;have p6:=Ab hb b7;have b5:=jK (((p6.setCell (p:=⟨g,i*3,none⟩) l4 (.int .i64 v.kind)).setCell (p:=⟨g,i*3+1,none⟩) l4 (.int .i64 v.a)).setCell (p:=⟨g,i*3+2,none⟩) l4 (.int .i64 v.b));have p7:=Vs c9.out e1.out j9.out;have u0:=jK p7;have p8:=jK (KY i6 j9.out);clear p7 a6 hx c7 k0 j8 s8 v0 v1 v2 p3;go_wp2;go_roundw
    case rel=>exact⟨k+1,{d with Ac:=d.Ac.set i v},by omega,by go_num,rfl,j4.out,u0.out,b0.out,p8.out.1.trans HL.out,p8.out.2,by show d.raised.length<=k+1;omega,by show d.Ao.length<=k+1;omega,b5.out⟩
    case measure=>simp[intOf];omega
  ·obtain rfl:k=l.length:=by omega
   have A8:¬(l.length:Int)<(l.length:Int):=by omega
   have p9:d=D:=by
    have h9:=HD.out;rw[eL]at h9;exact h9
   have u1:=jK p9;clear p9;go_wp2
   (try simp only[Exit.inBlock,Exit.then,iM])
   refine aI (En rfl _ _) rfl ?_;rw[<-u1.out];exact⟨_,_,_,by rw[j4.out];rfl,b4,hb⟩
end
section
open Go.RowKit Q Go.Lib
structure DV where
 nm:ByteArray
 ev:Value
 vv:Value
 sv:Value
 tv:Value
 vP:Value
 st:Int
 fu:Int
structure RV where
 vC:Value
 vV:Value
 vQ:Value
 vS:Value
def Ei (D:DV) (R:RV) (d:Wk):List Value:=[.string D.nm,D.ev,D.vv,D.sv,D.tv,R.vC,D.vP,R.vV,R.vQ,.int .i64 D.st,.int .i64 D.fu,.int .i64 d.status,.int .i64 d.lost,R.vS]
def DF (R:RV) (cl:List Nat) (d:Wk):List Fw:=[⟨3,1,R.vC,cl.length,ints cl⟩,⟨60,3,R.vV,d.Ac.length,d.Ac.flatMap BU⟩,⟨9,1,R.vQ,d.queue.length,strs d.queue⟩,⟨9,1,R.vS,d.Ao.length,strs d.Ao⟩]
def Ay (w:World) (B p t:Nat) (D:DV) (R:RV) (cl:List Nat) (d:Wk):Prop:=AY w B p t (Ei D R d) (DF R cl d)
def AX (p:Nat) (R:RV) (k:Nat):Prop:=k=p\/R.vC.ownBlock=some k\/R.vV.ownBlock=some k\/R.vQ.ownBlock=some k\/R.vS.ownBlock=some k
theorem Ed {p:Nat} {R:RV} {cl:List Nat} {d:Wk} {k:Nat}:Iv p (DF R cl d) k↔AX p R k:=by
 unfold Iv AX DF;refine or_congr Iff.rfl ?_;simp
def AR (w:World) (B p t:Nat) (D:DV) (R:RV) (cl':List Nat) (d':Wk) (w':World):Prop:=
 ∃R',Ay w' B p t D R' cl' d'/\Touch (AX p R) w w'/\∀k,AX p R' k->AX p R k\/w.heap.size<=k
section
variable {w w' w1 w2:World} {B p t:Nat} {D:DV} {R R1:RV} {cl cl1:List Nat} {d d1:Wk}
theorem Ay.Dx (h:Ay w B p t D R cl d) {k:Nat} (j:AX p R k):B<=k/\k<w.heap.size:=AY.Dx h (Ed.2 j)
theorem Ay.OG {S:Nat->Prop} (h:Ay w B p t D R cl d) (j:Touch S w w') (o:∀k,AX p R k->¬S k):Ay w' B p t D R cl d:=AY.OG h j fun k I=>o k (Ed.1 I)
theorem Ay.below (h:Ay w B p t D R cl d) (j:Below w.heap.size w w'):Ay w' B p t D R cl d:=AY.below h j
theorem Ay.cells (h:Ay w B p t D R cl d):w.cell? ⟨p,0,none⟩=some (.string D.nm)/\w.cell? ⟨p,1,none⟩=some D.ev/\w.cell? ⟨p,2,none⟩=some D.vv/\w.cell? ⟨p,3,none⟩=some D.sv/\w.cell? ⟨p,4,none⟩=some D.tv/\
  w.cell? ⟨p,5,none⟩=some R.vC/\w.cell? ⟨p,6,none⟩=some D.vP/\w.cell? ⟨p,7,none⟩=some R.vV/\w.cell? ⟨p,8,none⟩=some R.vQ/\w.cell? ⟨p,9,none⟩=some (.int .i64 D.st)/\w.cell? ⟨p,10,none⟩=some (.int .i64 D.fu)/\
  w.cell? ⟨p,11,none⟩=some (.int .i64 d.status)/\w.cell? ⟨p,12,none⟩=some (.int .i64 d.lost)/\w.cell? ⟨p,13,none⟩=some R.vS:=
 ⟨AY.cell h 0,AY.cell h 1,AY.cell h 2,AY.cell h 3,AY.cell h 4,AY.cell h 5,AY.cell h 6,AY.cell h 7,AY.cell h 8,AY.cell h 9,AY.cell h 10,AY.cell h 11,AY.cell h 12,AY.cell h 13⟩
theorem Ay.Ag (h:Ay w B p t D R cl d):w.ownsRow B 3 1 R.vC cl.length (ints cl):=h.rows _ (aR ..)
theorem Ay.Ac (h:Ay w B p t D R cl d):w.ownsRow B 60 3 R.vV d.Ac.length (d.Ac.flatMap BU):=h.rows _ (bA _ (aR ..))
theorem Ay.queue (h:Ay w B p t D R cl d):w.ownsRow B 9 1 R.vQ d.queue.length (strs d.queue):=h.rows _ (bA _ (bA _ (aR ..)))
theorem Ay.Ao (h:Ay w B p t D R cl d):w.ownsRow B 9 1 R.vS d.Ao.length (strs d.Ao):=h.rows _ (bA _ (bA _ (bA _ (aR ..))))
theorem AR.refl (h:Ay w B p t D R cl d):AR w B p t D R cl d w:=⟨R,h,Touch.refl _ _,fun k j=>.inl j⟩
theorem AR.FM (I:Touch (AX p R) w w1) (J:∀k,AX p R1 k->AX p R k\/w.heap.size<=k) (k:AR w1 B p t D R1 cl1 d1 w2):AR w B p t D R cl1 d1 w2:=by
 obtain⟨U,h2,t2,f2⟩:=k;refine⟨U,h2,I.trans t2 J,fun j hj=>?_⟩;rcases f2 j hj with o|o
 ·exact J j o
 ·exact .inr (aV I.size o)
theorem AR.ahead (j:Below w.heap.size w w1) (k:AR w1 B p t D R cl1 d1 w2):AR w B p t D R cl1 d1 w2:=AR.FM (Touch.AK j) (fun k o=>.inl o) k
theorem AR.behind (k:AR w B p t D R cl1 d1 w1) (j:Below w1.heap.size w1 w2):AR w B p t D R cl1 d1 w2:=by
 obtain⟨o,I,t2,f2⟩:=k;exact⟨o,I.below j,t2.trans (Touch.AK (S:=AX p R) j) (fun k J=>.inl J),f2⟩
theorem AR.base (h:Ay w B p t D R cl d) (k:AR w B p t D R cl1 d1 w1) (o:B<=w.heap.size):Below B w w1:=by
 obtain⟨J,U,t2,f2⟩:=k;exact t2.below o fun j I=>(h.Dx I).1
theorem Ay.BF (h:Ay w B p t D R cl d) (i:Nat) (u:Value) {d':Wk} (j:(Ei D R d).set i u=Ei D R d') (o:DF R cl d'=DF R cl d):AR w B p t D R cl d' (w.setCell ⟨p,i,none⟩ u):=by
 refine⟨R,?_,Touch.C8 _ _ (.inl rfl),fun k I=>.inl I⟩;have:=AY.BF h i u;unfold Ay;rw[o,<-j];exact this
theorem Ay.row (h:Ay w B p t D R cl d) (hB:B<=w.heap.size) (i j:Nat) (x y:Fw) (hi:(DF R cl d)[i]?=some x) (J:Touch (fun k=>x.v.ownBlock=some k) w w1) (ho:w1.ownsRow B y.e y.k y.v y.n y.xs)
  (o:∀k,y.v.ownBlock=some k->x.v.ownBlock=some k\/w.heap.size<=k) {R':RV} {cl':List Nat} {d':Wk} (U:(DF R cl d).set i y=DF R' cl' d') (hc:(Ei D R d).set j y.v=Ei D R' d') :
  AR w B p t D R cl' d' (w1.setCell ⟨p,j,none⟩ y.v):=by
 have hx:x∈DF R cl d:=bR hi;have h1:=AY.IZ h i x y hi J ho o;have h2:=AY.BF h1 j y.v;rw[U,hc]at h2;refine⟨R',h2,?_,fun k I=>?_⟩
 ·refine(J.more fun k I=>Ed.1 (.inr ⟨x,hx,I⟩)).trans (Touch.C8 (S:=AX p R) _ _ (.inl rfl)) (fun k I=>.inl I)
 ·have h3:=SL (p:=p) hi o k (by rw[U];exact Ed.2 I);exact h3.imp_left Ed.1
end
end
end Go.Proofs.YthbihnpoghlfaaaGreatDoor
