import Derived.Test.YthbihnpoghlfaaaGreatDoorZr15
import Derived.Test.YthbihnpoghlfaaaGreatDoorZr19
set_option linter.unusedVariables false
set_option linter.unusedSimpArgs false
set_option maxHeartbeats 8000000
set_option maxRecDepth 100000
namespace Go.Proofs.YthbihnpoghlfaaaGreatDoor
open Go.Proofs.Tryz
section
open Go.RowKit Q Fl
theorem KU {x y:Nat} {a b:Int} (o:FI x a) (p:FI y b):(a<b/\FloatKind.f64.format.order x y=some .lt)\/(a=b/\FloatKind.f64.format.order x y=some .eq)\/(b<a/\FloatKind.f64.format.order x y=some .gt):=by
 have h:FloatKind.f64.format.order x y=some (compare a b):=Yt o p;rw[h];rcases fR a b with j|j|j
 ·exact .inl ⟨j,by simp[compare,compareOfLessAndEq,j]⟩
 ·exact .inr (.inl ⟨j,by simp[compare,compareOfLessAndEq,j]⟩)
 ·have I:¬a<b:=by omega
  have J:¬a=b:=by omega
  exact .inr (.inr ⟨j,by simp[compare,compareOfLessAndEq,I,J]⟩)
theorem Zcb:FI 13920626448202203136 (-1048576):=by
 have h:=DB (-1048576) (by decide)
 rwa[show fl (-1048576)=13920626448202203136 by decide +kernel]at h
theorem Zb4:FI 4697254411347427328 1048576:=by
 have h:=DB 1048576 (by decide)
 rwa[show fl 1048576=4697254411347427328 by decide +kernel]at h
theorem ZbS:FI 4607182418800017408 1:=by
 have h:=DB 1 (by decide)
 rwa[show fl 1=4607182418800017408 by decide +kernel]at h
theorem Lc:FI 0 0:=by
 have h:=DB 0 (by decide)
 rwa[show fl 0=0 by decide +kernel]at h
def sm (a:Int):Prop:=-9007199254740991<=a/\a<=9007199254740991
theorem B2 {a:Int} (h:sm a):a.natAbs<9007199254740992:=by unfold sm at h;omega
theorem KC {x:Nat} {a:Int} (j:FI x a) (h:sm a) (w:World):(convert 251 2 (.float .f64 x)).run prog w=.ok (.int .i64 a) w:=
 run_convert_float_int w _ _ _ _ _ _ (by kernel_rfl) (by kernel_rfl) (YS j (by unfold sm at h;omega) (by unfold sm at h;omega))
theorem JN (a:Int) (w:World):(convert 2 251 (.int .i64 a)).run prog w=.ok (.float .f64 (fl a)) w:=
 run_convert_int_float w _ _ _ _ _ (by kernel_rfl) (by kernel_rfl)
theorem KZ (x:Nat) (a:Int) (j:FI x a) (ha:sm a) (w:World):Calls prog 339 #[.float .f64 x] w fun e w'=>e=.returned (.bool (decide (Bo a)))/\w'=w:=by
 obtain⟨b,p⟩:∃b,decide (Bo a)=b:=⟨_,rfl⟩;rw[p];have J:=jK p;clear p;have h3:=KC j ha;have h4:=JN a;have h5:FloatKind.f64.format.order x (fl a)=some .eq:=by
  rcases KU j (DB a (B2 ha))with⟨h,_⟩|⟨_,h⟩|⟨h,_⟩
  ·omega
  ·exact h
  ·omega
 rcases KU j Zcb with⟨c1,R⟩|⟨c1,R⟩|⟨c1,R⟩
 all_goals
  rcases KU j Zb4 with⟨c2,U⟩|⟨c2,U⟩|⟨c2,U⟩
  all_goals
   first
    |(exfalso;omega)
    |(have o:b=true:=by
       rw[<-J.out,aP];unfold Bo;omega
      have I:=jK o;clear o c1 c2 j ha;go_enter func339,ntmps339;go_wp2;go_ret;exact⟨by rw[I.out];rfl,rfl⟩)
    |(have o:b=false:=by
       rw[<-J.out,bD];unfold Bo;omega
      have I:=jK o;clear o c1 c2 j ha;go_enter func339,ntmps339;go_wp2;go_ret;exact⟨by rw[I.out];rfl,rfl⟩)
theorem C9 (x y:Nat) (a b:Int) (o:FI x a) (p:FI y b) (ha:sm a) (I:sm b) (w:World) :
  Calls prog 284 #[.complex .f64 x y] w fun e j=>e=.returned (.bool (decide (Bo a)&&decide (Bo b)))/\j=w:=by
 go_enter func284,ntmps284;by_cases h:Bo a
 ·have H:=jK h;clear h;go_wp2_with fail;refine(KZ x a o ha _).mono ?_;rintro e j⟨rfl,rfl⟩;rw[aH H.out];go_wp2_with fail;refine(KZ y b p I _).mono ?_;rintro e J⟨rfl,rfl⟩;go_wp2;go_ret;exact⟨by rw[aH H.out,bW];rfl,rfl⟩
 ·have H:=jK h;clear h;go_wp2_with fail;refine(KZ x a o ha _).mono ?_;rintro e j⟨rfl,rfl⟩;rw[aF H.out];go_wp2;go_ret;exact⟨by rw[aF H.out,cC];rfl,rfl⟩
theorem Hl (x y:Nat) (a b:Int) (j:FI x a) (o:FI y b) (ha:sm a) (p:sm b) (w:World) :
  Calls prog 355 #[.complex .f64 x y] w fun e I=>e=.returned (.complex .f64 (fl a) (fl b))/\I=w:=by
 have J:=KC j ha;have R:=KC o p;have U:=JN a;have h4:=JN b;clear j o ha p;go_enter func355,ntmps355;go_wp2;go_ret;exact⟨rfl,rfl⟩
theorem Vl (a b:Int) (h:Bo a/\Bo b) (w:World):Calls prog 185 #[.int .i64 a,.int .i64 b] w fun e j=>e=.returned (.tuple #[.complex .f64 (fl a) (fl b),.int .i64 0])/\j=w:=by
 unfold Bo at h;obtain⟨⟨o,p⟩,I,J⟩:=h;have R:=JN a;have U:=JN b;go_enter func185,ntmps185;go_wp2
 go_ret2
 exact⟨rfl,rfl⟩
theorem YH (a b:Int) (h:¬(Bo a/\Bo b)) (w:World):Calls prog 185 #[.int .i64 a,.int .i64 b] w fun e p=>e=.returned (.tuple #[.complex .f64 0 0,.int .i64 5])/\p=w:=by
 unfold Bo at h;have I:a < -1048576\/(-1048576<=a/\1048576<a)\/(-1048576<=a/\a<=1048576/\b < -1048576)\/(-1048576<=a/\a<=1048576/\-1048576<=b/\1048576<b):=by omega
 clear h;rcases I with j|⟨j,o⟩|⟨j,o,J⟩|⟨j,o,J,R⟩
 all_goals
  go_enter func185,ntmps185;go_wp2
  go_ret2
  exact⟨rfl,rfl⟩
theorem Pe (x y:Nat) (a b:Int) (o:FI x a) (p:FI y b) (ha:sm a) (I:sm b) (w:World) :
  Calls prog 234 #[.complex .f64 x y] w fun e U=>e=.returned (if Bo a/\Bo b then .tuple #[.int .i64 a,.int .i64 b,.int .i64 0]else .tuple #[.int .i64 0,.int .i64 0,.int .i64 12])/\U=w:=by
 have J:=KC o ha;have h2:=KC p I;obtain⟨r,R⟩:∃r,(if Bo a/\Bo b then Value.tuple #[.int .i64 a,.int .i64 b,.int .i64 0]else .tuple #[.int .i64 0,.int .i64 0,.int .i64 12])=r:=⟨_,rfl⟩;rw[R];have HR:=jK R;clear R;go_enter func234,ntmps234;go_wp2_with fail;refine(C9 x y a b o p ha I _).mono ?_;rintro e U⟨rfl,rfl⟩;by_cases h:Bo a/\Bo b
 ·have H:=jK h;rw[aH h.1,aH h.2];clear h o p ha I;go_wp2;refine aI (v:=.tuple #[.int .i64 a,.int .i64 b,.int .i64 0]) (by simp[results,results234,go_sem]) rfl ⟨?_,rfl⟩;rw[<-HR.out,if_pos H.out]
 ·have H:=jK h;have j:(decide (Bo a)&&decide (Bo b))=false:=by
   rw[Bool.and_eq_false_iff,bD,bD];by_cases J:Bo a
   ·exact .inr fun h2=>h ⟨J,h2⟩
   ·exact .inl J
  rw[j];clear h o p ha I j;go_wp2;refine aI (v:=.tuple #[.int .i64 0,.int .i64 0,.int .i64 12]) (by simp[results,results234,go_sem]) rfl ⟨?_,rfl⟩;rw[<-HR.out,if_neg H.out]
theorem Cv {a:Int} (h:Bo a):sm a:=by unfold Bo at h;unfold sm;omega
def told (a b:Int):Value:=if Bo a/\Bo b then .tuple #[.complex .f64 (fl a) (fl b),.int .i64 0]else .tuple #[.complex .f64 0 0,.int .i64 5]
theorem Mx (p1 p2 q1 q2 x y:Nat) (a1 a2 b1 b2 a b:Int) (b4:FI p1 a1) (b5:FI p2 a2) (b6:FI q1 b1) (b7:FI q2 b2) (o:Bo a1) (p:Bo a2) (I:Bo b1) (J:Bo b2) (hx:FI x a) (hy:FI y b) (ha:sm a) (hb:sm b) (w:World) :
  Calls prog 356 #[.complex .f64 p1 p2,.complex .f64 q1 q2,.complex .f64 x y] w fun e R=>e=.returned (told a b)/\R=w:=by
 obtain⟨r,U⟩:∃r,told a b=r:=⟨_,rfl⟩;rw[U];unfold told at U;have HR:=jK U;clear U;go_enter func356,ntmps356;go_wp2_with fail;refine(C9 p1 p2 a1 a2 b4 b5 (Cv o) (Cv p) _).mono ?_;rintro e R⟨rfl,rfl⟩;rw[aH o,aH p];go_wp2_with fail;refine(C9 q1 q2 b1 b2 b6 b7 (Cv I) (Cv J) _).mono ?_;rintro e R⟨rfl,rfl⟩;rw[aH I,aH J];go_wp2_with fail;refine(C9 x y a b hx hy ha hb _).mono ?_;rintro e R⟨rfl,rfl⟩;by_cases h:Bo a/\Bo b
 ·have H:=jK h;rw[aH h.1,aH h.2];clear h;go_wp2_with fail;refine(Hl x y a b hx hy ha hb _).mono ?_;rintro e R⟨rfl,rfl⟩;go_wp2
  go_ret2
  exact⟨by rw[<-HR.out,if_pos H.out];rfl,rfl⟩
 ·have H:=jK h;have j:(decide (Bo a)&&decide (Bo b))=false:=by
   rw[Bool.and_eq_false_iff,bD,bD];by_cases h1:Bo a
   ·exact .inr fun h2=>h ⟨h1,h2⟩
   ·exact .inl h1
  rw[j];clear h j;go_wp2
  go_ret2
  exact⟨by rw[<-HR.out,if_neg H.out];rfl,rfl⟩
theorem Wa {op:BinOp} {x1 J R U:Nat} {a1 a2 b1 b2 a b:Int} (b0:(op=.add/\a=a1+b1/\b=a2+b2)\/(op=.sub/\a=a1-b1/\b=a2-b2)) (j:FI x1 a1) (o:FI J a2) (p:FI R b1) (I:FI U b2) (ha:sm a) (hb:sm b) (t:TypeId) :
  ∃x y,FI x a/\FI y b/\∀w,(binOp op t (.complex .f64 x1 J) (.complex .f64 R U)).run prog w=.ok (.complex .f64 x y) w:=by
 rcases b0 with⟨rfl,rfl,rfl⟩|⟨rfl,rfl,rfl⟩
 ·obtain⟨x,h1,h2⟩:=Ub j p (B2 ha);obtain⟨y,h3,h4⟩:=Ub o I (B2 hb);have e1:floatBits .add .f64 x1 R=some x:=h1;have e2:floatBits .add .f64 J U=some y:=h3;exact⟨x,y,h2,h4,fun w=>run_complex_sum w _ (.inl rfl) t _ _ _ _ _ x y (by unfold cSumBits;rw[e1,e2];rfl)⟩
 ·obtain⟨x,h1,h2⟩:=UK j p (B2 ha);obtain⟨y,h3,h4⟩:=UK o I (B2 hb);have e1:floatBits .sub .f64 x1 R=some x:=h1;have e2:floatBits .sub .f64 J U=some y:=h3;exact⟨x,y,h2,h4,fun w=>run_complex_sum w _ (.inr rfl) t _ _ _ _ _ x y (by unfold cSumBits;rw[e1,e2];rfl)⟩
theorem VP {x1 x2 y1 y2:Nat} {j a2 o p:Int} (I:FI x1 j) (J:FI x2 a2) (R:FI y1 o) (U:FI y2 p) (h1:sm (j*o)) (h2:sm (a2*p)) (h3:sm (j*p)) (h4:sm (a2*o)) (h5:sm (j*o-a2*p)) (h6:sm (j*p+a2*o)) (t:TypeId) :
  ∃x y,FI x (j*o-a2*p)/\FI y (j*p+a2*o)/\∀w,(binOp .mul t (.complex .f64 x1 x2) (.complex .f64 y1 y2)).run prog w=.ok (.complex .f64 x y) w:=by
 obtain⟨ac,g1,k1⟩:=Qm I R (B2 h1);obtain⟨bd,g2,k2⟩:=Qm J U (B2 h2);obtain⟨x,g3,k3⟩:=UK k1 k2 (B2 h5);obtain⟨ad,g4,k4⟩:=Qm I U (B2 h3);obtain⟨bc,g5,k5⟩:=Qm J R (B2 h4);obtain⟨y,g6,k6⟩:=Ub k4 k5 (B2 h6);have e1:floatBits .mul .f64 x1 y1=some ac:=g1;have e2:floatBits .mul .f64 x2 y2=some bd:=g2;have e3:floatBits .sub .f64 ac bd=some x:=g3;have e4:floatBits .mul .f64 x1 y2=some ad:=g4;have e5:floatBits .mul .f64 x2 y1=some bc:=g5;have e6:floatBits .add .f64 ad bc=some y:=g6;exact⟨x,y,k3,k6,fun w=>run_complex_mul w t _ _ _ _ x y (by unfold cMulBits;rw[e1];simp only[fK];rw[e2];simp only[fK];rw[e3];simp only[fK];rw[e4];simp only[fK];rw[e5];simp only[fK];rw[e6];rfl)⟩
theorem FQ {a b:Int} (ha:Bo a) (j:Bo b):-1099511627776<=a*b/\a*b<=1099511627776:=by
 unfold Bo at *;have h:(a*b).natAbs<=1048576*1048576:=by
  rw[Int.natAbs_mul];exact iU (by omega) (by omega)
 omega
theorem Py (j a2 o p:Int) (I:Bo j) (J:Bo a2) (R:Bo o) (U:Bo p) (w:World) :
  Calls prog 317 #[.complex .f64 (fl j) (fl a2),.complex .f64 (fl o) (fl p)] w fun e w'=>e=.returned (told (j+o) (a2+p))/\w'=w:=by
 have f1:=DB j (B2 (Cv I));have f2:=DB a2 (B2 (Cv J));have f3:=DB o (B2 (Cv R));have f4:=DB p (B2 (Cv U));have s1:sm (j+o):=by unfold Bo at *;unfold sm;omega
 have s2:sm (a2+p):=by unfold Bo at *;unfold sm;omega
 obtain⟨x,y,hx,hy,b0⟩:=Wa (.inl ⟨rfl,rfl,rfl⟩) f1 f2 f3 f4 s1 s2 183;obtain⟨r,hr⟩:∃r,told (j+o) (a2+p)=r:=⟨_,rfl⟩;rw[hr];have HR:=jK hr;clear hr;go_enter func317,ntmps317;go_wp2_with fail;refine(Mx _ _ _ _ x y j a2 o p _ _ f1 f2 f3 f4 I J R U hx hy s1 s2 _).mono ?_;rintro e w'⟨rfl,rfl⟩;rw[HR.out];have h:=HR.out;unfold told at h;by_cases a6:Bo (j+o)/\Bo (a2+p)
 ·rw[if_pos a6]at h;subst h;go_wp2
  go_ret2
  exact⟨rfl,rfl⟩
 ·rw[if_neg a6]at h;subst h;go_wp2
  go_ret2
  exact⟨rfl,rfl⟩
theorem PS (j a2 o p:Int) (I:Bo j) (J:Bo a2) (R:Bo o) (U:Bo p) (w:World) :
  Calls prog 318 #[.complex .f64 (fl j) (fl a2),.complex .f64 (fl o) (fl p)] w fun e w'=>e=.returned (told (j-o) (a2-p))/\w'=w:=by
 have f1:=DB j (B2 (Cv I));have f2:=DB a2 (B2 (Cv J));have f3:=DB o (B2 (Cv R));have f4:=DB p (B2 (Cv U));have s1:sm (j-o):=by unfold Bo at *;unfold sm;omega
 have s2:sm (a2-p):=by unfold Bo at *;unfold sm;omega
 obtain⟨x,y,hx,hy,b0⟩:=Wa (.inr ⟨rfl,rfl,rfl⟩) f1 f2 f3 f4 s1 s2 183;obtain⟨r,hr⟩:∃r,told (j-o) (a2-p)=r:=⟨_,rfl⟩;rw[hr];have HR:=jK hr;clear hr;go_enter func318,ntmps318;go_wp2_with fail;refine(Mx _ _ _ _ x y j a2 o p _ _ f1 f2 f3 f4 I J R U hx hy s1 s2 _).mono ?_;rintro e w'⟨rfl,rfl⟩;rw[HR.out];have h:=HR.out;unfold told at h;by_cases a6:Bo (j-o)/\Bo (a2-p)
 ·rw[if_pos a6]at h;subst h;go_wp2
  go_ret2
  exact⟨rfl,rfl⟩
 ·rw[if_neg a6]at h;subst h;go_wp2
  go_ret2
  exact⟨rfl,rfl⟩
theorem Qd (j a2 o p:Int) (I:Bo j) (J:Bo a2) (R:Bo o) (a6:Bo p) (w:World) :
  Calls prog 319 #[.complex .f64 (fl j) (fl a2),.complex .f64 (fl o) (fl p)] w fun e w'=>e=.returned (told (j*o-a2*p) (j*p+a2*o))/\w'=w:=by
 have f1:=DB j (B2 (Cv I));have f2:=DB a2 (B2 (Cv J));have f3:=DB o (B2 (Cv R));have f4:=DB p (B2 (Cv a6));have p1:=FQ I R;have p2:=FQ J a6;have p3:=FQ I a6;have p4:=FQ J R;have s1:sm (j*o-a2*p):=by unfold sm;omega
 have s2:sm (j*p+a2*o):=by unfold sm;omega
 obtain⟨x,y,hx,hy,b3⟩:=VP f1 f2 f3 f4 (by unfold sm;omega) (by unfold sm;omega) (by unfold sm;omega) (by unfold sm;omega) s1 s2 183;clear p1 p2 p3 p4;generalize j*o-a2*p=U at *;generalize j*p+a2*o=V at *;obtain⟨r,hr⟩:∃r,told U V=r:=⟨_,rfl⟩;rw[hr];have HR:=jK hr;clear hr;go_enter func319,ntmps319;go_wp2_with fail;refine(Mx _ _ _ _ x y j a2 o p _ _ f1 f2 f3 f4 I J R a6 hx hy s1 s2 _).mono ?_;rintro e w'⟨rfl,rfl⟩;rw[HR.out];have h:=HR.out;unfold told at h;by_cases a7:Bo U/\Bo V
 ·rw[if_pos a7]at h;subst h;go_wp2
  go_ret2
  exact⟨rfl,rfl⟩
 ·rw[if_neg a7]at h;subst h;go_wp2
  go_ret2
  exact⟨rfl,rfl⟩
theorem L8:sm 0:=by unfold sm;omega
def Ua:Nat->Int->Int->Int×Int
 | 0,a,b=>(a,b)
 |k+1,a,b=>let p:=Ua k a b;(-p.2,p.1)
theorem PP:∀(k:Nat) {a b:Int},Bo a->Bo b->Bo (Ua k a b).1/\Bo (Ua k a b).2
 | 0,a,b,ha,j=>⟨ha,j⟩
 |k+1,a,b,ha,j=>by
  obtain⟨o,p⟩:=PP k ha j;exact⟨by unfold Bo at *;show -1048576<=-(Ua k a b).2/\-(Ua k a b).2<=1048576;omega,o⟩
theorem Yw (a b:Int) (ha:Bo a) (j:Bo b) (w:World) :
  Calls prog 315 #[.complex .f64 (fl a) (fl b),.int .i64 2] w fun e o=>e=.returned (.tuple #[.complex .f64 (fl (-a)) (fl (-b)),.int .i64 0])/\o=w:=by
 have f1:=DB a (B2 (Cv ha));have f2:=DB b (B2 (Cv j));have hand:bits BinOp.and IntKind.i64 2 3=2:=by decide
 go_enter func315,ntmps315;go_wp2_with fail;refine(C9 _ _ a b f1 f2 (Cv ha) (Cv j) _).mono ?_;rintro e o⟨rfl,rfl⟩;rw[aH ha,aH j];go_wp2
 go_loop [11,0] (fun v p=>∃(k:Nat) (x y:Nat),k<=2/\v=.int .i64 (k:Int)/\p=.complex .f64 x y/\FI x (Ua k a b).1/\FI y (Ua k a b).2) (fun v _=>2-(intOf v).toNat)
 case atStart=>exact⟨0,_,_,by omega,rfl,rfl,f1,f2⟩
 case round=>
  obtain⟨k,x,y,hk,rfl,rfl,I,J⟩:=hrel;obtain⟨r1,r2⟩:=PP k ha j;by_cases b0:k<2
  ·have b1:(k:Int)<2:=by omega
   have R:(Ua k a b).1*0-(Ua k a b).2*1=(Ua (k+1) a b).1:=by show _=-(Ua k a b).2;omega
   have U:(Ua k a b).1*1+(Ua k a b).2*0=(Ua (k+1) a b).2:=by show _=(Ua k a b).1;omega
   obtain⟨u,v,hu,hv,a8⟩:=VP I J Lc ZbS (by rw[Int.mul_zero];exact L8) (by rw[Int.mul_one];exact Cv r2) (by rw[Int.mul_one];exact Cv r1) (by rw[Int.mul_zero];exact L8)
    (by rw[R];exact Cv (PP (k+1) ha j).1) (by rw[U];exact Cv (PP (k+1) ha j).2) 183
   rw[R]at hu;rw[U]at hv;clear R U I J;go_wp2
   go_round
   case rel=>exact⟨k+1,u,v,by omega,by go_num,rfl,hu,hv⟩
   case measure=>simp[intOf];omega
  ·obtain rfl:k=2:=by omega
   go_wp2_with fail;refine(Hl x y _ _ I J (Cv r1) (Cv r2) _).mono ?_;rintro e o⟨rfl,rfl⟩;go_wp2
   go_ret2
   exact⟨rfl,rfl⟩
def As (v:BS):Value:=.agg #[.int .i64 v.kind,.int .i64 v.a,.int .i64 v.b]
def AD:BS:=⟨0,0,0⟩
theorem FB (n:Int) (w:World):Calls prog 261 #[.int .i64 n] w fun e j=>e=.returned (As (num n))/\Below w.heap.size w j:=by
 go_enter func261,ntmps261;go_wp2;exact aI (v:=As (num n)) (by simp[results,results261,go_sem,As,num]) rfl ⟨rfl,(aJ _ _).alloc (aL _) _⟩
theorem BG (b:Bool) (w:World):Calls prog 262 #[.bool b] w fun e j=>e=.returned (As (A7 b))/\Below w.heap.size w j:=by
 cases b
 all_goals
  go_enter func262,ntmps262;go_wp2
 ·exact aI (v:=As (A7 false)) (by simp[results,results262,go_sem,As,A7]) rfl ⟨rfl,((aJ _ _).alloc (aL _) _).alloc (by simp) _⟩
 ·exact aI (v:=As (A7 true)) (by simp[results,results262,go_sem,As,A7]) rfl ⟨rfl,((aJ _ _).alloc (aL _) _).alloc (by simp) _⟩
theorem CH (v:BS) (h:Bo v.a/\Bo v.b) (w:World):Calls prog 316 #[As v] w fun e j=>e=.returned (.complex .f64 (fl v.a) (fl v.b))/\Below w.heap.size w j:=by
 obtain⟨k,a,b⟩:=v;show Calls _ _ #[.agg #[.int .i64 k,.int .i64 a,.int .i64 b]] _ _;have H:=jK h;clear h;go_enter func316,ntmps316;go_wp2_with fail;refine(Vl a b H.out _).mono ?_;rintro e j⟨rfl,rfl⟩;go_wp2;go_ret;exact⟨rfl,(aJ _ _).alloc (aL _) _⟩
theorem ER (v:BS) (w:World):Calls prog 103 #[As v] w fun e p=>e=.returned (.bool (decide (By v)))/\Below w.heap.size w p:=by
 obtain⟨r,I⟩:∃r,decide (By v)=r:=⟨_,rfl⟩;rw[I];obtain⟨k,a,b⟩:=v;have J:=jK I;clear I;show Calls _ _ #[.agg #[.int .i64 k,.int .i64 a,.int .i64 b]] _ _;by_cases j:Bo a/\Bo b
 ·have H:=jK j;clear j;go_enter func103,ntmps103;go_wp2_with (go_at_call 185;refine(Vl a b H.out _).mono ?_;rintro e p⟨rfl,rfl⟩)
  all_goals
   go_ret;refine⟨Db ?_,(aJ _ _).alloc (aL _) _⟩;rw[<-J.out];have o:=H.out;simp only[dI,dJ,ne_eq]at *
   first
    |(symm;rw[aP];unfold By;dsimp only;first|omega|(refine .inr (.inr ⟨by omega,o⟩)))
    |(symm;rw[bD];unfold By;dsimp only;omega)
    |(rw[cH];simp only[aP,dI];unfold By;dsimp only;omega)
    |(rw[cH];simp only[aP,dI,bV];unfold By;dsimp only
      constructor
      ·intro h;exact .inr (.inl ⟨by omega,by omega,h⟩)
      ·rintro(⟨h,_⟩|⟨_,_,h⟩|⟨h,_⟩)
       ·omega
       ·exact h
       ·omega)
    |(symm;rw[bD];unfold By;dsimp only
      rintro(⟨h,_⟩|⟨h,_⟩|⟨_,h⟩)
      ·omega
      ·omega
      ·exact o h)
 ·have H:=jK j;clear j;go_enter func103,ntmps103;go_wp2_with (go_at_call 185;refine(YH a b H.out _).mono ?_;rintro e p⟨rfl,rfl⟩)
  all_goals
   go_ret;refine⟨Db ?_,(aJ _ _).alloc (aL _) _⟩;rw[<-J.out];have o:=H.out;simp only[dI,dJ,ne_eq]at *
   first
    |(symm;rw[aP];unfold By;dsimp only;omega)
    |(symm;rw[bD];unfold By;dsimp only;omega)
    |(rw[cH];simp only[aP,dI];unfold By;dsimp only;omega)
    |(rw[cH];simp only[aP,dI,bV];unfold By;dsimp only
      constructor
      ·intro h;exact .inr (.inl ⟨by omega,by omega,h⟩)
      ·rintro(⟨h,_⟩|⟨_,_,h⟩|⟨h,_⟩)
       ·omega
       ·exact h
       ·omega)
    |(symm;rw[bD];unfold By;dsimp only
      rintro(⟨h,_⟩|⟨h,_⟩|⟨_,h⟩)
      ·omega
      ·omega
      ·exact o h)
theorem S5 (a b:Int) (ha:Bo a) (j:Bo b) (w:World):Calls prog 314 #[.complex .f64 (fl a) (fl b),.int .i64 0] w fun e o=>e=.returned (.tuple #[As ⟨3,a,b⟩,.int .i64 0])/\Below w.heap.size w o:=by
 have f1:=DB a (B2 (Cv ha));have f2:=DB b (B2 (Cv j));have H:=jK (show(if Bo a/\Bo b then Value.tuple #[.int .i64 a,.int .i64 b,.int .i64 0]else .tuple #[.int .i64 0,.int .i64 0,.int .i64 12])=.tuple #[.int .i64 a,.int .i64 b,.int .i64 0]from if_pos ⟨ha,j⟩);go_enter func314,ntmps314;go_wp2_with fail;refine(Pe _ _ a b f1 f2 (Cv ha) (Cv j) _).mono ?_;rintro e o⟨rfl,rfl⟩;rw[H.out];clear ha j f1 f2;go_wp2;exact aI (v:=.tuple #[As ⟨3,a,b⟩,.int .i64 0]) (by simp[results,results314,go_sem,As]) rfl ⟨rfl,(aJ _ _).alloc (aL _) _⟩
theorem Xh (x:Int) (j:x≠0) (w:World):Calls prog 314 #[.complex .f64 0 0,.int .i64 x] w fun e o=>e=.returned (.tuple #[As AD,.int .i64 x])/\Below w.heap.size w o:=by
 have p:(x==0)=false:=by simpa using j
 have H:=jK (show(if Bo 0/\Bo 0 then Value.tuple #[.int .i64 0,.int .i64 0,.int .i64 0]else .tuple #[.int .i64 0,.int .i64 0,.int .i64 12])=.tuple #[.int .i64 0,.int .i64 0,.int .i64 0]from if_pos (by decide));clear j;go_enter func314,ntmps314;go_wp2_with fail;refine(Pe 0 0 0 0 Lc Lc L8 L8 _).mono ?_;rintro e o⟨rfl,rfl⟩;rw[H.out];go_wp2;exact aI (v:=.tuple #[As AD,.int .i64 x]) (by simp[results,results314,go_sem,As,AD]) rfl ⟨rfl,(aJ _ _).alloc (aL _) _⟩
theorem RN (n:Int) (h:AP n) (w:World):Calls prog 380 #[.int .i64 n] w fun e j=>e=.returned (.int .u64 (n.natAbs:Int))/\j=w:=by
 unfold AP at h;by_cases p:n<0
 ·have o:IntKind.u64.wrap n=n+18446744073709551616:=by rw[show IntKind.u64.wrap n=n % 18446744073709551616 from rfl];omega
  have I:IntKind.u64.wrap (-(n+18446744073709551616))=(n.natAbs:Int):=by rw[show IntKind.u64.wrap (-(n+18446744073709551616))=(-(n+18446744073709551616)) % 18446744073709551616 from rfl];omega
  go_enter func380,ntmps380;go_wp2;go_ret;exact⟨rfl,rfl⟩
 ·have o:IntKind.u64.wrap n=(n.natAbs:Int):=by rw[show IntKind.u64.wrap n=n % 18446744073709551616 from rfl];omega
  go_enter func380,ntmps380;go_wp2;go_ret;exact⟨rfl,rfl⟩
theorem YA (a b:Int):a*b=if(decide (a<0) != decide (b<0))=true then -((a.natAbs*b.natAbs:Nat):Int)else((a.natAbs*b.natAbs:Nat):Int):=by
 rw[<-Int.natAbs_mul];rcases fR a 0 with h|h|h<;>rcases fR b 0 with k|k|k
 ·have:=Int.mul_pos_of_neg_of_neg h k;simp[h,k];omega
 ·subst k;simp
 ·have:=Int.mul_neg_of_neg_of_pos h k;have j:¬b<0:=by omega
  simp[h,j];omega
 ·subst h;simp
 ·subst h;simp
 ·subst h;simp
 ·have:=Int.mul_neg_of_pos_of_neg h k;have o:¬a<0:=by omega
  simp[o,k];omega
 ·subst k;simp
 ·have:=Int.mul_pos h k;have o:¬a<0:=by omega
  have j:¬b<0:=by omega
  simp[o,j];omega
def Prod (a b:Int) (e:Ending):Prop:=∃x:Int,e=.returned (.tuple #[.int .i64 x,.bool (decide (AP (a*b)))])/\(AP (a*b)->x=a*b)
theorem CT {a b x j:Int} {R R':Bool} (h:Prod a b (.returned (.tuple #[.int .i64 x,.bool R]))) (o:x=j) (p:R=R'):Prod a b (.returned (.tuple #[.int .i64 j,.bool R'])):=by
 subst o;subst p;exact h
theorem KH {p:Prop} [Decidable p] (h:p):true=decide p:=(aH h).symm
theorem Gr {p:Prop} [Decidable p] (h:¬p):false=decide p:=(aF h).symm
theorem Lw (a b:Int) (ha:AP a) (hb:AP b) (w:World):Calls prog 357 #[.int .i64 a,.int .i64 b] w fun e w'=>Prod a b e/\w'=w:=by
 have J:=YA a b;have b9:=ha;have c0:=hb;unfold AP at b9 c0;obtain⟨P,hP⟩:∃P,a.natAbs*b.natAbs=P:=⟨_,rfl⟩;rw[hP]at J;have b2:a.natAbs<18446744073709551616:=by omega
 have b3:b.natAbs<18446744073709551616:=by omega
 obtain⟨q,hq⟩:∃q,P / 18446744073709551616=q:=⟨_,rfl⟩;obtain⟨m,hm⟩:∃m,P % 18446744073709551616=m:=⟨_,rfl⟩;have j:P=18446744073709551616*q+m:=by omega
 have c6:m<18446744073709551616:=by omega
 obtain⟨R,o⟩:∃R,decide (AP (a*b))=R:=⟨_,rfl⟩;generalize a8:a*b=AB at *;have U:=jK (show ∀(x:Int),(AB=x\/R=false)->Prod a b (.returned (.tuple #[.int .i64 x,.bool R]))from fun x hx=>⟨x,by rw[a8,o],fun h=>by
  rw[a8]at h⊢;rcases hx with hx|hx
  ·exact hx.symm
  ·rw[hx]at o;exact absurd h (iO o)⟩)
 have HP:=jK hP;have HQ:=jK hq;have HM:=jK hm;clear hP hq hm a8;go_enter func357,ntmps357;have b5:=jK o;have b6:=jK J;have b7:=jK j;clear o J j;go_wp2_with fail;refine(RN a ha _).mono ?_;rintro e w'⟨rfl,rfl⟩;go_wp2_with fail;refine(RN b hb _).mono ?_;rintro e w'⟨rfl,rfl⟩;go_wp2_with fail;refine(Tryz.bits_Mul64 a.natAbs b.natAbs b2 b3 _).mono ?_;rintro e w'⟨rfl,rfl⟩;rw[HP.out,HQ.out,HM.out];clear b2 b3;have o:=b5.out;have J:=b6.out;have j:=b7.out;clear b5 b6 b7;by_cases c2:q=0
 ·subst c2;by_cases h1:a<0
  ·by_cases h2:b<0
   ·have p:AB=(P:Int):=by rw[J,aH h1,aH h2];rfl
    have d1:=aH h1;have d2:=aH h2;by_cases b0:m<9223372036854775808
    ·obtain rfl:R=true:=by rw[<-o,aP];unfold AP;omega
     have b1:wrap64 (m:Int)=(m:Int):=by unfold wrap64;omega
     have I:(m:Int)<9223372036854775808:=by omega
     have HF:=jK (U.out (m:Int) (.inl (by omega)));clear J j p o U;go_wp2
     go_ret2
     exact⟨CT HF.out (by first|(unfold wrap64;omega)|rfl) (by first|with_reducible rfl|exact KH I),rfl⟩
    ·obtain rfl:R=false:=by rw[<-o,bD];unfold AP;omega
     have I:¬(m:Int)<9223372036854775808:=by omega
     have HF:=jK (fun x=>U.out x (.inr rfl));clear J j p o U;go_wp2
     go_ret2
     exact⟨CT (HF.out _) rfl (by first|with_reducible rfl|exact Gr (by omega)),rfl⟩
   ·have p:AB=-(P:Int):=by rw[J,aH h1,aF h2];rfl
    have d1:=aH h1;have d2:=aF h2;by_cases b0:m<=9223372036854775808
    ·obtain rfl:R=true:=by rw[<-o,aP];unfold AP;omega
     have b1:wrap64 (-wrap64 (m:Int))=-(m:Int):=by unfold wrap64;omega
     have I:(m:Int)<=9223372036854775808:=by omega
     have HF:=jK (U.out (-(m:Int)) (.inl (by omega)));clear J j p o U;go_wp2
     go_ret2
     exact⟨CT HF.out (by first|(unfold wrap64;omega)|rfl) (by first|with_reducible rfl|exact KH I),rfl⟩
    ·obtain rfl:R=false:=by rw[<-o,bD];unfold AP;omega
     have I:¬(m:Int)<=9223372036854775808:=by omega
     have HF:=jK (fun x=>U.out x (.inr rfl));clear J j p o U;go_wp2
     go_ret2
     exact⟨CT (HF.out _) rfl (by first|with_reducible rfl|exact Gr (by omega)),rfl⟩
  ·by_cases h2:b<0
   ·have p:AB=-(P:Int):=by rw[J,aF h1,aH h2];rfl
    have d1:=aF h1;have d2:=aH h2;by_cases b0:m<=9223372036854775808
    ·obtain rfl:R=true:=by rw[<-o,aP];unfold AP;omega
     have b1:wrap64 (-wrap64 (m:Int))=-(m:Int):=by unfold wrap64;omega
     have I:(m:Int)<=9223372036854775808:=by omega
     have HF:=jK (U.out (-(m:Int)) (.inl (by omega)));clear J j p o U;go_wp2
     go_ret2
     exact⟨CT HF.out (by first|(unfold wrap64;omega)|rfl) (by first|with_reducible rfl|exact KH I),rfl⟩
    ·obtain rfl:R=false:=by rw[<-o,bD];unfold AP;omega
     have I:¬(m:Int)<=9223372036854775808:=by omega
     have HF:=jK (fun x=>U.out x (.inr rfl));clear J j p o U;go_wp2
     go_ret2
     exact⟨CT (HF.out _) rfl (by first|with_reducible rfl|exact Gr (by omega)),rfl⟩
   ·have p:AB=(P:Int):=by rw[J,aF h1,aF h2];rfl
    have d1:=aF h1;have d2:=aF h2;by_cases b0:m<9223372036854775808
    ·obtain rfl:R=true:=by rw[<-o,aP];unfold AP;omega
     have b1:wrap64 (m:Int)=(m:Int):=by unfold wrap64;omega
     have I:(m:Int)<9223372036854775808:=by omega
     have HF:=jK (U.out (m:Int) (.inl (by omega)));clear J j p o U;go_wp2
     go_ret2
     exact⟨CT HF.out (by first|(unfold wrap64;omega)|rfl) (by first|with_reducible rfl|exact KH I),rfl⟩
    ·obtain rfl:R=false:=by rw[<-o,bD];unfold AP;omega
     have I:¬(m:Int)<9223372036854775808:=by omega
     have HF:=jK (fun x=>U.out x (.inr rfl));clear J j p o U;go_wp2
     go_ret2
     exact⟨CT (HF.out _) rfl (by first|with_reducible rfl|exact Gr (by omega)),rfl⟩
 ·have e0:((q:Int)==0)=false:=by simp;omega
  have c5:((q:Int) != 0)=true:=by simp;omega
  obtain rfl:R=false:=by
   rw[<-o,bD];unfold AP;by_cases h1:a<0<;>by_cases h2:b<0<;>simp[h1,h2]at J<;>omega
  have HF:=jK (fun x=>U.out x (.inr rfl));clear J j o U;go_wp2
  go_ret2
  exact⟨CT (HF.out _) rfl (by first|with_reducible rfl|exact Gr (by omega)),rfl⟩
end
end Go.Proofs.YthbihnpoghlfaaaGreatDoor
