import Derived.Test.YthbihnpoghlfaaaGreatDoorZr21
set_option linter.unusedVariables false
set_option linter.unusedSimpArgs false
set_option maxHeartbeats 8000000
set_option maxRecDepth 100000
namespace Go.Proofs.YthbihnpoghlfaaaGreatDoor
open Go.Proofs.Tryz
section
open Go.RowKit Q Fl
theorem CY (a:Int) (w:World):Calls prog 109 #[.int .i64 a] w fun e J=>e=.returned (.bool (decide (Bo a)))/\J=w:=by
 obtain⟨b,j⟩:∃b,decide (Bo a)=b:=⟨_,rfl⟩;rw[j];have o:=jK j;clear j;by_cases p:-1048576<=a
 ·by_cases I:a<=1048576
  ·obtain rfl:b=true:=by rw[<-o.out,aP];exact⟨p,I⟩
   go_enter func109,ntmps109;go_wp2;go_ret;exact⟨rfl,rfl⟩
  ·obtain rfl:b=false:=by rw[<-o.out,bD];exact fun h=>I h.2
   go_enter func109,ntmps109;go_wp2;go_ret;exact⟨rfl,rfl⟩
 ·obtain rfl:b=false:=by rw[<-o.out,bD];exact fun h=>p h.1
  go_enter func109,ntmps109;go_wp2;go_ret;exact⟨rfl,rfl⟩
def LV (a b:Int):Value:=if Bo a/\Bo b then .tuple #[.agg #[.int .i64 a,.int .i64 b],.int .i64 0]else .tuple #[.agg #[.int .i64 0,.int .i64 0],.int .i64 5]
theorem Ls (a b:Int) (w:World):Calls prog 408 #[.int .i64 a,.int .i64 b] w fun e o=>e=.returned (LV a b)/\Below w.heap.size w o:=by
 by_cases j:Bo a
 ·by_cases p:Bo b
  ·rw[show LV a b=.tuple #[.agg #[.int .i64 a,.int .i64 b],.int .i64 0]from if_pos ⟨j,p⟩];have d1:=aH j;have d2:=aH p;have H1:=jK d1;have I:=jK d2;clear j p d1 d2;go_enter func408,ntmps408;go_wp2_with fail;refine(CY a _).mono ?_;rintro e o⟨rfl,rfl⟩;rw[H1.out];go_wp2_with fail;refine(CY b _).mono ?_;rintro e o⟨rfl,rfl⟩;rw[I.out];go_wp2;exact aI (v:=.tuple #[.agg #[.int .i64 a,.int .i64 b],.int .i64 0]) (by simp[results,results408,go_sem]) rfl ⟨rfl,(aJ _ _).alloc (aL _) _⟩
  ·rw[show LV a b=.tuple #[.agg #[.int .i64 0,.int .i64 0],.int .i64 5]from if_neg (fun h=>p h.2)];have H1:=jK (aH j);have I:=jK (aF p);clear j p;go_enter func408,ntmps408;go_wp2_with fail;refine(CY a _).mono ?_;rintro e o⟨rfl,rfl⟩;rw[H1.out];go_wp2_with fail;refine(CY b _).mono ?_;rintro e o⟨rfl,rfl⟩;rw[I.out];go_wp2;exact aI (v:=.tuple #[.agg #[.int .i64 0,.int .i64 0],.int .i64 5]) (by simp[results,results408,go_sem]) rfl ⟨rfl,(aJ _ _).alloc (aL _) _⟩
 ·rw[show LV a b=.tuple #[.agg #[.int .i64 0,.int .i64 0],.int .i64 5]from if_neg (fun h=>j h.1)];have H1:=jK (aF j);clear j;go_enter func408,ntmps408;go_wp2_with fail;refine(CY a _).mono ?_;rintro e o⟨rfl,rfl⟩;rw[H1.out];go_wp2;exact aI (v:=.tuple #[.agg #[.int .i64 0,.int .i64 0],.int .i64 5]) (by simp[results,results408,go_sem]) rfl ⟨rfl,(aJ _ _).alloc (aL _) _⟩
theorem K9 (a b:Int):∃U V X:Int,LV a b=.tuple #[.agg #[.int .i64 U,.int .i64 V],.int .i64 X]:=by
 unfold LV;split
 ·exact⟨_,_,_,rfl⟩
 ·exact⟨_,_,_,rfl⟩
theorem Qq {w j:World} (h:Below w.heap.size w j) (a b:Value):Below w.heap.size w ((j.setCell ⟨w.heap.size+1+1,0,none⟩ a).setCell ⟨w.heap.size+1+1,1,none⟩ b):=
 ((h.setCell (p:=⟨w.heap.size+1+1,0,none⟩) (by simp;omega) a).setCell (p:=⟨w.heap.size+1+1,1,none⟩) (by simp;omega) b)
theorem Nr (o a2 p I:Int) (h1:Bo o) (h2:Bo a2) (h3:Bo p) (h4:Bo I) (w:World):Calls prog 397 #[.agg #[.int .i64 o,.int .i64 a2],.agg #[.int .i64 p,.int .i64 I]] w fun e w'=>e=.returned (LV (o+p) (a2+I))/\Below w.heap.size w w':=by
 have J:=h1;have R:=h2;have U:=h3;have k4:=h4;unfold Bo at J R U k4;obtain⟨J,b7⟩:=J;obtain⟨R,b8⟩:=R;obtain⟨U,b9⟩:=U;obtain⟨k4,c0⟩:=k4;obtain⟨P,Q,X,hp⟩:=K9 (o+p) (a2+I);rw[hp];have HP:=jK hp;clear hp h1 h2 h3 h4;go_enter func397,ntmps397;go_wp2_with fail;refine(Ls (o+p) (a2+I) _).mono ?_;rintro e w1⟨rfl,j⟩;rw[HP.out];obtain⟨a7,a8⟩:=Ae j;have hs:=j.size;go_wp2;refine aI (v:=.tuple #[.agg #[.int .i64 P,.int .i64 Q],.int .i64 X]) (by simp[results,results397,go_sem,a7,a8]) rfl ⟨rfl,?_⟩;exact Qq (Ab (Ai w _ _ _) j) _ _
theorem NJ (o a2 p I:Int) (h1:Bo o) (h2:Bo a2) (h3:Bo p) (h4:Bo I) (w:World):Calls prog 398 #[.agg #[.int .i64 o,.int .i64 a2],.agg #[.int .i64 p,.int .i64 I]] w fun e w'=>e=.returned (LV (o-p) (a2-I))/\Below w.heap.size w w':=by
 have J:=h1;have R:=h2;have U:=h3;have k4:=h4;unfold Bo at J R U k4;obtain⟨J,b7⟩:=J;obtain⟨R,b8⟩:=R;obtain⟨U,b9⟩:=U;obtain⟨k4,c0⟩:=k4;obtain⟨P,Q,X,hp⟩:=K9 (o-p) (a2-I);rw[hp];have HP:=jK hp;clear hp h1 h2 h3 h4;go_enter func398,ntmps398;go_wp2_with fail;refine(Ls (o-p) (a2-I) _).mono ?_;rintro e w1⟨rfl,j⟩;rw[HP.out];obtain⟨a7,a8⟩:=Ae j;have hs:=j.size;go_wp2;refine aI (v:=.tuple #[.agg #[.int .i64 P,.int .i64 Q],.int .i64 X]) (by simp[results,results398,go_sem,a7,a8]) rfl ⟨rfl,?_⟩;exact Qq (Ab (Ai w _ _ _) j) _ _
theorem MH (j a2 o p:Int) (J:Bo j) (R:Bo a2) (U:Bo o) (h4:Bo p) (w:World):Calls prog 399 #[.agg #[.int .i64 j,.int .i64 a2],.agg #[.int .i64 o,.int .i64 p]] w fun e w'=>e=.returned (LV (j*o-a2*p) (j*p+a2*o))/\Below w.heap.size w w':=by
 have p1:=FQ J U;have p2:=FQ R h4;have p3:=FQ J h4;have p4:=FQ R U;have e1:wrap64 (j*o)=j*o:=by unfold wrap64;omega
 have e2:wrap64 (a2*p)=a2*p:=by unfold wrap64;omega
 have e3:wrap64 (j*p)=j*p:=by unfold wrap64;omega
 have e4:wrap64 (a2*o)=a2*o:=by unfold wrap64;omega
 have e5:wrap64 (j*o-a2*p)=j*o-a2*p:=by unfold wrap64;omega
 have e6:wrap64 (j*p+a2*o)=j*p+a2*o:=by unfold wrap64;omega
 clear p1 p2 p3 p4;obtain⟨P,Q,X,hp⟩:=K9 (j*o-a2*p) (j*p+a2*o);rw[hp];have HP:=jK hp;clear hp J R U h4;go_enter func399,ntmps399;go_wp2_with fail;refine(Ls (j*o-a2*p) (j*p+a2*o) _).mono ?_;rintro e w1⟨rfl,I⟩;rw[HP.out];obtain⟨a7,a8⟩:=Ae I;have hs:=I.size;go_wp2;refine aI (v:=.tuple #[.agg #[.int .i64 P,.int .i64 Q],.int .i64 X]) (by simp[results,results399,go_sem,a7,a8]) rfl ⟨rfl,?_⟩;exact Qq (Ab (Ai w _ _ _) I) _ _
theorem AW (b:Bool) (w:World):Calls prog 278 #[.bool b] w fun e j=>e=.returned (As (A7 b))/\Below w.heap.size w j:=by
 cases b
 all_goals
  go_enter func278,ntmps278;go_wp2
 ·exact aI (v:=As (A7 false)) (by simp[results,results278,go_sem,As,A7]) rfl ⟨rfl,(aJ _ _).alloc (aL _) _⟩
 ·exact aI (v:=As (A7 true)) (by simp[results,results278,go_sem,As,A7]) rfl ⟨rfl,(aJ _ _).alloc (aL _) _⟩
def I4 (ok:Bool) (x:Int):Value:=.tuple #[.int .i64 (if ok=true then x else 0),.bool ok]
theorem VY (a b:Int) (ha:AP a) (o:AP b) (w:World):Calls prog 400 #[.int .i64 a,.int .i64 b] w fun e J=>e=.returned (I4 (decide (AP (a+b))) (a+b))/\J=w:=by
 unfold AP at ha o;obtain⟨ha,R⟩:=ha;obtain⟨o,U⟩:=o;by_cases j:AP (a+b)
 ·rw[aH j];unfold AP at j;obtain⟨hi,a1⟩:=j;have hw:wrap64 (a+b)=a+b:=by unfold wrap64;omega
  by_cases h0:0<b
  ·have p:¬9223372036854775807-b<a:=by omega
   have I:¬b<0:=by omega
   go_enter func400,ntmps400;go_wp2
   go_ret2
   exact⟨rfl,rfl⟩
  ·by_cases I:b<0
   ·have p:¬a < -9223372036854775808-b:=by omega
    go_enter func400,ntmps400;go_wp2
    go_ret2
    exact⟨rfl,rfl⟩
   ·go_enter func400,ntmps400;go_wp2
    go_ret2
    exact⟨rfl,rfl⟩
 ·rw[aF j];unfold AP at j;by_cases h0:0<b
  ·have p:9223372036854775807-b<a:=by omega
   clear j;go_enter func400,ntmps400;go_wp2
   go_ret2
   exact⟨rfl,rfl⟩
  ·have I:b<0:=by omega
   have p:a < -9223372036854775808-b:=by omega
   clear j;go_enter func400,ntmps400;go_wp2
   go_ret2
   exact⟨rfl,rfl⟩
theorem Sv (a b:Int) (ha:AP a) (o:AP b) (w:World):Calls prog 401 #[.int .i64 a,.int .i64 b] w fun e J=>e=.returned (I4 (decide (AP (a-b))) (a-b))/\J=w:=by
 unfold AP at ha o;obtain⟨ha,R⟩:=ha;obtain⟨o,U⟩:=o;by_cases j:AP (a-b)
 ·rw[aH j];unfold AP at j;obtain⟨hi,a1⟩:=j;have hw:wrap64 (a-b)=a-b:=by unfold wrap64;omega
  by_cases h0:b<0
  ·have p:¬9223372036854775807+b<a:=by omega
   have I:¬0<b:=by omega
   go_enter func401,ntmps401;go_wp2
   go_ret2
   exact⟨rfl,rfl⟩
  ·by_cases I:0<b
   ·have p:¬a < -9223372036854775808+b:=by omega
    go_enter func401,ntmps401;go_wp2
    go_ret2
    exact⟨rfl,rfl⟩
   ·go_enter func401,ntmps401;go_wp2
    go_ret2
    exact⟨rfl,rfl⟩
 ·rw[aF j];unfold AP at j;by_cases h0:b<0
  ·have p:9223372036854775807+b<a:=by omega
   clear j;go_enter func401,ntmps401;go_wp2
   go_ret2
   exact⟨rfl,rfl⟩
  ·have I:0<b:=by omega
   have p:a < -9223372036854775808+b:=by omega
   clear j;go_enter func401,ntmps401;go_wp2
   go_ret2
   exact⟨rfl,rfl⟩
theorem TG {m n G:Nat} (j:0<n):m*n<=G↔m<=G / n:=(Nat.le_div_iff_mul_le j).symm
theorem Zcq (a b:Int) (ha:0<a) (p:0<b):(Int.tdiv 9223372036854775807 b<a)↔¬AP (a*b):=by
 obtain⟨m,rfl⟩:∃m:Nat,a=(m:Int):=⟨a.toNat,by omega⟩;obtain⟨n,rfl⟩:∃n:Nat,b=(n:Int):=⟨b.toNat,by omega⟩;have j:Int.tdiv 9223372036854775807 (n:Int)=((9223372036854775807 / n:Nat):Int):=(Int.ofNat_tdiv 9223372036854775807 n).symm;rw[j];have I:=TG (m:=m) (n:=n) (G:=9223372036854775807) (by omega);have o:(m:Int)*(n:Int)=((m*n:Nat):Int):=by push_cast;rfl
 rw[o];unfold AP;omega
theorem Zs (a b:Int) (ha:0<a) (p:b<0):(b<Int.tdiv (-9223372036854775808) a)↔¬AP (a*b):=by
 obtain⟨m,rfl⟩:∃m:Nat,a=(m:Int):=⟨a.toNat,by omega⟩;obtain⟨n,rfl⟩:∃n:Nat,b=-(n:Int):=⟨(-b).toNat,by omega⟩;have j:Int.tdiv (-9223372036854775808) (m:Int)=-((9223372036854775808 / m:Nat):Int):=by
  rw[Int.neg_tdiv];congr 1
 rw[j];have I:=TG (m:=n) (n:=m) (G:=9223372036854775808) (by omega);have o:(m:Int)* -(n:Int)=-((n*m:Nat):Int):=by push_cast;rw[Int.mul_neg,Int.mul_comm]
 rw[o];unfold AP;omega
theorem ZbU (a b:Int) (ha:a<0) (j:0<b):(a<Int.tdiv (-9223372036854775808) b)↔¬AP (a*b):=by
 rw[Int.mul_comm];exact Zs b a j ha
theorem Zb3 (a b:Int) (ha:a<0) (p:b<0):(a<Int.tdiv 9223372036854775807 b)↔¬AP (a*b):=by
 obtain⟨m,rfl⟩:∃m:Nat,a=-(m:Int):=⟨(-a).toNat,by omega⟩;obtain⟨n,rfl⟩:∃n:Nat,b=-(n:Int):=⟨(-b).toNat,by omega⟩;have j:Int.tdiv 9223372036854775807 (-(n:Int))=-((9223372036854775807 / n:Nat):Int):=by
  rw[Int.tdiv_neg];congr 1
 rw[j];have I:=TG (m:=m) (n:=n) (G:=9223372036854775807) (by omega);have o:-(m:Int)* -(n:Int)=((m*n:Nat):Int):=by push_cast;rw[Int.neg_mul_neg]
 rw[o];unfold AP;omega
theorem PM (G b:Int) (o:-9223372036854775808<=G/\G<=9223372036854775807) (j:AP b) (p:b≠0) (h:¬(G=-9223372036854775808/\b=-1)):wrap64 (Int.tdiv G b)=Int.tdiv G b:=by
 have h:=Fu (op:=14) (a:=G) (b:=b) (n:=Int.tdiv G b) o j (by
  unfold Q.whole;rw[if_neg (by decide),if_neg (by decide),if_neg (by decide),if_neg p,if_pos rfl,if_neg h])
 unfold AP at h;unfold wrap64;omega
theorem JW {a b:Int} (h:AP (a*b)):wrap64 (a*b)=a*b:=by unfold AP at h;unfold wrap64;omega
theorem KD {a a':Int} {b j:Bool} (o:a=a') (p:b=j):Ending.returned (.tuple #[.int .i64 a,.bool b])=.returned (.tuple #[.int .i64 a',.bool j]):=by rw[o,p]
theorem C7 (x:Int):I4 true x=.tuple #[.int .i64 x,.bool true]:=rfl
theorem De (x:Int):I4 false x=.tuple #[.int .i64 0,.bool false]:=rfl
theorem Yf (a b:Int) (ha:AP a) (p:AP b) (I:0<a) (J:0<b) (w:World):Calls prog 402 #[.int .i64 a,.int .i64 b] w fun e R=>e=.returned (I4 (decide (AP (a*b))) (a*b))/\R=w:=by
 obtain⟨q,U⟩:∃q,Int.tdiv (9223372036854775807) b=q:=⟨_,rfl⟩;have o:=Zcq a b I J;have hw:=PM (9223372036854775807) b (by decide) p (by omega) (by omega);rw[U]at o hw;obtain⟨na,a1⟩:=ha;obtain⟨nb,a6⟩:=p;have z1:(b==0)=false:=by simp;omega
 by_cases j:AP (a*b)
 ·rw[aH j,C7];have hm:=JW j;have ht:¬q<a:=fun h=>o.1 h j
  have HD:=jK o;have a8:a<=q:=by omega
  clear o j;go_enter func402,ntmps402;go_wp2
  go_ret2
  exact⟨rfl,rfl⟩
 ·rw[aF j,De];have ht:q<a:=o.2 j;clear o j;go_enter func402,ntmps402;go_wp2
  go_ret2
  exact⟨rfl,rfl⟩
theorem Zj (a b:Int) (ha:AP a) (p:AP b) (I:0<a) (J:b<0) (w:World):Calls prog 402 #[.int .i64 a,.int .i64 b] w fun e R=>e=.returned (I4 (decide (AP (a*b))) (a*b))/\R=w:=by
 obtain⟨q,U⟩:∃q,Int.tdiv (-9223372036854775808) a=q:=⟨_,rfl⟩;have o:=Zs a b I J;have hw:=PM (-9223372036854775808) a (by decide) ha (by omega) (by omega);rw[U]at o hw;obtain⟨na,a1⟩:=ha;obtain⟨nb,a6⟩:=p;have z1:(a==0)=false:=by simp;omega
 by_cases j:AP (a*b)
 ·rw[aH j,C7];have hm:=JW j;have ht:¬b<q:=fun h=>o.1 h j
  have HD:=jK o;have a8:q<=b:=by omega
  clear o j;go_enter func402,ntmps402;go_wp2
  go_ret2
  exact⟨rfl,rfl⟩
 ·rw[aF j,De];have ht:b<q:=o.2 j;clear o j;go_enter func402,ntmps402;go_wp2
  go_ret2
  exact⟨rfl,rfl⟩
theorem ZJ (a b:Int) (ha:AP a) (p:AP b) (I:a<0) (J:0<b) (w:World):Calls prog 402 #[.int .i64 a,.int .i64 b] w fun e R=>e=.returned (I4 (decide (AP (a*b))) (a*b))/\R=w:=by
 obtain⟨q,U⟩:∃q,Int.tdiv (-9223372036854775808) b=q:=⟨_,rfl⟩;have o:=ZbU a b I J;have hw:=PM (-9223372036854775808) b (by decide) p (by omega) (by omega);rw[U]at o hw;obtain⟨na,a1⟩:=ha;obtain⟨nb,a6⟩:=p;have z1:(b==0)=false:=by simp;omega
 by_cases j:AP (a*b)
 ·rw[aH j,C7];have hm:=JW j;have ht:¬a<q:=fun h=>o.1 h j
  have HD:=jK o;have a8:q<=a:=by omega
  clear o j;go_enter func402,ntmps402;go_wp2
  go_ret2
  exact⟨rfl,rfl⟩
 ·rw[aF j,De];have ht:a<q:=o.2 j;clear o j;go_enter func402,ntmps402;go_wp2
  go_ret2
  exact⟨rfl,rfl⟩
theorem YI (a b:Int) (ha:AP a) (p:AP b) (I:a<0) (J:b<0) (w:World):Calls prog 402 #[.int .i64 a,.int .i64 b] w fun e R=>e=.returned (I4 (decide (AP (a*b))) (a*b))/\R=w:=by
 obtain⟨q,U⟩:∃q,Int.tdiv (9223372036854775807) b=q:=⟨_,rfl⟩;have o:=Zb3 a b I J;have hw:=PM (9223372036854775807) b (by decide) p (by omega) (by omega);rw[U]at o hw;obtain⟨na,a1⟩:=ha;obtain⟨nb,a6⟩:=p;have z1:(b==0)=false:=by simp;omega
 by_cases j:AP (a*b)
 ·rw[aH j,C7];have hm:=JW j;have ht:¬a<q:=fun h=>o.1 h j
  have HD:=jK o;have a8:q<=a:=by omega
  clear o j;go_enter func402,ntmps402;go_wp2
  go_ret2
  exact⟨rfl,rfl⟩
 ·rw[aF j,De];have ht:a<q:=o.2 j;clear o j;go_enter func402,ntmps402;go_wp2
  go_ret2
  exact⟨rfl,rfl⟩
theorem GG (a b:Int) (h:a=0\/b=0) (w:World):Calls prog 402 #[.int .i64 a,.int .i64 b] w fun e o=>e=.returned (I4 (decide (AP (a*b))) (a*b))/\o=w:=by
 have j:a*b=0:=by rcases h with rfl|rfl<;>simp
 rw[j,show decide (AP 0)=true by decide,C7];rcases h with rfl|rfl
 ·clear j;go_enter func402,ntmps402;go_wp2
  go_ret2
  exact⟨KD (by simp) rfl,rfl⟩
 ·clear j;by_cases p:0<a
  ·go_enter func402,ntmps402;go_wp2
   go_ret2
   exact⟨KD (by simp) rfl,rfl⟩
  ·by_cases I:a<0
   ·go_enter func402,ntmps402;go_wp2
    go_ret2
    exact⟨KD (by simp) rfl,rfl⟩
   ·go_enter func402,ntmps402;go_wp2
    go_ret2
    exact⟨KD (by simp) rfl,rfl⟩
theorem Pj (a b:Int) (ha:AP a) (j:AP b) (w:World):Calls prog 402 #[.int .i64 a,.int .i64 b] w fun e o=>e=.returned (I4 (decide (AP (a*b))) (a*b))/\o=w:=by
 rcases fR a 0 with h|h|h
 ·rcases fR b 0 with k|k|k
  ·exact YI a b ha j h k w
  ·exact GG a b (.inr k) w
  ·exact ZJ a b ha j h k w
 ·exact GG a b (.inl h) w
 ·rcases fR b 0 with k|k|k
  ·exact Zj a b ha j h k w
  ·exact GG a b (.inr k) w
  ·exact Yf a b ha j h k w
theorem R4 (op a b:Int) (h:op=11\/op=12\/op=13\/op=14\/op=15) (ha:AP a) (I:AP b) (w:World):Calls prog 382 #[.int .i64 op,.int .i64 a,.int .i64 b] w fun e w'=>e=.returned (Cu (Q.whole op a b))/\w'=w:=by
 have HA:=jK ha;have HB:=jK I;rcases h with rfl|rfl|rfl|rfl|rfl
 ·have p:Q.whole 11 a b=if AP (a+b)then .ok (a+b)else .err 7:=by unfold Q.whole;rw[if_pos rfl]
  rw[p];clear p ha I;by_cases j:AP (a+b)
  ·have J:=jK (aH j);rw[if_pos j,Cr];clear j;go_enter func382,ntmps382;go_wp2_with fail;refine(VY a b HA.out HB.out _).mono ?_;rintro e w'⟨rfl,rfl⟩;rw[J.out,C7];go_wp2
   go_ret2
   exact⟨rfl,rfl⟩
  ·have J:=jK (aF j);rw[if_neg j,Cm];clear j;go_enter func382,ntmps382;go_wp2_with fail;refine(VY a b HA.out HB.out _).mono ?_;rintro e w'⟨rfl,rfl⟩;rw[J.out,De];go_wp2
   go_ret2
   exact⟨rfl,rfl⟩
 ·have p:Q.whole 12 a b=if AP (a-b)then .ok (a-b)else .err 7:=by unfold Q.whole;rw[if_neg (by decide),if_pos rfl]
  rw[p];clear p ha I;by_cases j:AP (a-b)
  ·have J:=jK (aH j);rw[if_pos j,Cr];clear j;go_enter func382,ntmps382;go_wp2_with fail;refine(Sv a b HA.out HB.out _).mono ?_;rintro e w'⟨rfl,rfl⟩;rw[J.out,C7];go_wp2
   go_ret2
   exact⟨rfl,rfl⟩
  ·have J:=jK (aF j);rw[if_neg j,Cm];clear j;go_enter func382,ntmps382;go_wp2_with fail;refine(Sv a b HA.out HB.out _).mono ?_;rintro e w'⟨rfl,rfl⟩;rw[J.out,De];go_wp2
   go_ret2
   exact⟨rfl,rfl⟩
 ·have p:Q.whole 13 a b=if AP (a*b)then .ok (a*b)else .err 7:=by unfold Q.whole;rw[if_neg (by decide),if_neg (by decide),if_pos rfl]
  rw[p];clear p ha I;by_cases j:AP (a*b)
  ·have J:=jK (aH j);rw[if_pos j,Cr];clear j;go_enter func382,ntmps382;go_wp2_with fail;refine(Pj a b HA.out HB.out _).mono ?_;rintro e w'⟨rfl,rfl⟩;rw[J.out,C7];go_wp2
   go_ret2
   exact⟨rfl,rfl⟩
  ·have J:=jK (aF j);rw[if_neg j,Cm];clear j;go_enter func382,ntmps382;go_wp2_with fail;refine(Pj a b HA.out HB.out _).mono ?_;rintro e w'⟨rfl,rfl⟩;rw[J.out,De];go_wp2
   go_ret2
   exact⟨rfl,rfl⟩
 ·have p:Q.whole 14 a b=if b=0 then .err 6 else if a=-9223372036854775808/\b=-1 then .err 7 else .ok (a.tdiv b):=by unfold Q.whole;rw[if_neg (by decide),if_neg (by decide),if_neg (by decide),if_pos rfl]
  have o:=@Fu 14 a b (a.tdiv b) ha I;rw[p]at o⊢;clear p;by_cases h0:b=0
  ·rw[if_pos h0,Cm];subst h0;clear ha I o;go_enter func382,ntmps382;go_wp2
   go_ret2
   exact⟨rfl,rfl⟩
  ·have b1:(b==0)=false:=by simpa using h0
   rw[if_neg h0]at o⊢;by_cases h1:a=-9223372036854775808
   ·have b2:(a != -9223372036854775808)=false:=by simpa using h1
    by_cases U:b=-1
    ·have R:(b != -1)=false:=by simpa using U
     rw[if_pos ⟨h1,U⟩,Cm];clear o ha I;subst h1;subst U;go_enter func382,ntmps382;go_wp2
     go_ret2
     exact⟨rfl,rfl⟩
    ·have R:(b != -1)=true:=by simpa using U
     rw[if_neg (fun h=>U h.2)]at o⊢;rw[Cr];have hi:=o rfl;have hw:wrap64 (a.tdiv b)=a.tdiv b:=by unfold AP at hi;unfold wrap64;omega
     clear o ha I hi U h1;go_enter func382,ntmps382;go_wp2;exact aI (v:=.tuple #[.int .i64 (wrap64 (a.tdiv b)),.int .i64 0]) (by simp[results,results382,go_sem]) rfl ⟨DX hw rfl,rfl⟩
   ·have b2:(a != -9223372036854775808)=true:=by simpa using h1
    rw[if_neg (fun h=>h1 h.1)]at o⊢;rw[Cr];have hi:=o rfl;have hw:wrap64 (a.tdiv b)=a.tdiv b:=by unfold AP at hi;unfold wrap64;omega
    clear o ha I hi h1;go_enter func382,ntmps382;go_wp2;exact aI (v:=.tuple #[.int .i64 (wrap64 (a.tdiv b)),.int .i64 0]) (by simp[results,results382,go_sem]) rfl ⟨DX hw rfl,rfl⟩
 ·have p:Q.whole 15 a b=if b=0 then .err 6 else .ok (a.tmod b):=by unfold Q.whole;rw[if_neg (by decide),if_neg (by decide),if_neg (by decide),if_neg (c:=(15:Int)=14) (by decide)]
  have o:=@Fu 15 a b (a.tmod b) ha I;rw[p]at o⊢;clear p;by_cases h0:b=0
  ·rw[if_pos h0,Cm];subst h0;clear ha I o;go_enter func382,ntmps382;go_wp2
   go_ret2
   exact⟨rfl,rfl⟩
  ·have b1:(b==0)=false:=by simpa using h0
   rw[if_neg h0]at o⊢;rw[Cr];have hi:=o rfl;have hw:wrap64 (a.tmod b)=a.tmod b:=by unfold AP at hi;unfold wrap64;omega
   by_cases U:b=-1
   ·subst U;have R:a.tmod (-1)=0:=by rw[Int.tmod_neg,Int.tmod_one]
    rw[R];clear o ha I hi hw R;go_enter func382,ntmps382;go_wp2
    go_ret2
    exact⟨rfl,rfl⟩
   ·have R:(b != -1)=true:=by simpa using U
    clear o ha I hi U;go_enter func382,ntmps382;go_wp2;exact aI (v:=.tuple #[.int .i64 (a.tmod b),.int .i64 0]) (by simp[results,results382,go_sem]) rfl ⟨rfl,rfl⟩
theorem EE (w:World) (a b c d e:Obj):Below w.heap.size w (((((w.alloc a).alloc b).alloc c).alloc d).alloc e):=((Ai w a b c).alloc (by simp;omega) d).alloc (by simp;omega) e
theorem Jz (U V:Int):(Bo U/\Bo V/\LV U V=.tuple #[.agg #[.int .i64 U,.int .i64 V],.int .i64 0]/\CP U V=.ok ⟨3,U,V⟩)\/(LV U V=.tuple #[.agg #[.int .i64 0,.int .i64 0],.int .i64 5]/\CP U V=.err 5):=by
 unfold LV CP;by_cases h:Bo U/\Bo V
 ·rw[if_pos h,if_pos h];exact .inl ⟨h.1,h.2,rfl,rfl⟩
 ·rw[if_neg h,if_neg h];exact .inr ⟨rfl,rfl⟩
theorem TP (o p a2 I:Int) (h1:Bo o) (h2:Bo p) (h3:Bo a2) (h4:Bo I) (w:World):Calls prog 381 #[.int .i64 11,av 3 o p,av 3 a2 I] w fun e w'=>e=.returned (Am (CP (o+a2) (p+I)))/\Below w.heap.size w w':=by
 have H1:=jK h1;have H2:=jK h2;have H3:=jK h3;have H4:=jK h4;unfold av;rcases Jz (o+a2) (p+I)with⟨_,_,hp,hq⟩|⟨hp,hq⟩
 ·rw[hq];have HP:=jK hp;clear h1 h2 h3 h4 hp hq;generalize hU:o+a2=U at *;generalize hV:p+I=V at *;have HU:=jK hU;have HV:=jK hV;clear hU hV;go_enter func381,ntmps381;go_wp2_with fail;refine(Nr o p a2 I H1.out H2.out H3.out H4.out _).mono ?_;rintro e w1⟨rfl,j⟩;rw[HU.out,HV.out,HP.out];obtain⟨J,R⟩:=Ae j;have hs:=j.size;go_wp2;refine aI (v:=Am (.ok ⟨3,U,V⟩)) (by simp[results,results381,go_sem,Am,As,AD,J,R]) rfl ⟨rfl,?_⟩
  iterate 5 (refine iI ?_ (by first|omega|(simp;omega)|simp) _)
  exact Ab (EE w _ _ _ _ _) j
 ·rw[hq];have HP:=jK hp;clear h1 h2 h3 h4 hp hq;go_enter func381,ntmps381;go_wp2_with fail;refine(Nr o p a2 I H1.out H2.out H3.out H4.out _).mono ?_;rintro e w1⟨rfl,j⟩;rw[HP.out];obtain⟨J,R⟩:=Ae j;have hs:=j.size;go_wp2;refine aI (v:=Am (.err 5)) (by simp[results,results381,go_sem,Am,As,AD,J,R]) rfl ⟨rfl,?_⟩
  iterate 5 (refine iI ?_ (by first|omega|(simp;omega)|simp) _)
  exact Ab (EE w _ _ _ _ _) j
theorem UO (o p a2 I:Int) (h1:Bo o) (h2:Bo p) (h3:Bo a2) (h4:Bo I) (w:World):Calls prog 381 #[.int .i64 12,av 3 o p,av 3 a2 I] w fun e w'=>e=.returned (Am (CP (o-a2) (p-I)))/\Below w.heap.size w w':=by
 have H1:=jK h1;have H2:=jK h2;have H3:=jK h3;have H4:=jK h4;unfold av;rcases Jz (o-a2) (p-I)with⟨_,_,hp,hq⟩|⟨hp,hq⟩
 ·rw[hq];have HP:=jK hp;clear h1 h2 h3 h4 hp hq;generalize hU:o-a2=U at *;generalize hV:p-I=V at *;have HU:=jK hU;have HV:=jK hV;clear hU hV;go_enter func381,ntmps381;go_wp2_with fail;refine(NJ o p a2 I H1.out H2.out H3.out H4.out _).mono ?_;rintro e w1⟨rfl,j⟩;rw[HU.out,HV.out,HP.out];obtain⟨J,R⟩:=Ae j;have hs:=j.size;go_wp2;refine aI (v:=Am (.ok ⟨3,U,V⟩)) (by simp[results,results381,go_sem,Am,As,AD,J,R]) rfl ⟨rfl,?_⟩
  iterate 5 (refine iI ?_ (by first|omega|(simp;omega)|simp) _)
  exact Ab (EE w _ _ _ _ _) j
 ·rw[hq];have HP:=jK hp;clear h1 h2 h3 h4 hp hq;go_enter func381,ntmps381;go_wp2_with fail;refine(NJ o p a2 I H1.out H2.out H3.out H4.out _).mono ?_;rintro e w1⟨rfl,j⟩;rw[HP.out];obtain⟨J,R⟩:=Ae j;have hs:=j.size;go_wp2;refine aI (v:=Am (.err 5)) (by simp[results,results381,go_sem,Am,As,AD,J,R]) rfl ⟨rfl,?_⟩
  iterate 5 (refine iI ?_ (by first|omega|(simp;omega)|simp) _)
  exact Ab (EE w _ _ _ _ _) j
theorem Tf (o p a2 I:Int) (h1:Bo o) (h2:Bo p) (h3:Bo a2) (h4:Bo I) (w:World):Calls prog 381 #[.int .i64 13,av 3 o p,av 3 a2 I] w fun e w'=>e=.returned (Am (CP (o*a2-p*I) (o*I+p*a2)))/\Below w.heap.size w w':=by
 have H1:=jK h1;have H2:=jK h2;have H3:=jK h3;have H4:=jK h4;unfold av;rcases Jz (o*a2-p*I) (o*I+p*a2)with⟨_,_,hp,hq⟩|⟨hp,hq⟩
 ·rw[hq];have HP:=jK hp;clear h1 h2 h3 h4 hp hq;generalize hU:o*a2-p*I=U at *;generalize hV:o*I+p*a2=V at *;have HU:=jK hU;have HV:=jK hV;clear hU hV;go_enter func381,ntmps381;go_wp2_with fail;refine(MH o p a2 I H1.out H2.out H3.out H4.out _).mono ?_;rintro e w1⟨rfl,j⟩;rw[HU.out,HV.out,HP.out];obtain⟨J,R⟩:=Ae j;have hs:=j.size;go_wp2;refine aI (v:=Am (.ok ⟨3,U,V⟩)) (by simp[results,results381,go_sem,Am,As,AD,J,R]) rfl ⟨rfl,?_⟩
  iterate 5 (refine iI ?_ (by first|omega|(simp;omega)|simp) _)
  exact Ab (EE w _ _ _ _ _) j
 ·rw[hq];have HP:=jK hp;clear h1 h2 h3 h4 hp hq;go_enter func381,ntmps381;go_wp2_with fail;refine(MH o p a2 I H1.out H2.out H3.out H4.out _).mono ?_;rintro e w1⟨rfl,j⟩;rw[HP.out];obtain⟨J,R⟩:=Ae j;have hs:=j.size;go_wp2;refine aI (v:=Am (.err 5)) (by simp[results,results381,go_sem,Am,As,AD,J,R]) rfl ⟨rfl,?_⟩
  iterate 5 (refine iI ?_ (by first|omega|(simp;omega)|simp) _)
  exact Ab (EE w _ _ _ _ _) j
theorem PC (op:Int) (x y:BS) (j:x.kind≠y.kind) (w:World):Calls prog 359 #[.int .i64 op,As x,As y] w fun e p=>e=.returned (Am (.err 8))/\Below w.heap.size w p:=by
 obtain⟨k,I,J⟩:=x;obtain⟨o,a2,R⟩:=y;dsimp only at j;have hz:(k==o)=false:=by simpa using j
 have U:(k != o)=true:=by simpa using j
 clear j;show Calls _ _ #[_,.agg #[.int .i64 k,.int .i64 I,.int .i64 J],.agg #[.int .i64 o,.int .i64 a2,.int .i64 R]] _ _;go_enter func359,ntmps359;go_wp2;refine aI (v:=Am (.err 8)) (by simp[results,results359,go_sem,Am,As,AD]) rfl ⟨rfl,?_⟩
 first|exact Ai w _ _ _|exact Az (Ai w _ _ _) _ _ _
theorem GN (op k j o a2 p:Int) (h:(k=2/\op=11)\/(k=2/\op=12)\/(k=2/\op=13)\/(k=2/\op=14)\/(k=2/\op=15)\/(k=2/\op=18)\/(k=2/\op=19)\/(k=2/\op=20)\/(k=2/\op=21)\/(k=3/\op=14)\/(k=3/\op=15)\/(k=3/\op=18)\/(k=3/\op=19)\/(k=3/\op=20)\/(k=3/\op=21)\/(k=3/\op=22)\/(k=3/\op=23)\/(k=1/\op=22)\/(k=1/\op=23)) (w:World):Calls prog 359 #[.int .i64 op,av k j o,av k a2 p] w fun e I=>e=.returned (Am (.err 8))/\Below w.heap.size w I:=by
 unfold av;rcases h with⟨rfl,rfl⟩|⟨rfl,rfl⟩|⟨rfl,rfl⟩|⟨rfl,rfl⟩|⟨rfl,rfl⟩|⟨rfl,rfl⟩|⟨rfl,rfl⟩|⟨rfl,rfl⟩|⟨rfl,rfl⟩|⟨rfl,rfl⟩|⟨rfl,rfl⟩|⟨rfl,rfl⟩|⟨rfl,rfl⟩|⟨rfl,rfl⟩|⟨rfl,rfl⟩|⟨rfl,rfl⟩|⟨rfl,rfl⟩|⟨rfl,rfl⟩|⟨rfl,rfl⟩
 all_goals
  go_enter func359,ntmps359;go_wp2;refine aI (v:=Am (.err 8)) (by simp[results,results359,go_sem,Am,As,AD]) rfl ⟨rfl,?_⟩
  first|exact Ai w _ _ _|exact Az (Ai w _ _ _) _ _ _
theorem QP (k J R:Int) (w:World):Calls prog 359 #[.int .i64 16,av k J R,av k J R] w fun e U=>e=.returned (Am (.ok (A7 (true))))/\Below w.heap.size w U:=by
 obtain⟨t,o⟩:=AJ (true);have HT:=jK o;rw[o];clear o;unfold av;go_enter func359,ntmps359;go_wp2_with fail;refine(AW _ _).mono ?_;rintro e w1⟨rfl,j⟩;obtain⟨p,I⟩:=Ae j;have hs:=j.size;rw[HT.out];unfold As;go_wp2;refine aI (v:=Am (.ok ⟨2,t,0⟩)) (by simp[results,results359,go_sem,Am,As,AD,p,I]) rfl ⟨rfl,?_⟩;exact Az (Ab (Ai w _ _ _) j) _ _ _
theorem Ru (k J R U:Int) (hz:(R==U)=false) (w:World):Calls prog 359 #[.int .i64 16,av k J R,av k J U] w fun e w'=>e=.returned (Am (.ok (A7 (false))))/\Below w.heap.size w w':=by
 obtain⟨t,o⟩:=AJ (false);have HT:=jK o;rw[o];clear o;unfold av;go_enter func359,ntmps359;go_wp2_with fail;refine(AW _ _).mono ?_;rintro e w1⟨rfl,j⟩;obtain⟨p,I⟩:=Ae j;have hs:=j.size;rw[HT.out];unfold As;go_wp2;refine aI (v:=Am (.ok ⟨2,t,0⟩)) (by simp[results,results359,go_sem,Am,As,AD,p,I]) rfl ⟨rfl,?_⟩;exact Az (Ab (Ai w _ _ _) j) _ _ _
theorem QR (k J R a2 U:Int) (hz:(J==a2)=false) (w:World):Calls prog 359 #[.int .i64 16,av k J R,av k a2 U] w fun e w'=>e=.returned (Am (.ok (A7 (false))))/\Below w.heap.size w w':=by
 obtain⟨t,o⟩:=AJ (false);have HT:=jK o;rw[o];clear o;unfold av;go_enter func359,ntmps359;go_wp2_with fail;refine(AW _ _).mono ?_;rintro e w1⟨rfl,j⟩;obtain⟨p,I⟩:=Ae j;have hs:=j.size;rw[HT.out];unfold As;go_wp2;refine aI (v:=Am (.ok ⟨2,t,0⟩)) (by simp[results,results359,go_sem,Am,As,AD,p,I]) rfl ⟨rfl,?_⟩;exact Az (Ab (Ai w _ _ _) j) _ _ _
theorem RH (k J R:Int) (w:World):Calls prog 359 #[.int .i64 17,av k J R,av k J R] w fun e U=>e=.returned (Am (.ok (A7 (false))))/\Below w.heap.size w U:=by
 obtain⟨t,o⟩:=AJ (false);have HT:=jK o;rw[o];clear o;unfold av;go_enter func359,ntmps359;go_wp2_with fail;refine(AW _ _).mono ?_;rintro e w1⟨rfl,j⟩;obtain⟨p,I⟩:=Ae j;have hs:=j.size;rw[HT.out];unfold As;go_wp2;refine aI (v:=Am (.ok ⟨2,t,0⟩)) (by simp[results,results359,go_sem,Am,As,AD,p,I]) rfl ⟨rfl,?_⟩;exact Az (Ab (Ai w _ _ _) j) _ _ _
theorem QZ (k J R U:Int) (hz:(R==U)=false) (w:World):Calls prog 359 #[.int .i64 17,av k J R,av k J U] w fun e w'=>e=.returned (Am (.ok (A7 (true))))/\Below w.heap.size w w':=by
 obtain⟨t,o⟩:=AJ (true);have HT:=jK o;rw[o];clear o;unfold av;go_enter func359,ntmps359;go_wp2_with fail;refine(AW _ _).mono ?_;rintro e w1⟨rfl,j⟩;obtain⟨p,I⟩:=Ae j;have hs:=j.size;rw[HT.out];unfold As;go_wp2;refine aI (v:=Am (.ok ⟨2,t,0⟩)) (by simp[results,results359,go_sem,Am,As,AD,p,I]) rfl ⟨rfl,?_⟩;exact Az (Ab (Ai w _ _ _) j) _ _ _
theorem RP (k J R a2 U:Int) (hz:(J==a2)=false) (w:World):Calls prog 359 #[.int .i64 17,av k J R,av k a2 U] w fun e w'=>e=.returned (Am (.ok (A7 (true))))/\Below w.heap.size w w':=by
 obtain⟨t,o⟩:=AJ (true);have HT:=jK o;rw[o];clear o;unfold av;go_enter func359,ntmps359;go_wp2_with fail;refine(AW _ _).mono ?_;rintro e w1⟨rfl,j⟩;obtain⟨p,I⟩:=Ae j;have hs:=j.size;rw[HT.out];unfold As;go_wp2;refine aI (v:=Am (.ok ⟨2,t,0⟩)) (by simp[results,results359,go_sem,Am,As,AD,p,I]) rfl ⟨rfl,?_⟩;exact Az (Ab (Ai w _ _ _) j) _ _ _
theorem XB (o R a2 U:Int) (w:World):Calls prog 359 #[.int .i64 18,av 1 o R,av 1 a2 U] w fun e w'=>e=.returned (Am (.ok (A7 (decide (o<a2)))))/\Below w.heap.size w w':=by
 obtain⟨t,p⟩:=AJ (decide (o<a2));have HT:=jK p;rw[p];clear p;unfold av;go_enter func359,ntmps359;go_wp2_with fail;refine(AW _ _).mono ?_;rintro e w1⟨rfl,j⟩;obtain⟨I,J⟩:=Ae j;have hs:=j.size;rw[HT.out];unfold As;go_wp2;refine aI (v:=Am (.ok ⟨2,t,0⟩)) (by simp[results,results359,go_sem,Am,As,AD,I,J]) rfl ⟨rfl,?_⟩;exact Az (Ab (Ai w _ _ _) j) _ _ _
theorem XF (o R a2 U:Int) (w:World):Calls prog 359 #[.int .i64 19,av 1 o R,av 1 a2 U] w fun e w'=>e=.returned (Am (.ok (A7 (decide (o<=a2)))))/\Below w.heap.size w w':=by
 obtain⟨t,p⟩:=AJ (decide (o<=a2));have HT:=jK p;rw[p];clear p;unfold av;go_enter func359,ntmps359;go_wp2_with fail;refine(AW _ _).mono ?_;rintro e w1⟨rfl,j⟩;obtain⟨I,J⟩:=Ae j;have hs:=j.size;rw[HT.out];unfold As;go_wp2;refine aI (v:=Am (.ok ⟨2,t,0⟩)) (by simp[results,results359,go_sem,Am,As,AD,I,J]) rfl ⟨rfl,?_⟩;exact Az (Ab (Ai w _ _ _) j) _ _ _
theorem WY (o R a2 U:Int) (w:World):Calls prog 359 #[.int .i64 20,av 1 o R,av 1 a2 U] w fun e w'=>e=.returned (Am (.ok (A7 (decide (a2<o)))))/\Below w.heap.size w w':=by
 obtain⟨t,p⟩:=AJ (decide (a2<o));have HT:=jK p;rw[p];clear p;unfold av;go_enter func359,ntmps359;go_wp2_with fail;refine(AW _ _).mono ?_;rintro e w1⟨rfl,j⟩;obtain⟨I,J⟩:=Ae j;have hs:=j.size;rw[HT.out];unfold As;go_wp2;refine aI (v:=Am (.ok ⟨2,t,0⟩)) (by simp[results,results359,go_sem,Am,As,AD,I,J]) rfl ⟨rfl,?_⟩;exact Az (Ab (Ai w _ _ _) j) _ _ _
theorem XY (o R a2 U:Int) (w:World):Calls prog 359 #[.int .i64 21,av 1 o R,av 1 a2 U] w fun e w'=>e=.returned (Am (.ok (A7 (decide (a2<=o)))))/\Below w.heap.size w w':=by
 obtain⟨t,p⟩:=AJ (decide (a2<=o));have HT:=jK p;rw[p];clear p;unfold av;go_enter func359,ntmps359;go_wp2_with fail;refine(AW _ _).mono ?_;rintro e w1⟨rfl,j⟩;obtain⟨I,J⟩:=Ae j;have hs:=j.size;rw[HT.out];unfold As;go_wp2;refine aI (v:=Am (.ok ⟨2,t,0⟩)) (by simp[results,results359,go_sem,Am,As,AD,I,J]) rfl ⟨rfl,?_⟩;exact Az (Ab (Ai w _ _ _) j) _ _ _
theorem PK (J R:Int) (w:World):Calls prog 359 #[.int .i64 22,av 2 0 J,av 2 0 R] w fun e U=>e=.returned (Am (.ok (A7 (false))))/\Below w.heap.size w U:=by
 obtain⟨t,o⟩:=AJ (false);have HT:=jK o;rw[o];clear o;unfold av;go_enter func359,ntmps359;go_wp2_with fail;refine(AW _ _).mono ?_;rintro e w1⟨rfl,j⟩;obtain⟨p,I⟩:=Ae j;have hs:=j.size;rw[HT.out];unfold As;go_wp2;refine aI (v:=Am (.ok ⟨2,t,0⟩)) (by simp[results,results359,go_sem,Am,As,AD,p,I]) rfl ⟨rfl,?_⟩;exact Az (Ab (Ai w _ _ _) j) _ _ _
theorem P2 (J R:Int) (w:World):Calls prog 359 #[.int .i64 22,av 2 0 J,av 2 1 R] w fun e U=>e=.returned (Am (.ok (A7 (false))))/\Below w.heap.size w U:=by
 obtain⟨t,o⟩:=AJ (false);have HT:=jK o;rw[o];clear o;unfold av;go_enter func359,ntmps359;go_wp2_with fail;refine(AW _ _).mono ?_;rintro e w1⟨rfl,j⟩;obtain⟨p,I⟩:=Ae j;have hs:=j.size;rw[HT.out];unfold As;go_wp2;refine aI (v:=Am (.ok ⟨2,t,0⟩)) (by simp[results,results359,go_sem,Am,As,AD,p,I]) rfl ⟨rfl,?_⟩;exact Az (Ab (Ai w _ _ _) j) _ _ _
theorem Ql (J R:Int) (w:World):Calls prog 359 #[.int .i64 22,av 2 1 J,av 2 0 R] w fun e U=>e=.returned (Am (.ok (A7 (false))))/\Below w.heap.size w U:=by
 obtain⟨t,o⟩:=AJ (false);have HT:=jK o;rw[o];clear o;unfold av;go_enter func359,ntmps359;go_wp2_with fail;refine(AW _ _).mono ?_;rintro e w1⟨rfl,j⟩;obtain⟨p,I⟩:=Ae j;have hs:=j.size;rw[HT.out];unfold As;go_wp2;refine aI (v:=Am (.ok ⟨2,t,0⟩)) (by simp[results,results359,go_sem,Am,As,AD,p,I]) rfl ⟨rfl,?_⟩;exact Az (Ab (Ai w _ _ _) j) _ _ _
theorem Qu (J R:Int) (w:World):Calls prog 359 #[.int .i64 22,av 2 1 J,av 2 1 R] w fun e U=>e=.returned (Am (.ok (A7 (true))))/\Below w.heap.size w U:=by
 obtain⟨t,o⟩:=AJ (true);have HT:=jK o;rw[o];clear o;unfold av;go_enter func359,ntmps359;go_wp2_with fail;refine(AW _ _).mono ?_;rintro e w1⟨rfl,j⟩;obtain⟨p,I⟩:=Ae j;have hs:=j.size;rw[HT.out];unfold As;go_wp2;refine aI (v:=Am (.ok ⟨2,t,0⟩)) (by simp[results,results359,go_sem,Am,As,AD,p,I]) rfl ⟨rfl,?_⟩;exact Az (Ab (Ai w _ _ _) j) _ _ _
theorem Sw (J R:Int) (w:World):Calls prog 359 #[.int .i64 23,av 2 0 J,av 2 0 R] w fun e U=>e=.returned (Am (.ok (A7 (false))))/\Below w.heap.size w U:=by
 obtain⟨t,o⟩:=AJ (false);have HT:=jK o;rw[o];clear o;unfold av;go_enter func359,ntmps359;go_wp2_with fail;refine(AW _ _).mono ?_;rintro e w1⟨rfl,j⟩;obtain⟨p,I⟩:=Ae j;have hs:=j.size;rw[HT.out];unfold As;go_wp2;refine aI (v:=Am (.ok ⟨2,t,0⟩)) (by simp[results,results359,go_sem,Am,As,AD,p,I]) rfl ⟨rfl,?_⟩;exact Az (Ab (Ai w _ _ _) j) _ _ _
theorem QV (J R:Int) (w:World):Calls prog 359 #[.int .i64 23,av 2 0 J,av 2 1 R] w fun e U=>e=.returned (Am (.ok (A7 (true))))/\Below w.heap.size w U:=by
 obtain⟨t,o⟩:=AJ (true);have HT:=jK o;rw[o];clear o;unfold av;go_enter func359,ntmps359;go_wp2_with fail;refine(AW _ _).mono ?_;rintro e w1⟨rfl,j⟩;obtain⟨p,I⟩:=Ae j;have hs:=j.size;rw[HT.out];unfold As;go_wp2;refine aI (v:=Am (.ok ⟨2,t,0⟩)) (by simp[results,results359,go_sem,Am,As,AD,p,I]) rfl ⟨rfl,?_⟩;exact Az (Ab (Ai w _ _ _) j) _ _ _
theorem RD (J R:Int) (w:World):Calls prog 359 #[.int .i64 23,av 2 1 J,av 2 0 R] w fun e U=>e=.returned (Am (.ok (A7 (true))))/\Below w.heap.size w U:=by
 obtain⟨t,o⟩:=AJ (true);have HT:=jK o;rw[o];clear o;unfold av;go_enter func359,ntmps359;go_wp2_with fail;refine(AW _ _).mono ?_;rintro e w1⟨rfl,j⟩;obtain⟨p,I⟩:=Ae j;have hs:=j.size;rw[HT.out];unfold As;go_wp2;refine aI (v:=Am (.ok ⟨2,t,0⟩)) (by simp[results,results359,go_sem,Am,As,AD,p,I]) rfl ⟨rfl,?_⟩;exact Az (Ab (Ai w _ _ _) j) _ _ _
theorem Rw (J R:Int) (w:World):Calls prog 359 #[.int .i64 23,av 2 1 J,av 2 1 R] w fun e U=>e=.returned (Am (.ok (A7 (true))))/\Below w.heap.size w U:=by
 obtain⟨t,o⟩:=AJ (true);have HT:=jK o;rw[o];clear o;unfold av;go_enter func359,ntmps359;go_wp2_with fail;refine(AW _ _).mono ?_;rintro e w1⟨rfl,j⟩;obtain⟨p,I⟩:=Ae j;have hs:=j.size;rw[HT.out];unfold As;go_wp2;refine aI (v:=Am (.ok ⟨2,t,0⟩)) (by simp[results,results359,go_sem,Am,As,AD,p,I]) rfl ⟨rfl,?_⟩;exact Az (Ab (Ai w _ _ _) j) _ _ _
theorem Ee (op j b1 a2 b2:Int) (h:op=11\/op=12\/op=13\/op=14\/op=15) (J:AP j) (R:AP a2) (w:World):Calls prog 359 #[.int .i64 op,av 1 j b1,av 1 a2 b2] w fun e w'=>e=.returned (Am ((Q.whole op j a2).bind fun n=>.ok (num n)))/\Below w.heap.size w w':=by
 obtain⟨r,p⟩:∃r,Q.whole op j a2=r:=⟨_,rfl⟩;rw[p];have o:=jK p;have HI:=jK J;have HJ:=jK R;clear p J R;unfold av;rcases h with rfl|rfl|rfl|rfl|rfl
 all_goals
  go_enter func359,ntmps359;go_wp2_with fail;refine(R4 _ j a2 (by omega) HI.out HJ.out _).mono ?_;rintro e w1⟨rfl,rfl⟩;rw[o.out];cases r with
  |err x=>
   have I:=IB o.out;have b4:(x==0)=false:=by simpa using I
   have U:(x != 0)=true:=by simpa using I
   rw[Cm];clear o I;go_wp2;refine aI (v:=Am (.err x)) (by simp[results,results359,go_sem,Am,As,AD]) rfl ⟨rfl,?_⟩
   first|exact Ai w _ _ _|exact Az (Ai w _ _ _) _ _ _
  |ok n=>
   rw[Cr];clear o;go_wp2;refine aI (v:=Am (.ok (num n))) (by simp[results,results359,go_sem,Am,As,num]) rfl ⟨rfl,?_⟩
   first|exact Ai w _ _ _|exact Az (Ai w _ _ _) _ _ _
theorem Th (o p a2 I:Int) (h1:Bo o) (h2:Bo p) (h3:Bo a2) (h4:Bo I) (w:World):Calls prog 359 #[.int .i64 11,av 3 o p,av 3 a2 I] w fun e w'=>e=.returned (Am (CP (o+a2) (p+I)))/\Below w.heap.size w w':=by
 obtain⟨K,A,B,X,U⟩:=Ck (CP (o+a2) (p+I));rw[U];have HV:=jK U;have J:=jK (And.intro h1 h2);have R:=jK (And.intro h3 h4);clear U h1 h2 h3 h4;unfold av;go_enter func359,ntmps359;go_wp2_with fail;refine(TP o p a2 I J.out.1 J.out.2 R.out.1 R.out.2 _).mono ?_;rintro e w1⟨rfl,j⟩;rw[HV.out];obtain⟨a6,a7⟩:=Ae j;have hs:=j.size;go_wp2;refine aI (v:=.tuple #[.agg #[.int .i64 K,.int .i64 A,.int .i64 B],.int .i64 X]) (by simp[results,results359,go_sem,a6,a7]) rfl ⟨rfl,?_⟩;exact Az (Ab (Ai w _ _ _) j) _ _ _
theorem Ut (o p a2 I:Int) (h1:Bo o) (h2:Bo p) (h3:Bo a2) (h4:Bo I) (w:World):Calls prog 359 #[.int .i64 12,av 3 o p,av 3 a2 I] w fun e w'=>e=.returned (Am (CP (o-a2) (p-I)))/\Below w.heap.size w w':=by
 obtain⟨K,A,B,X,U⟩:=Ck (CP (o-a2) (p-I));rw[U];have HV:=jK U;have J:=jK (And.intro h1 h2);have R:=jK (And.intro h3 h4);clear U h1 h2 h3 h4;unfold av;go_enter func359,ntmps359;go_wp2_with fail;refine(UO o p a2 I J.out.1 J.out.2 R.out.1 R.out.2 _).mono ?_;rintro e w1⟨rfl,j⟩;rw[HV.out];obtain⟨a6,a7⟩:=Ae j;have hs:=j.size;go_wp2;refine aI (v:=.tuple #[.agg #[.int .i64 K,.int .i64 A,.int .i64 B],.int .i64 X]) (by simp[results,results359,go_sem,a6,a7]) rfl ⟨rfl,?_⟩;exact Az (Ab (Ai w _ _ _) j) _ _ _
theorem TF (j o a2 p:Int) (h1:Bo j) (h2:Bo o) (h3:Bo a2) (h4:Bo p) (w:World):Calls prog 359 #[.int .i64 13,av 3 j o,av 3 a2 p] w fun e w'=>e=.returned (Am (CP (j*a2-o*p) (j*p+o*a2)))/\Below w.heap.size w w':=by
 obtain⟨K,A,B,X,U⟩:=Ck (CP (j*a2-o*p) (j*p+o*a2));rw[U];have HV:=jK U;have J:=jK (And.intro h1 h2);have R:=jK (And.intro h3 h4);clear U h1 h2 h3 h4;unfold av;go_enter func359,ntmps359;go_wp2_with fail;refine(Tf j o a2 p J.out.1 J.out.2 R.out.1 R.out.2 _).mono ?_;rintro e w1⟨rfl,I⟩;rw[HV.out];obtain⟨a6,a7⟩:=Ae I;have hs:=I.size;go_wp2;refine aI (v:=.tuple #[.agg #[.int .i64 K,.int .i64 A,.int .i64 B],.int .i64 X]) (by simp[results,results359,go_sem,a6,a7]) rfl ⟨rfl,?_⟩;exact Az (Ab (Ai w _ _ _) I) _ _ _
theorem Zbg (k j o a2 p:Int):DC 16 ⟨k,j,o⟩ ⟨k,a2,p⟩=.ok (A7 (decide (j=a2/\o=p)))/\DC 17 ⟨k,j,o⟩ ⟨k,a2,p⟩=.ok (A7 (!decide (j=a2/\o=p))):=by
 constructor<;>(unfold DC;simp)
theorem MX (op:Int) (x y:BS) (h:11<=op/\op<=23) (hx:FL x) (hy:FL y) (w:World):Calls prog 359 #[.int .i64 op,As x,As y] w fun e w'=>e=.returned (Am (DC op x y))/\Below w.heap.size w w':=by
 by_cases hk:x.kind=y.kind;rotate_left
 ·rw[show DC op x y=.err 8 by unfold DC;rw[if_pos hk]];exact PC op x y hk w
 ·obtain⟨k,j,o⟩:=x;obtain⟨k',a2,p⟩:=y;dsimp only at hk;subst hk;unfold FL By at hx hy;dsimp only at hx hy;have a6:op=11\/op=12\/op=13\/op=14\/op=15\/op=16\/op=17\/op=18\/op=19\/op=20\/op=21\/op=22\/op=23:=by omega
  obtain⟨b7,b8⟩:=Zbg k j o a2 p;by_cases I:op=16
  ·subst I;rw[b7];by_cases e1:j=a2
   ·subst e1;by_cases e2:o=p
    ·subst e2;rw[show decide (j=j/\o=o)=true by simp];exact QP k j o w
    ·rw[show decide (j=j/\o=p)=false by simp[e2]];exact Ru k j o p (by simpa using e2) w
   ·rw[show decide (j=a2/\o=p)=false by simp[e1]];exact QR k j o a2 p (by simpa using e1) w
  by_cases J:op=17
  ·subst J;rw[b8];by_cases e1:j=a2
   ·subst e1;by_cases e2:o=p
    ·subst e2;rw[show(!decide (j=j/\o=o))=false by simp];exact RH k j o w
    ·rw[show(!decide (j=j/\o=p))=true by simp[e2]];exact QZ k j o p (by simpa using e2) w
   ·rw[show(!decide (j=a2/\o=p))=true by simp[e1]];exact RP k j o a2 p (by simpa using e1) w
  clear b7 b8;obtain⟨hx,R⟩:=hx;obtain⟨hy,U⟩:=hy;have c3:k=1\/k=2\/k=3:=by omega
  rcases c3 with rfl|rfl|rfl
  ·rcases a6 with rfl|rfl|rfl|rfl|rfl|rfl|rfl|rfl|rfl|rfl|rfl|rfl|rfl
   ·exact Ee _ _ _ _ _ (by decide) R U w
   ·exact Ee _ _ _ _ _ (by decide) R U w
   ·exact Ee _ _ _ _ _ (by decide) R U w
   ·exact Ee _ _ _ _ _ (by decide) R U w
   ·exact Ee _ _ _ _ _ (by decide) R U w
   ·exact absurd rfl I
   ·exact absurd rfl J
   ·exact XB _ _ _ _ w
   ·exact XF _ _ _ _ w
   ·exact WY _ _ _ _ w
   ·exact XY _ _ _ _ w
   ·exact GN 22 1 j o a2 p (by decide) w
   ·exact GN 23 1 j o a2 p (by decide) w
  ·have ha:j=0\/j=1:=by omega
   have hb:a2=0\/a2=1:=by omega
   by_cases b0:op=22
   ·subst b0;rcases ha with rfl|rfl<;>rcases hb with rfl|rfl
    ·exact PK _ _ w
    ·exact P2 _ _ w
    ·exact Ql _ _ w
    ·exact Qu _ _ w
   by_cases b3:op=23
   ·subst b3;rcases ha with rfl|rfl<;>rcases hb with rfl|rfl
    ·exact Sw _ _ w
    ·exact QV _ _ w
    ·exact RD _ _ w
    ·exact Rw _ _ w
   rw[show DC op ⟨2,j,o⟩ ⟨2,a2,p⟩=.err 8 by
    unfold DC;dsimp only;rw[if_neg (by simp),if_neg I,if_neg J,if_pos rfl,if_neg b0,if_neg b3]]
   rcases a6 with rfl|rfl|rfl|rfl|rfl|rfl|rfl|rfl|rfl|rfl|rfl|rfl|rfl
   all_goals first|exact absurd rfl I|exact absurd rfl J|exact absurd rfl b0|exact absurd rfl b3|exact GN _ 2 j o a2 p (by decide) w
  ·have hp:Bo j/\Bo o:=by
    rcases hx with⟨h,_⟩|⟨h,_⟩|⟨_,h⟩
    ·cases h
    ·cases h
    ·exact h
   have hq:Bo a2/\Bo p:=by
    rcases hy with⟨h,_⟩|⟨h,_⟩|⟨_,h⟩
    ·cases h
    ·cases h
    ·exact h
   by_cases b9:op=11
   ·subst b9;exact Th _ _ _ _ hp.1 hp.2 hq.1 hq.2 w
   by_cases c0:op=12
   ·subst c0;exact Ut _ _ _ _ hp.1 hp.2 hq.1 hq.2 w
   by_cases c1:op=13
   ·subst c1;exact TF _ _ _ _ hp.1 hp.2 hq.1 hq.2 w
   rw[show DC op ⟨3,j,o⟩ ⟨3,a2,p⟩=.err 8 by
    unfold DC;dsimp only;rw[if_neg (by simp),if_neg I,if_neg J,if_neg (by decide),if_pos rfl,if_neg (by omega)]]
   rcases a6 with rfl|rfl|rfl|rfl|rfl|rfl|rfl|rfl|rfl|rfl|rfl|rfl|rfl
   all_goals first|exact absurd rfl I|exact absurd rfl J|exact absurd rfl b9|exact absurd rfl c0|exact absurd rfl c1|exact GN _ 3 j o a2 p (by decide) w
theorem DP (op k a b:Int) (h:(k=2/\op=7)\/(k=1/\op=8)\/(k=3/\op=8)\/(k=1/\op=9)\/(k=2/\op=9)\/(k=1/\op=10)\/(k=2/\op=10)) (w:World):Calls prog 358 #[.int .i64 op,av k a b] w fun e j=>e=.returned (Am (.err 8))/\Below w.heap.size w j:=by
 unfold av;rcases h with⟨rfl,rfl⟩|⟨rfl,rfl⟩|⟨rfl,rfl⟩|⟨rfl,rfl⟩|⟨rfl,rfl⟩|⟨rfl,rfl⟩|⟨rfl,rfl⟩
 all_goals
  go_enter func358,ntmps358;go_wp2;refine aI (v:=Am (.err 8)) (by simp[results,results358,go_sem,Am,As,AD,num]) rfl ⟨rfl,?_⟩
  first|exact Bx w _ _|exact C6 (Bx w _ _) _ _ _
theorem XW (a b:Int) (w:World):Calls prog 358 #[.int .i64 9,av 3 a b] w fun e j=>e=.returned (Am (.ok (num a)))/\Below w.heap.size w j:=by
 unfold av;go_enter func358,ntmps358;go_wp2;refine aI (v:=Am (.ok (num a))) (by simp[results,results358,go_sem,Am,As,AD,num]) rfl ⟨rfl,?_⟩
 first|exact Bx w _ _|exact C6 (Bx w _ _) _ _ _
theorem Xw (a b:Int) (w:World):Calls prog 358 #[.int .i64 10,av 3 a b] w fun e j=>e=.returned (Am (.ok (num b)))/\Below w.heap.size w j:=by
 unfold av;go_enter func358,ntmps358;go_wp2;refine aI (v:=Am (.ok (num b))) (by simp[results,results358,go_sem,Am,As,AD,num]) rfl ⟨rfl,?_⟩
 first|exact Bx w _ _|exact C6 (Bx w _ _) _ _ _
theorem RB (a b:Int) (ha:Bo a) (j:Bo b) (w:World):Calls prog 358 #[.int .i64 7,av 3 a b] w fun e o=>e=.returned (Am (.ok ⟨3,-a,-b⟩))/\Below w.heap.size w o:=by
 unfold av;have p:wrap64 (-a)=-a:=by unfold Bo at ha;unfold wrap64;omega
 have I:wrap64 (-b)=-b:=by unfold Bo at j;unfold wrap64;omega
 clear ha j;go_enter func358,ntmps358;go_wp2;refine aI (v:=Am (.ok ⟨3,-a,-b⟩)) (by simp[results,results358,go_sem,Am,As,AD,num]) rfl ⟨rfl,?_⟩
 first|exact Bx w _ _|exact C6 (Bx w _ _) _ _ _
theorem TL (a b:Int) (ha:a=0\/a=1) (w:World):Calls prog 358 #[.int .i64 8,av 2 a b] w fun e I=>e=.returned (Am (.ok (A7 (decide (a=0)))))/\Below w.heap.size w I:=by
 unfold av;rcases ha with rfl|rfl
 ·go_enter func358,ntmps358;go_wp2_with fail;refine(AW true _).mono ?_;rintro e J⟨rfl,j⟩;obtain⟨o,p⟩:=Ae j;have R:=j.size;unfold As A7;go_wp2;refine aI (v:=Am (.ok ⟨2,1,0⟩)) (by simp[results,results358,go_sem,Am,As,AD,num,o,p]) rfl ⟨rfl,?_⟩;exact C6 (Ab (Bx w _ _) j) _ _ _
 ·go_enter func358,ntmps358;go_wp2_with fail;refine(AW false _).mono ?_;rintro e J⟨rfl,j⟩;obtain⟨o,p⟩:=Ae j;have R:=j.size;unfold As A7;go_wp2;refine aI (v:=Am (.ok ⟨2,0,0⟩)) (by simp[results,results358,go_sem,Am,As,AD,num,o,p]) rfl ⟨rfl,?_⟩;exact C6 (Ab (Bx w _ _) j) _ _ _
theorem TW (a:Int) (ha:AP a) (w:World):Calls prog 358 #[.int .i64 7,av 1 a 0] w fun e U=>e=.returned (Am ((Q.whole 12 0 a).bind fun n=>.ok (num n)))/\Below w.heap.size w U:=by
 obtain⟨r,o⟩:∃r,(Q.whole 12 0 a).bind (fun n=>Rs.ok (num n))=r:=⟨_,rfl⟩;rw[o];have R:DC 12 (num 0) ⟨1,a,0⟩=r:=by rw[<-o];rfl
 obtain⟨K,A,B,X,p⟩:=Ck r;have HE:=jK R;have HV:=jK p;have HA:=jK ha;rw[p];clear o p R ha;unfold av;go_enter func358,ntmps358;go_wp2_with fail;refine(MX 12 (num 0) ⟨1,a,0⟩ (by omega) (Jk (by decide)) ⟨.inl ⟨rfl,rfl⟩,HA.out⟩ _).mono ?_;rintro e w1⟨rfl,j⟩;rw[HE.out,HV.out];obtain⟨I,J⟩:=Ae j;have hs:=j.size;go_wp2;refine aI (v:=.tuple #[.agg #[.int .i64 K,.int .i64 A,.int .i64 B],.int .i64 X]) (by simp[results,results358,go_sem,I,J]) rfl ⟨rfl,?_⟩;exact C6 (Ab (Bx w _ _) j) _ _ _
theorem UR (op:Int) (x:BS) (h:7<=op/\op<=10) (I:FL x) (w:World):Calls prog 358 #[.int .i64 op,As x] w fun e J=>e=.returned (Am (Ou op x))/\Below w.heap.size w J:=by
 obtain⟨k,a,b⟩:=x;obtain⟨R,hi⟩:=I;have o:op=7\/op=8\/op=9\/op=10:=by omega
 rcases R with⟨j,p⟩|⟨j,p,ha⟩|⟨j,ha,p⟩
 ·dsimp only at j p;subst j;subst p;rcases o with rfl|rfl|rfl|rfl
  ·exact TW a hi w
  ·exact DP 8 1 a 0 (by decide) w
  ·exact DP 9 1 a 0 (by decide) w
  ·exact DP 10 1 a 0 (by decide) w
 ·dsimp only at j p ha;subst j;rcases o with rfl|rfl|rfl|rfl
  ·exact DP 7 2 a b (by decide) w
  ·exact TL a b ha w
  ·exact DP 9 2 a b (by decide) w
  ·exact DP 10 2 a b (by decide) w
 ·dsimp only at j p ha;subst j;rcases o with rfl|rfl|rfl|rfl
  ·exact RB a b ha p w
  ·exact DP 8 3 a b (by decide) w
  ·exact XW a b w
  ·exact Xw a b w
end
end Go.Proofs.YthbihnpoghlfaaaGreatDoor
