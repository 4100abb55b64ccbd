import Derived.Laws.ComplexArith
set_option linter.unusedVariables false
set_option linter.unusedSimpArgs false
set_option maxHeartbeats 8000000
set_option maxRecDepth 100000
namespace Go.Proofs.YthbihnpoghlfaaaGreatDoor
section
open Ieee
namespace Fl
def sg (s:Bool) (m:Nat):Int:=if s then -(m:Int)else(m:Int)
theorem Zh (s:Bool) (m:Nat):(sg s m).natAbs=m:=by
 unfold sg;cases s<;>simp
theorem Ui (s:Bool) (m c:Nat):sg s (m*c)=sg s m*(c:Int):=by
 unfold sg;cases s<;>simp[Int.neg_mul]
def FI (b:Nat) (n:Int):Prop:=∃s m k,Format.read double b=.number s m (-((k:Nat):Int))/\sg s m=n*((2^k:Nat):Int)
def fl (n:Int):Nat:=FloatKind.f64.nearest n
theorem p2 (k:Nat):2^k≠0:=by
 have:0<2^k:=Nat.pow_pos (by omega);omega
theorem Zba (s:Bool):sg s 0=0:=by cases s<;>rfl
theorem Xd (s:Bool):FI (double.word s 0) 0:=by
 refine⟨s,0,1074,?_,by rw[Zba,Int.zero_mul]⟩;cases s<;>decide +kernel
theorem Qt (a k:Nat) (h:a≠0):(a*2^k).log2=a.log2+k:=by
 have j:a*2^k≠0:=Nat.mul_ne_zero h (p2 _);rw[Nat.log2_eq_iff j];have o:=Nat.log2_self_le h;have p:=Nat.lt_log2_self (n:=a);constructor
 ·rw[Nat.pow_add];exact Nat.mul_le_mul_right _ o
 ·rw[show a.log2+k+1=(a.log2+1)+k by omega,Nat.pow_add];exact Nat.mul_lt_mul_of_pos_right p (Nat.pow_pos (by omega))
theorem Zz (j:Toward) (neg:Bool) (n:Nat):j.cut neg n 0=n:=by
 unfold Toward.cut;cases j<;>simp[Nat.mod_one]
theorem MB (neg:Bool) (q d:Nat) (j:q≠0):Toward.even.cut neg (q*2^d) d=q:=by
 unfold Toward.cut;have o:d<=(q*2^d).log2+2:=by rw[Qt q d j];omega
 have:0<2^d:=Nat.pow_pos (by omega);simp only[Nat.min_eq_left o,Nat.shiftLeft_eq,Nat.one_mul,Nat.mul_mod_left,Nat.mul_div_cancel _ this];generalize 2^d=p at *;have I:¬p=0:=by omega
 simp[I]
theorem Zbq (L x:Nat) (h:L<=52) (j:x<9007199254740992):(L+1022)*4503599627370496+x<=9218868437227405312:=by omega
theorem Ux (L x:Nat) (h:L<=52) (j:4503599627370496<=x) (o:x<9007199254740992) :
  4503599627370496<=(L+1022)*4503599627370496+x/\(L+1022)*4503599627370496+x<9218868437227405312/\((L+1022)*4503599627370496+x) % 4503599627370496=x-4503599627370496/\((L+1022)*4503599627370496+x) / 4503599627370496=L+1023:=by omega
theorem Z2 (L:Nat) (h:L<=52):(-1074+((L+1023-1:Nat):Int))=-((52-L:Nat):Int):=by omega
theorem N8 (s:Bool) (a k:Nat) (ha:a≠0) (U:a<9007199254740992):double.nearest s (a*2^k) (-(k:Int))=double.word s ((a.log2+1022)*4503599627370496+a*2^(52-a.log2)):=by
 have h1:=Nat.log2_self_le ha;have h2:=Nat.lt_log2_self (n:=a);have hL:a.log2<=52:=by
  have:a.log2<53:=(Nat.log2_lt ha).2 U;omega
 have J:a*2^k≠0:=Nat.mul_ne_zero ha (p2 _);have R:double.leastPlace=-1074:=by decide +kernel
 unfold Format.nearest;rw[if_neg J,Qt a k ha,R];have j:max (-(k:Int)+((a.log2+k:Nat):Int)-(double.fractionBits:Int)) (-1074)=(a.log2:Int)-52:=by
  show max (-(k:Int)+((a.log2+k:Nat):Int)-((52:Nat):Int)) (-1074)=_;omega
 simp only[j];have o:Toward.even.cut s ((a*2^k) <<< (-(k:Int)-((a.log2:Int)-52)).toNat) (((a.log2:Int)-52) - -(k:Int)).toNat=a*2^(52-a.log2):=by
  by_cases hc:k+a.log2<=52
  ·rw[show(((a.log2:Int)-52) - -(k:Int)).toNat=0 by omega,Zz,Nat.shiftLeft_eq,Nat.mul_assoc,<-Nat.pow_add];congr 2;omega
  ·rw[show(-(k:Int)-((a.log2:Int)-52)).toNat=0 by omega,Nat.shiftLeft_zero];obtain⟨d,hd⟩:∃d,(((a.log2:Int)-52) - -(k:Int)).toNat=d:=⟨_,rfl⟩;rw[hd,show a*2^k=(a*2^(52-a.log2))*2^d by rw[Nat.mul_assoc,<-Nat.pow_add];congr 2;omega];exact MB s _ d (Nat.mul_ne_zero ha (p2 _))
 rw[o];congr 1;have hm:a*2^(52-a.log2)<9007199254740992:=by
  have:a*2^(52-a.log2)<2^(a.log2+1)*2^(52-a.log2):=Nat.mul_lt_mul_of_pos_right h2 (Nat.pow_pos (by omega));rw[<-Nat.pow_add,show a.log2+1+(52-a.log2)=53 by omega]at this;exact this
 have p:double.infRung=9218868437227405312:=by decide +kernel
 have I:double.binade=4503599627370496:=rfl;rw[p,I,show((a.log2:Int)-52 - -1074).toNat=a.log2+1022 by omega];exact Nat.min_eq_left (Zbq _ _ hL hm)
theorem Xa (s:Bool) (r:Nat) (h1:4503599627370496<=r) (J:r<9218868437227405312):Format.read double (double.word s r)=.number s (4503599627370496+r % 4503599627370496) (-1074+(r / 4503599627370496-1:Nat)):=by
 have j:double.signWeight=9223372036854775808:=rfl;have o:double.infRung=9218868437227405312:=by decide +kernel
 have p:double.binade=4503599627370496:=rfl;have I:double.leastPlace=-1074:=by decide +kernel
 have R:double.word s r / 9223372036854775808 % 2=if s then 1 else 0:=by
  unfold Format.word;rw[j];cases s<;>simp<;>omega
 have U:double.word s r % 9223372036854775808=r:=by
  unfold Format.word;rw[j];cases s<;>simp<;>omega
 unfold Format.read;simp only[j,R,U,p,o,I];rw[if_neg (by omega),if_pos J];cases s<;>rfl
theorem Su (s:Bool) (a k:Nat) (I:a<9007199254740992):FI (double.nearest s (a*2^k) (-(k:Int))) (sg s a):=by
 by_cases ha:a=0
 ·subst ha;rw[Nat.zero_mul];have:double.nearest s 0 (-(k:Int))=double.word s 0:=by unfold Format.nearest;rw[if_pos rfl]
  rw[this];have R:sg s 0=0:=by cases s<;>rfl
  rw[R];exact Xd s
 ·rw[N8 s a k ha I];have U:=Nat.log2_self_le ha;have h2:=Nat.lt_log2_self (n:=a);have J:a.log2<=52:=by
   have:a.log2<53:=(Nat.log2_lt ha).2 I;omega
  obtain⟨x,o⟩:∃x,a*2^(52-a.log2)=x:=⟨_,rfl⟩;have j:4503599627370496<=x:=by
   rw[<-o];have:=Nat.mul_le_mul_right (2^(52-a.log2)) U;rw[<-Nat.pow_add,show a.log2+(52-a.log2)=52 by omega]at this;exact this
  have p:x<9007199254740992:=by
   rw[<-o];have:a*2^(52-a.log2)<2^(a.log2+1)*2^(52-a.log2):=Nat.mul_lt_mul_of_pos_right h2 (Nat.pow_pos (by omega));rw[<-Nat.pow_add,show a.log2+1+(52-a.log2)=53 by omega]at this;exact this
  rw[o];obtain⟨r1,r2,r3,r4⟩:=Ux a.log2 x J j p;refine⟨s,x,52-a.log2,?_,?_⟩
  ·rw[Xa s _ r1 r2,r3,r4,Z2 _ J,Nat.add_sub_cancel' j]
  ·rw[<-o,Ui]
theorem ZL {s:Bool} {m k:Nat} {n:Int} (h:sg s m=n*((2^k:Nat):Int)) (p:n.natAbs<9007199254740992):FI (double.nearest s m (-(k:Int))) n:=by
 have hm:m=n.natAbs*2^k:=by
  have:=congrArg Int.natAbs h;rw[Zh,Int.natAbs_mul]at this;simpa using this
 by_cases o:n=0
 ·subst o;have:m=0:=by simpa using hm
  subst this;have j:=Su s 0 k (by decide);rw[Nat.zero_mul]at j;have o:sg s 0=0:=by cases s<;>rfl
  rw[o]at j;exact j
 ·have I:sg s n.natAbs=n:=by
   rw[hm,Ui]at h;exact Int.eq_of_mul_eq_mul_right (by exact_mod_cast p2 _) h
  have j:=Su s n.natAbs k p;rw[I,<-hm]at j;exact j
theorem DB (n:Int) (h:n.natAbs<9007199254740992):FI (fl n) n:=by
 have:sg (decide (n<0)) n.natAbs=n*((2^0:Nat):Int):=by
  unfold sg;by_cases h:n<0
  ·rw[decide_eq_true h];simp;omega
  ·rw[decide_eq_false h];simp;omega
 have j:=ZL this h;rw[show -((0:Nat):Int)=0 from rfl]at j;exact j
theorem Ym (s:Bool) (m c:Nat):signed s m c=sg s m*((2^c:Nat):Int):=by
 unfold signed sg;rw[Nat.shiftLeft_eq];cases s<;>simp[Int.neg_mul]
theorem Vi {s:Bool} {m k K:Nat} {n:Int} (h:sg s m=n*((2^k:Nat):Int)) (j:k<=K):signed s m (-(k:Int) - -(K:Int)).toNat=n*((2^K:Nat):Int):=by
 rw[Ym,h,Int.mul_assoc,show(-(k:Int) - -(K:Int)).toNat=K-k by omega];congr 1;rw[<-Int.natCast_mul,<-Nat.pow_add];congr 2;omega
theorem VN (i j:Nat):min (-(i:Int)) (-(j:Int))=-((max i j:Nat):Int):=by omega
theorem two_pos (K:Nat):(0:Int)<((2^K:Nat):Int):=by exact_mod_cast Nat.pow_pos (by omega)
theorem Zac {s t:Bool} {m I k o:Nat} {a b:Int} (ha:sg s m=a*((2^k:Nat):Int)) (J:sg t I=b*((2^o:Nat):Int)) (R:(a+b).natAbs<9007199254740992) :
  ∃r,((Datum.sum (.number s m (-(k:Int))) (.number t I (-(o:Int)))).map double.write)=some r/\FI r (a+b):=by
 unfold Datum.sum;simp only[VN];rw[Vi ha (Nat.le_max_left k o),Vi J (Nat.le_max_right k o),<-Int.add_mul];refine⟨_,rfl,?_⟩;show FI (double.nearest _ _ _) _;refine ZL ?_ R;have hp:=two_pos (max k o);generalize ((2^max k o:Nat):Int)=P at *;unfold sg;by_cases p:(a+b)*P=0
 ·rw[if_pos p,p];simp
 ·rw[if_neg p];by_cases j:(a+b)*P<0
  ·rw[decide_eq_true j];simp;omega
  ·rw[decide_eq_false j];simp;omega
theorem Ub {x y:Nat} {a b:Int} (j:FI x a) (o:FI y b) (p:(a+b).natAbs<9007199254740992):∃r,double.add x y=some r/\FI r (a+b):=by
 obtain⟨s,m,k,I,J⟩:=j;obtain⟨t,m',k',R,U⟩:=o;unfold Format.add;rw[I,R];exact Zac J U p
theorem ZbV (t:Bool) (m:Nat):sg (!t) m=- sg t m:=by unfold sg;cases t<;>simp
theorem UK {x y:Nat} {a b:Int} (j:FI x a) (o:FI y b) (p:(a-b).natAbs<9007199254740992):∃r,double.sub x y=some r/\FI r (a-b):=by
 obtain⟨s,m,k,I,J⟩:=j;obtain⟨t,R,U,h3,h4⟩:=o;unfold Format.sub;rw[I,h3];have h5:sg (!t) R=(-b)*((2^U:Nat):Int):=by rw[ZbV,h4,Int.neg_mul]
 have:=Zac J h5 (by rw[<-Int.sub_eq_add_neg];exact p);rw[<-Int.sub_eq_add_neg]at this;exact this
theorem Qm {x y:Nat} {a b:Int} (I:FI x a) (J:FI y b) (R:(a*b).natAbs<9007199254740992):∃r,double.mul x y=some r/\FI r (a*b):=by
 obtain⟨s,m,k,U,h2⟩:=I;obtain⟨t,o,j,h3,h4⟩:=J;unfold Format.mul;rw[U,h3];refine⟨_,rfl,?_⟩;show FI (double.nearest (s^^t) (m*o) (-(k:Int)+-(j:Int))) _;rw[show -(k:Int)+-(j:Int)=-((k+j:Nat):Int)by omega];refine ZL ?_ R;have:sg (s^^t) (m*o)=sg s m*sg t o:=by
  unfold sg;cases s<;>cases t<;>simp[Int.neg_mul,Int.mul_neg]
 rw[this,h2,h4,Nat.pow_add,Int.natCast_mul];generalize ((2^k:Nat):Int)=p;generalize ((2^j:Nat):Int)=q;rw[Int.mul_assoc,Int.mul_assoc];congr 1;rw[<-Int.mul_assoc,<-Int.mul_assoc,Int.mul_comm p b]
theorem Yt {x y:Nat} {a b:Int} (o:FI x a) (p:FI y b):double.order x y=some (compare a b):=by
 obtain⟨s,m,k,I,J⟩:=o;obtain⟨t,m',j,R,U⟩:=p;unfold Format.order;rw[I,R];unfold Datum.order;simp only[VN];rw[Vi J (Nat.le_max_left k j),Vi U (Nat.le_max_right k j)];have hp:=two_pos (max k j);generalize ((2^max k j:Nat):Int)=P at *;congr 1;simp only[compare,compareOfLessAndEq];have e1:a*P<b*P↔a<b:=Int.mul_lt_mul_right hp;have e2:a*P=b*P↔a=b:=⟨fun h=>Int.eq_of_mul_eq_mul_right (by omega) h,fun h=>by rw[h]⟩;simp only[e1,e2]
theorem Xz (s:Bool) (q d:Nat):Toward.zero.cut s (q*2^d) d=q:=by
 by_cases j:q=0
 ·subst j;unfold Toward.cut;simp
 ·unfold Toward.cut;have o:d<=(q*2^d).log2+2:=by rw[Qt q d j];omega
  have:0<2^d:=Nat.pow_pos (by omega);simp only[Nat.min_eq_left o,Nat.shiftLeft_eq,Nat.one_mul,Nat.mul_div_cancel _ this];simp
theorem YS {x:Nat} {a:Int} (o:FI x a) (p:-9223372036854775808<=a) (I:a<=9223372036854775807):floatToIntVal .f64 x .i64=some a:=by
 obtain⟨s,m,k,J,j⟩:=o;have hm:m=a.natAbs*2^k:=by
  have:=congrArg Int.natAbs j;rw[Zh,Int.natAbs_mul]at this;simpa using this
 have R:(FloatKind.f64.decode x).toInt .zero=some a:=by
  show(Format.read double x).toInt .zero=_;rw[J];unfold Datum.toInt Datum.integral;dsimp only;rw[show(- -(k:Int)).toNat=k by omega,show(-(k:Int)).toNat=0 by omega,Nat.shiftLeft_zero,hm,Xz];congr 1;unfold signed;rw[Nat.shiftLeft_zero];by_cases U:a=0
  ·subst U;cases s<;>rfl
  ·have hs:sg s a.natAbs=a:=by
    rw[hm,Ui]at j;exact Int.eq_of_mul_eq_mul_right (by exact_mod_cast p2 _) j
   exact hs
 have hb:IntKind.i64.min<=a/\a<=IntKind.i64.max:=⟨p,I⟩;unfold floatToIntVal;rw[R];show(if _ then some a else none)=some a;rw[if_pos hb]
end Fl
end
end Go.Proofs.YthbihnpoghlfaaaGreatDoor
