import Derived.Test.YthbihnpoghlfaaaGreatDoorZr24
import Derived.Test.YthbihnpoghlfaaaGreatDoorZr31
set_option linter.unusedVariables false
set_option linter.unusedSimpArgs false
set_option maxHeartbeats 8000000
set_option maxRecDepth 100000
namespace Go.Proofs.YthbihnpoghlfaaaGreatDoor
open Go.Proofs.Tryz
section
open Go.RowKit Q Go.Lib Go.Shelf
theorem TJ (v:Q.Var) (w:World) :
  Calls prog 72 #[Nu v] w fun e w'=>e=.returned (.int .i64 (Gc v))/\Below w.heap.size w w':=by
 obtain⟨nm,k,lo,hi,⟨i1,i2,i3⟩⟩:=v;have o:=fun w1=>Jj ⟨i1,i2,i3⟩ w1
 have j:=fun w1=>LM ⟨nm,k,lo,hi,⟨i1,i2,i3⟩⟩ ⟨i1,i2,i3⟩ w1
 unfold Nu at j⊢;unfold As at o j;dsimp only at o j⊢;obtain⟨r,hr⟩:∃r,Gc ⟨nm,k,lo,hi,⟨i1,i2,i3⟩⟩=r:=⟨_,rfl⟩;rw[hr];have HR:=jK hr;clear hr;obtain⟨W,e0⟩:∃W,w.alloc (.cells #[.string nm,.int .i64 k,.int .i64 lo,.int .i64 hi,.int .i64 i1,.int .i64 i2,.int .i64 i3] 66)=W:=⟨_,rfl⟩;obtain⟨J,s0,q0,q1,q2,q3,q4,q5,q6⟩:=PI e0;go_enter func72,ntmps72;go_upto_region 1 with(fail)
 clear e0;by_cases hk:k=1\/k=2\/k=3
 ·rcases hk with rfl|rfl|rfl
  ·by_cases a7:i1=1
   case neg=>
    obtain rfl:r=8:=HR.out.symm.trans (Gu (.inr (.inr a7)));have a6:=Bc a7;clear o j;go_wp2;go_ret;exact⟨rfl,J⟩
   subst a7;by_cases x1:hi<lo
   case pos=>
    obtain rfl:r=5:=HR.out.symm.trans (B9 (by show ¬((1:Int)<1\/(3:Int)<1\/(1:Int)≠1);omega) (by show hi<lo\/lo < -(Bu 1)\/Bu 1<hi\/((1:Int)=2/\(lo≠0\/hi≠1));rw[show Bu 1=1099511627776 from rfl];omega));have b5:lo>hi:=x1;clear o j HR;go_wp2;go_ret;exact⟨rfl,J⟩
   have b5:¬lo>hi:=by omega
   by_cases x2:lo < -1099511627776
   case pos=>
    obtain rfl:r=5:=HR.out.symm.trans (B9 (by show ¬((1:Int)<1\/(3:Int)<1\/(1:Int)≠1);omega) (by show hi<lo\/lo < -(Bu 1)\/Bu 1<hi\/((1:Int)=2/\(lo≠0\/hi≠1));rw[show Bu 1=1099511627776 from rfl];omega));clear o j HR;go_wp2;go_ret;exact⟨rfl,J⟩
   by_cases x3:1099511627776<hi
   case pos=>
    obtain rfl:r=5:=HR.out.symm.trans (B9 (by show ¬((1:Int)<1\/(3:Int)<1\/(1:Int)≠1);omega) (by show hi<lo\/lo < -(Bu 1)\/Bu 1<hi\/((1:Int)=2/\(lo≠0\/hi≠1));rw[show Bu 1=1099511627776 from rfl];omega));have b6:hi>1099511627776:=x3;clear o j HR;go_wp2;go_ret;exact⟨rfl,J⟩
   have b6:¬hi>1099511627776:=by omega
   have hR:=HR.out.symm.trans (IL (by show ¬((1:Int)<1\/(3:Int)<1\/(1:Int)≠1);omega) (by show ¬(hi<lo\/lo < -(Bu 1)\/Bu 1<hi\/((1:Int)=2/\(lo≠0\/hi≠1)));rw[show Bu 1=1099511627776 from rfl];omega));dsimp only at hR;obtain⟨b1,a6⟩:∃b1,decide (By ⟨1,i2,i3⟩)=b1:=⟨_,rfl⟩;obtain⟨b2,a8⟩:∃b2,fits ⟨nm,1,lo,hi,⟨1,i2,i3⟩⟩ ⟨1,i2,i3⟩=b2:=⟨_,rfl⟩;rw[a6]at o;rw[a8]at j;have R:r=if(b1&&b2)=true then 0 else 5:=by
    rw[hR,<-a6,<-a8];by_cases g1:By ⟨1,i2,i3⟩<;>simp[g1]
   clear hR a6 a8 HR;cases b1
   ·obtain rfl:r=5:=R;clear j;go_wp2_with fail;(with_reducible refine(o _).mono ?_);rintro e w5⟨rfl,U⟩;go_wp2;go_ret;exact⟨rfl,Ab J U⟩
   ·have b8:=jK R;clear R;go_wp2_with fail;(with_reducible refine(o _).mono ?_);rintro e w5⟨rfl,U⟩;obtain⟨p,_⟩:=Ae U;have I:w.heap.size<W.heap.size:=by omega
    have c1:=aK I U.size;have z0:=(p _ 0 I).trans q0;have z1:=(p _ 1 I).trans q1;have z2:=(p _ 2 I).trans q2;have z3:=(p _ 3 I).trans q3;have z4:=(p _ 4 I).trans q4;have z5:=(p _ 5 I).trans q5;have z6:=(p _ 6 I).trans q6;clear p s0;go_wp2_with fail;(with_reducible refine(j _).mono ?_);rintro e w6⟨rfl,b9⟩;cases b2
    all_goals
     have R:=b8.out;obtain rfl:=R;go_wp2;go_ret;exact⟨rfl,Ab (Ab J U) b9⟩
  ·by_cases a7:i1=2
   case neg=>
    obtain rfl:r=8:=HR.out.symm.trans (Gu (.inr (.inr a7)));have a6:=Bc a7;clear o j;go_wp2;go_ret;exact⟨rfl,J⟩
   subst a7;by_cases x1:hi<lo
   case pos=>
    obtain rfl:r=5:=HR.out.symm.trans (B9 (by show ¬((2:Int)<1\/(3:Int)<2\/(2:Int)≠2);omega) (by show hi<lo\/lo < -(Bu 2)\/Bu 2<hi\/((2:Int)=2/\(lo≠0\/hi≠1));rw[show Bu 2=1099511627776 from rfl];omega));have b5:lo>hi:=x1;clear o j HR;go_wp2;go_ret;exact⟨rfl,J⟩
   have b5:¬lo>hi:=by omega
   by_cases x2:lo < -1099511627776
   case pos=>
    obtain rfl:r=5:=HR.out.symm.trans (B9 (by show ¬((2:Int)<1\/(3:Int)<2\/(2:Int)≠2);omega) (by show hi<lo\/lo < -(Bu 2)\/Bu 2<hi\/((2:Int)=2/\(lo≠0\/hi≠1));rw[show Bu 2=1099511627776 from rfl];omega));clear o j HR;go_wp2;go_ret;exact⟨rfl,J⟩
   by_cases x3:1099511627776<hi
   case pos=>
    obtain rfl:r=5:=HR.out.symm.trans (B9 (by show ¬((2:Int)<1\/(3:Int)<2\/(2:Int)≠2);omega) (by show hi<lo\/lo < -(Bu 2)\/Bu 2<hi\/((2:Int)=2/\(lo≠0\/hi≠1));rw[show Bu 2=1099511627776 from rfl];omega));have b6:hi>1099511627776:=x3;clear o j HR;go_wp2;go_ret;exact⟨rfl,J⟩
   have b6:¬hi>1099511627776:=by omega
   by_cases x4:lo=0
   case neg=>
    obtain rfl:r=5:=HR.out.symm.trans (B9 (by show ¬((2:Int)<1\/(3:Int)<2\/(2:Int)≠2);omega) (by show hi<lo\/lo < -(Bu 2)\/Bu 2<hi\/((2:Int)=2/\(lo≠0\/hi≠1));rw[show Bu 2=1099511627776 from rfl];omega));have a6:=Bc x4;clear o j HR;go_wp2;go_ret;exact⟨rfl,J⟩
   have i6:=Bj x4;by_cases x5:hi=1
   case neg=>
    obtain rfl:r=5:=HR.out.symm.trans (B9 (by show ¬((2:Int)<1\/(3:Int)<2\/(2:Int)≠2);omega) (by show hi<lo\/lo < -(Bu 2)\/Bu 2<hi\/((2:Int)=2/\(lo≠0\/hi≠1));rw[show Bu 2=1099511627776 from rfl];omega));have a6:=Bc x5;clear o j HR;go_wp2;go_ret;exact⟨rfl,J⟩
   have i7:=Bj x5;have hR:=HR.out.symm.trans (IL (by show ¬((2:Int)<1\/(3:Int)<2\/(2:Int)≠2);omega) (by show ¬(hi<lo\/lo < -(Bu 2)\/Bu 2<hi\/((2:Int)=2/\(lo≠0\/hi≠1)));rw[show Bu 2=1099511627776 from rfl];omega));dsimp only at hR;clear x4 x5;obtain⟨b1,a6⟩:∃b1,decide (By ⟨2,i2,i3⟩)=b1:=⟨_,rfl⟩;obtain⟨b2,a8⟩:∃b2,fits ⟨nm,2,lo,hi,⟨2,i2,i3⟩⟩ ⟨2,i2,i3⟩=b2:=⟨_,rfl⟩;rw[a6]at o;rw[a8]at j;have R:r=if(b1&&b2)=true then 0 else 5:=by
    rw[hR,<-a6,<-a8];by_cases g1:By ⟨2,i2,i3⟩<;>simp[g1]
   clear hR a6 a8 HR;cases b1
   ·obtain rfl:r=5:=R;clear j;go_wp2_with fail;(with_reducible refine(o _).mono ?_);rintro e w5⟨rfl,U⟩;go_wp2;go_ret;exact⟨rfl,Ab J U⟩
   ·have b8:=jK R;clear R;go_wp2_with fail;(with_reducible refine(o _).mono ?_);rintro e w5⟨rfl,U⟩;obtain⟨p,_⟩:=Ae U;have I:w.heap.size<W.heap.size:=by omega
    have c1:=aK I U.size;have z0:=(p _ 0 I).trans q0;have z1:=(p _ 1 I).trans q1;have z2:=(p _ 2 I).trans q2;have z3:=(p _ 3 I).trans q3;have z4:=(p _ 4 I).trans q4;have z5:=(p _ 5 I).trans q5;have z6:=(p _ 6 I).trans q6;clear p s0;go_wp2_with fail;(with_reducible refine(j _).mono ?_);rintro e w6⟨rfl,b9⟩;cases b2
    all_goals
     have R:=b8.out;obtain rfl:=R;go_wp2;go_ret;exact⟨rfl,Ab (Ab J U) b9⟩
  ·by_cases a7:i1=3
   case neg=>
    obtain rfl:r=8:=HR.out.symm.trans (Gu (.inr (.inr a7)));have a6:=Bc a7;clear o j;go_wp2;go_ret;exact⟨rfl,J⟩
   subst a7;by_cases x1:hi<lo
   case pos=>
    obtain rfl:r=5:=HR.out.symm.trans (B9 (by show ¬((3:Int)<1\/(3:Int)<3\/(3:Int)≠3);omega) (by show hi<lo\/lo < -(Bu 3)\/Bu 3<hi\/((3:Int)=2/\(lo≠0\/hi≠1));rw[show Bu 3=1048576 from rfl];omega));have b5:lo>hi:=x1;clear o j HR;go_wp2;go_ret;exact⟨rfl,J⟩
   have b5:¬lo>hi:=by omega
   by_cases x2:lo < -1048576
   case pos=>
    obtain rfl:r=5:=HR.out.symm.trans (B9 (by show ¬((3:Int)<1\/(3:Int)<3\/(3:Int)≠3);omega) (by show hi<lo\/lo < -(Bu 3)\/Bu 3<hi\/((3:Int)=2/\(lo≠0\/hi≠1));rw[show Bu 3=1048576 from rfl];omega));clear o j HR;go_wp2;go_ret;exact⟨rfl,J⟩
   by_cases x3:1048576<hi
   case pos=>
    obtain rfl:r=5:=HR.out.symm.trans (B9 (by show ¬((3:Int)<1\/(3:Int)<3\/(3:Int)≠3);omega) (by show hi<lo\/lo < -(Bu 3)\/Bu 3<hi\/((3:Int)=2/\(lo≠0\/hi≠1));rw[show Bu 3=1048576 from rfl];omega));have b6:hi>1048576:=x3;clear o j HR;go_wp2;go_ret;exact⟨rfl,J⟩
   have b6:¬hi>1048576:=by omega
   have hR:=HR.out.symm.trans (IL (by show ¬((3:Int)<1\/(3:Int)<3\/(3:Int)≠3);omega) (by show ¬(hi<lo\/lo < -(Bu 3)\/Bu 3<hi\/((3:Int)=2/\(lo≠0\/hi≠1)));rw[show Bu 3=1048576 from rfl];omega));dsimp only at hR;obtain⟨b1,a6⟩:∃b1,decide (By ⟨3,i2,i3⟩)=b1:=⟨_,rfl⟩;obtain⟨b2,a8⟩:∃b2,fits ⟨nm,3,lo,hi,⟨3,i2,i3⟩⟩ ⟨3,i2,i3⟩=b2:=⟨_,rfl⟩;rw[a6]at o;rw[a8]at j;have R:r=if(b1&&b2)=true then 0 else 5:=by
    rw[hR,<-a6,<-a8];by_cases g1:By ⟨3,i2,i3⟩<;>simp[g1]
   clear hR a6 a8 HR;cases b1
   ·obtain rfl:r=5:=R;clear j;go_wp2_with fail;(with_reducible refine(o _).mono ?_);rintro e w5⟨rfl,U⟩;go_wp2;go_ret;exact⟨rfl,Ab J U⟩
   ·have b8:=jK R;clear R;go_wp2_with fail;(with_reducible refine(o _).mono ?_);rintro e w5⟨rfl,U⟩;obtain⟨p,_⟩:=Ae U;have I:w.heap.size<W.heap.size:=by omega
    have c1:=aK I U.size;have z0:=(p _ 0 I).trans q0;have z1:=(p _ 1 I).trans q1;have z2:=(p _ 2 I).trans q2;have z3:=(p _ 3 I).trans q3;have z4:=(p _ 4 I).trans q4;have z5:=(p _ 5 I).trans q5;have z6:=(p _ 6 I).trans q6;clear p s0;go_wp2_with fail;(with_reducible refine(j _).mono ?_);rintro e w6⟨rfl,b9⟩;cases b2
    all_goals
     have R:=b8.out;obtain rfl:=R;go_wp2;go_ret;exact⟨rfl,Ab (Ab J U) b9⟩
 ·have h1:k≠1:=fun h=>hk (.inl h)
  have h2:k≠2:=fun h=>hk (.inr (.inl h))
  have h3:k≠3:=fun h=>hk (.inr (.inr h))
  obtain rfl:r=8:=HR.out.symm.trans (Gu (by show k<1\/3<k\/i1≠k;omega));have b1:=Bc h1;have b2:=Bc h2;have b3:=Bc h3;clear o j HR hk h1 h2 h3;go_wp2;go_ret;exact⟨rfl,J⟩
end
end Go.Proofs.YthbihnpoghlfaaaGreatDoor
