import Derived.Deep.Slices
import Derived.Deep.Fields
import Derived.ChangeSame
import Derived.RangeFuncNested
import Derived.RangeFuncBound
import Derived.RangeFuncCalls
import Derived.RangeFuncLeaves
import Derived.Shelf.Abstract
import Derived.Shelf.RegionOpen
import Derived.OwnWalkIn
import Derived.TacticsInMore
import Derived.LoopNIn
import Derived.LoopIn
import Derived.Test.YthbihnpoghlfaaaGreatDoorZr01
set_option linter.unusedVariables false
set_option linter.unusedSimpArgs false
set_option maxHeartbeats 8000000
set_option maxRecDepth 100000
namespace Go.Proofs.YthbihnpoghlfaaaGreatDoor
open Go.Proofs.Tryz
section
open Go.ChangeShapes Go.WideShapes Go.RowKit
abbrev BQ:=List (Int×Int)
namespace Tr
def kd (st:BQ) (i:Nat):Int:=(st[i]?.getD (0,0)).1
def dp (st:BQ) (i:Nat):Int:=(st[i]?.getD (0,0)).2
def Kq (st:BQ) (d:Int):Nat->Int
 | 0=>-1
 |k+1=>if dp st k<d then(k:Int)else Kq st d k
def up (st:BQ) (i:Nat):Int:=Kq st (dp st i) i
def CS (st:BQ) (d:Int) (k:Nat):Nat->Nat
 | 0=>k
 |f+1=>if d<dp st k then CS st d (k+1) f else k
def fin (st:BQ) (i:Nat):Nat:=CS st (dp st i) (i+1) (st.length-(i+1))
def Wf (st:BQ):Prop:=∀i,i<st.length->(-9223372036854775808<=kd st i/\kd st i<=9223372036854775807)/\(-9223372036854775808<=dp st i/\dp st i<=9223372036854775807)
theorem below_drewN {B:Nat} {w w':World} (h:Below B w w') (k:Nat):Below B w (w'.drewN k):=h.trans ⟨rfl,rfl,rfl,aL _,fun _ _=>rfl⟩
end Tr
def Tree (w:World) (B:Nat) (A:Option Addr) (n:Nat) (st:BQ):Prop:=
 st.length=n/\∃xs:List Value,Reads w B 6 A n xs/\∀i,i<n->(∃j,xs[i*6]?=some (.string j))/\xs[i*6+1]?=some (.int .i64 (Tr.kd st i))/\xs[i*6+2]?=some (.int .i64 (Tr.dp st i))/\
  (∃o,xs[i*6+3]?=some (.string o))/\(∃a4 n4 c4,xs[i*6+4]?=some (.slice a4 n4 c4))/\∃a5 p c5,xs[i*6+5]?=some (.slice a5 p c5)
section
variable {w w':World} {B B' n:Nat} {A:Option Addr} {st:BQ}
theorem Tree.keep (h:Tree w B A n st) (j:∀p:Addr,p.block<B->w'.cell? p=w.cell? p):Tree w' B A n st:=⟨h.1,by
 obtain⟨_,xs,o,I⟩:=h;exact⟨xs,o.keep j,I⟩⟩
theorem Tree.below (h:Tree w B A n st) (j:Below B w w'):Tree w' B A n st:=h.keep fun _ hp=>j.cell hp
theorem Tree.more (h:Tree w B A n st) (j:B<=B'):Tree w B' A n st:=⟨h.1,by
 obtain⟨_,xs,o,p⟩:=h;exact⟨xs,o.more j,p⟩⟩
theorem Tree.drew (h:Tree w B A n st):Tree w.drew B A n st:=h
theorem Tree.drewN (h:Tree w B A n st) (k:Nat):Tree (w.drewN k) B A n st:=h
theorem Tree.alloc (h:Tree w B A n st) (j:B<=w.heap.size) (o:Obj):Tree (w.alloc o) B A n st:=h.keep fun p hp=>fV w o p (by omega)
theorem Tree.addr {i:Nat} (h:Tree w B A n st) (hi:i<n):∃j,A=some j/\j.block<B:=by
 obtain⟨_,xs,o,_⟩:=h;obtain⟨j,e,p,_⟩:=o.2 (by omega);exact⟨j,e,p⟩
theorem Tree.at_ {i:Nat} {j:Addr} (h:Tree w B (some j) n st) (hi:i<n) :
  w.cell? {block:=(j.add (i*6)).block,off:=(j.add (i*6)).off+1}=some (.int .i64 (Tr.kd st i))/\w.cell? {block:=(j.add (i*6)).block,off:=(j.add (i*6)).off+2}=some (.int .i64 (Tr.dp st i)):=by
 show w.cell? ((j.add (i*6)).add 1)=_/\w.cell? ((j.add (i*6)).add 2)=_;obtain⟨_,xs,I,o⟩:=h;obtain⟨J,e,_,p⟩:=I.2 (by omega);injection e with e
 subst e;rw[Ca,Ca];exact⟨p _ _ (o i hi).2.1,p _ _ (o i hi).2.2.1⟩
theorem Tree.all {i:Nat} {j:Addr} (h:Tree w B (some j) n st) (hi:i<n) :
  ∃o p a4 n4 c4 a5 I c5,w.cell? (j.add (i*6))=some (.string o)/\w.cell? {block:=(j.add (i*6)).block,off:=(j.add (i*6)).off+3}=some (.string p)/\w.cell? {block:=(j.add (i*6)).block,off:=(j.add (i*6)).off+4}=some (.slice a4 n4 c4)/\
   w.cell? {block:=(j.add (i*6)).block,off:=(j.add (i*6)).off+5}=some (.slice a5 I c5):=by
 show ∃o p a4 n4 c4 a5 I c5,w.cell? (j.add (i*6))=some (.string o)/\w.cell? ((j.add (i*6)).add 3)=some (.string p)/\w.cell? ((j.add (i*6)).add 4)=some (.slice a4 n4 c4)/\w.cell? ((j.add (i*6)).add 5)=some (.slice a5 I c5);obtain⟨_,xs,R,U⟩:=h;obtain⟨a1,e,_,J⟩:=R.2 (by omega);injection e with e
 subst e;obtain⟨⟨o,h0⟩,_,_,⟨p,h3⟩,⟨a4,n4,c4,h4⟩,a5,I,c5,h5⟩:=U i hi;simp only[Ca];exact⟨o,p,a4,n4,c4,a5,I,c5,J _ _ h0,J _ _ h3,J _ _ h4,J _ _ h5⟩
end
theorem PD (w:World) (A:Option Addr) (n c:Nat) (st:BQ) (h:Tree w w.heap.size A n st) (hn:n<=maxLen) (i:Nat) (hi:i<n) :
  Calls prog 191 #[.slice A n c,.int .i64 (i:Int)] w fun e w'=>e=.returned (.int .i64 (Tr.up st i))/\Below w.heap.size w w':=by
 unfold maxLen at hn;obtain⟨ad,rfl,a7⟩:=h.addr hi;go_enter func191,ntmps191;go_wp2
 go_loopw [5] (fun v wr=>∃k:Nat,k<=i/\v=.int .i64 ((k:Int)-1)/\Below w.heap.size w wr/\Tr.Kq st (Tr.dp st i) k=Tr.up st i) (fun v _=>(intOf v+1).toNat)
 case atStart=>exact⟨i,aL _,rfl,aJ _ _,rfl⟩
 case round=>
  obtain⟨k,hk,rfl,o,hu⟩:=hrel;have R:=h.below o;cases k with
  |zero=>
   have j:Tr.up st i=-1:=hu.symm;rw[show((0:Nat):Int)-1=-1 from rfl];go_wp2;go_ret;exact⟨by rw[j];rfl,o⟩
  |succ k=>
   have I:=(R.at_ (show k<n by omega)).2;have J:=(R.at_ hi).2;have a8:(k:Int)<(n:Int):=by omega
   have b0:(i:Int)<(n:Int):=by omega
   have b1:k<n:=by omega
   rw[show((k+1:Nat):Int)-1=(k:Int)by omega];by_cases p:Tr.dp st k<Tr.dp st i
   ·have j:Tr.up st i=(k:Int):=by rw[<-hu,Tr.Kq,if_pos p]
    generalize Tr.dp st k=d1 at *;generalize Tr.dp st i=d2 at *;go_wp2
    go_quiet (fail)
    go_wp2;go_ret;exact⟨by rw[j];rfl,Tr.below_drewN o _⟩
   ·have j:Tr.Kq st (Tr.dp st i) k=Tr.up st i:=by rw[<-hu,Tr.Kq,if_neg p]
    obtain⟨d1,U⟩:∃x,Tr.dp st k=x:=⟨_,rfl⟩;obtain⟨d2,h2⟩:∃x,Tr.dp st i=x:=⟨_,rfl⟩;rw[U]at I p;rw[h2]at J p;clear U h2;go_wp2
    go_quiet (fail)
    go_wp2;go_roundw
    case rel=>exact⟨k,by omega,rfl,Tr.below_drewN o _,j⟩
    case measure=>simp[intOf]
theorem JY (w:World) (A:Option Addr) (n c:Nat) (st:BQ) (h:Tree w w.heap.size A n st) (hn:n<=maxLen) (i:Nat) (hi:i<n) :
  Calls prog 205 #[.slice A n c,.int .i64 (i:Int)] w fun e w'=>e=.returned (.int .i64 (Tr.fin st i:Int))/\Below w.heap.size w w':=by
 unfold maxLen at hn;obtain⟨ad,rfl,a8⟩:=h.addr hi;go_enter func205,ntmps205;go_wp2
 go_loopw [5] (fun v wr=>∃k:Nat,i<k/\k<=n/\v=.int .i64 (k:Int)/\Below w.heap.size w wr/\Tr.CS st (Tr.dp st i) k (n-k)=Tr.fin st i) (fun v _=>n-(intOf v).toNat)
 case atStart=>exact⟨i+1,by omega,by omega,by go_num,aJ _ _,by rw[Tr.fin,h.1]⟩
 case round=>
  obtain⟨k,b0,hk,rfl,U,hu⟩:=hrel;have ht:=h.below U;have o:=(ht.at_ hi).2;by_cases a1:k<n
  ·have p:=(ht.at_ a1).2;have I:(k:Int)<(n:Int):=by omega
   have b1:(i:Int)<(n:Int):=by omega
   rw[show n-k=(n-(k+1))+1 by omega,Tr.CS]at hu;by_cases j:Tr.dp st i<Tr.dp st k
   ·rw[if_pos j]at hu;obtain⟨d1,J⟩:∃x,Tr.dp st k=x:=⟨_,rfl⟩;obtain⟨d2,R⟩:∃x,Tr.dp st i=x:=⟨_,rfl⟩;rw[J]at p j;rw[R]at o j;have b2:d1>d2:=j;clear J R;go_wp2
    go_quiet (fail)
    go_wp2;go_roundw
    case rel=>exact⟨k+1,by omega,by omega,by go_num,Tr.below_drewN U _,hu⟩
    case measure=>simp[intOf];omega
   ·rw[if_neg j]at hu;obtain⟨d1,J⟩:∃x,Tr.dp st k=x:=⟨_,rfl⟩;obtain⟨d2,R⟩:∃x,Tr.dp st i=x:=⟨_,rfl⟩;rw[J]at p j;rw[R]at o j;have HU:=jK hu;clear J R hu;go_wp2
    go_quiet (fail)
    go_wp2;go_ret;exact⟨by rw[<-HU.out];rfl,Tr.below_drewN U _⟩
  ·obtain rfl:k=n:=by omega
   have I:¬(k:Int)<(k:Int):=by omega
   rw[Nat.sub_self,Tr.CS]at hu;go_wp2
   go_quiet (fail)
   go_wp2;go_ret;exact⟨by rw[<-hu];rfl,Tr.below_drewN U _⟩
end
section
open Go.RowKit
namespace Tr
def E8 (k:Int):Bool:=decide (k=5)||decide (k=6)
def ahead (st:BQ) (i:Nat):Int:=if i=0 then -1 else dp st (i-1)
def bad (st:BQ) (i:Nat):Prop:=dp st i<0\/ahead st i+1<dp st i\/6<=dp st i\/kd st i<1\/6<kd st i\/(dp st i=0/\kd st i≠2)
instance (st:BQ) (i:Nat):Decidable (bad st i):=by unfold bad;infer_instance
def D7 (st:BQ):Nat->Nat
 | 0=>0
 |i+1=>D7 st i+if dp st i=0 then 1 else 0
def shape (st:BQ):Prop:=(∀i,i<st.length->¬bad st i)/\D7 st st.length<=4/\0<st.length/\st.length<=40
instance (st:BQ):Decidable (shape st):=by unfold shape;infer_instance
theorem PE (st:BQ):∀i,D7 st i<=i
 | 0=>aL _
 |i+1=>by have:=PE st i;unfold D7;split<;>omega
end Tr
theorem Hz (w:World) (k:Int):Calls prog 178 #[.int .i64 k] w fun e p=>e=.returned (.bool (Tr.E8 k))/\p=w:=by
 go_enter func178,ntmps178;unfold Tr.E8;by_cases j:k=5
 ·subst j;go_wp2;go_ret;exact⟨rfl,rfl⟩
 ·by_cases o:k=6
  ·subst o;go_wp2;go_ret;exact⟨rfl,rfl⟩
  ·go_wp2;go_ret;exact⟨by simp[j,o],rfl⟩
theorem XK (w:World) (A:Option Addr) (n c:Nat) (st:BQ) (h:Tree w w.heap.size A n st) (_hw:Tr.Wf st) (hn:n<=maxLen) :
  Calls prog 176 #[.slice A n c] w fun e w'=>e=.returned (.bool (decide (Tr.shape st)))/\Below w.heap.size w w':=by
 unfold maxLen at hn;go_enter func176,ntmps176;go_wp2
 go_loopw [9,3] (fun v r wr=>∃i:Nat,i<=n/\v=.int .i64 (i:Int)/\r=.int .i64 (Tr.D7 st i:Int)/\Below w.heap.size w wr/\(∀j,j<i->¬Tr.bad st j)) (fun v _ _=>n-(intOf v).toNat)
 case atStart=>exact⟨0,by omega,rfl,rfl,aJ _ _,fun j hj=>absurd hj (by omega)⟩
 case round=>
  obtain⟨i,hi,rfl,rfl,hb,I⟩:=hrel;have ht:=h.below hb;have e6:=Tr.PE st i;by_cases a6:i<n
  ·obtain⟨ad,rfl,e7⟩:=h.addr a6;obtain⟨e8,e9⟩:=ht.at_ a6;obtain⟨s0,s3,a4,n4,c4,a5,n5,c5,h6,h7,h8,h9⟩:=ht.all a6;have i1:(i:Int)<(n:Int):=by omega
   have hD:∀o,(wr.alloc o).cell? {block:=(ad.add (i*6)).block,off:=(ad.add (i*6)).off+2}=some (.int .i64 (Tr.dp st i)):=fun o=>(ht.alloc hb.size o|>.at_ a6).2
   have b7:i=0\/(0<i/\0<=Tr.dp st (i-1)/\Tr.dp st (i-1)<=5/\∀o,(wr.alloc o).cell? {block:=(ad.add ((i-1)*6)).block,off:=(ad.add ((i-1)*6)).off+2}=some (.int .i64 (Tr.dp st (i-1)))):=by
    rcases gM i with h0|h0
    ·exact .inl h0
    ·refine .inr ⟨h0,?_,?_,fun o=>(ht.alloc hb.size o|>.at_ (show i-1<n by omega)).2⟩
     ·exact Int.not_lt.1 fun h=>I (i-1) (by omega) (.inl h)
     ·exact Int.not_lt.1 fun h=>I (i-1) (by omega) (.inr (.inr (.inl (by omega))))
   by_cases p:Tr.bad st i
   ·have hf:decide (Tr.shape st)=false:=aF fun hs=>hs.1 i (by rw[h.1];exact a6) p
    have HF:=jK hf;clear hf;unfold Tr.bad Tr.ahead at p;generalize Tr.dp st i=D at *;generalize Tr.kd st i=K at *;have R:∀o,Below w.heap.size w (wr.alloc o):=fun o=>hb.alloc hb.size o
    rcases b7 with h0|⟨h0,c7,c8,c9⟩
    ·rw[if_pos h0]at p;have b8:¬(0:Int)<(i:Int):=by omega
     clear h0;have b5:D<0\/(0<=D/\0<D)\/(D=0/\K<1)\/(D=0/\1<=K/\6<K)\/(D=0/\1<=K/\K<=6/\K≠2):=by omega
     clear p;rcases b5 with h1|⟨h1,U⟩|⟨rfl,U⟩|⟨rfl,U,h3⟩|⟨rfl,U,h3,h4⟩<;>(go_wp2;go_ret;exact⟨by rw[HF.out];rfl,R _⟩)
    ·rw[if_neg (by omega)]at p;generalize Tr.dp st (i-1)=pa at *;have b5:D<0\/(0<=D/\pa+1<D)\/(0<=D/\D<=pa+1/\6<=D)\/(0<=D/\D<=pa+1/\D<6/\K<1)\/(0<=D/\D<=pa+1/\D<6/\1<=K/\6<K)\/(D=0/\1<=K/\K<=6/\K≠2):=by omega
     have b9:0<(i:Int):=by omega
     have e1:i-1<n:=by omega
     have c0:(i:Int)-1<(n:Int):=by omega
     clear p;rcases b5 with h1|⟨h1,U⟩|⟨h1,U,h3⟩|⟨h1,U,h3,h4⟩|⟨h1,U,h3,h4,h5⟩|⟨rfl,U,h3,h4⟩<;>(go_wp2;go_ret;exact⟨by rw[HF.out];rfl,R _⟩)
   ·have J:∀j,j<i+1->¬Tr.bad st j:=fun j hj=>by
     by_cases h:j=i
     ·subst h;exact p
     ·exact I j (by omega)
    have R:∀o,Below w.heap.size w (wr.alloc o):=fun o=>hb.alloc hb.size o
    have a8:Tr.dp st i=0->Tr.D7 st (i+1)=Tr.D7 st i+1:=fun h=>by rw[Tr.D7,if_pos h]
    have b3:Tr.dp st i≠0->Tr.D7 st (i+1)=Tr.D7 st i:=fun h=>by rw[Tr.D7,if_neg h,dD]
    unfold Tr.bad Tr.ahead at p;generalize Tr.dp st i=D at *;generalize Tr.kd st i=K at *;generalize Tr.D7 st i=r at *;rcases b7 with h0|⟨h0,c7,c8,c9⟩
    ·rw[if_pos h0]at p;have b8:¬(0:Int)<(i:Int):=by omega
     obtain⟨rfl,rfl⟩:D=0/\K=2:=by omega
     have HR:=jK (a8 rfl);clear h0 p a8 b3;go_wp2;go_roundw
     case rel=>exact⟨i+1,by omega,by go_num,by rw[HR.out];go_num,R _,J⟩
     case measure=>simp[intOf];omega
    ·rw[if_neg (by omega)]at p;generalize Tr.dp st (i-1)=pa at *;have b9:0<(i:Int):=by omega
     have e1:i-1<n:=by omega
     have c0:(i:Int)-1<(n:Int):=by omega
     have g1:0<=D:=by omega
     have g2:D<=pa+1:=by omega
     have g3:D<6:=by omega
     have g4:1<=K:=by omega
     have g5:K<=6:=by omega
     by_cases c2:D=0
     ·obtain rfl:K=2:=by omega
      subst c2;have HR:=jK (a8 rfl);clear p a8 b3;go_wp2;go_roundw
      case rel=>exact⟨i+1,by omega,by go_num,by rw[HR.out];go_num,R _,J⟩
      case measure=>simp[intOf];omega
     ·have HR:=jK (b3 c2);clear p a8 b3;go_wp2;go_roundw
      case rel=>exact⟨i+1,by omega,by go_num,by rw[HR.out],R _,J⟩
      case measure=>simp[intOf];omega
  ·obtain rfl:i=n:=by omega
   have hs:Tr.shape st↔Tr.D7 st i<=4/\0<i/\i<=40:=by
    unfold Tr.shape;rw[h.1];exact⟨fun h=>h.2,fun h=>⟨I,h⟩⟩
   clear I;generalize Tr.D7 st i=r at *;by_cases h1:r<=4
   ·by_cases U:0<i
    ·by_cases h3:i<=40
     ·have HF:=jK (aH (hs.2 ⟨h1,U,h3⟩));clear hs;go_wp2;go_ret;exact⟨by rw[HF.out];show Ending.returned (.bool (decide ((i:Int)<=40)))=_;rw[aH (by omega)],hb⟩
     ·have HF:=jK (aF (fun h=>h3 (hs.1 h).2.2));clear hs;go_wp2;go_ret;exact⟨by rw[HF.out];show Ending.returned (.bool (decide ((i:Int)<=40)))=_;rw[aF (by omega)],hb⟩
    ·have HF:=jK (aF (fun h=>U (hs.1 h).2.1));have b8:¬(0:Int)<(i:Int):=by omega
     clear hs U;go_wp2;go_ret;exact⟨by rw[HF.out];rfl,hb⟩
   ·have HF:=jK (aF (fun h=>h1 (hs.1 h).1));clear hs;go_wp2;go_ret;exact⟨by rw[HF.out];rfl,hb⟩
end
section
open Go.RowKit Go.Shelf
attribute [local go_sem] Oper.semAt_some
namespace Tr
def Cg (st:BQ) (e:Nat):Nat->Nat->List Nat
 | 0,_=>[]
 |f+1,k=>if k<e then k::Cg st e f (fin st k)else []
def kids (st:BQ) (i:Nat):List Nat:=Cg st (fin st i) (fin st i-(i+1)) (i+1)
theorem MC (st:BQ) (d:Int):∀f k,k<=CS st d k f
 | 0,k=>aL _
 |f+1,k=>by
  unfold CS;split
  ·exact aV (Nat.le_succ k) (MC st d f (k+1))
  ·exact aL _
theorem NQ (st:BQ) (d:Int):∀f k,CS st d k f<=k+f
 | 0,k=>aL _
 |f+1,k=>by
  unfold CS;split
  ·have:=NQ st d f (k+1);omega
  ·omega
theorem G8 (st:BQ) (i:Nat):i<fin st i:=MC st _ _ (i+1)
theorem Ia (st:BQ) {i:Nat} (h:i<st.length):fin st i<=st.length:=by
 have:=NQ st (dp st i) (st.length-(i+1)) (i+1);unfold fin;omega
theorem Jh (st:BQ) (e:Nat):∀f g k,e-k<=f->e-k<=g->Cg st e f k=Cg st e g k
 | 0,g,k,j,_=>by
  cases g with
  |zero=>rfl
  |succ g=>unfold Cg;rw[if_neg (by omega)]
 |f+1,0,k,_,o=>by unfold Cg;rw[if_neg (by omega)]
 |f+1,g+1,k,j,o=>by
  unfold Cg;split
  ·have:=G8 st k;rw[Jh st e f g (fin st k) (by omega) (by omega)]
  ·rfl
theorem Wv (st:BQ) (e k:Nat) (h:k<e):Cg st e (e-k) k=k::Cg st e (e-fin st k) (fin st k):=by
 have:=G8 st k;rw[show e-k=(e-k-1)+1 by omega,Cg,if_pos h,Jh st e _ (e-fin st k) (fin st k) (by omega) (by omega)]
theorem YY (st:BQ) (e k:Nat) (h:¬k<e):Cg st e (e-k) k=[]:=by
 rw[show e-k=0 by omega];rfl
end Tr
def XJ (n₀ o p:Nat) (W j:World):Prop:=Below n₀ W j/\j.heap[p]?=W.heap[p]?/\j.heap[o]?=W.heap[o]?
theorem OB {w j:World} (h:Below w.heap.size w j):w.grownBy j none:=⟨h.os,h.tape,h.output,h.size,fun k o _=>h.block k o⟩
theorem YZ (m:Nat) (hm:1<=m) (l R U n₀:Nat) (A:Option Addr) (n c:Nat) (st:BQ) (hn:n<=maxLen) (i:Nat) (hi:i<n) (J Jx:List {x:Nat // x<n}->World->Prop) (W:World) (h8:n₀<=W.heap.size)
  (hJ:AbidesFrom W.heap.size J)
  (hY:∀(pre:List {x:Nat // x<n}) (x:{x:Nat // x<n}) (W1:World),J pre W1->pre.length<(Tr.kids st i).length->YieldAt Fence.wide (m-1) prog l #[.int .i64 (x.1:Int)] W1 fun e W'=>
   (e=.returned (.bool true)/\J (pre++[x]) W'/\XJ n₀ R U W1 W')\/(e=.returned (.bool false)/\Jx (pre++[x]) W'))
  (e3:W.cell? ⟨R,0,none⟩=some (.int .i64 (i:Int))) (e4:W.cell? ⟨U,0,none⟩=some (.slice A n c)) (hT:Tree W n₀ A n st) (h0:J [] W) :
  CallsIn Fence.wide m prog 249 #[.func (.yield l) #[] #[],.pointer (some ⟨R,0,none⟩),.pointer (some ⟨U,0,none⟩)] W fun e W'=>(∃v,e=.returned v)/\
   ((∃ys,ys.map Subtype.val=Tr.kids st i/\J ys W')\/(∃pre,pre.map Subtype.val <+: Tr.kids st i/\Jx pre W')):=by
 have e5:=hn;unfold maxLen at e5;refine callsIn_of_wp func249 rfl trivial ?_ rfl;simp only[ntmps249,jA,bP,dX,Nat.reduceAdd,Nat.reduceSub,iF,iE,jB,iL,eH,gE]
 gi_wp2
 gi_loopw [4] (fun v wr=>∃(pre:List {x:Nat // x<n}) (k:Nat),v=.int .i64 (k:Int)/\i<k/\k<=n/\Tr.kids st i=pre.map Subtype.val++Tr.Cg st (Tr.fin st i) (Tr.fin st i-k) k/\J pre wr/\W.heap.size<=wr.heap.size/\
   wr.cell? ⟨R,0,none⟩=some (.int .i64 (i:Int))/\wr.cell? ⟨U,0,none⟩=some (.slice A n c)/\Tree wr n₀ A n st) (fun v _=>n-(intOf v).toNat)
 case atStart=>exact⟨[],i+1,by go_num,by omega,by omega,rfl,h0,aL _,e3,e4,hT⟩
 case round=>
  obtain⟨pre,k,rfl,i6,i7,hx,b7,j0,a8,b0,ht⟩:=hrel;have h5:Tr.fin st i<=n:=by have:=Tr.Ia st (i:=i) (by rw[hT.1];exact hi);rw[hT.1]at this;exact this
  gi_wp2
  refine⟨trivial,(dZ.2 (JY wr A n c st (ht.more (by omega)) hn i hi)).mono ?_⟩;rintro e w3⟨rfl,o⟩;have b8:=hJ pre wr w3 none b7 (OB o) (fun r e=>by cases e);have h6:W.heap.size<=w3.heap.size:=by have:=o.size;omega
  have b9:w3.cell? ⟨R,0,none⟩=some (.int .i64 (i:Int)):=(o.cell (p:=⟨R,0,none⟩) (dN _ _ a8)).trans a8;have c0:w3.cell? ⟨U,0,none⟩=some (.slice A n c):=(o.cell (p:=⟨U,0,none⟩) (dN _ _ b0)).trans b0;have e7:Tree w3 n₀ A n st:=ht.below (o.mono (by omega));clear a8 b0 ht o b7;by_cases c1:k<Tr.fin st i
  ·rw[Tr.Wv st _ k c1]at hx;have hlen:pre.length<(Tr.kids st i).length:=by rw[hx];simp
   have j:k<n:=by omega
   obtain⟨fn,tmps,assign,body,hy,hR⟩:=hY pre ⟨k,j⟩ w3 b8 hlen;dsimp only at hy;have c2:(k:Int)<(Tr.fin st i:Int):=by omega
   gi_wp2
   refine hR.mono ?_;rintro e W4 (⟨rfl,e8,e9⟩|⟨rfl,c3⟩)
   ·obtain⟨a1,c4,c5⟩:=e9;have a6:W4.cell? ⟨R,0,none⟩=some (.int .i64 (i:Int)):=(World.cell?_of_block c5).trans b9;have a7:W4.cell? ⟨U,0,none⟩=some (.slice A n c):=(World.cell?_of_block c4).trans c0;have c6:Tree W4 n₀ A n st:=e7.below a1;have h7:W.heap.size<=W4.heap.size:=by have:=a1.size;omega
    have j3:=Tr.G8 st k;have b1:Tr.fin st k<=n:=by have:=Tr.Ia st (i:=k) (by rw[hT.1];exact j);rw[hT.1]at this;exact this
    gi_wp2
    refine⟨trivial,(dZ.2 (JY W4 A n c st (c6.more (by omega)) hn k j)).mono ?_⟩;rintro e w5⟨rfl,I⟩;have h1:=hJ (pre++[⟨k,j⟩]) W4 w5 none e8 (OB I) (fun r e=>by cases e);have c8:W.heap.size<=w5.heap.size:=by have:=I.size;omega
    have c9:w5.cell? ⟨R,0,none⟩=some (.int .i64 (i:Int)):=(I.cell (p:=⟨R,0,none⟩) (dN _ _ a6)).trans a6;have e0:w5.cell? ⟨U,0,none⟩=some (.slice A n c):=(I.cell (p:=⟨U,0,none⟩) (dN _ _ a7)).trans a7;have h2:Tree w5 n₀ A n st:=c6.below (I.mono (by omega))
    gi_wp2
    go_roundw
    case rel=>exact⟨pre++[⟨k,j⟩],Tr.fin st k,rfl,by omega,b1,by rw[hx];simp,h1,c8,c9,e0,h2⟩
    case measure=>simp[intOf];omega
   ·gi_wp2
    refine aI (cO rfl _ _ _) rfl ?_;exact⟨⟨_,rfl⟩,.inr ⟨pre++[⟨k,j⟩],⟨_,by rw[hx];simp;rfl⟩,c3⟩⟩
  ·rw[Tr.YY st _ k c1,cP]at hx;have c2:¬(k:Int)<(Tr.fin st i:Int):=by omega
   gi_wp2
   go_end0
   exact⟨⟨_,rfl⟩,.inl ⟨pre,hx.symm,b8⟩⟩
theorem VT (m:Nat) (A:Option Addr) (n c i:Nat) (w:World) :
  CallsIn Fence.wide m prog 177 #[.slice A n c,.int .i64 (i:Int)] w fun e j=>
   e=.returned (.func (.func 249) #[] #[.pointer (some ⟨w.heap.size+1,0,none⟩),.pointer (some ⟨w.heap.size,0,none⟩)])/\j=(w.alloc (.cells #[.slice A n c] 24)).alloc (.cells #[.int .i64 (i:Int)] 3):=by
 refine callsIn_of_wp func177 rfl trivial ?_ rfl;simp only[ntmps177,jA,bP,dX,Nat.reduceAdd,Nat.reduceSub,iF,iE,jB,iL,eH,gE]
 gi_wp2
 go_ret;exact⟨rfl,rfl⟩
theorem N0 (m:Nat) (hm:1<=m) (j o n₀:Nat) (A:Option Addr) (n c:Nat) (st:BQ) (hn:n<=maxLen) (i:Nat) (hi:i<n) (w:World) (a1:n₀<=w.heap.size)
  (I:w.cell? ⟨j,0,none⟩=some (.int .i64 (i:Int))) (R:w.cell? ⟨o,0,none⟩=some (.slice A n c)) (hT:Tree w n₀ A n st) :
  SeqStopsK Fence.wide m prog 249 #[.pointer (some ⟨j,0,none⟩),.pointer (some ⟨o,0,none⟩)] (fun x:{x:Nat // x<n}=>#[Value.int .i64 (x.1:Int)]) (XJ n₀ j o) (fun ys=>ys.map Subtype.val=Tr.kids st i) (fun pre=>pre.map Subtype.val <+: Tr.kids st i) (Tr.kids st i).length w:=
 fun l J Jx W U hJ _ hY h0=>YZ m hm l j o n₀ A n c st hn i hi J Jx W (by have:=U.size;omega) hJ hY ((U.cell (p:=⟨j,0,none⟩) (dN _ _ I)).trans I) ((U.cell (p:=⟨o,0,none⟩) (dN _ _ R)).trans R) (hT.below (U.mono a1)) h0
end
section
open Go.RowKit Go.Shelf
attribute [local go_sem] Oper.semAt_some
namespace Tr
def BN (st:BQ) (l:List Nat):Nat:=(l.filter fun k=>!E8 (kd st k)).length
def JP (st:BQ) (i k:Nat):Prop:=kd st i=3->E8 (kd st k)=false/\kd st k≠4
instance (st:BQ) (i k:Nat):Decidable (JP st i k):=by unfold JP;infer_instance
def K1 (st:BQ) (i:Nat):Prop:=(∀k∈kids st i,JP st i k)/\(if kd st i=2\/kd st i=3 then BN st (kids st i)≠0 else(kids st i).length=0)
instance (st:BQ) (i:Nat):Decidable (K1 st i):=by unfold K1;infer_instance
def right (st:BQ):Prop:=shape st/\∀i,i<st.length->K1 st i
instance (st:BQ):Decidable (right st):=by unfold right;infer_instance
theorem Kc (st:BQ) (e:Nat):∀f k,(Cg st e f k).length<=f
 | 0,_=>aL _
 |f+1,k=>by
  unfold Cg;split
  ·have:=Kc st e f (fin st k);simp;omega
  ·simp
theorem J1 (st:BQ) {i:Nat} (h:i<st.length):(kids st i).length<=st.length:=by
 have j:=Kc st (fin st i) (fin st i-(i+1)) (i+1);have o:=Ia st h;unfold kids;omega
theorem NG (st:BQ) (l:List Nat) (k:Nat):BN st (l++[k])=BN st l+if E8 (kd st k)then 0 else 1:=by
 unfold BN;rw[dL,aO];cases h:E8 (kd st k)<;>simp[h]
theorem Yb (st:BQ) (l:List Nat):BN st l<=l.length:=eZ _ _
end Tr
def Marks (S:Nat) (W:World):List Deferred->Prop
 | []=>True
 |d::ds=>(∃D,d.target=.collected D/\W.heap[D]?=some (.deferred (some []))/\S<=D/\∀d'∈ds,d'.target≠.collected D)/\Marks S W ds
theorem Marks.keep {S:Nat} {W I:World}:∀ {ds:List Deferred},Marks S W ds->(∀D,W.heap[D]?=some (.deferred (some []))->(∃d∈ds,d.target=.collected D)->I.heap[D]?=W.heap[D]?)->Marks S I ds
 | [],_,_=>trivial
 |d::ds,⟨⟨D,J,R,hS,j⟩,hm⟩,U=>⟨⟨D,J,(U D R ⟨d,by simp,J⟩).trans R,hS,j⟩,hm.keep fun D' o ⟨d',p,ht⟩=>U D' o ⟨d',by simp[p],ht⟩⟩
theorem CV {n:Nat} {P:Program} {fn:Func} {tmps:Array Value} {R:Ending->World->Prop} {S:Nat}:∀(ds:List Deferred) (W:World),Marks S W ds->
  (∀j,Below S W j->(∀p v,W.cell? p=some v->j.cell? p=some v)->LeavesIn Fence.wide n P fn tmps R [] .returning j)->LeavesInM Fence.wide n P fn tmps R ds .returning W
 | [],W,_,o=>o W (aJ _ _) (fun _ _ h=>h)
 |d::ds,W,⟨⟨D,hd,I,hS,J⟩,hm⟩,o=>by
  refine⟨by simp,.inl ⟨D,_,hd,run_takeDeferred I,?_⟩⟩;refine CV ds _ (hm.keep fun D' a7 ⟨d',U,ht⟩=>World.putObj_heap_other (fun e=>J d' U (by rw[ht,e]))) fun j hb hc=>?_
  refine o j (Below.trans ((aJ S W).grown (grownBy_putObj' W D (.deferred none)) ?_ (fun k e=>by cases e;exact hS)) hb) (fun p v hp=>hc p v (cell_kept hp (grownBy_putObj' _ D (.deferred none)) (fun r e=>by cases e;exact⟨_,I,rfl⟩)));have:=(aU.1 I).1;omega
theorem Marks.BF {S:Nat} {W:World} {ds:List Deferred} {g t:Nat} {j:Array Value} (o:Marks S W ds) (p:Bw W g t j) (i:Nat) (u:Value):Marks S (W.setCell ⟨g,i,none⟩ u) ds:=
 o.keep fun D I _=>cT _ _ _ _ (fun e=>by
  have J:D=g:=e;subst J;have:=p.symm.trans I;cases this)
theorem Marks.mem {S:Nat} {W:World}:∀ {ds:List Deferred},Marks S W ds->∀d∈ds,∃D,d.target=.collected D/\W.heap[D]?=some (.deferred (some []))
 | [],_,d,j=>by cases j
 |d0::ds,⟨⟨D,o,p,_,_⟩,hm⟩,d,j=>by
  rcases bJ.1 j with rfl|j
  ·exact⟨D,o,p⟩
  ·exact hm.mem d j
structure KI (S H:Nat) (w W2:World) (nk nr:Nat) (W':World):Prop where
 c5:Bw W' (H+1) 3 #[.int .i64 (nk:Int)]
 c6:Bw W' (H+1+1) 3 #[.int .i64 (nr:Int)]
 c2:Bw W' (S+1) 4 #[.bool false]
 same:∀k,k<W2.heap.size->k≠H+1->k≠H+1+1->k≠S+1->W'.heap[k]?=W2.heap[k]?
 size:W2.heap.size<=W'.heap.size
 below:Below S w W'
theorem Bw.Tv {W:World} {g t:Nat} {j:Array Value} {row:Option Nat} (h:Bw W g t j) (p:∀r,row=some r->∃o:Obj,W.heap[r]?=some o/\o.isCells=false):some g≠row:=fun e=>by
 obtain⟨o,I,J⟩:=p g e.symm;have:=Option.some.inj (h.symm.trans I);subst this;cases J
theorem KI.grown {S H:Nat} {w J:World} {U nr:Nat} {R p:World} {row:Option Nat} (h:KI S H w J U nr R) (hS:S<=J.heap.size) (j:R.grownBy p row) (I:∀r,row=some r->J.heap.size<=r/\∃o:Obj,R.heap[r]?=some o/\o.isCells=false) :
  KI S H w J U nr p where
 c5:=h.c5.grown j (h.c5.Tv fun r e=>(I r e).2)
 c6:=h.c6.grown j (h.c6.Tv fun r e=>(I r e).2)
 c2:=h.c2.grown j (h.c2.Tv fun r e=>(I r e).2)
 same:=fun k hk h1 h2 h3=>(j.block k (by have:=h.size;omega) (fun e=>by have:=(I k e.symm).1;omega)).trans (h.same k hk h1 h2 h3)
 size:=aV h.size j.size
 below:=h.below.grown j (aV hS h.size) (fun r e=>by have:=(I r e).1;omega)
theorem KI.Zc1 {S H:Nat} {w j:World} {J o:Nat} {X:World} (h:KI S H w j J o X) (R:S<H) (m:Nat):KI S H w j m o (X.setCell ⟨H+1,0,none⟩ (.int .i64 (m:Int))) where
 c5:=h.c5.BF 0 _
 c6:=h.c6.Nf (p:=⟨H+1,0,none⟩) (by show H+1+1≠H+1;omega) _
 c2:=h.c2.Nf (p:=⟨H+1,0,none⟩) (by show S+1≠H+1;omega) _
 same:=fun k U I h2 h3=>(cT X ⟨H+1,0,none⟩ _ k I).trans (h.same k U I h2 h3)
 size:=by rw[eK];exact h.size
 below:=h.below.setCell (p:=⟨H+1,0,none⟩) (by show S<=H+1;omega) _
theorem KI.Zdj {S H:Nat} {w j:World} {o J:Nat} {X:World} (h:KI S H w j o J X) (R:S<H) (m:Nat):KI S H w j o m (X.setCell ⟨H+1+1,0,none⟩ (.int .i64 (m:Int))) where
 c5:=h.c5.Nf (p:=⟨H+1+1,0,none⟩) (by show H+1≠H+1+1;omega) _
 c6:=h.c6.BF 0 _
 c2:=h.c2.Nf (p:=⟨H+1+1,0,none⟩) (by show S+1≠H+1+1;omega) _
 same:=fun k U h1 I h3=>(cT X ⟨H+1+1,0,none⟩ _ k I).trans (h.same k U h1 I h3)
 size:=by rw[eK];exact h.size
 below:=h.below.setCell (p:=⟨H+1+1,0,none⟩) (by show S<=H+1+1;omega) _
theorem KI.Zc3 {S H:Nat} {w j:World} {o I:Nat} {X:World} (h:KI S H w j o I X) (R:S<H):KI S H w j o I (X.setCell ⟨S+1,0,none⟩ (.bool false)) where
 c5:=h.c5.Nf (p:=⟨S+1,0,none⟩) (by show H+1≠S+1;omega) _
 c6:=h.c6.Nf (p:=⟨S+1,0,none⟩) (by show H+1+1≠S+1;omega) _
 c2:=h.c2.BF 0 _
 same:=fun k U h1 h2 J=>(cT X ⟨S+1,0,none⟩ _ k J).trans (h.same k U h1 h2 J)
 size:=by rw[eK];exact h.size
 below:=h.below.setCell (p:=⟨S+1,0,none⟩) (by show S<=S+1;omega) _
theorem XJ.BF {n₀ j o:Nat} (X:World) (g:Nat) (v:Value) (I:n₀<=g) (J:g≠o) (R:g≠j):XJ n₀ j o X (X.setCell ⟨g,0,none⟩ v):=
 ⟨(aJ n₀ X).setCell (p:=⟨g,0,none⟩) I _,cT X ⟨g,0,none⟩ _ o (Ne.symm J),cT X ⟨g,0,none⟩ _ j (Ne.symm R)⟩
theorem XJ.trans {n₀ j o:Nat} {A B C:World} (h:XJ n₀ j o A B) (k:XJ n₀ j o B C):XJ n₀ j o A C:=⟨h.1.trans k.1,k.2.1.trans h.2.1,k.2.2.trans h.2.2⟩
theorem Y6 (W:World) (c1 c2 c3 c4 c5:Array Value) (t1 t2 t3 t4 t5:TypeId) (j:World) (h:((((W.alloc (.cells c1 t1)).alloc (.cells c2 t2)).alloc (.cells c3 t3)).alloc (.cells c4 t4)).alloc (.cells c5 t5)=j) :
  Bw j W.heap.size t1 c1/\Bw j (W.heap.size+1) t2 c2/\Bw j (W.heap.size+1+1) t3 c3/\Bw j (W.heap.size+1+1+1) t4 c4/\Bw j (W.heap.size+1+1+1+1) t5 c5/\j.heap.size=W.heap.size+5/\Below W.heap.size W j:=by
 subst h;have R:=Bw.new W t1 c1;have o:=Bw.new (W.alloc (.cells c1 t1)) t2 c2;have p:=Bw.new ((W.alloc (.cells c1 t1)).alloc (.cells c2 t2)) t3 c3;have I:=Bw.new (((W.alloc (.cells c1 t1)).alloc (.cells c2 t2)).alloc (.cells c3 t3)) t4 c4;have J:=Bw.new ((((W.alloc (.cells c1 t1)).alloc (.cells c2 t2)).alloc (.cells c3 t3)).alloc (.cells c4 t4)) t5 c5;simp only[aW]at o p I J;refine⟨(((R.alloc _).alloc _).alloc _).alloc _,((o.alloc _).alloc _).alloc _,(p.alloc _).alloc _,I.alloc _,J,by simp only[aW],?_⟩;exact(((((aJ _ W).alloc (aL _) _).alloc (by simp only[aW];omega) _).alloc (by simp only[aW];omega) _).alloc (by simp only[aW];omega) _).alloc (by simp only[aW];omega) _
theorem Ze (A:Option Addr) (n c:Nat) (st:BQ) (w:World) (h:Tree w w.heap.size A n st) (hw:Tr.Wf st) (hn:n<=maxLen) :
  CallsIn Fence.wide 3 prog 90 #[.slice A n c] w fun e w'=>e=.returned (.bool (decide (Tr.right st)))/\Below w.heap.size w w':=by
 refine callsIn_of_wp_marks func90 rfl trivial ?_ rfl;simp only[ntmps90,jA,bP,dX,Nat.reduceAdd,Nat.reduceSub,iF,iE,jB,iL,eH,gE]
 gi_wp2
 refine⟨trivial,(dZ.2 (XK _ A n c st ((h.alloc (aL _) _).alloc (by simp) _|>.more (by simp only[aW];omega)) hw hn)).mono ?_⟩;rintro e w1⟨rfl,e7⟩;have k0:Below w.heap.size w w1:=(((aJ _ w).alloc (aL _) _).alloc (by simp) _).trans (e7.mono (by simp;omega));have k4:Bw w1 w.heap.size 24 #[.slice A n c]:=((Bw.new w _ _).alloc _).below e7 (by simp only[aW];omega);have e8:Bw w1 (w.heap.size+1) 4 #[.bool false]:=by
  have:=Bw.new (w.alloc (.cells #[.slice A n c] 24)) 4 #[.bool false];rw[aW]at this;exact this.below e7 (by simp only[aW];omega)
 clear e7;have k5:=k4.cell 0;by_cases hs:Tr.shape st
 ·rw[aH hs];have k6:n<=40:=by rw[<-h.1];exact hs.2.2.2
  clear hn
  gi_wp2
  refine wpIn_loop (fun a' W'=>∃(i:Nat) (ds:List Deferred) (u3 u4 u5 u6 u7 u14 u15 u16 u17 u18 u19 u20 u21 u22 u23 u24 u25 u26 u27 u28 u29 u30 u31 u32 u33 u34 u35 u36 u37 u38 u39 u40 u41 u42 u43 u44 u45 u46 u47 u48 u49 u50 u51 u52 u53 u54 u55 u56 u57 u58 u59 u60 u61:Value),(i<=n/\Below w.heap.size w W'/\Bw W' w.heap.size 24 #[.slice A n c]/\Bw W' (w.heap.size+1) 4 #[.bool false]/\Marks w.heap.size W' ds/\∀j,j<i->Tr.K1 st j)/\
   a'={tmps:=#[.slice A n c,.pointer (some ⟨w.heap.size,0,none⟩),.pointer (some ⟨w.heap.size+1,0,none⟩),u3,u4,u5,u6,u7,.slice A n c,.bool true,.bool false,.slice A n c,.int .i64 (n:Int),.int .i64 (i:Int),u14,u15,u16,u17,u18,u19,u20,u21,u22,u23,u24,u25,u26,u27,u28,u29,u30,u31,u32,u33,u34,u35,u36,u37,u38,u39,u40,u41,u42,u43,u44,u45,u46,u47,u48,u49,u50,u51,u52,u53,u54,u55,u56,u57,u58,u59,u60,u61],defers:=ds}) (fun a' _=>n-(intOf (a'.tmps.getD 13 undef)).toNat) ?_ ?_
  ·refine⟨0,[],_,_,_,_,_,_,_,_,_,_,_,_,_,_,_,_,_,_,_,_,_,_,_,_,_,_,_,_,_,_,_,_,_,_,_,_,_,_,_,_,_,_,_,_,_,_,_,_,_,_,_,_,_,⟨by omega,k0,k4,e8,trivial,fun j hj=>absurd hj (by omega)⟩,rfl⟩
  ·rintro _ W⟨i,ds,u3,u4,u5,u6,u7,u14,u15,u16,u17,u18,u19,u20,u21,u22,u23,u24,u25,u26,u27,u28,u29,u30,u31,u32,u33,u34,u35,u36,u37,u38,u39,u40,u41,u42,u43,u44,u45,u46,u47,u48,u49,u50,u51,u52,u53,u54,u55,u56,u57,u58,u59,u60,u61,⟨q0,hB,hL,hR,hM,h9⟩,rfl⟩;have k5:=hL.cell 0;have o0:=hB.size;have ht:=h.below hB;by_cases b2:i<n
   ·have p7:(i:Int)<(n:Int):=by omega
    obtain⟨ad,rfl,q1⟩:=h.addr b2;obtain⟨q2,q3⟩:=ht.at_ b2;obtain⟨s0,s3,a4,n4,c4,a5,n5,c5,q4,q5,q6,R⟩:=ht.all b2;have k8:∀o,(W.alloc o).cell? ⟨w.heap.size,0,none⟩=some (.slice (some ad) n c):=fun o=>(fV W o ⟨w.heap.size,0,none⟩ hL.lt).trans k5
    have p8:∀o o' k9,(((W.alloc o).alloc o').alloc k9).cell? ⟨w.heap.size,0,none⟩=some (.slice (some ad) n c):=fun o o' k9=>by
     rw[fV _ _ _ (by have:=hL.lt;simp only[aW];omega),fV _ _ _ (by have:=hL.lt;simp only[aW];omega)];exact k8 o
    gi_wp2
    refine⟨trivial,(VT _ (some ad) n c i _).mono ?_⟩;rintro e w2⟨rfl,o1⟩
    gi_wp2
    clear o1;generalize l0:((((W.alloc (.cells #[.string s0,.int .i64 (Tr.kd st i),.int .i64 (Tr.dp st i),.string s3,.slice a4 n4 c4,.slice a5 n5 c5] 54)).alloc (.cells #[.int .i64 0] 3)).alloc (.cells #[.int .i64 0] 3)).alloc (.cells #[.slice (some ad) n c] 24)).alloc (.cells #[.int .i64 (i:Int)] 3)=W2;obtain⟨f4,f5,f6,f7,f8,q7,fB⟩:=Y6 _ _ _ _ _ _ _ _ _ _ _ _ l0;clear l0;have b9:Below w.heap.size w W2:=hB.trans (fB.mono o0);have o2:=hR.lt;have o3:KI w.heap.size W.heap.size w W2 0 0 W2:=⟨f5,f6,hR.below fB o2,fun _ _ _ _ _=>rfl,aL _,b9⟩;refine wpIn_rangeFunc_ownF rfl (by omega) (gf:=249) (lb:=#[.pointer (some ⟨W.heap.size+1+1+1+1,0,none⟩),.pointer (some ⟨W.heap.size+1+1+1,0,none⟩)]) rfl trivial (enters_of func249 (by kernel_rfl) rfl)
     (N0 2 (by omega) (W.heap.size+1+1+1+1) (W.heap.size+1+1+1) w.heap.size (some ad) n c st (aV k6 (by unfold maxLen;omega)) i b2 W2 b9.size (f8.cell 0) (f7.cell 0) (h.below b9))
     ?hKt ?hKb (aJ _ _) (fun _=>rfl)
     (fun(pre:List {x:Nat // x<n}) W'=>KI w.heap.size W.heap.size w W2 pre.length (Tr.BN st (pre.map Subtype.val)) W'/\∀x∈pre,Tr.JP st i x.1)
     (fun c (pre:List {x:Nat // x<n}) W'=>c=.ret/\(∃x∈pre,¬Tr.JP st i x.1)/\∃nk nr,KI w.heap.size W.heap.size w W2 nk nr W')
     (fun s A B row hs hg hr=>⟨hs.1.grown b9.size hg hr,hs.2⟩)
     (fun c s A B row hs hg hr=>⟨hs.1,hs.2.1,by obtain⟨nk,nr,hk⟩:=hs.2.2;exact⟨nk,nr,hk.grown b9.size hg hr⟩⟩)
     ⟨o3,fun x hx=>by cases hx⟩
     (fun x=>{tmps:=#[.slice (some ad) n c,.pointer (some ⟨w.heap.size,0,none⟩),.pointer (some ⟨w.heap.size+1,0,none⟩),.int .i64 (i:Int),.pointer (some ⟨W.heap.size,0,none⟩),.pointer (some ⟨W.heap.size+1,0,none⟩),.pointer (some ⟨W.heap.size+1+1,0,none⟩),.int .i64 (x.1:Int),.slice (some ad) n c,.bool true,.bool false,.slice (some ad) n c,.int .i64 (n:Int),.int .i64 (i:Int),.bool true,.int .i64 (i:Int),.pointer (some (ad.add (i*6))),.agg #[.string s0,.int .i64 (Tr.kd st i),.int .i64 (Tr.dp st i),.string s3,.slice a4 n4 c4,.slice a5 n5 c5],.slice (some ad) n c,.int .i64 (i:Int),.func (.func 249) #[] #[.pointer (some ⟨W.heap.size+1+1+1+1,0,none⟩),.pointer (some ⟨W.heap.size+1+1+1,0,none⟩)],.int .i64 (x.1:Int),u22,u23,u24,u25,u26,u27,u28,u29,u30,u31,u32,u33,u34,u35,u36,u37,u38,u39,u40,u41,u42,u43,u44,u45,u46,u47,u48,u49,u50,u51,u52,u53,u54,u55,u56,u57,u58,u59,u60,u61],defers:=[]}) ?assign ?body ?done ?stop
    case hKt=>
     rintro A B C⟨h1,h2,h3⟩⟨k1,k2,k3⟩;exact⟨h1.trans k1,k2.trans h2,k3.trans h3⟩
    case hKb=>
     intro X l o o' hl ho hc o5;exact⟨belowK_b (w:=W2) b9.size X l o o' hl ho hc o5,World.putObj_heap_other (by omega),World.putObj_heap_other (by omega)⟩
    case assign=>
     intro l x X K U
     gi_wp2
     exact U
    case body=>
     rintro l pre x X⟨I,h4⟩hlen;have j1:=(h.below I.below).at_ x.2;have c7:Bw X W.heap.size 54 #[.string s0,.int .i64 (Tr.kd st i),.int .i64 (Tr.dp st i),.string s3,.slice a4 n4 c4,.slice a5 n5 c5]:=(I.same W.heap.size (by omega) (by omega) (by omega) (by omega)).trans f4;have b3:Bw X w.heap.size 24 #[.slice (some ad) n c]:=(I.same w.heap.size (by omega) (by omega) (by omega) (by omega)).trans (hL.below fB hL.lt);have j2:pre.length<40:=by have:=Tr.J1 st (i:=i) (by rw[h.1];exact b2);rw[h.1]at this;omega
     have b4:=Tr.Yb st (pre.map Subtype.val);rw[bG]at b4;have c8:=Tr.NG st (pre.map Subtype.val) x.1;rw[show pre.map Subtype.val++[x.1]=(pre++[x]).map Subtype.val by simp]at c8;have b8:(∀y∈pre++[x],Tr.JP st i y.1)↔Tr.JP st i x.1:=by
      constructor
      ·exact fun h=>h x (by simp)
      ·intro h y hy;rcases fG.1 hy with hy|hy
       ·exact h4 y hy
       ·rw[dH.1 hy];exact h
     have c9:(pre++[x]).length=pre.length+1:=by simp
     have o6:=x.2;have r6:(x.1:Int)<(n:Int):=by omega
     obtain⟨K,U⟩:∃K,Tr.kd st x.1=K:=⟨_,rfl⟩;obtain⟨nk,l3⟩:∃nk,pre.length=nk:=⟨_,rfl⟩;obtain⟨nr,a8⟩:∃nr,Tr.BN st (pre.map Subtype.val)=nr:=⟨_,rfl⟩;unfold Tr.JP at b8;rw[U]at j1 b8 c8;rw[l3]at I j2 b4 c9;rw[a8]at I b4 c8;have l4:ad.block≠W.heap.size+1:=by omega
     have i6:ad.block≠W.heap.size+1+1:=by omega
     have e0:(ad.add (x.1*6)).block=ad.block:=Bz _ _;have o7:X.cell? ⟨W.heap.size+1,0,none⟩=some (.int .i64 (nk:Int)):=I.c5.cell 0;have r7:=I.c5.frozen 0;have r8:=I.c6.frozen 0;have o8:=I.c2.frozen 0;have gL:∀v,(X.setCell ⟨W.heap.size+1,0,none⟩ v).cell? ⟨w.heap.size,0,none⟩=some (.slice (some ad) n c):=fun v=>(b3.Nf (p:=⟨W.heap.size+1,0,none⟩) (by show w.heap.size≠W.heap.size+1;omega) v).cell 0
     have gs:∀v,(X.setCell ⟨W.heap.size+1,0,none⟩ v).cell? ⟨W.heap.size,1,none⟩=some (.int .i64 (Tr.kd st i)):=fun v=>(c7.Nf (p:=⟨W.heap.size+1,0,none⟩) (by show W.heap.size≠W.heap.size+1;omega) v).cell 1
     have g6:∀v,(X.setCell ⟨W.heap.size+1,0,none⟩ v).cell? ⟨W.heap.size+1+1,0,none⟩=some (.int .i64 (nr:Int)):=fun v=>(I.c6.Nf (p:=⟨W.heap.size+1,0,none⟩) (by show W.heap.size+1+1≠W.heap.size+1;omega) v).cell 0
     have g2:∀v,(X.setCell ⟨W.heap.size+1,0,none⟩ v).cell? ⟨w.heap.size+1,0,none⟩=some (.bool false):=fun v=>(I.c2.Nf (p:=⟨W.heap.size+1,0,none⟩) (by show w.heap.size+1≠W.heap.size+1;omega) v).cell 0
     have gk:∀v,(X.setCell ⟨W.heap.size+1,0,none⟩ v).cell? {block:=(ad.add (x.1*6)).block,off:=(ad.add (x.1*6)).off+1}=some (.int .i64 K):=fun v=>
      (iT X _ _ v (fun e=>l4 (by rw[<-e0];exact(congrArg Addr.block e).symm))).trans j1.1
     have mL:∀v u,((X.setCell ⟨W.heap.size+1,0,none⟩ v).setCell ⟨W.heap.size+1+1,0,none⟩ u).cell? ⟨w.heap.size,0,none⟩=some (.slice (some ad) n c):=fun v u=>((b3.Nf (p:=⟨W.heap.size+1,0,none⟩) (by show w.heap.size≠W.heap.size+1;omega) v).Nf (p:=⟨W.heap.size+1+1,0,none⟩) (by show w.heap.size≠W.heap.size+1+1;omega) u).cell 0
     have ms:∀v u,((X.setCell ⟨W.heap.size+1,0,none⟩ v).setCell ⟨W.heap.size+1+1,0,none⟩ u).cell? ⟨W.heap.size,1,none⟩=some (.int .i64 (Tr.kd st i)):=fun v u=>((c7.Nf (p:=⟨W.heap.size+1,0,none⟩) (by show W.heap.size≠W.heap.size+1;omega) v).Nf (p:=⟨W.heap.size+1+1,0,none⟩) (by show W.heap.size≠W.heap.size+1+1;omega) u).cell 1
     have m2:∀v u,((X.setCell ⟨W.heap.size+1,0,none⟩ v).setCell ⟨W.heap.size+1+1,0,none⟩ u).cell? ⟨w.heap.size+1,0,none⟩=some (.bool false):=fun v u=>((I.c2.Nf (p:=⟨W.heap.size+1,0,none⟩) (by show w.heap.size+1≠W.heap.size+1;omega) v).Nf (p:=⟨W.heap.size+1+1,0,none⟩) (by show w.heap.size+1≠W.heap.size+1+1;omega) u).cell 0
     have mk:∀v u,((X.setCell ⟨W.heap.size+1,0,none⟩ v).setCell ⟨W.heap.size+1+1,0,none⟩ u).cell? {block:=(ad.add (x.1*6)).block,off:=(ad.add (x.1*6)).off+1}=some (.int .i64 K):=fun v u=>
      (iT _ _ _ u (fun e=>i6 (by rw[<-e0];exact(congrArg Addr.block e).symm))).trans (gk v)
     have j3:=jK c8;have j4:=jK c9;have e1:=jK b8;have b0:w.heap.size<W.heap.size:=by omega
     have l5:=(I.Zc1 b0 (nk+1));have e2:=(I.Zc1 b0 (nk+1)).Zdj b0 (nr+1);have HK:=jK U;clear c8 c9 b8 h4 U l3 a8 o6 j1 c7 b3 e0 l4 i6;cases hp:Tr.E8 K with
     |false=>
      by_cases b5:Tr.kd st i=3
      ·by_cases l6:K=4
       ·subst l6
        gi_wp2_with (first|(refine⟨trivial,?_⟩;gi_at_call 178;refine(CallsIn.inRound l (dZ.2 (Hz _ 4))).mono ?_;rintro e w'⟨rfl,rfl⟩;rw[hp])|refine⟨trivial,?_⟩)
        exact⟨((KeepsOthers.setCell _ _ _).trans (KeepsOthers.setCell _ _ _)).trans (KeepsOthers.setCell _ _ _),rfl,⟨x,by simp,fun hk=>(hk b5).2 HK.out⟩,_,_,e2.Zc3 b0⟩
       ·gi_wp2_with (first|(refine⟨trivial,?_⟩;gi_at_call 178;refine(CallsIn.inRound l (dZ.2 (Hz _ K))).mono ?_;rintro e w'⟨rfl,rfl⟩;rw[hp])|refine⟨trivial,?_⟩)
        refine⟨(KeepsOthers.setCell _ _ _).trans (KeepsOthers.setCell _ _ _),(XJ.BF _ _ _ (by omega) (by omega) (by omega)).trans (XJ.BF _ _ _ (by omega) (by omega) (by omega)),?_,e1.out.2 fun _=>⟨hp,l6⟩⟩;rw[j4.out,j3.out,hp];exact e2
      ·gi_wp2_with (first|(refine⟨trivial,?_⟩;gi_at_call 178;refine(CallsIn.inRound l (dZ.2 (Hz _ K))).mono ?_;rintro e w'⟨rfl,rfl⟩;rw[hp])|refine⟨trivial,?_⟩)
       refine⟨(KeepsOthers.setCell _ _ _).trans (KeepsOthers.setCell _ _ _),(XJ.BF _ _ _ (by omega) (by omega) (by omega)).trans (XJ.BF _ _ _ (by omega) (by omega) (by omega)),?_,e1.out.2 fun h=>absurd h b5⟩;rw[j4.out,j3.out,hp];exact e2
     |true=>
      by_cases b5:Tr.kd st i=3
      ·gi_wp2_with (first|(refine⟨trivial,?_⟩;gi_at_call 178;refine(CallsIn.inRound l (dZ.2 (Hz _ K))).mono ?_;rintro e w'⟨rfl,rfl⟩;rw[hp])|refine⟨trivial,?_⟩)
       exact⟨(KeepsOthers.setCell _ _ _).trans (KeepsOthers.setCell _ _ _),rfl,⟨x,by simp,fun hk=>by have:=(hk b5).1;rw[HK.out,hp]at this;cases this⟩,_,_,l5.Zc3 b0⟩
      ·gi_wp2_with (first|(refine⟨trivial,?_⟩;gi_at_call 178;refine(CallsIn.inRound l (dZ.2 (Hz _ K))).mono ?_;rintro e w'⟨rfl,rfl⟩;rw[hp])|refine⟨trivial,?_⟩)
       refine⟨KeepsOthers.setCell _ _ _,XJ.BF _ _ _ (by omega) (by omega) (by omega),?_,e1.out.2 fun h=>absurd h b5⟩;rw[j4.out,j3.out,hp];exact l5
    case done=>
     rintro D ys X hD e3⟨I,h4⟩hX;have j5:ys.length=(Tr.kids st i).length:=by rw[<-e3,bG]
     have i7:∀k∈Tr.kids st i,Tr.JP st i k:=fun k hk=>by
      rw[<-e3]at hk;obtain⟨x,hx,rfl⟩:=dF.1 hk;exact h4 x hx
     rw[e3,j5]at I;have b1:Marks w.heap.size X ({target:=.collected D,args:=#[]}::ds):=by
      refine⟨⟨D,rfl,hX,by omega,fun d' j6 e=>?_⟩,hM.keep fun D' a7 _=>?_⟩
      ·obtain⟨D',b6,a7⟩:=hM.mem d' j6;rw[e]at b6;injection b6 with b6
       have:=(aU.1 a7).1;omega
      ·have e4:=(aU.1 a7).1;have j7:D'≠w.heap.size+1:=fun e=>by
        subst e;have:=hR.symm.trans a7;cases this
       exact(I.same D' (by omega) (by omega) (by omega) j7).trans (fB.block D' e4)
     have c7:Bw X W.heap.size 54 #[.string s0,.int .i64 (Tr.kd st i),.int .i64 (Tr.dp st i),.string s3,.slice a4 n4 c4,.slice a5 n5 c5]:=(I.same W.heap.size (by omega) (by omega) (by omega) (by omega)).trans f4;have b3:Bw X w.heap.size 24 #[.slice (some ad) n c]:=(I.same w.heap.size (by omega) (by omega) (by omega) (by omega)).trans (hL.below fB hL.lt);have s4:X.cell? ⟨W.heap.size,1,none⟩=some (.int .i64 (Tr.kd st i)):=c7.cell 1;have o7:X.cell? ⟨W.heap.size+1,0,none⟩=some (.int .i64 ((Tr.kids st i).length:Int)):=I.c5.cell 0;have s5:X.cell? ⟨W.heap.size+1+1,0,none⟩=some (.int .i64 (Tr.BN st (Tr.kids st i):Int)):=I.c6.cell 0;have s6:X.cell? ⟨w.heap.size+1,0,none⟩=some (.bool false):=I.c2.cell 0;have o8:=I.c2.frozen 0;by_cases a1:Tr.K1 st i
     ·have J:∀j,j<i+1->Tr.K1 st j:=fun j hj=>by
       by_cases h:j=i
       ·subst h;exact a1
       ·exact h9 j (by omega)
      have h6:=a1.2;by_cases U:Tr.kd st i=2\/Tr.kd st i=3
      ·rw[if_pos U]at h6;have p0:¬((Tr.BN st (Tr.kids st i):Nat):Int)=0:=by omega
       rcases U with U|U
       ·gi_wp2
        first
        |exact⟨⟨i+1,_,_,_,_,_,_,_,_,_,_,_,_,_,_,_,_,_,_,_,_,_,_,_,_,_,_,_,_,_,_,_,_,_,_,_,_,_,_,_,_,_,_,_,_,_,_,_,_,_,_,_,_,_,_,⟨by omega,I.below,b3,I.c2,b1,J⟩,rfl⟩,by simp[intOf];omega⟩
        |exact⟨⟨i+1,⟨by omega,I.below,I.c2,J⟩,by omega⟩,by simp[intOf];omega⟩
       ·gi_wp2
        first
        |exact⟨⟨i+1,_,_,_,_,_,_,_,_,_,_,_,_,_,_,_,_,_,_,_,_,_,_,_,_,_,_,_,_,_,_,_,_,_,_,_,_,_,_,_,_,_,_,_,_,_,_,_,_,_,_,_,_,_,_,⟨by omega,I.below,b3,I.c2,b1,J⟩,rfl⟩,by simp[intOf];omega⟩
        |exact⟨⟨i+1,⟨by omega,I.below,I.c2,J⟩,by omega⟩,by simp[intOf];omega⟩
      ·rw[if_neg U]at h6;have p1:¬Tr.kd st i=2:=fun h=>U (.inl h)
       have b5:¬Tr.kd st i=3:=fun h=>U (.inr h)
       have p0:¬(0:Int)<((Tr.kids st i).length:Int):=by omega
       clear U;have s7:=jK h6;clear h6
       gi_wp2
       first
        |exact⟨⟨i+1,_,_,_,_,_,_,_,_,_,_,_,_,_,_,_,_,_,_,_,_,_,_,_,_,_,_,_,_,_,_,_,_,_,_,_,_,_,_,_,_,_,_,_,_,_,_,_,_,_,_,_,_,_,_,⟨by omega,I.below,b3,I.c2,b1,J⟩,rfl⟩,by simp[intOf];omega⟩
        |exact⟨⟨i+1,⟨by omega,I.below,I.c2,J⟩,by omega⟩,by simp[intOf];omega⟩
     ·have a8:decide (Tr.right st)=false:=aF fun hr=>a1 (hr.2 i (by rw[h.1];exact b2))
      by_cases U:Tr.kd st i=2\/Tr.kd st i=3
      ·have s8:Tr.BN st (Tr.kids st i)=0:=by
        by_cases h0:Tr.BN st (Tr.kids st i)=0
        ·exact h0
        ·exact absurd ⟨i7,by rw[if_pos U];exact h0⟩ a1
       have hz:((Tr.BN st (Tr.kids st i):Nat):Int)=0:=by omega
       rcases U with U|U
       ·gi_wp2
        refine CV _ _ (b1.BF I.c2 0 _) fun W' hb hc=>?_
        have R:=hc ⟨w.heap.size+1,0,none⟩ _ ((I.c2.BF 0 (.bool false)).cell 0);refine⟨.bool false,?_,by first|rfl|rw[a8],(I.below.setCell (p:=⟨w.heap.size+1,0,none⟩) (by simp) _).trans hb⟩;simp[results,Tryz.f90,go_sem,R]
       ·gi_wp2
        refine CV _ _ (b1.BF I.c2 0 _) fun W' hb hc=>?_
        have R:=hc ⟨w.heap.size+1,0,none⟩ _ ((I.c2.BF 0 (.bool false)).cell 0);refine⟨.bool false,?_,by first|rfl|rw[a8],(I.below.setCell (p:=⟨w.heap.size+1,0,none⟩) (by simp) _).trans hb⟩;simp[results,Tryz.f90,go_sem,R]
      ·have s9:0<(Tr.kids st i).length:=by
        by_cases h0:(Tr.kids st i).length=0
        ·exact absurd ⟨i7,by rw[if_neg U];exact h0⟩ a1
        ·omega
       have p1:¬Tr.kd st i=2:=fun h=>U (.inl h)
       have b5:¬Tr.kd st i=3:=fun h=>U (.inr h)
       have u0:(0:Int)<((Tr.kids st i).length:Int):=by omega
       clear U
       gi_wp2
       refine CV _ _ (b1.BF I.c2 0 _) fun W' hb hc=>?_
       have R:=hc ⟨w.heap.size+1,0,none⟩ _ ((I.c2.BF 0 (.bool false)).cell 0);refine⟨.bool false,?_,by first|rfl|rw[a8],(I.below.setCell (p:=⟨w.heap.size+1,0,none⟩) (by simp) _).trans hb⟩;simp[results,Tryz.f90,go_sem,R]
    case stop=>
     rintro D c pre X hD e3⟨rfl,⟨x,hx,l7⟩,nk,nr,I⟩hX;have a8:decide (Tr.right st)=false:=aF fun hr=>l7 ((hr.2 i (by rw[h.1];exact b2)).1 x.1 (e3.subset (dF.2 ⟨x,hx,rfl⟩)))
     have b1:Marks w.heap.size X ({target:=.collected D,args:=#[]}::ds):=by
      refine⟨⟨D,rfl,hX,by omega,fun d' j6 e=>?_⟩,hM.keep fun D' a7 _=>?_⟩
      ·obtain⟨D',b6,a7⟩:=hM.mem d' j6;rw[e]at b6;injection b6 with b6
       have:=(aU.1 a7).1;omega
      ·have e4:=(aU.1 a7).1;have j7:D'≠w.heap.size+1:=fun e=>by
        subst e;have:=hR.symm.trans a7;cases this
       exact(I.same D' (by omega) (by omega) (by omega) j7).trans (fB.block D' e4)
     gi_wp2
     refine CV _ _ b1 fun W' hb hc=>?_
     have R:=hc ⟨w.heap.size+1,0,none⟩ _ (I.c2.cell 0);refine⟨.bool false,?_,by first|rfl|rw[a8],I.below.trans hb⟩;simp[results,Tryz.f90,go_sem,R]
   ·obtain rfl:i=n:=by omega
    have u1:¬(i:Int)<(i:Int):=by omega
    have hr:decide (Tr.right st)=true:=aH ⟨hs,by rw[h.1];exact h9⟩;have p2:W.cell? ⟨w.heap.size+1,0,none⟩=some (.bool false):=hR.cell 0;have p3:=hR.frozen 0
    gi_wp2
    refine CV ds _ (hM.BF hR 0 _) fun W' hb hc=>?_
    have R:=hc ⟨w.heap.size+1,0,none⟩ _ ((hR.BF 0 (.bool true)).cell 0);refine⟨.bool true,?_,by first|rfl|rw[hr],(hB.setCell (p:=⟨w.heap.size+1,0,none⟩) (by simp) _).trans hb⟩;simp[results,Tryz.f90,go_sem,R]
 ·rw[aF hs];have hr:decide (Tr.right st)=false:=aF fun h=>hs h.1
  have p2:w1.cell? ⟨w.heap.size+1,0,none⟩=some (.bool false):=e8.cell 0;have p3:=e8.frozen 0
  gi_wp2
  refine CV (S:=w.heap.size) [] _ trivial fun W' hb hc=>?_
  have R:=hc ⟨w.heap.size+1,0,none⟩ _ ((e8.BF 0 (.bool false)).cell 0);refine⟨.bool false,?_,by rw[hr],(k0.setCell (p:=⟨w.heap.size+1,0,none⟩) (by simp) _).trans hb⟩;simp[results,Tryz.f90,go_sem,R]
end
section
open Go.RowKit
namespace Tr
def hasB (st:BQ) (i:Int):Bool:=decide (0<=i)&&decide (i<(st.length:Int))&&decide (right st)
def Mb (st:BQ) (i:Int):Int:=if hasB st i then up st i.toNat else -1
def Es (st:BQ) (i j:Int):Bool:=hasB st i&&hasB st j&&decide (i<j)&&decide (j<(fin st i.toNat:Int))
def Hf (st:BQ) (to:Nat):Nat->Int->Int
 | 0,_=>-1
 |f+1,k=>if k<0 then -1 else if kd st k.toNat=2/\k<to/\to<fin st k.toNat then k else Hf st to f (up st k.toNat)
theorem JK (st:BQ) (to f:Nat) (k:Int):Hf st to (f+1) k=if k<0 then -1 else if kd st k.toNat=2/\k<to/\to<fin st k.toNat then k else Hf st to f (up st k.toNat):=rfl
def domain (st:BQ) (i j:Nat):Int:=Hf st j (i+2) i
theorem Vj (st:BQ) (d:Int):∀k,Kq st d k<k/\-1<=Kq st d k
 | 0=>⟨by unfold Kq;omega,by unfold Kq;omega⟩
 |k+1=>by
  have:=Vj st d k;unfold Kq;split<;>omega
theorem OE (st:BQ) (k:Nat):up st k<k/\-1<=up st k:=Vj st _ k
end Tr
theorem Lp (w:World) (A:Option Addr) (n c:Nat) (st:BQ) (h:Tree w w.heap.size A n st) (hw:Tr.Wf st) (j:n<=maxLen) :
  Calls prog 90 #[.slice A n c] w fun e o=>e=.returned (.bool (decide (Tr.right st)))/\Below w.heap.size w o:=
 (dZ (n:=3)).1 (Ze A n c st w h hw j)
theorem IM (w:World) (A:Option Addr) (n c:Nat) (st:BQ) (h:Tree w w.heap.size A n st) (hw:Tr.Wf st) (J:n<=maxLen) (i:Int) :
  Calls prog 190 #[.slice A n c,.int .i64 i] w fun e R=>e=.returned (.bool (Tr.hasB st i))/\Below w.heap.size w R:=by
 go_enter func190,ntmps190;have o:=h.1;by_cases p:0<=i
 ·by_cases I:i<(n:Int)
  ·have j:=jK (show Tr.hasB st i=decide (Tr.right st)by unfold Tr.hasB;rw[o,aH p,aH I];rfl);go_wp2_with fail;refine(Lp w A n c st h hw J).mono ?_;rintro e w1⟨rfl,U⟩;go_wp2;go_ret;exact⟨by rw[j.out];rfl,U⟩
  ·have j:=jK (show Tr.hasB st i=false by unfold Tr.hasB;rw[o,aF I,gT];rfl);go_wp2;go_ret;exact⟨by rw[j.out];rfl,aJ _ _⟩
 ·have j:=jK (show Tr.hasB st i=false by unfold Tr.hasB;rw[aF p];rfl);go_wp2;go_ret;exact⟨by rw[j.out];rfl,aJ _ _⟩
theorem Ek {st:BQ} {i:Int}:Tr.hasB st i=true↔∃k:Nat,i=(k:Int)/\k<st.length/\Tr.right st:=by
 unfold Tr.hasB;simp only[aG,aP];constructor
 ·rintro⟨⟨p,o⟩,j⟩;exact⟨i.toNat,by omega,by omega,j⟩
 ·rintro⟨k,rfl,o,j⟩;exact⟨⟨by omega,by omega⟩,j⟩
theorem TQ (w:World) (A:Option Addr) (n c:Nat) (st:BQ) (h:Tree w w.heap.size A n st) (hw:Tr.Wf st) (I:n<=maxLen) (i:Int) :
  Calls prog 111 #[.slice A n c,.int .i64 i] w fun e U=>e=.returned (.int .i64 (Tr.Mb st i))/\Below w.heap.size w U:=by
 go_enter func111,ntmps111;go_wp2_with fail;refine(IM w A n c st h hw I i).mono ?_;rintro e w1⟨rfl,j⟩;obtain⟨b,o⟩:∃b,Tr.hasB st i=b:=⟨_,rfl⟩;rw[o];have J:=jK o;cases b with
 |false=>
  clear o;go_wp2;go_ret;exact⟨by unfold Tr.Mb;rw[J.out];rfl,j⟩
 |true=>
  obtain⟨k,rfl,R,_⟩:=Ek.1 o;rw[h.1]at R;clear o;go_wp2_with fail;refine(PD w1 A n c st (h.below j|>.more j.size) I k R).mono ?_;rintro e w2⟨rfl,p⟩;go_wp2;go_ret;exact⟨by unfold Tr.Mb;rw[J.out];rfl,j.trans (p.mono j.size)⟩
theorem TN (w:World) (A:Option Addr) (n c:Nat) (st:BQ) (h:Tree w w.heap.size A n st) (hw:Tr.Wf st) (hn:n<=maxLen) (i j:Int) :
  Calls prog 126 #[.slice A n c,.int .i64 i,.int .i64 j] w fun e w'=>e=.returned (.bool (Tr.Es st i j))/\Below w.heap.size w w':=by
 go_enter func126,ntmps126;go_wp2_with fail;refine(IM w A n c st h hw hn i).mono ?_;rintro e w1⟨rfl,p⟩;obtain⟨b,R⟩:∃b,Tr.hasB st i=b:=⟨_,rfl⟩;rw[R];have HB:=jK R;cases b with
 |false=>
  clear R;go_wp2;go_ret;exact⟨by unfold Tr.Es;rw[HB.out];rfl,p⟩
 |true=>
  obtain⟨k,rfl,hk,_⟩:=Ek.1 R;rw[h.1]at hk;clear R;have h1:=h.below p|>.more p.size;go_wp2_with fail;refine(IM w1 A n c st h1 hw hn j).mono ?_;rintro e w2⟨rfl,o⟩;obtain⟨b,I⟩:∃b,Tr.hasB st j=b:=⟨_,rfl⟩;rw[I];have J:=jK I;clear I;cases b with
  |false=>
   go_wp2;go_ret;exact⟨by unfold Tr.Es;rw[HB.out,J.out];rfl,p.trans (o.mono p.size)⟩
  |true=>
   by_cases U:(k:Int)<j
   ·go_wp2_with fail;refine(JY w2 A n c st (h1.below o|>.more o.size) hn k hk).mono ?_;rintro e w3⟨rfl,a7⟩;go_wp2;go_ret;exact⟨by unfold Tr.Es;rw[HB.out,J.out,aH U];rfl,(p.trans (o.mono p.size)).trans (a7.mono (aV p.size o.size))⟩
   ·go_wp2;go_ret;exact⟨by unfold Tr.Es;rw[HB.out,J.out,aF (Int.not_lt.2 U)];rfl,p.trans (o.mono p.size)⟩
namespace Tr
def Iy (st:BQ) (i j:Int):Int:=if hasB st i&&hasB st j then domain st i.toNat j.toNat else -1
theorem Kl {st:BQ} (h:right st):st.length<=40:=h.1.2.2.2
theorem Xe {st:BQ} (h:right st):dp st 0=0:=by
 have j:=h.1.1 0 h.1.2.2.1;unfold bad ahead at j;rw[if_pos rfl]at j;omega
end Tr
theorem S7 (w:World) (A:Option Addr) (n c:Nat) (st:BQ) (h:Tree w w.heap.size A n st) (hw:Tr.Wf st) (hn:n<=maxLen) (i j:Int) :
  Calls prog 129 #[.slice A n c,.int .i64 i,.int .i64 j] w fun e w'=>e=.returned (.int .i64 (Tr.Iy st i j))/\Below w.heap.size w w':=by
 go_enter func129,ntmps129;go_wp2_with fail;refine(IM w A n c st h hw hn i).mono ?_;rintro e w1⟨rfl,hb⟩;obtain⟨b,hh⟩:∃b,Tr.hasB st i=b:=⟨_,rfl⟩;rw[hh];cases b with
 |false=>
  have HB:=jK hh;clear hh;go_wp2;go_ret;exact⟨by unfold Tr.Iy;rw[HB.out];rfl,hb⟩
 |true=>
  obtain⟨i,rfl,hi,hr⟩:=Ek.1 hh;have h1:=h.below hb|>.more hb.size;have HB:=jK hh;clear hh;go_wp2_with fail;refine(IM w1 A n c st h1 hw hn j).mono ?_;rintro e w2⟨rfl,b9⟩;obtain⟨b,p⟩:∃b,Tr.hasB st j=b:=⟨_,rfl⟩;rw[p];have a1:Below w.heap.size w w2:=hb.trans (b9.mono hb.size);cases b with
  |false=>
   have c0:=jK p;clear p;go_wp2;go_ret;exact⟨by unfold Tr.Iy;rw[HB.out,c0.out];rfl,a1⟩
  |true=>
   obtain⟨j,rfl,hj,_⟩:=Ek.1 p;have HR:=jK (show Tr.Iy st (i:Int) (j:Int)=Tr.Hf st j (i+2) i by unfold Tr.Iy Tr.domain;rw[HB.out,p];rfl);rw[h.1]at hi hj;clear p HB hr;go_wp2
   go_loopw [7] (fun v wr=>∃(k:Int) (f:Nat),v=.int .i64 k/\-1<=k/\k<=(i:Int)/\k+1<(f:Int)/\Below w.heap.size w wr/\Tr.Hf st j f k=Tr.Hf st j (i+2) i) (fun v _=>(intOf v+1).toNat)
   case atStart=>exact⟨i,i+2,rfl,by omega,by omega,by omega,a1,rfl⟩
   case round=>
    obtain⟨k,f,rfl,e0,e1,e2,o,hu⟩:=hrel;obtain⟨ad,rfl,e3⟩:=h.addr hi;obtain⟨f,rfl⟩:∃g,f=g+1:=⟨f-1,by omega⟩;rw[Tr.JK st j f k]at hu;by_cases b6:k<0
    ·rw[if_pos b6]at hu;have HU:=jK hu;clear hu;go_wp2;go_ret;exact⟨by rw[HR.out,<-HU.out];rfl,o⟩
    ·rw[if_neg b6]at hu;obtain⟨m,rfl⟩:∃m:Nat,k=(m:Int):=⟨k.toNat,by omega⟩;rw[bI]at hu;have I:m<n:=by omega
     have e4:(m:Int)<(n:Int):=by omega
     have e5:(0:Int)<=(m:Int):=by omega
     have J:=(h.below o).more o.size;have a6:=(J.at_ I).1;have b1:=Tr.OE st m;by_cases hc:Tr.kd st m=2/\(m:Int)<(j:Int)/\j<Tr.fin st m
     ·rw[if_pos hc]at hu;have HU:=jK hu;obtain⟨hK,e6,e7⟩:=hc;have b8:(j:Int)<(Tr.fin st m:Int):=by omega
      rw[hK]at a6;clear hu hK;go_wp2_with fail;refine(JY wr (some ad) n c st J hn m I).mono ?_;rintro e w4⟨rfl,R⟩;go_wp2;go_ret;exact⟨by rw[HR.out,<-HU.out];rfl,o.trans (R.mono o.size)⟩
     ·rw[if_neg hc]at hu;have HU:=jK hu;obtain⟨K,hK⟩:∃K,Tr.kd st m=K:=⟨_,rfl⟩;rw[hK]at hc a6;clear hu hK;by_cases h2:K=2
      ·subst h2;by_cases h3:(m:Int)<(j:Int)
       ·have b8:¬(j:Int)<(Tr.fin st m:Int):=fun h=>hc ⟨rfl,h3,by omega⟩
        clear hc;go_wp2_with fail;refine(JY wr (some ad) n c st J hn m I).mono ?_;rintro e w4⟨rfl,R⟩;go_wp2_with fail;refine(PD w4 (some ad) n c st ((J.below R).more R.size) hn m I).mono ?_;rintro e w5⟨rfl,U⟩;go_wp2;go_roundw
        case rel=>exact⟨Tr.up st m,f,rfl,b1.2,by omega,by omega,(o.trans (R.mono o.size)).trans (U.mono (aV o.size R.size)),HU.out⟩
        case measure=>simp[intOf];omega
       ·clear hc;go_wp2_with fail;refine(PD wr (some ad) n c st J hn m I).mono ?_;rintro e w5⟨rfl,U⟩;go_wp2;go_roundw
        case rel=>exact⟨Tr.up st m,f,rfl,b1.2,by omega,by omega,o.trans (U.mono o.size),HU.out⟩
        case measure=>simp[intOf];omega
      ·clear hc;go_wp2_with fail;refine(PD wr (some ad) n c st J hn m I).mono ?_;rintro e w5⟨rfl,U⟩;go_wp2;go_roundw
       case rel=>exact⟨Tr.up st m,f,rfl,b1.2,by omega,by omega,o.trans (U.mono o.size),HU.out⟩
       case measure=>simp[intOf];omega
end
end Go.Proofs.YthbihnpoghlfaaaGreatDoor
