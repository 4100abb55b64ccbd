import Derived.Test.YthbihnpoghlfaaaGreatDoorZr15
import Derived.Test.YthbihnpoghlfaaaGreatDoorZr16
set_option linter.unusedVariables false
set_option linter.unusedSimpArgs false
set_option maxHeartbeats 8000000
set_option maxRecDepth 100000
namespace Go.Proofs.YthbihnpoghlfaaaGreatDoor
open Go.Proofs.Tryz
section
open Go.RowKit Q
namespace Q
structure Row where
 lo:Int
 hi:Int
 left:Int
 right:Int
 out:Int
def Kz:List Row:=[⟨7,7,1,0,1⟩,⟨7,7,3,0,3⟩,⟨8,8,2,0,2⟩,⟨9,10,3,0,1⟩,⟨11,15,1,1,1⟩,⟨11,13,3,3,3⟩,⟨16,21,1,1,2⟩,⟨16,17,2,2,2⟩,⟨16,17,3,3,2⟩,⟨22,23,2,2,2⟩]
def Jn (op left right:Int) (r:Row):Prop:=(r.lo<=op/\op<=r.hi)/\left=r.left/\right=r.right
instance (op left right:Int) (r:Row):Decidable (Jn op left right r):=by unfold Jn;infer_instance
def Ir (op left right:Int):List Row->Int
 | []=>0
 |r::l=>if Jn op left right r then r.out else Ir op left right l
end Q
def Za8:Rel Q.Row:=fun _ _ c j u=>match j with
 | 0=>u=.int .i64 c.lo
 | 1=>u=.int .i64 c.hi
 | 2=>u=.int .i64 c.left
 | 3=>u=.int .i64 c.right
 |_=>u=.int .i64 c.out
theorem Xx:Hc Za8:=fun _ _ _ _ _ _ _ _ _ h=>h
def ZcT (r:Q.Row):List Value:=[.int .i64 r.lo,.int .i64 r.hi,.int .i64 r.left,.int .i64 r.right,.int .i64 r.out]
theorem N1 {α β:Type} (f:α->List β) (k:Nat) (o:∀a,(f a).length=k):∀(l:List α) (i j:Nat) (hi:i<l.length),j<k->(l.flatMap f)[i*k+j]?=(f l[i])[j]?
 |a::l,0,j,hi,p=>by
  rw[eE,gU,bO,bZ (by rw[o];exact p)];rfl
 |a::l,i+1,j,hi,p=>by
  rw[eE,bX (by rw[o,Nat.succ_mul];omega),o,show(i+1)*k+j-k=i*k+j by rw[Nat.succ_mul];omega,
   N1 f k o l i j (by simpa using hi) p]
  rfl
theorem Zb8 {α:Type} {k:Nat} {E:Rel α} (o:α->List Value) (p:∀a,(o a).length=k) (J:∀(w:World) (B:Nat) (a:α) (j:Nat) (u:Value),(o a)[j]?=some u->E w B a j u)
  (w:World) (e:TypeId) (l:List α) (R:l.length<=9223372036854775807) (n c:Nat) (U:l.length=n) (B:Nat) (hB:w.heap.size<B):Cq k E (w.alloc (.cells (l.flatMap o).toArray e)) B (.slice (some ⟨w.heap.size,0,none⟩) n c) l:=by
 subst U;refine⟨_,_,c,rfl,rfl,R,fun i hi=>⟨_,rfl,hB,fun j I=>?_⟩⟩;have hlen:j<(o l[i]).length:=by rw[p];exact I
 refine⟨(o l[i])[j],?_,J _ _ _ _ _ (aQ hlen)⟩;rw[Ca];refine Pf w _ e (i*k+j) _ ?_;rw[N1 o k p l i j hi I];exact aQ hlen
theorem Yk (w:World):Calls prog 311 #[] w fun e o=>∃v,e=.returned v/\Cq 5 Za8 o o.heap.size v Kz/\Below w.heap.size w o:=by
 go_enter func311,ntmps311;go_wp2;go_ret;refine⟨_,rfl,?_,(aJ _ _).alloc (aL _) _⟩;refine Zb8 ZcT (fun _=>rfl) (fun w B a j u h=>?_) w _ Kz (by decide) 10 10 rfl _ (by simp);unfold Za8 ZcT at *
 match j,h with
 | 0,h=>injection h with h;exact h.symm
 | 1,h=>injection h with h;exact h.symm
 | 2,h=>injection h with h;exact h.symm
 | 3,h=>injection h with h;exact h.symm
 | 4,h=>injection h with h;exact h.symm
 |j+5,h=>simp at h
theorem ZbY.at_ {w:World} {B n c:Nat} {j:Addr} {l:List Q.Row} (h:Cq 5 Za8 w B (.slice (some j) n c) l) {i:Nat} (hi:i<l.length):w.cell? (j.add (i*5))=some (.int .i64 l[i].lo)/\
  w.cell? {block:=(j.add (i*5)).block,off:=(j.add (i*5)).off+1}=some (.int .i64 l[i].hi)/\w.cell? {block:=(j.add (i*5)).block,off:=(j.add (i*5)).off+2}=some (.int .i64 l[i].left)/\
  w.cell? {block:=(j.add (i*5)).block,off:=(j.add (i*5)).off+3}=some (.int .i64 l[i].right)/\w.cell? {block:=(j.add (i*5)).block,off:=(j.add (i*5)).off+4}=some (.int .i64 l[i].out):=by
 obtain⟨A',n',c',e,h2,h3,h4⟩:=h;injection e with p e2 e3
 obtain⟨a6,e4,_,o⟩:=h4 i hi;rw[e4]at p;injection p with p
 subst p;obtain⟨u,hu,rfl⟩:=o 0 (by omega);obtain⟨u1,I,rfl⟩:=o 1 (by omega);obtain⟨u2,J,rfl⟩:=o 2 (by omega);obtain⟨u3,R,rfl⟩:=o 3 (by omega);obtain⟨u4,U,rfl⟩:=o 4 (by omega);exact⟨hu,I,J,R,U⟩
theorem RI (op left right:Int) (w:World):Calls prog 255 #[.int .i64 op,.int .i64 left,.int .i64 right] w fun e w'=>e=.returned (.int .i64 (Ir op left right Kz))/\Below w.heap.size w w':=by
 obtain⟨r,hr⟩:∃r,Ir op left right Kz=r:=⟨_,rfl⟩;rw[hr];have HR:=jK hr;clear hr;go_enter func255,ntmps255;go_wp2_with fail;refine(Yk w).mono ?_;rintro e w1⟨v,rfl,hs,hb⟩;obtain⟨L,hL⟩:∃L,Kz=L:=⟨_,rfl⟩;have hlen:L.length=10:=by rw[<-hL];rfl
 rw[hL]at hs;have HL:=jK hL;clear hL;obtain⟨A,c,rfl,hn,hA⟩:=hs.form;have HN:=jK hlen;clear hlen;go_wp2
 go_loopw [11] (fun v wr=>∃i:Nat,i<=L.length/\v=.int .i64 (i:Int)/\Ir op left right (L.drop i)=Ir op left right L/\Below w.heap.size w wr/\Below w1.heap.size w1 wr) (fun v _=>L.length-(intOf v).toNat)
 case atStart=>exact⟨0,by omega,rfl,rfl,hb,aJ _ _⟩
 case round=>
  obtain⟨i,hi,rfl,U,j,p⟩:=hrel;by_cases J:i<L.length
  ·have b8:(i:Int)<(L.length:Int):=by omega
   obtain⟨ad,rfl,b9⟩:=hA i J;obtain⟨c0,c1,c2,c3,c4⟩:=ZbY.at_ (hs.below Xx p) J;rw[drop_at J,Ir]at U;generalize L[i]=R at *;obtain⟨f,t,a,b,o⟩:=R;dsimp only at *;have I:=jK U;clear U;by_cases e1:left=a
   ·subst e1;by_cases e2:right=b
    ·subst e2;go_wp2
     all_goals first
      |(go_ret
        refine⟨D4 ?_,j.alloc j.size _⟩;have h:=I.out;rw[if_pos (by unfold Jn;dsimp only;omega)]at h;rw[<-HR.out,HL.out,<-h]
        done)
      |(go_roundw
        case rel=>
         have h:=I.out;rw[if_neg (by unfold Jn;dsimp only;omega)]at h;exact⟨i+1,by omega,by go_num,h,j.alloc j.size _,p.alloc p.size _⟩
        case measure=>simp[intOf];omega)
    ·have e3:(right==b)=false:=by simpa using e2
     have h:=I.out;rw[if_neg (by unfold Jn;dsimp only;omega)]at h;have HD:=jK h;clear h I e2;go_wp2
     all_goals
      go_roundw
      case rel=>exact⟨i+1,by omega,by go_num,HD.out,j.alloc j.size _,p.alloc p.size _⟩
      case measure=>simp[intOf];omega
   ·have e3:(left==a)=false:=by simpa using e1
    have h:=I.out;rw[if_neg (by unfold Jn;dsimp only;omega)]at h;have HD:=jK h;clear h I e1;go_wp2
    all_goals
     go_roundw
     case rel=>exact⟨i+1,by omega,by go_num,HD.out,j.alloc j.size _,p.alloc p.size _⟩
     case measure=>simp[intOf];omega
  ·obtain rfl:i=L.length:=by omega
   have c6:¬(L.length:Int)<(L.length:Int):=by omega
   rw[eL,Ir]at U;have I:=jK U;clear U;go_wp2;go_ret;exact⟨D4 (by rw[<-HR.out,HL.out,<-I.out]),j⟩
theorem Yc {op a:Int} (p:7<=op) (I:op<=10) (ha:isKind a):Ir op a 0 Kz=match Qi op a with|.ok k=>k|.err _=>0:=by
 have j:op=7\/op=8\/op=9\/op=10:=by omega
 have o:a=1\/a=2\/a=3:=by unfold isKind at ha;omega
 rcases j with rfl|rfl|rfl|rfl<;>rcases o with rfl|rfl|rfl<;>rfl
theorem ZT {op a b:Int} (J:11<=op) (R:op<=23) (ha:isKind a) (j:isKind b):Ir op a b Kz=match Jp op a b with|.ok k=>k|.err _=>0:=by
 have o:op=11\/op=12\/op=13\/op=14\/op=15\/op=16\/op=17\/op=18\/op=19\/op=20\/op=21\/op=22\/op=23:=by omega
 have p:a=1\/a=2\/a=3:=by unfold isKind at ha;omega
 have I:b=1\/b=2\/b=3:=by unfold isKind at j;omega
 rcases o with rfl|rfl|rfl|rfl|rfl|rfl|rfl|rfl|rfl|rfl|rfl|rfl|rfl<;>rcases p with rfl|rfl|rfl<;>rcases I with rfl|rfl|rfl<;>rfl
theorem Sh {op a e:Int} (h:Qi op a=.err e):e=8:=by
 unfold Qi at h
 repeat' split at h
 all_goals(first|(cases h;rfl)|cases h)
theorem Sp {op a b e:Int} (h:Jp op a b=.err e):e=8:=by
 unfold Jp at h
 repeat' split at h
 all_goals(first|(cases h;rfl)|cases h)
end
section
open Go.RowKit Q Go.Lib
def Zc5 (v:Q.Var):List Value:=[.string v.name,.int .i64 v.kind,.int .i64 v.lo,.int .i64 v.hi,.int .i64 v.init.kind,.int .i64 v.init.a,.int .i64 v.init.b]
def Nu (v:Q.Var):Value:=.agg #[.string v.name,.int .i64 v.kind,.int .i64 v.lo,.int .i64 v.hi,.int .i64 v.init.kind,.int .i64 v.init.a,.int .i64 v.init.b]
instance:Inhabited Q.Var:=⟨⟨⟨#[]⟩,0,0,0,⟨0,0,0⟩⟩⟩
theorem Za0 (w:World) (B:Nat) (a:Q.Var) (o:Nat->Value) (h:∀j,j<7->XO w B a j (o j)):∃b:Q.Var,id b=a/\∀j,j<7->(Zc5 b)[j]?=some (o j):=by
 refine⟨a,rfl,fun j I=>?_⟩;have p:=h j I
 match j,I,p with
 | 0,_,h=>rw[show o 0=_ from h];rfl
 | 1,_,h=>rw[show o 1=_ from h];rfl
 | 2,_,h=>rw[show o 2=_ from h];rfl
 | 3,_,h=>rw[show o 3=_ from h];rfl
 | 4,_,h=>rw[show o 4=_ from h];rfl
 | 5,_,h=>rw[show o 5=_ from h];rfl
 | 6,_,h=>rw[show o 6=_ from h];rfl
theorem WQ (w:World):(isAgg 66).run prog w=.ok true w:=by kernel_rfl
theorem Uj (w:World):(Go.sizeOf 66).run prog w=.ok 7 w:=by kernel_rfl
def named (s:ByteArray) (v:Q.Var):Bool:=decide (v.name=s)
theorem Gh (s:ByteArray) (v:Q.Var):(v.name.toList==s.toList)=named s v:=EO _ _
def JT (g:Nat) (lb:Array Value) (s:ByteArray) (w:World):Prop:=∀(W:World) (x:Q.Var),Below w.heap.size w W->Calls prog g (#[Nu x]++lb) W fun e j=>e=.returned (.bool (named s x))/\Below w.heap.size w j
theorem EK {g:Nat} {lb:Array Value} {s:ByteArray} {w:World} {v:Value} {l:List Q.Var} (j:∀args w,(callFunc g args).run prog w=.ok (.enter g args) w) (h:BK w w.heap.size v l) (hp:JT g lb s w) :
  Calls prog 221 #[v,.func (.func g) #[] lb] w fun e o=>e=.returned (.int .i64 (ET (named s) l))/\Below w.heap.size w o:=
 Ye (P:=prog) Tryz.ZcL WQ Uj id Zc5 Za0 (fun _=>rfl) (by omega) (named s) g lb j w v l h hp
theorem OO (s:ByteArray) (b:Nat) (w:World) (I:b<w.heap.size) (J:w.cell? ⟨b,2,none⟩=some (.string s)):JT 310 #[.pointer (some ⟨b,0,none⟩)] s w:=fun W x j=>by
 have R:W.cell? ⟨b,2,none⟩=some (.string s):=(j.cell (p:=⟨b,2,none⟩) I).trans J;have U:b<W.heap.size:=aK I j.size;have a1:b≠W.heap.size:=by omega
 obtain⟨r,o⟩:∃r,named s x=r:=⟨_,rfl⟩;rw[o];have HR:=jK o;show Calls prog 310 #[.agg #[.string x.name,.int .i64 x.kind,.int .i64 x.lo,.int .i64 x.hi,.int .i64 x.init.kind,.int .i64 x.init.a,.int .i64 x.init.b],.pointer (some ⟨b,0,none⟩)] W _;clear o J;go_enter func310,ntmps310;go_wp2;go_ret;exact⟨Db (by rw[<-HR.out];exact Gh s x),j.alloc j.size _⟩
theorem DY {α:Type} (p:α->Bool) (l:List α):(ET p l=-1/\l.find? p=none/\l.findIdx? p=none)\/∃i,∃h:i<l.length,ET p l=(i:Int)/\l.find? p=some l[i]/\l.findIdx? p=some i:=by
 cases h:l.findIdx? p with
 |none=>exact .inl ⟨ID h,by rw[iX]at h;rw[List.find?_eq_none];intro x I;simpa using h x I,rfl⟩
 |some i=>
  obtain⟨o,J,R⟩:=cY.1 h;refine .inr ⟨i,o,IF h,?_,rfl⟩;rw[List.find?_eq_some_iff_getElem];exact⟨J,i,o,rfl,fun j U=>by simpa using R j U⟩
def rsV (r:Rs Int):Int:=match r with
 |.ok k=>k
 |.err _=>0
def Cu (r:Rs Int):Value:=.tuple #[.int .i64 (rsV r),.int .i64 (rsE r)]
theorem enters_of {g : Nat} {B : Func} {c : Code} (h : prog.funcs[g]? = some B) (o :(B.name == "runtime.NumGoroutine") = false) (p : B.body = some c) : ∀args w,(callFunc g args).run prog w = .ok (.enter g args) w := by
 intro args w;have j : ¬B.name = "runtime.NumGoroutine" := by simpa using o
 simp[callFunc,h,p,j]
theorem Pc {vars:List Q.Var} {Aa:List ByteArray} {c:Cell} (h:c.op=5):FC vars Aa c=match vars.find? (named c.name)with
  |none=>.err 2
  |some v=>if 1<=v.kind/\v.kind<=3 then .ok v.kind else .err 8:=by
 unfold FC;rw[if_neg (by omega),if_neg (by omega),if_pos h];rfl
theorem X6 (c:Cell) (vars:List Q.Var) (Aa:List ByteArray) (vs ss:Value) (w:World) (hv:BK w w.heap.size vs vars) (hs:AE w w.heap.size ss Aa) :
  Calls prog 254 #[.agg #[.int .i64 c.op,.int .i64 c.a,.string c.name],vs,ss] w fun e w'=>e=.returned (Cu (FC vars Aa c))/\Below w.heap.size w w':=by
 obtain⟨op,a,s⟩:=c;obtain⟨r,j⟩:∃r,FC vars Aa ⟨op,a,s⟩=r:=⟨_,rfl⟩;rw[j];have o:=AT w (.cells #[.int .i64 op,.int .i64 a,.string s] 248);have J:=hv.on AL o;have a6:=hs.on o;dsimp only;by_cases h5:op=5
 ·subst h5;have I:=Pc (vars:=vars) (Aa:=Aa) (c:=⟨5,a,s⟩) rfl;rw[j]at I;dsimp only at I;obtain⟨A,c,rfl,hn,hA⟩:=hv.form;rcases DY (named s) vars with⟨U,i2,i3⟩|⟨i,hi,U,i2,i3⟩
  ·rw[i2]at I;dsimp only at I;subst I;clear i2 i3 j;have HI:=jK U;clear U;go_enter func254,ntmps254;go_wp2_with fail;refine(EK (s:=s) (enters_of func310 (by decide) rfl) J (OO s w.heap.size _ (by simp) (by simp))).mono ?_;rintro e w1⟨rfl,p⟩;rw[HI.out];go_wp2
   go_ret2
   exact⟨rfl,Ab o p⟩
  ·rw[i2]at I;dsimp only at I;have HI:=jK U;have b8:(i:Int)<(vars.length:Int):=by omega
   obtain⟨ad,rfl,b9⟩:=hA i hi;clear U i2 i3 j;go_enter func254,ntmps254;go_wp2_with fail;refine(EK (s:=s) (enters_of func310 (by decide) rfl) J (OO s w.heap.size _ (by simp) (by simp))).mono ?_;rintro e w1⟨rfl,p⟩;rw[HI.out];obtain⟨_,c1,_⟩:=BK.at_ (J.on AL p) hi;generalize vars[i].kind=K at *;have HC:=jK I;clear I;by_cases k1:1<=K
   ·by_cases k2:K<=3
    ·have j:=HC.out;rw[if_pos ⟨k1,k2⟩]at j;have R:=jK j;clear j;go_wp2
     go_ret2
     exact⟨by rw[R.out];rfl,Ab o p⟩
    ·have j:=HC.out;rw[if_neg (by omega)]at j;have R:=jK j;clear j;go_wp2
     go_ret2
     exact⟨by rw[R.out];rfl,Ab o p⟩
   ·have j:=HC.out;rw[if_neg (by omega)]at j;have R:=jK j;clear j;go_wp2
    go_ret2
    exact⟨by rw[R.out];rfl,Ab o p⟩
 ·unfold FC at j;dsimp only at j;rw[if_neg h5]at j;cases h6:E5 Aa s
  all_goals
   rw[h6]at j;have R:=jK j;have HN:=jK h6;have c4:(op==5)=false:=by simpa using h5
   clear j h6;go_enter func254,ntmps254;go_wp2_with (go_at_call 104;refine(EN Aa ss s _ a6).mono ?_;rintro e w'⟨rfl,rfl⟩;rw[HN.out])
   all_goals
    go_ret2
    refine⟨?_,o⟩;rw[<-R.out];simp only[dI,dJ,ne_eq]at *
    repeat' split
    all_goals first|rfl|omega|(exfalso;simp_all;done)
theorem Qr {α:Type} {p:α->Bool} {l:List α} {k:Nat} (I:k<l.length) (hp:p l[k]=true) (o:∀j (h:j<l.length),j<k->p l[j]=false):ET p l=(k:Int):=
 IF (cY.2 ⟨I,hp,fun j J=>by rw[o j _ J];simp⟩)
theorem PX {α:Type} {p:α->Bool} {l:List α} (o:∀j (h:j<l.length),j<l.length->p l[j]=false):ET p l=-1:=
 ID (iX.2 fun x J=>by
  obtain⟨j,I,rfl⟩:=cU J;exact o j I I)
theorem D5 (l:List Q.Var) (v:Value) (s:ByteArray) (w:World) (h:BK w w.heap.size v l) :
  Calls prog 169 #[v,.string s] w fun e w'=>e=.returned (.int .i64 (ET (named s) l))/\w'=w:=by
 obtain⟨A,c,rfl,hn,hA⟩:=h.form;obtain⟨b,J⟩:∃b,ET (named s) l=b:=⟨_,rfl⟩;rw[J];have HB:=jK J;clear J;go_enter func169,ntmps169;go_wp2
 go_loop [5] (fun v=>∃k:Nat,k<=l.length/\v=.int .i64 (k:Int)/\∀j (h:j<l.length),j<k->named s l[j]=false) (fun v=>l.length-(intOf v).toNat)
 case atStart=>exact⟨0,by omega,rfl,fun j _ R=>absurd R (by omega)⟩
 case round=>
  obtain⟨k,hk,rfl,o⟩:=hrel;by_cases p:k<l.length
  ·have b0:(k:Int)<(l.length:Int):=by omega
   obtain⟨ad,rfl,b1⟩:=hA k p;have U:=(BK.at_ h p).1;have HA:=jK o;have I:=Gh s l[k];clear o;cases e:named s l[k]
   ·rw[e]at I;have HE:=jK e;clear e;go_wp2
    go_round
    case rel=>exact⟨k+1,by omega,by go_num,fun j R b3=>by
     by_cases e:j=k
     ·subst e;exact HE.out
     ·exact HA.out j R (by omega)⟩
    case measure=>simp[intOf];omega
   ·rw[e]at I;obtain rfl:b=(k:Int):=by rw[<-HB.out];exact Qr p e HA.out
    clear e;go_wp2;go_ret;exact⟨rfl,rfl⟩
  ·obtain rfl:k=l.length:=by omega
   have b4:¬(l.length:Int)<(l.length:Int):=by omega
   obtain rfl:b=-1:=by rw[<-HB.out];exact PX o
   clear o;go_wp2;go_ret;exact⟨rfl,rfl⟩
theorem Si (c:Cell) (vars:List Q.Var) (Aa:List ByteArray) (vs U:Value) (w:World) (hv:BK w w.heap.size vs vars) (hs:AE w w.heap.size U Aa) :
  Calls prog 295 #[.agg #[.int .i64 c.op,.int .i64 c.a,.string c.name],vs,U] w fun e w'=>e=.returned (Cu (FC vars Aa c))/\Below w.heap.size w w':=by
 obtain⟨op,a,s⟩:=c;obtain⟨r,j⟩:∃r,FC vars Aa ⟨op,a,s⟩=r:=⟨_,rfl⟩;rw[j];have o:=AT w (.cells #[.int .i64 op,.int .i64 a,.string s] 248);have I:=hv.on AL o;have a1:=hs.on o;dsimp only;by_cases h5:op=5
 ·subst h5;have p:=Pc (vars:=vars) (Aa:=Aa) (c:=⟨5,a,s⟩) rfl;rw[j]at p;dsimp only at p;obtain⟨A,c,rfl,hn,hA⟩:=hv.form;rcases DY (named s) vars with⟨R,i2,i3⟩|⟨i,hi,R,i2,i3⟩
  ·rw[i2]at p;dsimp only at p;subst p;clear i2 i3 j;have HI:=jK R;clear R;go_enter func295,ntmps295;go_wp2_with fail;refine(D5 vars _ s _ I).mono ?_;rintro e w1⟨rfl,rfl⟩;rw[HI.out];go_wp2
   go_ret2
   exact⟨rfl,o⟩
  ·rw[i2]at p;dsimp only at p;have HI:=jK R;have b9:(i:Int)<(vars.length:Int):=by omega
   obtain⟨ad,rfl,c0⟩:=hA i hi;clear R i2 i3 j;go_enter func295,ntmps295;go_wp2_with fail;refine(D5 vars _ s _ I).mono ?_;rintro e w1⟨rfl,rfl⟩;rw[HI.out];obtain⟨_,c1,_⟩:=BK.at_ I hi;generalize vars[i].kind=K at *;have HC:=jK p;clear p;by_cases k1:1<=K
   ·have b0:¬K<1:=by omega
    by_cases k2:K<=3
    ·have j:=HC.out;rw[if_pos ⟨k1,k2⟩]at j;have J:=jK j;have b1:¬3<K:=by omega
     clear j;go_wp2
     go_ret2
     exact⟨by rw[J.out];rfl,o⟩
    ·have j:=HC.out;rw[if_neg (by omega)]at j;have J:=jK j;have b1:3<K:=by omega
     clear j;go_wp2
     go_ret2
     exact⟨by rw[J.out];rfl,o⟩
   ·have b0:K<1:=by omega
    have j:=HC.out;rw[if_neg (by omega)]at j;have J:=jK j;clear j;go_wp2
    go_ret2
    exact⟨by rw[J.out];rfl,o⟩
 ·unfold FC at j;dsimp only at j;rw[if_neg h5]at j;cases h6:E5 Aa s
  all_goals
   rw[h6]at j;have J:=jK j;have HN:=jK h6;have c5:(op==5)=false:=by simpa using h5
   clear j h6;go_enter func295,ntmps295;go_wp2_with (go_at_call 110;refine(G5 Aa U s _ a1).mono ?_;rintro e w'⟨rfl,rfl⟩;rw[HN.out])
   all_goals
    go_ret2
    refine⟨?_,o⟩;rw[<-J.out];simp only[dI,dJ,ne_eq]at *
    repeat' split
    all_goals first|rfl|omega|(exfalso;simp_all;done)
theorem Ug (op k:Int) (w:World):Calls prog 297 #[.int .i64 op,.int .i64 k] w fun e o=>e=.returned (Cu (Jp op k k))/\o=w:=by
 obtain⟨r,j⟩:∃r,Jp op k k=r:=⟨_,rfl⟩;rw[j];unfold Jp at j;rw[if_neg (by simp)]at j;have p:=jK j;clear j;go_enter func297,ntmps297;go_wp2
 all_goals
  go_ret2
  refine⟨?_,rfl⟩;rw[<-p.out];simp only[dI,dJ,bne_iff_ne,ne_eq]at *
  repeat' split
  all_goals first|rfl|omega|(exfalso;simp_all;done)|(subst_vars;rfl)|(subst k;rfl)
theorem Zch {α:Type} (pre post:List α) (c:α) (i:Nat) (h:i=pre.length) (hi:i<(pre++c::post).length):(pre++c::post)[i]=c:=by
 subst h;simp
theorem WB:∀(t:T),∃(xs:List Cell),t.flat=xs++[t.top]/\True
 |.leaf c=>⟨[],rfl,trivial⟩
 |.one c t=>⟨t.flat,rfl,trivial⟩
 |.two c s t=>⟨s.flat++t.flat,by simp[T.flat,T.top],trivial⟩
theorem KR {l pre post:List Cell} {t:T} (h:l=pre++(t.flat++post)):∃hi:pre.length+t.flat.length-1<l.length,l[pre.length+t.flat.length-1]=t.top:=by
 obtain⟨xs,o,_⟩:=WB t;have I:l=(pre++xs)++t.top::post:=by rw[h,o];simp
 have p:pre.length+t.flat.length-1=(pre++xs).length:=by rw[o];simp
 subst I;have j:pre.length+t.flat.length-1<((pre++xs)++t.top::post).length:=by rw[p];simp
 exact⟨j,Zch _ _ _ _ p j⟩
theorem Lg {α:Type} {A:Hi α} {c:Cell} {t:T}:A.ev (.one c t)=(A.ev t).bind (A.one c):=rfl
theorem Lo {α:Type} {A:Hi α} {c:Cell} {s t:T}:A.ev (.two c s t)=(A.ev s).bind fun x=>(A.ev t).bind fun y=>A.two c x y:=rfl
def Yg {α:Type} (r:Rs α):Prop:=∀e,r=.err e->e≠0
theorem Ox {vars:List Q.Var} {Aa:List ByteArray} {c:Cell}:Yg (FC vars Aa c):=by
 intro e h;unfold FC at h
 repeat' split at h
 all_goals(first|(cases h;omega)|cases h)
theorem KL {vars:List Q.Var} {Aa:List ByteArray}:∀(t:T) {k:Int},(E7 vars Aa).ev t=.ok k->isKind k
 |.leaf c,k,h=>MZ h
 |.one c t,k,h=>by
  rw[Lg]at h;cases e:(E7 vars Aa).ev t with
  |err x=>rw[e]at h;cases h
  |ok x=>rw[e]at h;exact OT (KL t e) h
 |.two c s t,k,h=>by
  rw[Lo]at h;cases e:(E7 vars Aa).ev s with
  |err x=>rw[e]at h;cases h
  |ok x=>
   cases j:(E7 vars Aa).ev t with
   |err y=>rw[e,j]at h;cases h
   |ok y=>rw[e,j]at h;exact Pr (KL s e) h
theorem GS {vars:List Q.Var} {Aa:List ByteArray}:∀(t:T),Yg ((E7 vars Aa).ev t)
 |.leaf c=>Ox
 |.one c t=>fun x h=>by
  rw[Lg]at h;cases e:(E7 vars Aa).ev t with
  |err y=>rw[e]at h;injection h with h;subst h;exact GS t _ e
  |ok y=>
   rw[e]at h;have:=Sh h;omega
 |.two c s t=>fun x h=>by
  rw[Lo]at h;cases e:(E7 vars Aa).ev s with
  |err y=>rw[e]at h;injection h with h;subst h;exact GS s _ e
  |ok y=>
   cases j:(E7 vars Aa).ev t with
   |err z=>rw[e,j]at h;injection h with h;subst h;exact GS t _ j
   |ok z=>
    rw[e,j]at h;have:=Sp h;omega
theorem Im {c:Cell} (h:B7 c=1):7<=c.op/\c.op<=10:=by
 unfold B7 at h
 repeat' split at h
 all_goals(first|omega|cases h)
theorem J5 {c:Cell} (h:B7 c=2):11<=c.op/\c.op<=23:=by
 unfold B7 at h
 repeat' split at h
 all_goals(first|omega|cases h)
theorem Lb {c:Cell} (h:B7 c=0):1<=c.op/\c.op<=6:=by
 unfold B7 at h
 repeat' split at h
 all_goals(first|omega|cases h)
theorem UU (vars:List Q.Var) (Aa:List ByteArray) (l:List Cell) (hl:l.length<=32) (v vs ss:Value):∀(t:T),t.wf->∀(pre post:List Cell),l=pre++(t.flat++post)->∀(i:Nat),i=pre.length+t.flat.length-1->∀(w:World),Bp w w.heap.size v l->BK w w.heap.size vs vars->AE w w.heap.size ss Aa->
  Calls prog 247 #[v,.int .i64 (i:Int),vs,ss] w fun e w'=>e=.returned (Cu ((E7 vars Aa).ev t))/\Below w.heap.size w w':=by
 intro t
 induction t with
 |leaf c=>
  intro hw pre post p i hi w hc hv hs;obtain⟨I,J⟩:=KR p;rw[<-hi]at I;obtain⟨A,cp,rfl,hn,hA⟩:=hc.form;obtain⟨ad,rfl,e2⟩:=hA i I;obtain⟨c0,c1,c2⟩:=Bp.at_ hc I;simp only[<-hi]at J;rw[J]at c0 c1 c2;dsimp only[T.top]at c0 c1 c2;have e3:(i:Int)<(l.length:Int):=by omega
  have a7:=AT w (.cells #[.int .i64 c.op,.int .i64 c.a,.string c.name] 248);have l3:=hv.on AL a7;have l4:=hs.on a7;unfold T.wf at hw;have HW:=jK hw;clear hi hw J p;go_enter func247,ntmps247;go_wp2_with fail;refine(B5 c _).mono ?_;rintro e w1⟨rfl,o⟩;rw[HW.out];have U:=Ab a7 o;obtain⟨b6,b7⟩:=Ae o;have c7:=hv.on AL U;have c8:=hs.on U;clear o c0 c1 c2;go_wp2_with fail;refine(Si c vars Aa vs ss _ c7 c8).mono ?_;rintro e w2⟨rfl,a8⟩;unfold Cu;go_wp2
  go_ret2
  exact⟨rfl,Ab U a8⟩
 |one c t ih=>
  obtain⟨op,a,nm⟩:=c;intro hw pre post p i hi w hc hv hs;obtain⟨I,J⟩:=KR p;rw[<-hi]at I;obtain⟨A,cp,rfl,hn,hA⟩:=hc.form;obtain⟨ad,rfl,e2⟩:=hA i I;obtain⟨c0,c1,c2⟩:=Bp.at_ hc I;simp only[<-hi]at J;rw[J]at c0 c1 c2;dsimp only[T.top]at c0 c1 c2;have e3:(i:Int)<(l.length:Int):=by omega
  have a7:=AT w (.cells #[.int .i64 op,.int .i64 a,.string nm] 248);unfold T.wf at hw;have HW:=jK hw.1;have j1:op=7\/op=8\/op=9\/op=10:=by have:=Im hw.1;dsimp only at this;omega
  have j2:=Dc t;have IH:=jK (ih hw.2 pre (⟨op,a,nm⟩::post) (by rw[p];simp[T.flat]) (i-1) (by rw[hi];simp[T.flat]));have l6:1<=i:=by rw[hi];simp[T.flat];omega
  obtain⟨R,hR⟩:∃R,(E7 vars Aa).ev (.one ⟨op,a,nm⟩ t)=R:=⟨_,rfl⟩;rw[hR];rw[Lg]at hR;have HR:=jK hR;clear hi hw J p ih hR;go_enter func247,ntmps247;go_wp2_with fail;refine(B5 ⟨op,a,nm⟩ _).mono ?_;rintro e w1⟨rfl,o⟩;rw[HW.out];have U:=Ab a7 o;obtain⟨b6,b7⟩:=Ae o;have c7:=hv.on AL U;have c8:=hs.on U;have c9:=hc.on Aw U;have a6:(i:Int)-1=((i-1:Nat):Int):=by omega
  have H1:=jK a6;have b4:=jK o;clear o c0 c1 c2 a6;go_wp2_with fail;rw[H1.out];refine(IH.out _ c9 c7 c8).mono ?_;rintro e w2⟨rfl,a8⟩;have b0:=Ab U a8;have j3:=Ae (Ab b4.out a8);obtain⟨e5,e6⟩:=j3;clear b6 b7;cases hE:(E7 vars Aa).ev t with
  |err x=>
   have h0:=GS t x hE;have e7:(x==0)=false:=by simpa using h0
   have j:=HR.out;rw[hE]at j;obtain rfl:Rs.err x=R:=j;clear hE h0 HR;unfold Cu rsV rsE;go_wp2
   go_ret2
   exact⟨rfl,b0⟩
  |ok k=>
   have hk:k=1\/k=2\/k=3:=by have:=KL t hE;unfold isKind at this;omega
   have j:=HR.out;rw[hE]at j;have e8:Qi op k=R:=j;clear hE HR j;unfold Cu rsV rsE;rcases j1 with rfl|rfl|rfl|rfl<;>rcases hk with rfl|rfl|rfl
   all_goals
    obtain rfl:=e8;go_wp2
    go_ret2
    exact⟨rfl,b0⟩
 |two c s t e9 h3=>
  obtain⟨op,a,nm⟩:=c;intro hw pre post p i hi w hc hv hs;obtain⟨I,J⟩:=KR p;rw[<-hi]at I;obtain⟨A,cp,rfl,hn,hA⟩:=hc.form;obtain⟨ad,rfl,e2⟩:=hA i I;obtain⟨c0,c1,c2⟩:=Bp.at_ hc I;simp only[<-hi]at J;rw[J]at c0 c1 c2;dsimp only[T.top]at c0 c1 c2;have e3:(i:Int)<(l.length:Int):=by omega
  have a7:=AT w (.cells #[.int .i64 op,.int .i64 a,.string nm] 248);unfold T.wf at hw;have HW:=jK hw.1;have j2:=Dc t;have l7:=Dc s;have hlen:i=pre.length+(s.flat.length+(t.flat.length+1))-1:=by rw[hi];simp[T.flat]
  have l8:2<=i:=by omega
  have j4:=jK (h3 hw.2.2 (pre++s.flat) (⟨op,a,nm⟩::post) (by rw[p];simp[T.flat]) (i-1) (by rw[hlen,aO];omega));have j5:=jK (e9 hw.2.1 pre (t.flat++⟨op,a,nm⟩::post) (by rw[p];simp[T.flat]) (pre.length+s.flat.length-1) rfl);have h4:Hd l (i-1) 1=some (pre.length+s.flat.length):=by
   have h1:=Gn t hw.2.2 (pre++s.flat) (⟨op,a,nm⟩::post) 0;unfold My at h1;rw[if_pos rfl,aO]at h1;have h2:l=pre++s.flat++(t.flat++⟨op,a,nm⟩::post):=by rw[p];simp[T.flat]
   rw[h2,<-h1];congr 1;rw[hlen];omega
  have j7:=jK h4;have n0:pre.length+s.flat.length<i:=by omega
  have h5:((pre.length+s.flat.length:Nat):Int)-1=((pre.length+s.flat.length-1:Nat):Int):=by omega
  have j8:=jK h5;obtain⟨R,hR⟩:∃R,(E7 vars Aa).ev (.two ⟨op,a,nm⟩ s t)=R:=⟨_,rfl⟩;rw[hR];rw[Lo]at hR;have HR:=jK hR;generalize hq:pre.length+s.flat.length=q at *;clear hi hw J p e9 h3 hR h4 h5 hlen hq;go_enter func247,ntmps247;go_wp2_with fail;refine(B5 ⟨op,a,nm⟩ _).mono ?_;rintro e w1⟨rfl,o⟩;rw[HW.out];have U:=Ab a7 o;obtain⟨b6,b7⟩:=Ae o;have c9:=hc.on Aw U;have a6:(i:Int)-1=((i-1:Nat):Int):=by omega
  have H1:=jK a6;have b4:=jK o;clear o c0 c1 c2 a6;go_wp2_with fail;rw[H1.out];refine(OZ l _ _ c9 hl (i-1) q (by omega) j7.out).mono ?_;rintro e w2⟨rfl,a8⟩;have b0:=Ab U a8;have j9:=hv.on AL b0;have k0:=hs.on b0;have k1:=hc.on Aw b0;have h6:=jK (Ab b4.out a8);clear b6 b7;go_wp2_with fail;rw[j8.out];refine(j5.out _ k1 j9 k0).mono ?_;rintro e w3⟨rfl,h7⟩;have b5:=Ab b0 h7;have k2:=hv.on AL b5;have k3:=hs.on b5;have k4:=hc.on Aw b5;have h9:=jK (Ab h6.out h7);cases hE:(E7 vars Aa).ev s with
  |err x=>
   have h0:=GS s x hE;have e7:(x==0)=false:=by simpa using h0
   have j:=HR.out;rw[hE]at j;obtain rfl:Rs.err x=R:=j;clear hE h0 HR;unfold Cu rsV rsE;go_wp2
   go_ret2
   exact⟨rfl,b5⟩
  |ok k=>
   have j:=HR.out;rw[hE]at j;have hk:=KL s hE;have b9:=jK (show(((E7 vars Aa).ev t).bind fun y=>Jp op k y)=R from j);clear hE HR j;unfold Cu rsV rsE;go_wp2_with fail;rw[H1.out];refine(j4.out _ k4 k2 k3).mono ?_;rintro e w4⟨rfl,i1⟩;have e0:=Ab b5 i1;obtain⟨e5,e6⟩:=Ae (Ab h9.out i1);cases hE:(E7 vars Aa).ev t with
   |err x=>
    have h0:=GS t x hE;have e7:(x==0)=false:=by simpa using h0
    have j:=b9.out;rw[hE]at j;obtain rfl:Rs.err x=R:=j;clear hE h0 b9;unfold Cu rsV rsE;go_wp2
    go_ret2
    exact⟨rfl,e0⟩
   |ok k'=>
    have j:=b9.out;rw[hE]at j;have HR:=jK (show Jp op k k'=R from j);clear hE b9 j;unfold Cu rsV rsE;by_cases c3:k=k'
    ·subst c3;go_wp2_with fail;refine(Ug op k _).mono ?_;rintro e w5⟨rfl,rfl⟩;unfold Cu;go_wp2
     go_ret2
     exact⟨by rw[<-HR.out];rfl,e0⟩
    ·have n2:(k==k')=false:=by simpa using c3
     have h8:Jp op k k'=.err 8:=by unfold Jp;rw[if_pos c3]
     have j:=HR.out;rw[h8]at j;subst j;clear c3 h8 HR;go_wp2
     go_ret2
     exact⟨rfl,e0⟩
end
end Go.Proofs.YthbihnpoghlfaaaGreatDoor
