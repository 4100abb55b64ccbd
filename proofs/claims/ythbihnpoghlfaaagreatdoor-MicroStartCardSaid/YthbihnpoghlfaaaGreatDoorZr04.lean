import Derived.Laws.CopyRow
import Derived.Laws.Cells
import Derived.Deep.MidRow
import Derived.Test.YthbihnpoghlfaaaGreatDoorZr03
set_option linter.unusedVariables false
set_option linter.unusedSimpArgs false
set_option maxHeartbeats 8000000
set_option maxRecDepth 100000
namespace Go.Proofs.YthbihnpoghlfaaaGreatDoor
section
open Go.RowKit
namespace Ev
theorem Tr.Vv {α:Type} (d j:Nat):Tr.get d (.nil:Tr α) j=none:=by cases d<;>rfl
theorem Tr.No {α:Type} (d:Nat) (t:Tr α) (j:Nat):Tr.get (d+1) t j=bif j % 2==0 then Tr.get d t.kids.1 (j / 2)else Tr.get d t.kids.2 (j / 2):=by
 cases t with
 |node l r=>rfl
 |nil=>cases o:(j % 2==0)<;>cases d<;>rfl
 |leaf x=>cases o:(j % 2==0)<;>simp only[Tr.kids,Tr.Vv,cX,eJ]<;>rfl
theorem Tr.PB {α:Type}:∀(d:Nat) (t:Tr α) (k:Nat) (x:α),Tr.get d t k=some x->k<2^d
 | 0,t,k,x,h=>by
  cases t with
  |leaf y=>
   cases k with
   |zero=>decide
   |succ k=>cases h
  |nil=>cases h
  |node l r=>cases h
 |d+1,t,k,x,h=>by
  rw[Tr.No]at h;rw[Nat.pow_succ];cases j:(k % 2==0)with
  |true=>
   rw[j]at h;have:=Tr.PB d _ _ _ h;omega
  |false=>
   rw[j]at h;have:=Tr.PB d _ _ _ h;omega
theorem Tr.IY {α:Type}:∀(d:Nat) (t:Tr α) (k j:Nat) (x:Option α),k<2^d->Tr.get d (Tr.set d t k x) j=if j=k then x else Tr.get d t j
 | 0,t,k,j,x,hk=>by
  have h1:k=0:=by omega
  subst h1;cases j with
  |zero=>rw[if_pos rfl];cases x<;>rfl
  |succ j=>
   rw[if_neg (by omega)];cases x<;>cases t<;>rfl
 |d+1,t,k,j,x,hk=>by
  have J:k / 2<2^d:=by rw[Nat.pow_succ]at hk;omega
  rw[Tr.No d _ j,Tr.No d t j];unfold Tr.set;by_cases R:k % 2=0
  ·have U:(k % 2==0)=true:=by simp[R]
   rw[U];simp only[cX,Tr.kids];by_cases o:j % 2=0
   ·have I:(j % 2==0)=true:=by simp[o]
    rw[I];simp only[cX];rw[Tr.IY d _ _ _ x J];by_cases p:j=k
    ·rw[if_pos p,if_pos (by omega)]
    ·rw[if_neg p,if_neg (by omega)]
   ·have I:(j % 2==0)=false:=by simp[o]
    rw[I];simp only[eJ];rw[if_neg (by omega)]
  ·have U:(k % 2==0)=false:=by simp[R]
   rw[U];simp only[eJ,Tr.kids];by_cases o:j % 2=0
   ·have I:(j % 2==0)=true:=by simp[o]
    rw[I];simp only[cX];rw[if_neg (by omega)]
   ·have I:(j % 2==0)=false:=by simp[o]
    rw[I];simp only[eJ];rw[Tr.IY d _ _ _ x J];by_cases p:j=k
    ·rw[if_pos p,if_pos (by omega)]
    ·rw[if_neg p,if_neg (by omega)]
theorem Lm {α:Type}:∀(l:List α) (k:Nat),(M5 l)[k]?=l[2*k]?
 | [],k=>by simp[M5]
 | [x],k=>by cases k<;>simp[M5]
 |x::y::l,0=>rfl
 |x::y::l,k+1=>by
  show(M5 l)[k]?=(x::y::l)[2*k+1+1]?;rw[Lm l k];rfl
theorem Tr.IP {α:Type}:∀(d:Nat) (l:List α) (k:Nat),k<2^d->Tr.get d (Tr.build d l) k=l[k]?
 | 0,[],k,h=>by simp[Tr.build,Tr.get]
 | 0,x::l,k,h=>by
  obtain rfl:k=0:=by omega
  rfl
 |d+1,l,k,h=>by
  have j:k / 2<2^d:=by rw[Nat.pow_succ]at h;omega
  unfold Tr.build Tr.get;cases o:(k % 2==0)with
  |true=>
   simp only[cX];rw[Tr.IP d _ _ j,Lm];have:k % 2=0:=by simpa using o
   congr 1;omega
  |false=>
   simp only[eJ];have:k % 2≠0:=by simpa using o
   rw[Tr.IP d _ _ j,Lm,List.getElem?_tail];congr 1;omega
theorem AH.DG (H:AH) (b j:Nat) (x:Option AB) (o:b<2^depth) (p:j<2^depth):(H.put b x).get j=if j=b then x else H.get j:=Tr.IY depth H.t b j x o
theorem AH.ED (H:AH) (j:Nat) (x:AB) (o:H.next<2^depth) (p:j<2^depth):(H.alloc x).get j=if j=H.next then some x else H.get j:=Tr.IY depth H.t H.next j (some x) o
abbrev Env:=Nat->Option (Nat×Nat×Nat)
def Fp (e j:Env):Prop:=∀b p,e b=some p->j b=some p
theorem Fp.refl (e:Env):Fp e e:=fun _ _ h=>h
theorem Fp.trans {e o j:Env} (h:Fp e o) (k:Fp o j):Fp e j:=fun b p hp=>k b p (h b p hp)
def CpR (o z off:Nat) (c:Nat):Cp->Prop
 |.at j=>c=j
 |.to s=>o+off+c*s=z
def TlR (o z off len s p k:Nat):Prop:=∃c,o+off+c*s=z/\len<=c/\0<s/\((c=len/\p=o+off/\k=0)\/(c≠len/\p=o+off+len*s/\k=c-len))
theorem TlR.same {o z off len s p k I J:Nat} (h:TlR o z off len s p k) (U:TlR o z off len s I J):p=I/\k=J:=by
 obtain⟨c,h1,h2,h3,h4⟩:=h;obtain⟨c',a8,b0,b1,j⟩:=U;have hc:c=c':=Nat.eq_of_mul_eq_mul_right h3 (by omega);subst hc;rcases h4 with⟨a,b,d⟩|⟨a,b,d⟩<;>rcases j with⟨a',R,d'⟩|⟨a',R,d'⟩<;>first
  |exact absurd a a'
  |exact absurd a' a
  |exact⟨b.trans R.symm,d.trans d'.symm⟩
mutual
inductive DR (e:Env):AV->Value->Prop where
 |v (x:Value):DR e (.v x) x
 |ptr {b off g o z:Nat}:e b=some (g,o,z)->DR e (.ptr b off) (.pointer (some ⟨g,o+off,none⟩))
 |Bm {b off len g o z c:Nat} {cap:Cp}:e b=some (g,o,z)->CpR o z off c cap->len<=c->DR e (.Bm b off len cap) (.slice (some ⟨g,o+off,none⟩) len c)
 |mp {b g o z:Nat}:e b=some (g,o,z)->DR e (.mp b) (.map (some g))
 |S9 {b g o z:Nat}:e b=some (g,o,z)->DR e (.S9 b) (.func (.yield g) #[] #[])
 |tl {b off len s g o z p k:Nat}:e b=some (g,o,z)->TlR o z off len s p k->DR e (.tl b off len s) (.slice (some ⟨g,p,none⟩) 0 k)
 |agg {l:List AV} {xs:List Value}:BP e l xs->DR e (.agg l) (.agg xs.toArray)
 |N6 {l:List AV} {xs:List Value}:BP e l xs->DR e (.N6 l) (.tuple xs.toArray)
 |iface {t:TypeId} {x:AV} {y:Value}:DR e x y->DR e (.iface t x) (.iface t y)
 |fn {f:Fn} {a c:List AV} {xs ys:List Value}:BP e a xs->BP e c ys->DR e (.fn f a c) (.func f xs.toArray ys.toArray)
inductive BP (e:Env):List AV->List Value->Prop where
 |nil:BP e [] []
 |cons {x:AV} {y:Value} {l:List AV} {ys:List Value}:DR e x y->BP e l ys->BP e (x::l) (y::ys)
end
mutual
theorem DR.mono {e e':Env} (h:Fp e e'):∀ {x:AV} {y:Value},DR e x y->DR e' x y
 |_,_,.v x=>.v x
 |_,_,.ptr hb=>.ptr (h _ _ hb)
 |_,_,.Bm hb hc hl=>.Bm (h _ _ hb) hc hl
 |_,_,.mp hb=>.mp (h _ _ hb)
 |_,_,.S9 hb=>.S9 (h _ _ hb)
 |_,_,.tl hb ht=>.tl (h _ _ hb) ht
 |_,_,.agg hl=>.agg (BP.mono h hl)
 |_,_,.N6 hl=>.N6 (BP.mono h hl)
 |_,_,.iface hx=>.iface (DR.mono h hx)
 |_,_,.fn ha hc=>.fn (BP.mono h ha) (BP.mono h hc)
theorem BP.mono {e e':Env} (h:Fp e e'):∀ {l:List AV} {ys:List Value},BP e l ys->BP e' l ys
 |_,_,.nil=>.nil
 |_,_,.cons hx hl=>.cons (DR.mono h hx) (BP.mono h hl)
end
section
variable {e:Env}
theorem BP.length {l:List AV} {ys:List Value} (h:BP e l ys):ys.length=l.length:=by
 induction l generalizing ys with
 |nil=>cases h;rfl
 |cons x l ih=>
  cases h with
  |cons o j=>rw[bP,bP,ih j]
theorem BP.get {l:List AV} {ys:List Value} (h:BP e l ys) {i:Nat} {x:AV} (j:l[i]?=some x):∃y,ys[i]?=some y/\DR e x y:=by
 induction l generalizing ys i with
 |nil=>cases j
 |cons a l ih=>
  cases h with
  |cons o p=>
   cases i with
   |zero=>cases j;exact⟨_,rfl,o⟩
   |succ i=>exact ih p j
theorem BP.none {l:List AV} {ys:List Value} (h:BP e l ys) {i:Nat} (j:l[i]?=none):ys[i]?=none:=by
 rw[iW]at j⊢;rw[h.length];exact j
theorem BP.append {l o:List AV} {ys j:List Value} (h:BP e l ys) (p:BP e o j):BP e (l++o) (ys++j):=by
 induction l generalizing ys with
 |nil=>cases h;exact p
 |cons a l ih=>
  cases h with
  |cons I J=>exact .cons I (ih J)
theorem BP.take {l:List AV} {ys:List Value} (h:BP e l ys) (n:Nat):BP e (l.take n) (ys.take n):=by
 induction l generalizing ys n with
 |nil=>cases h;simp;exact .nil
 |cons a l ih=>
  cases h with
  |cons j o=>
   cases n with
   |zero=>exact .nil
   |succ n=>exact .cons j (ih o n)
theorem BP.drop {l:List AV} {ys:List Value} (h:BP e l ys) (n:Nat):BP e (l.drop n) (ys.drop n):=by
 induction l generalizing ys n with
 |nil=>cases h;simp;exact .nil
 |cons a l ih=>
  cases h with
  |cons o j=>
   cases n with
   |zero=>exact .cons o j
   |succ n=>exact ih j n
theorem BP.set {l:List AV} {ys:List Value} (h:BP e l ys) (i:Nat) {x:AV} {y:Value} (o:DR e x y):BP e (l.set i x) (ys.set i y):=by
 induction l generalizing ys i with
 |nil=>cases h;exact .nil
 |cons a l ih=>
  cases h with
  |cons p j=>
   cases i with
   |zero=>exact .cons o j
   |succ i=>exact .cons p (ih j i)
theorem BP.map {α:Type} {f:α->AV} {g:α->Value}:∀(l:List α),(∀x∈l,DR e (f x) (g x))->BP e (l.map f) (l.map g)
 | [],_=>.nil
 |x::l,h=>.cons (h x (.head _)) (BP.map l fun y j=>h y (.tail _ j))
theorem BP.flat (l:List Value):BP e (l.map .v) l:=by
 induction l with
 |nil=>exact .nil
 |cons x l ih=>exact .cons (.v x) ih
theorem VB {x:AV} {y z:Value} (h:DR e x y) (j:x.flat=some z):y=z:=by
 cases h with
 |v x=>cases j;rfl
 |fn ha o=>
  rename_i f a c xs ys;cases a with
  |cons _ _=>cases j
  |nil=>
   cases c with
   |cons _ _=>cases j
   |nil=>cases ha;cases o;cases j;rfl
 |_=>cases j
theorem Mp {l:List AV} {ys:List Value} (h:BP e l ys):∀ {r:List Value},FO l=some r->ys=r:=by
 induction l generalizing ys with
 |nil=>intro r j;cases h;cases j;rfl
 |cons x l ih=>
  intro r j;cases h with
  |cons o p=>
   unfold FO at j;split at j
   ·rename_i a b I J;cases j;rw[VB o I,ih p J]
   ·cases j
theorem Hn {l:List AV} {ys:List Value} (h:BP e l ys):DR e (ND l) (.agg ys.toArray):=by
 unfold ND;split
 ·rename_i r j;rw[Mp h j];exact .v _
 ·exact .agg h
theorem Hm {l:List AV} {ys:List Value} (h:BP e l ys):DR e (Nq l) (.tuple ys.toArray):=by
 unfold Nq;split
 ·rename_i r j;rw[Mp h j];exact .v _
 ·exact .N6 h
theorem Nb {x:AV} {y:Value} (h:DR e x y):BP e x.cells y.cells.toList:=by
 cases h with
 |v _=>
  cases y<;>first
   |exact BP.flat _
   |exact .cons (.v _) .nil
 |agg o=>exact o
 |ptr j=>exact .cons (.ptr j) .nil
 |Bm j p o=>exact .cons (.Bm j p o) .nil
 |mp j=>exact .cons (.mp j) .nil
 |S9 j=>exact .cons (.S9 j) .nil
 |tl j I=>exact .cons (.tl j I) .nil
 |N6 o=>exact .cons (.N6 o) .nil
 |iface J=>exact .cons (.iface J) .nil
 |fn ha p=>exact .cons (.fn ha p) .nil
theorem QD {x:AV} {y:Value} (h:DR e x y) (j:K4 x=true):y.oneCell'=true:=by
 cases h with
 |v _=>cases y<;>first|rfl|cases j
 |agg _=>cases j
 |N6 _=>cases j
 |_=>rfl
end
structure TR (e:Env) (F:Fr) (tmps:Array Value):Prop where
 size:tmps.size=F.n
 le:F.n<=1024
 get:∀i,DR e (F.get i) (tmps[i]?.getD undef)
theorem TR.mono {e j:Env} {F:Fr} {tmps:Array Value} (h:TR e F tmps) (he:Fp e j):TR j F tmps:=⟨h.size,h.le,fun i=>(h.get i).mono he⟩
def LsR (r:Loop):LS->Prop
 |.ready=>r.state=.ready/\r.pending=none
 |.busy=>r.state=.busy
 |.done c=>r.state=.done/\r.pending=some c
def I3 (e:Env) (w:World) (g o z:Nat):AB->Prop
 |.cells l t=>∃j:Array Value,w.heap[g]?=some (.cells j t (0,0))/\j.size=z/\o+l.length<=z/\BP e l ((j.toList.drop o).take l.length)
 |.map es c=>∃es':List MapEntry,w.heap[g]?=some (.map es'.toArray c)/\BP e (es.map (·.1)) (es'.map (·.key))/\BP e (es.map (·.2.1)) (es'.map (·.val))/\es.map (·.2.2)=es'.map (·.born)
 |.iter m since seen last=>o=0/\∃I J R,e m=some (I,J,R)/\w.heap[g]?=some (.mapIter (some I) since seen.toArray last)
 |.dfr=>w.heap[g]?=some (.deferred (some []))
 |.loop F U p bd s=>∃r:Loop,w.heap[g]?=some (.loop r)/\F.m=[]/\r.params.toList=U/\r.assign=p/\r.body=bd/\TR e F r.tmps/\LsR r s
 |.NK l=>∃(j:Array Value) (t:TypeId) (m:Nat×Nat),w.heap[g]?=some (.cells j t m)/\j.size=z/\o+l.length<=z/\BP e l ((j.toList.drop o).take l.length)
theorem I3.mono {e e':Env} {w:World} {g o z:Nat} {x:AB} (h:I3 e w g o z x) (he:Fp e e'):I3 e' w g o z x:=by
 cases x with
 |cells l t=>obtain⟨R,j,p,I,J⟩:=h;exact⟨R,j,p,I,J.mono he⟩
 |map es c=>obtain⟨es',j,p,I,J⟩:=h;exact⟨es',j,p.mono he,I.mono he,J⟩
 |iter m c s l=>obtain⟨U,g',o',z',j,p⟩:=h;exact⟨U,g',o',z',he _ _ j,p⟩
 |dfr=>exact h
 |loop F ps b0 bd s=>obtain⟨r,j,U,p,I,J,h5,h6⟩:=h;exact⟨r,j,U,p,I,J,h5.mono he,h6⟩
 |NK l=>obtain⟨R,t,m,j,p,I,J⟩:=h;exact⟨R,t,m,j,p,I,J.mono he⟩
theorem I3.heap {e:Env} {w J:World} {g o z:Nat} {x:AB} (h:I3 e w g o z x) (hw:J.heap[g]?=w.heap[g]?):I3 e J g o z x:=by
 cases x with
 |cells l t=>obtain⟨I,j,p⟩:=h;exact⟨I,hw.trans j,p⟩
 |map es c=>obtain⟨es',j,p⟩:=h;exact⟨es',hw.trans j,p⟩
 |iter m c s l=>obtain⟨R,U,o',z',j,p⟩:=h;exact⟨R,U,o',z',j,hw.trans p⟩
 |dfr=>exact hw.trans h
 |loop F ps a7 bd s=>obtain⟨r,j,p⟩:=h;exact⟨r,hw.trans j,p⟩
 |NK l=>obtain⟨I,t,m,j,p⟩:=h;exact⟨I,t,m,hw.trans j,p⟩
theorem I3.lt {e:Env} {w:World} {g o z:Nat} {x:AB} (h:I3 e w g o z x):g<w.heap.size:=by
 have:∃y,w.heap[g]?=some y:=by
  cases x with
  |cells l t=>obtain⟨p,j,_⟩:=h;exact⟨_,j⟩
  |map es c=>obtain⟨es',j,_⟩:=h;exact⟨_,j⟩
  |iter m c s l=>obtain⟨_,R,U,z',_,j⟩:=h;exact⟨_,j⟩
  |dfr=>exact⟨_,h⟩
  |loop F ps I bd s=>obtain⟨r,j,_⟩:=h;exact⟨_,j⟩
  |NK l=>obtain⟨p,t,m,j,_⟩:=h;exact⟨_,j⟩
 obtain⟨y,J⟩:=this;exact(aU.1 J).1
structure B8 (S:Nat->Prop) (w w':World):Prop where
 os:w'.os=w.os
 tape:w'.tape=w.tape
 output:w'.output=w.output
 size:w.heap.size<=w'.heap.size
 block:∀k,S k->w'.heap[k]?=w.heap[k]?
theorem B8.refl (S:Nat->Prop) (w:World):B8 S w w:=⟨rfl,rfl,rfl,aL _,fun _ _=>rfl⟩
theorem B8.trans {S:Nat->Prop} {a b c:World} (h:B8 S a b) (k:B8 S b c):B8 S a c:=
 ⟨k.os.trans h.os,k.tape.trans h.tape,k.output.trans h.output,aV h.size k.size,fun i hi=>(k.block i hi).trans (h.block i hi)⟩
theorem B8.drew {S:Nat->Prop} {a b:World} (h:B8 S a b):B8 S a b.drew:=⟨h.os,h.tape,h.output,h.size,h.block⟩
theorem B8.mono {S j:Nat->Prop} {a b:World} (h:B8 S a b) (o:∀k,j k->S k):B8 j a b:=⟨h.os,h.tape,h.output,h.size,fun k p=>h.block k (o k p)⟩
theorem B8.below {n:Nat} {a b:World} (h:B8 (·<n) a b):Below n a b:=⟨h.os,h.tape,h.output,h.size,h.block⟩
theorem B8.AK {S:Nat->Prop} {n:Nat} {a b:World} (h:Below n a b) (j:∀k,S k->k<n):B8 S a b:=⟨h.os,h.tape,h.output,h.size,fun k o=>h.block k (j k o)⟩
structure CJ where
 S:Nat->Prop
 R:Nat->Prop
structure AO (base:CJ) (e:Env) (H:AH) (w:World):Prop where
 size:∀g,base.S g->g<w.heap.size
 KN:∀b,base.R b->b<H.next/\e b=none
 next:H.next<=2^depth
 fresh:∀b,H.next<=b->e b=none
 Bq:∀b x,b<2^depth->H.get b=some x->∃g o z,e b=some (g,o,z)/\¬base.S g/\I3 e w g o z x
 inj:∀b b' x x' p p',b<2^depth->b'<2^depth->H.get b=some x->H.get b'=some x'->e b=some p->e b'=some p'->b≠b'->p.1≠p'.1
theorem AO.lt {base:CJ} {e:Env} {H:AH} {w:World} (h:AO base e H w) {b:Nat} {p:Nat×Nat×Nat} (j:e b=some p):b<H.next:=by
 refine Nat.lt_of_not_le fun hle=>?_
 rw[h.fresh b hle]at j;cases j
theorem AO.Vc {base:CJ} {e:Env} {H:AH} {w:World} (h:AO base e H w) {b:Nat} {p:Nat×Nat×Nat} (j:e b=some p):b<2^depth:=aK (h.lt j) h.next
theorem AO.drew {base:CJ} {e:Env} {H:AH} {w:World} (h:AO base e H w):AO base e H w.drew:=⟨h.size,h.KN,h.next,h.fresh,fun b x j p=>by obtain⟨g,o,z,I,J,R⟩:=h.Bq b x j p;exact⟨g,o,z,I,J,R.heap rfl⟩,h.inj⟩
section
variable {base:CJ} {e:Env} {H H':AH} {w:World} {P:Program}
theorem Vw {g o z off n:Nat} {I:List AV} {J:Array Value} {t:TypeId} {m:Nat×Nat} (U:w.heap[g]?=some (.cells J t m)) (h5:o+I.length<=z) (h4:J.size=z) (R:BP e I ((J.toList.drop o).take I.length)) (hle:off+n<=I.length) :
  ∃ys,BP e ((I.drop off).take n) ys/\ys.length=n/\w.rangeAt g (o+off) ys:=by
 refine⟨_,(R.drop off).take n,?_,fun j v p=>?_⟩
 ·have:=R.length;rw[bF,dM,this];omega
 ·rw[cE]at p;split at p
  ·rw[dS,cE]at p;split at p
   ·rw[dS]at p;rw[cell_of_row w g _ J t m U,show o+off+j=o+(off+j)by omega];simpa using p
   ·cases p
  ·cases p
theorem IJ (h:AO base e H w) {b off n g o z:Nat} {l:List AV} (j:I5 H b off n=some l) (R:e b=some (g,o,z)) :
  ∃ys,BP e l ys/\ys.length=n/\w.rangeAt g (o+off) ys:=by
 unfold I5 at j;split at j
 ·rename_i U t hg;have p:=h.Vc R;obtain⟨g',o',z',J,h2,cs,h3,h4,h5,h6⟩:=h.Bq b _ p hg;rw[R]at J;cases J;cases I:(off+n).ble U.length with
  |false=>rw[I]at j;cases j
  |true=>
   rw[I]at j;cases j;exact Vw h3 h5 h4 h6 (bQ I)
 ·rename_i U hg;have p:=h.Vc R;obtain⟨g',o',z',J,h2,cs,t,m,h3,h4,h5,h6⟩:=h.Bq b _ p hg;rw[R]at J;cases J;cases I:(off+n).ble U.length with
  |false=>rw[I]at j;cases j
  |true=>
   rw[I]at j;cases j;exact Vw h3 h5 h4 h6 (bQ I)
 ·cases j
theorem I7 {α:Type} (p:List α) (ys:List α) (o off n:Nat) (h:o+off+ys.length<=p.length) (hn:off+ys.length<=n) (R:o+n<=p.length) :
  ((p.take (o+off)++ys++p.drop (o+off+ys.length)).drop o).take n=((p.drop o).take n).take off++(ys++((p.drop o).take n).drop (off+ys.length)):=by
 apply fQ;intro j;rw[cE,dG];by_cases I:j<n
 ·rw[if_pos I,dS];by_cases U:j<off
  ·rw[bZ (by rw[bF];omega),bZ (by rw[bF,bF,dM];omega),cE,if_pos (by omega),cE,if_pos U,cE,if_pos I,dS]
  ·rw[bX (l₁:=p.take (o+off)) (by rw[bF];omega),bX (l₁:=((p.drop o).take n).take off) (by rw[bF,bF,dM];omega)];have e1:(p.take (o+off)).length=o+off:=by rw[bF];omega
   have e2:(((p.drop o).take n).take off).length=off:=by rw[bF,bF,dM];omega
   rw[e1,e2,show o+j-(o+off)=j-off by omega];by_cases J:j-off<ys.length
   ·rw[bZ J,bZ J]
   ·rw[bX (by omega),bX (by omega),dS,dS,cE,if_pos (by omega),dS];congr 1;omega
 ·rw[if_neg I,gX];rw[aO,aO,bF,bF,dM,dM,bF,dM];omega
theorem Kj (h:AO base e H w) {b off g o z:Nat} {U:List AV} {ys:List Value} (hs:Gb H b off U=some H') (hb:e b=some (g,o,z)) (hv:BP e U ys) :
  ∃w',(storeCells ⟨g,o+off,none⟩ ys).run P w=.ok () w'/\AO base e H' w'/\B8 base.S w w'/\H'.next=H.next:=by
 unfold Gb at hs;split at hs
 ·rename_i l0 t hg;have j:=h.Vc hb;obtain⟨g',o',z',h1,h2,cs,h3,h4,h5,h6⟩:=h.Bq b _ j hg;rw[hb]at h1;cases h1;cases hc:(off+U.length).ble l0.length&&U.all K4 with
  |false=>rw[hc]at hs;cases hs
  |true=>
   rw[hc]at hs;cases hs;rw[aG]at hc;have hle:=bQ hc.1;have b3:=hv.length;have b4:∀v∈ys,v.oneCell'=true:=fun v c4=>by
    obtain⟨i,hi⟩:=eV.1 c4;have j:i<U.length:=by rw[<-b3];exact(bC.1 hi).1
    obtain⟨y,hy,hd⟩:=hv.get (aQ j);rw[hy]at hi;cases hi;exact QD hd (aY.1 hc.2 _ (bK j))
   have hr:=run_storeCells_at (P:=P) g (o+off) t ys 0 cs w h3 (by omega) b4;rw[dD]at hr;obtain⟨R,hR⟩:∃R,(cs.toList.take (o+off)++ys++cs.toList.drop (o+off+ys.length)).toArray=R:=⟨_,rfl⟩;rw[hR]at hr;have b5:(w.setRow g R).heap[g]?=some (.cells R t (0,0)):=setRow_heap w g cs R t (0,0) h3;have b6:∀k,k≠g->(w.setRow g R).heap[k]?=w.heap[k]?:=fun k hk=>setRow_other w g k R hk
   have b7:(w.setRow g R).heap.size=w.heap.size:=setRow_size w g R;refine⟨_,hr,⟨by rw[b7];exact h.size,h.KN,h.next,h.fresh,fun b' x I J=>?_,fun b1 b2 x1 x2 p1 p2 b8 b9 c8 c9 e0 e1 e2=>?_⟩,⟨rfl,rfl,rfl,by rw[b7];exact aL _,fun k hk=>setRow_other w g k R (fun he=>h2 (he▸hk))⟩,rfl⟩
   ·rw[AH.DG _ _ _ _ j I]at J;by_cases p:b'=b
    ·rw[if_pos p]at J;cases J;refine⟨g,o,z,by rw[p];exact hb,h2,R,b5,?_,?_,?_⟩
     ·rw[<-hR];simp;omega
     ·rw[aO,aO,bF,dM];omega
     ·rw[<-hR];show BP e _ (((cs.toList.take (o+off)++ys++cs.toList.drop (o+off+ys.length)).drop o).take _);have hlen:(l0.take off++(U++l0.drop (off+U.length))).length=l0.length:=by
       rw[aO,aO,bF,dM];omega
      rw[hlen,I7 cs.toList ys o off l0.length (by simp;omega) (by omega) (by simp;omega),b3];exact(h6.take off).append (hv.append (h6.drop _))
    ·rw[if_neg p]at J;obtain⟨g2,o2,z2,k1,k2,k3⟩:=h.Bq b' x I J;exact⟨g2,o2,z2,k1,k2,k3.heap (b6 g2 (h.inj b' b x _ _ _ I j J hg k1 hb p))⟩
   ·have alive:∀b',b'<2^depth->∀x,(H.put b (some (.cells (l0.take off++(U++l0.drop (off+U.length))) t))).get b'=some x->∃x',H.get b'=some x':=fun b' I x J=>by
     rw[AH.DG _ _ _ _ j I]at J;by_cases p:b'=b
     ·exact⟨_,by rw[p];exact hg⟩
     ·rw[if_neg p]at J;exact⟨_,J⟩
    obtain⟨y1,e3⟩:=alive b1 b8 _ c8;obtain⟨y2,e4⟩:=alive b2 b9 _ c9;exact h.inj b1 b2 _ _ _ _ b8 b9 e3 e4 e0 e1 e2
 ·cases hs
def Env.new (e:Env) (n:Nat) (p:Nat×Nat×Nat):Env:=fun b=>if b=n then some p else e b
theorem EF (h:AO base e H w) (p:Nat×Nat×Nat):Fp e (Env.new e H.next p):=fun b q j=>by
 unfold Env.new;rw[if_neg (Nat.ne_of_lt (h.lt j))];exact j
theorem Gw (h:AO base e H w) (x:AB) (hn:H.next+1<=2^depth) (obj:Obj) (o z:Nat) (hx:I3 (Env.new e H.next (w.heap.size,o,z)) (w.alloc obj) w.heap.size o z x) :
  AO base (Env.new e H.next (w.heap.size,o,z)) (H.alloc x) (w.alloc obj)/\B8 base.S w (w.alloc obj):=by
 have hle:=EF h (w.heap.size,o,z);have b0:(w.alloc obj).heap.size=w.heap.size+1:=aW _ _;refine⟨⟨fun g hg=>by rw[b0];have:=h.size g hg;omega,fun b U=>⟨iZ (h.KN b U).1,by unfold Env.new;rw[if_neg (Nat.ne_of_lt (h.KN b U).1)];exact(h.KN b U).2⟩,hn,fun b U=>?_,fun b y U hy=>?_,fun b1 b2 x1 x2 p1 p2 a1 J R p I j b5=>?_⟩,⟨rfl,rfl,rfl,by rw[b0];omega,fun k hk=>fL w obj k (h.size k hk)⟩⟩
 ·have c7:H.next+1<=b:=U;unfold Env.new;rw[if_neg (by omega)];exact h.fresh b (by omega)
 ·rw[AH.ED _ _ _ (by omega) U]at hy;by_cases a6:b=H.next
  ·rw[if_pos a6]at hy;cases hy;exact⟨w.heap.size,o,z,by unfold Env.new;rw[if_pos a6],fun b8=>eM _ (h.size _ b8),hx⟩
  ·rw[if_neg a6]at hy;obtain⟨g2,o2,z2,k1,k2,k3⟩:=h.Bq b y U hy;exact⟨g2,o2,z2,hle _ _ k1,k2,(k3.mono hle).heap (fL w obj g2 k3.lt)⟩
 ·rw[AH.ED _ _ _ (by omega) a1]at R;rw[AH.ED _ _ _ (by omega) J]at p;by_cases e1:b1=H.next
  ·have e2:b2≠H.next:=fun h2=>b5 (e1.trans h2.symm)
   rw[if_neg e2]at p;obtain⟨g2,o2,z2,k1,k2,k3⟩:=h.Bq b2 _ J p;rw[hle _ _ k1]at j;unfold Env.new at I;rw[if_pos e1]at I;cases I;cases j;have:=k3.lt;exact fun he=>by
    have c2:w.heap.size=g2:=he;omega
  ·rw[if_neg e1]at R;obtain⟨g1,o1,z1,k1,k2,k3⟩:=h.Bq b1 _ a1 R;rw[hle _ _ k1]at I;cases I;by_cases e2:b2=H.next
   ·unfold Env.new at j;rw[if_pos e2]at j;cases j;have:=k3.lt;exact fun he=>by
     have c2:g1=w.heap.size:=he;omega
   ·rw[if_neg e2]at p;obtain⟨g2,o2,z2,m1,m2,m3⟩:=h.Bq b2 _ J p;rw[hle _ _ m1]at j;cases j;exact h.inj b1 b2 _ _ _ _ a1 J R p k1 m1 b5
theorem Yq (h:AO base e H w) {l:List AV} {ys more:List Value} (t:TypeId) (o:H.next+1<=2^depth) (j:BP e l ys) :
  AO base (Env.new e H.next (w.heap.size,0,(ys++more).length)) (H.alloc (.cells l t)) (w.alloc (.cells (ys++more).toArray t))/\B8 base.S w (w.alloc (.cells (ys++more).toArray t)):=by
 refine Gw h _ o _ 0 _ ⟨(ys++more).toArray,Bw.new _ _ _,by simp,?_,?_⟩
 ·rw[aO,j.length];omega
 ·show BP _ l (((ys++more).drop 0).take l.length);rw[aS,<-j.length,List.take_left];exact j.mono (EF h _)
end
end Ev
end
section
open Go.RowKit
namespace Ev
structure B3 (P:Program) (T:Tb):Prop where
 FF:∀t i,T.FF t=some i->P.info? t=some i
 func:∀f fn,T.func f=some fn->P.funcs[f]?=some fn
 ng : ∀f fn,T.func f = some fn → (fn.name == "runtime.NumGoroutine") = false
 mx:P.follows .mixedOrders=true
section
variable {P:Program} {T:Tb} (hT:B3 P T)
include hT
theorem Ea {t:TypeId} {d:TypeDesc} (h:T.I0 t=some d):P.underlying t=some d:=by
 unfold Tb.I0 at h;split at h
 ·rename_i i hi;have p:=hT.FF t i hi;unfold Program.underlying;rw[p];split at h
  ·rename_i n u o;obtain⟨desc,_,_,_,_,_,_,_,_,_⟩:=i;cases o;split at h
   ·rename_i j I;show(P.info? u).map (·.desc)=_;rw[hT.FF u j I];exact h
   ·cases h
  ·rename_i o;obtain⟨desc,_,_,_,_,_,_,_,_,_⟩:=i;cases desc<;>first
    |exact h
    |exact absurd rfl (o _ _)
 ·cases h
theorem L5 {t:TypeId} {n:Nat} (h:EZ T t=some n):(P.info? t).map (·.size)=some n:=by
 unfold EZ at h;cases hi:T.FF t with
 |none=>rw[hi]at h;cases h
 |some i=>rw[hi]at h;rw[hT.FF t i hi];exact h
theorem Cx {t:TypeId} {n:Nat} (h:EZ T t=some n) (w:World):(sizeOf t).run P w=.ok n w:=by
 have:=L5 hT h;cases hi:P.info? t with
 |none=>rw[hi]at this;cases this
 |some i=>
  rw[hi]at this;cases this;simp[sizeOf,typeInfo,aX,hi]
theorem Bn {t:TypeId} {d:TypeDesc} (h:T.I0 t=some d) (w:World):(underlying t).run P w=.ok d w:=cJ (Ea hT h) w
theorem FD {t:TypeId} {b:Bool} (h:Ll T t=some b) (w:World):(isAgg t).run P w=.ok b w:=by
 unfold Ll at h;cases hu:T.I0 t with
 |none=>rw[hu]at h;cases h
 |some d=>
  rw[hu]at h;unfold isAgg;rw[aX,Bn hT hu w];cases d<;>cases h<;>rfl
theorem Gx {t:TypeId} {l:List AV} (h:CG T t=some l):∃z,(∀w,(zeroValue t).run P w=.ok z w)/\l=z.cells.toList.map .v:=by
 unfold CG at h;cases hi:T.FF t with
 |none=>rw[hi]at h;cases h
 |some i=>
  rw[hi]at h;dsimp only at h;cases j:i.zero with
  |none=>rw[j]at h;cases h
  |some z=>
   rw[j]at h;cases h;refine⟨z,fun w=>?_,rfl⟩;simp[zeroValue,typeInfo,aX,hT.FF t i hi,j]
end
def Cl (P:Program) (base:CJ) (e:Env) (w:World) (s:Sem Next) (x:AV) (H':AH):Prop:=
 ∃j o n r,Fp e j/\s.run P w=.ok n o/\(n=.value r\/(n=.skip/\r=Go.undef))/\DR j x r/\AO base j H' o/\B8 base.S w o
section
variable {P:Program} {T:Tb} {base:CJ} {e:Env} {H H':AH} {w:World} {x:AV}
theorem AZ {s:Sem Value} {r:Value} (h:AO base e H w) (j:s.run P w=.ok r w) (o:DR e x r):Cl P base e w (do pure (.value (<-s))) x H:=
 ⟨e,w,.value r,r,Fp.refl e,by simp[j],.inl rfl,o,h,B8.refl _ _⟩
theorem EH {r:Value} (h:AO base e H w) (j:DR e x r):Cl P base e w (pure (.value r)) x H:=
 ⟨e,w,.value r,r,Fp.refl e,rfl,.inl rfl,j,h,B8.refl _ _⟩
theorem MU {α:Type} {s:Sem α} {a:α} (h:L3 P s=some a) (w:World):s.run P w=.ok a w:=by
 induction s with
 |pure b=>cases h;rfl
 |program k ih=>exact ih P h
 |mark m k ih=>exact ih h
 |_=>cases h
theorem CM {ev:Operand->AV} {o:Oper} {ρ:Operand->Value} (hr:AO base e H w) (J:∀y∈o.op.operands,DR e (ev y) (ρ y)) (h:CI P ev o H=some (.val x H')):Cl P base e w (execOp ρ o) x H'/\H'=H:=by
 unfold CI at h;split at h
 ·cases h
 ·cases h
 ·rename_i I _;split at h
  ·rename_i R U;have a1:∀y∈o.op.operands,(ev y).flat=some (ρ y):=fun y j=>by
    have:∀(l:List Operand) (R:List Value),FO (l.map ev)=some R->∀y∈l,(ev y).flat≠none:=by
     intro l
     induction l with
     |nil=>intro _ _ y j;cases j
     |cons a l ih=>
      intro R p y j;rw[eY]at p;unfold FO at p;split at p
      ·rename_i u r h1 h2;rcases bJ.1 j with rfl|j
       ·rw[h1];exact fun h=>by cases h
       ·exact ih r h2 y j
      ·cases p
    have a6:=this _ _ U y (Array.mem_toList_iff.2 j);cases hf:(ev y).flat with
    |none=>exact absurd hf a6
    |some z=>rw[VB (J y j) hf]
   have hex:execOp (fun y=>(ev y).flat.getD Go.undef) o=execOp ρ o:=execOp_congr o (fun cs b a7=>I cs b a7) fun y j=>by rw[a1 y j];rfl
   rw[hex]at h;split at h
   ·rename_i v p;cases h;exact⟨⟨e,w,.value v,v,Fp.refl e,MU p w,.inl rfl,.v v,hr,B8.refl _ _⟩,rfl⟩
   ·rename_i p;cases h;exact⟨⟨e,w,.skip,Go.undef,Fp.refl e,MU p w,.inr ⟨rfl,rfl⟩,.v _,hr,B8.refl _ _⟩,rfl⟩
   ·cases h
  ·cases h
theorem ZaV {c a b:AV} {j a' o:Value} (p:AO base e H w) (I:DR e c j) (ha:DR e a a') (J:DR e b o) (h:Lk c a b H=some (.val x H')) :
  Cl P base e w (do pure (.value (if <-asBool j then a' else o))) x H':=by
 unfold Lk at h;split at h
 ·cases h;cases I;exact EH p ha
 ·cases h;cases I;exact EH p J
 ·cases h
theorem Tm {t:AV} {o:Value} {i:Nat} (p:AO base e H w) (I:DR e t o) (h:Fh t i H=some (.val x H')) :
  Cl P base e w (do pure (.value (<-Instr.extract o i))) x H':=by
 unfold Fh at h;split at h
 ·rename_i l;cases I with
  |N6 J=>
   rename_i xs;cases j:l[i]? with
   |none=>rw[j]at h;cases h
   |some y=>
    rw[j]at h;cases h;obtain⟨r,R,U⟩:=J.get j;refine AZ (r:=r) p ?_ U;simp[Instr.extract,R]
 ·rename_i vs;cases I;cases j:vs[i]? with
  |none=>rw[j]at h;cases h
  |some y=>
   rw[j]at h;cases h;refine AZ (r:=y) p ?_ (.v y);simp[Instr.extract,j]
 ·cases h
theorem Pt (hT:B3 P T) {t:TypeId} {b off g o z:Nat} (hr:AO base e H w) (hb:e b=some (g,o,z)) (h:Ni T H t b off=some x) :
  ∃r,(loadVar t ⟨g,o+off,none⟩).run P w=.ok r w/\DR e x r:=by
 unfold Ni at h;split at h
 ·rename_i j;split at h
  ·rename_i n hn;split at h
   ·rename_i l I;cases h;obtain⟨ys,J,h2,R⟩:=IJ hr I hb;have p:∃d,P.underlying t=some d/\d.isRow=true:=by
     unfold Ll at j;cases hu:T.I0 t with
     |none=>rw[hu]at j;cases j
     |some d=>
      rw[hu]at j;refine⟨d,Ea hT hu,?_⟩;cases d<;>first|rfl|cases j
    obtain⟨d,U,a1⟩:=p;exact⟨_,run_loadVar_mid w g (o+off) t ys d R U a1 (by rw[h2];exact L5 hT hn),Hn J⟩
   ·cases h
  ·cases h
 ·rename_i j;split at h
  ·rename_i y I;cases h;obtain⟨ys,J,h2,R⟩:=IJ hr I hb;cases J with
   |cons hx hn=>
    rename_i r ys;refine⟨r,?_,hx⟩;have hc:=R 0 r rfl;rw[dD]at hc;simp[loadVar,aX,FD hT j w,load,Sem.run,hc]
  ·cases h
 ·cases h
theorem XT (hT:B3 P T) {t:TypeId} {a:AV} {a':Value} (p:AO base e H w) (ha:DR e a a') (h:Ln T t a H=some (.val x H')) :
  Cl P base e w (do pure (.value (<-Instr.loadAt t a'))) x H':=by
 unfold Ln at h;split at h
 ·rename_i b off;cases ha with
  |ptr I=>
   rename_i g o z;cases j:Ni T H t b off with
   |none=>rw[j]at h;cases h
   |some y=>
    rw[j]at h;cases h;obtain⟨r,J,R⟩:=Pt hT p I j;refine AZ (r:=r) p ?_ R;simp[Instr.loadAt,Instr.sureAddr,J]
 ·cases h
theorem T0 (hT:B3 P T) {t:TypeId} {a y:AV} {a' y':Value} (R:AO base e H w) (ha:DR e a a') (U:DR e y y') (h:Ko T t a y H=some (.val x H')) :
  Cl P base e w (do Instr.storeAt t a' y';pure .skip) x H':=by
 unfold Ko at h;split at h
 ·rename_i b off;cases ha with
  |ptr hb=>
   rename_i g o z;cases j:Pz T H t b off y with
   |none=>rw[j]at h;cases h
   |some H2=>
    rw[j]at h;cases h;unfold Pz at j;split at j
    ·rename_i n hn;have J:=Nb U;cases p:(n==y.cells.length)with
     |false=>rw[p]at j;cases j
     |true=>
      rw[p]at j;have I:n=y.cells.length:=by simpa using p
      obtain⟨w',h1,h2,h3,_⟩:=Kj (P:=P) R j hb J;refine⟨e,w',.skip,Go.undef,Fp.refl e,?_,.inr ⟨rfl,rfl⟩,.v _,h2,h3⟩;have hlen:y'.cells.size=n:=by rw[I,<-J.length];simp
      simp[Instr.storeAt,Instr.sureAddr,storeVar,aX,Cx hT hn w,hlen,h1]
    ·cases j
 ·cases h
theorem Gm {l:List AV} {ys more:List Value} (t:TypeId) (p:AO base e H w) (I:H.next+1<=2^depth) (J:BP e l ys) :
  ∃j o,Fp e j/\(newRow t (ys++more).toArray).run P w=.ok ⟨w.heap.size,0,none⟩ o/\j H.next=some (w.heap.size,0,(ys++more).length)/\AO base j (H.alloc (.cells l t)) o/\B8 base.S w o:=by
 obtain⟨R,U⟩:=Yq (more:=more) p t I J;refine⟨_,_,EF p _,rfl,?_,R,U⟩;unfold Env.new;rw[if_pos rfl]
theorem Ta (hT:B3 P T) {t:TypeId} (o:AO base e H w) (h:JS T t H=some (.val x H')) (p:H'.next<=2^depth) :
  Cl P base e w (do pure (.value (<-Instr.alloc t true (.tuple #[])))) x H':=by
 unfold JS at h;split at h
 ·rename_i l I;cases h;obtain⟨z,J,rfl⟩:=Gx hT I;obtain⟨R,U,k1,j,k3,k4,k5⟩:=Gm (P:=P) (more:=[]) t o p (BP.flat z.cells.toList);rw[cP,fY]at j;refine⟨R,U,_,_,k1,?_,.inl rfl,.ptr k3,k4,k5⟩;simp[Instr.alloc,aX,J,newVar,j]
 ·cases h
theorem Yo {t:TypeId} {y:AV} {y':Value} (o:AO base e H w) (p:DR e y y') (I:H.next+1<=2^depth) :
  Cl P base e w (do pure (.value (<-Instr.box t y'))) (.ptr H.next 0) (H.alloc (.cells y.cells t)):=by
 obtain⟨J,R,U,j,k3,k4,k5⟩:=Gm (P:=P) (more:=[]) t o I (Nb p);rw[cP,fY]at j;refine⟨J,R,_,_,U,?_,.inl rfl,.ptr k3,k4,k5⟩;simp[Instr.box,newVar,j]
theorem ZQ {y:AV} {y':Value} {o:Oper} {ρ:Operand->Value} {a:Operand} (J:o.op=.nilCheck a) (j:ρ a=y') (p:AO base e H w) (I:DR e y y') (h:Pb y H=some (.val x H')) :
  Cl P base e w (execOp ρ o) x H':=by
 unfold execOp;rw[J];dsimp only;rw[j];unfold Pb at h;split at h
 ·cases h;cases I with
  |ptr R=>exact EH p (.ptr R)
 ·cases h;cases I with
  |fn ha U=>exact EH p (.fn ha U)
 ·cases h
theorem D9 {y:AV} {y':Value} {n:Nat} (j:DR e y y') (h:KB y=some n):∃k,y'=.int k (n:Int):=by
 unfold KB at h;split at h
 ·cases h;cases j;exact⟨_,rfl⟩
 ·cases h
end
end Ev
end
section
open Go.RowKit
namespace Ev
section
variable {P:Program} {T:Tb} {base:CJ} {e:Env} {H H':AH} {w:World} {x:AV}
theorem Y9 (J:B3 P T) {j:Array Field} {i o s:Nat} (h:Tk T j i=some (o,s)):∃f,j[i]?=some f/\f.offset=o/\EZ T f.type=some s:=by
 unfold Tk at h;split at h
 ·rename_i f p;split at h
  ·rename_i n I;cases h;exact⟨f,p,rfl,I⟩
  ·cases h
 ·cases h
theorem NH (p:B3 P T) {t:TypeId} {a:AV} {a':Value} {f:Nat} (I:AO base e H w) (ha:DR e a a') (h:DZ T t a f H=some (.val x H')) :
  Cl P base e w (do pure (.value (<-Instr.fieldAt t a' f))) x H':=by
 unfold DZ at h;split at h
 ·rename_i b off;cases ha with
  |ptr J=>
   rename_i g o z;split at h
   ·rename_i fs hu;split at h
    ·cases h
    ·rename_i R s j hp;cases h;obtain⟨fl,U,h2,h3⟩:=Y9 p hp;have j:s≠0:=j;refine AZ (r:=.pointer (some ⟨g,o+off+R,none⟩)) I ?_ (by rw[fJ];exact .ptr J);simp[Instr.fieldAt,Instr.sureAddr,aX,Bn p hu w,U,fieldPlace,Cx p h3 w,j,h2,Addr.add_mid]
    ·cases h
   ·cases h
 ·cases h
theorem Nc (I:B3 P T) {t:TypeId} {a i:AV} {a' i':Value} (hr:AO base e H w) (ha:DR e a a') (hi:DR e i i') (h:D3 T t a i H=some (.val x H')) :
  Cl P base e w (do pure (.value (<-Instr.indexAt t a' i'))) x H':=by
 unfold D3 at h;split at h
 ·rename_i n el b off len cap J hu;obtain⟨k,rfl⟩:=D9 hi J;cases j:Nat.blt n len with
  |false=>rw[j]at h;cases h
  |true=>
   rw[j]at h;have p:=fE ((dP).symm.trans (eq_true j));dsimp only[cond_true]at h;split at h
   ·rename_i s R;cases h;cases ha with
    |Bm U a8 b0=>
     rename_i g o z c;refine AZ (r:=.pointer (some ⟨g,o+off+n*s,none⟩)) hr ?_ (by rw[fJ];exact .ptr U);simp[Instr.indexAt,asIntOf,aX,Bn I hu w,Cx I R w,p,Addr.add_mid]
   ·cases h
 ·rename_i n len el b off J hu;obtain⟨k,rfl⟩:=D9 hi J;cases j:Nat.blt n len with
  |false=>rw[j]at h;cases h
  |true=>
   rw[j]at h;have p:=fE ((dP).symm.trans (eq_true j));dsimp only[cond_true]at h;split at h
   ·rename_i s R;cases h;cases ha with
    |ptr U=>
     rename_i g o z;refine AZ (r:=.pointer (some ⟨g,o+off+n*s,none⟩)) hr ?_ (by rw[fJ];exact .ptr U);simp[Instr.indexAt,Instr.sureAddr,asIntOf,aX,Bn I hu w,Cx I R w,p,Addr.add_mid]
   ·cases h
 ·cases h
theorem Up (o:B3 P T) {ev:Operand->AV} {op:Oper} {ρ:Operand->Value} {t:TypeId} {y:Operand} {f:Nat} (ho:op.op=.field t y f) (p:AO base e H w) (I:∀y∈op.op.operands,DR e (ev y) (ρ y)) (J:DR e (ev y) (ρ y)) (h:IE P T ev op t (ev y) f H=some (.val x H')) :
  Cl P base e w (execOp ρ op) x H':=by
 unfold IE at h;split at h
 ·rename_i cs R;have hex:execOp ρ op=(do pure (.value (<-Instr.field t (ρ y) f))):=by unfold execOp;rw[ho]
  rw[hex];rw[R]at J;generalize ρ y=y' at J;cases J with
  |agg hl=>
   rename_i xs;split at h
   ·rename_i fs hu;split at h
    ·rename_i fl hf;split at h
     ·rename_i n j hn;cases hc:(fl.offset+n).ble cs.length with
      |false=>rw[hc]at h;cases h
      |true=>
       rw[hc]at h;cases h;refine AZ (r:=.agg (xs.toArray.extract fl.offset (fl.offset+n))) p ?_ ?_
       ·simp[Instr.field,aX,Bn o hu w,hf,asAgg,part,FD o j w,Cx o hn w]
       ·have:=Hn ((hl.drop fl.offset).take n);have he:(xs.toArray.extract fl.offset (fl.offset+n))=((xs.drop fl.offset).take n).toArray:=by
         simp[List.extract_toArray,List.extract_eq_take_drop]
        rw[he];exact this
     ·rename_i n j hn;cases U:cs[fl.offset]? with
      |none=>rw[U]at h;cases h
      |some v=>
       rw[U]at h;cases h;obtain⟨r,h1,h2⟩:=hl.get U;refine AZ (r:=r) p ?_ h2;simp[Instr.field,aX,Bn o hu w,hf,asAgg,part,FD o j w,h1]
     ·cases h
    ·cases h
   ·cases h
 ·exact(CM p I h).1
theorem QI (R:B3 P T) {ev:Operand->AV} {ρ:Operand->Value} {t:TypeId} {r:Option Operand} (J:AO base e H w) (p:∀y,r=some y->DR e (ev y) (ρ y)) (h:Gj T ev t r H=some (.val x H')) (j:H'.next<=2^depth) :
  Cl P base e w (do pure (.value (<-Instr.makeMap t (r.map ρ)))) x H':=by
 have key:H.next+1<=2^depth->∀(s:Sem Value),s.run P w=.ok (.map (some w.heap.size)) (w.alloc (.map #[] 0))->Cl P base e w (do pure (.value (<-s))) (.mp H.next) (H.alloc (.map [] 0)):=fun j s U=>by
  obtain⟨h1,h2⟩:=Gw J (.map [] 0) j (.map #[] 0) 0 0 ⟨[],fZ w _,.nil,.nil,rfl⟩;refine⟨_,_,_,_,EF J _,?_,.inl rfl,.mp (g:=w.heap.size) (o:=0) (z:=0) (by unfold Env.new;rw[if_pos rfl]),h1,h2⟩;simp[U]
 unfold Gj at h;split at h
 ·cases h;refine key j _ ?_;rfl
 ·rename_i y;split at h
  ·rename_i k el n hu I;cases h;refine key j _ ?_;obtain⟨kd,hk⟩:=D9 (p y rfl) I;simp[Instr.makeMap,aX,Bn R hu w,hk,asInt,asIntOf,newObj,Sem.run]
  ·cases h
theorem Za7 {ev:Operand->AV} {op:Oper} {ρ:Operand->Value} {j:UnOp} {t:TypeId} {y:Operand} (J:op.op=.unOp j t y) (I:AO base e H w) (o:∀y∈op.op.operands,DR e (ev y) (ρ y)) (p:DR e (ev y) (ρ y)) (h:Xc P ev op j (ev y) H=some (.val x H')) :
  Cl P base e w (execOp ρ op) x H':=by
 unfold Xc at h;split at h
 ·rename_i b R;cases h;have hex:execOp ρ op=(do pure (.value (<-Op.unary .not (ρ y)))):=by unfold execOp;rw[J]
  rw[hex];rw[R]at p;generalize ρ y=y' at p;cases p;exact AZ I rfl (.v _)
 ·exact(CM I o h).1
theorem FZ {j k:IntKind} (h:sameKind j k=true):j=k:=by
 cases j<;>cases k<;>first|rfl|cases h
theorem Qc {o:BinOp} {t:TypeId} {a b:Operand} {k j:IntKind} {m n:Int}:(eqGuard o t a b (.int k m) (.int j n)).run P w=.ok () w:=by
 unfold eqGuard;cases o<;>rfl
theorem WE {j:BinOp} {t:TypeId} {k:IntKind} {m n:Int} {r:Value} (h:YF j k m n=some r):(binOp j t (.int k m) (.int k n)).run P w=.ok r w:=by
 cases j<;>cases h<;>simp[binOp,Op.intArith,Op.intCmp]
theorem SB (hT:B3 P T) {ev:Operand->AV} {op:Oper} {ρ:Operand->Value} {neg:Bool} {t u:TypeId} {a b:Operand} (ho:op.op=.binOp (if neg then .neq else .eql) t a b u) (hr:AO base e H w) (R:∀y∈op.op.operands,DR e (ev y) (ρ y)) (ha:DR e (ev a) (ρ a)) (U:DR e (ev b) (ρ b))
  (h:Ng P T ev op neg t (ev a) (ev b) H=some (.val x H')):Cl P base e w (execOp ρ op) x H':=by
 unfold Ng at h;split at h
 ·rename_i d hu;split at h
  ·rename_i bb o;cases h;have hex:execOp ρ op=(do pure (.value (<-(do eqGuard (if neg then .neq else .eql) t a b (ρ a) (ρ b);binOp (if neg then .neq else .eql) t (ρ a) (ρ b))))):=by unfold execOp;rw[ho]
   rw[hex];generalize ev a=va at ha o;generalize ev b=vb at U o;generalize ρ a=I at ha⊢;generalize ρ b=J at U⊢;have a6:=Bn hT hu w;refine AZ (r:=.bool (bif neg then !bb else bb)) hr ?_ (.v _);have key:(∀j,(j=.eql\/j=.neq)->(eqGuard j t a b I J).run P w=.ok () w/\(binOp j t I J).run P w=((Op.equal t I J).run P w).andThen fun r w=>.ok (.bool (if j=.eql then r else !r)) w)/\(Op.equal t I J).run P w=.ok bb w:=by
    unfold ZbA at o;split at o<;>first
     |(cases o;done)
     |(cases o
       cases ha;cases U;refine⟨fun j p=>?_,?_⟩
       ·rcases p with rfl|rfl<;>refine⟨rfl,?_⟩<;>simp[binOp]
       ·show(Op.equalIn (9999+1) t _ _).run P w=_;unfold Op.equalIn;simp[aX,a6])
   obtain⟨k1,k2⟩:=key;cases neg with
   |false=>
    obtain⟨g1,g2⟩:=k1 .eql (.inl rfl);simp[aX,g1,g2,k2]
   |true=>
    obtain⟨g1,g2⟩:=k1 .neq (.inr rfl);simp[aX,g1,g2,k2]
  ·exact(CM hr R h).1
 ·cases h
theorem ZS (hT:B3 P T) {ev:Operand->AV} {op:Oper} {ρ:Operand->Value} {j:BinOp} {t u:TypeId} {a b:Operand} (J:op.op=.binOp j t a b u) (p:AO base e H w) (o:∀y∈op.op.operands,DR e (ev y) (ρ y)) (ha:DR e (ev a) (ρ a)) (I:DR e (ev b) (ρ b))
  (h:Pg P T ev op j t (ev a) (ev b) H=some (.val x H')):Cl P base e w (execOp ρ op) x H':=by
 unfold Pg at h;split at h
 ·rename_i k m k' n R U;cases hk:sameKind k k' with
  |false=>rw[hk]at h;cases h
  |true=>
   rw[hk]at h;have:=FZ hk;subst this;dsimp only[cond_true]at h;split at h
   ·rename_i r a6;cases h;have hex:execOp ρ op=(do pure (.value (<-(do eqGuard j t a b (ρ a) (ρ b);binOp j t (ρ a) (ρ b))))):=by unfold execOp;rw[J]
    rw[hex];rw[R]at ha;rw[U]at I;generalize ρ a=ra at ha⊢;generalize ρ b=rb at I⊢;cases ha;cases I;refine AZ (r:=r) p ?_ (.v r);rw[aX,Qc];exact WE a6
   ·exact(CM p o h).1
 ·split at h
  ·exact SB hT (neg:=false) J p o ha I h
  ·exact SB hT (neg:=true) J p o ha I h
  ·exact(CM p o h).1
end
end Ev
end
end Go.Proofs.YthbihnpoghlfaaaGreatDoor
