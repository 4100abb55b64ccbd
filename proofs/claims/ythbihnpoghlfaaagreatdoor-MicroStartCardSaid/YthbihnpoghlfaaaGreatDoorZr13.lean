import Derived.Shelf.SlicesQ.IndexFunc
import Derived.Shelf.SlicesE.IndexFunc
import Derived.Lib.SlicesCompact
import Derived.Test.YthbihnpoghlfaaaGreatDoorZr10
set_option linter.unusedVariables false
set_option linter.unusedSimpArgs false
set_option maxHeartbeats 8000000
set_option maxRecDepth 100000
namespace Go.Proofs.YthbihnpoghlfaaaGreatDoor
open Go.Proofs.Tryz
section
namespace Q
def fits (v:Var) (x:BS):Bool:=decide (v.kind=x.kind)&&(decide (v.lo<=x.a)&&decide (x.a<=v.hi))&&(!decide (x.kind=3)||(decide (v.lo<=x.b)&&decide (x.b<=v.hi)))
structure N7 where
 Ac:List BS
 raised:List ByteArray
 Ao:List ByteArray
 ok:Bool
def BJ:ByteArray:=⟨#[101,114,114,111,114]⟩
def C5 (vars:List Var) (Ac:List BS) (a:Act):Option (List BS):=match Vp vars a.name with
 |none=>none
 |some i=>match C4 vars Ac [] a.expr with
  |.err _=>none
  |.ok x=>match vars[i]? with
   |some v=>if fits v x=true then some (Ac.set i x)else none
   |none=>none
def I1 (vars:List Var):List Act->N7->N7
 | [],d=>d
 |a::l,d=>
  if a.kind=2 then I1 vars l {d with raised:=d.raised++[a.name]}
  else if a.kind=3 then I1 vars l {d with Ao:=d.Ao++[a.name]}
  else match (if a.kind=1 then C5 vars d.Ac a else none)with
   |some Ac=>I1 vars l {d with Ac:=Ac}
   |none=>{d with raised:=d.raised++[BJ],ok:=false}
def EB (s:ByteArray):Bool:=Bv s||(decide (5<s.size)&&decide (s.data.toList.take 5=[100,111,110,101,46])&&I8 (s.data.toList.drop 5))
def JH (l:List Cell):Bool:=BC l&&l.all fun c=>!decide (c.op=6)
def Hg (a:Act):Bool:=
 if a.kind=1 then Bv a.name&&JH a.expr
 else if a.kind=2\/a.kind=3 then EB a.name&&a.expr.isEmpty
 else false
def FE (l:List Act):Bool:=l.all Hg&&!l.isEmpty&&decide (l.length<=8)
def BR (k:Int):Bool:=decide (k=5)||decide (k=6)
def Af.Ar (c:Af):BQ:=c.Aa.map fun s=>(s.kind,s.depth)
def place (c:Af) (name:ByteArray):Option Nat:=c.Aa.findIdx? fun s=>decide (s.name=name)
def rsE {α:Type} (r:Rs α):Int:=match r with
 |.ok _=>0
 |.err e=>e
def Av:List Int->Int
 | []=>0
 |e::l=>if e=0 then Av l else e
def C2 (c:Af) (a:Act):Int:=
 if a.kind=1 then(match c.vars.find? fun v=>decide (v.name=a.name)with
  |none=>2
  |some v=>match kindOf c.vars [] a.expr with
   |.err e=>e
   |.ok k=>if k=v.kind then 0 else 8)
 else if E5 c.events a.name=true then 0 else 2
def Br (c:Af) (l:List Act):Int:=
 if l.length=0 then 0
 else if FE l=false then 1
 else Av (l.map (C2 c))
def BB (c:Af) (s:State):Int:=
 if(BR s.kind=true/\0<s.entry.length+s.exit.length)\/(s.kind=4/\0<s.exit.length)then 1
 else Av [Br c s.entry,Br c s.exit]
def Gc (v:Var):Int:=
 if v.kind<1\/3<v.kind\/v.init.kind≠v.kind then 8
 else if v.hi<v.lo\/v.lo < -(if v.kind=3 then 1048576 else 1099511627776)\/(if v.kind=3 then 1048576 else 1099511627776)<v.hi\/(v.kind=2/\(v.lo≠0\/v.hi≠1))then 5
 else if By v.init/\fits v v.init=true then 0 else 5
def Ew (c:Af) (i:Nat) (s:State):Int:=
 if s.kind≠2/\BR s.kind=false then(if s.initial.size=0 then 0 else 1)
 else match place c s.initial with
  |none=>2
  |some k=>
   if BR (Tr.kd c.Ar k)=true then 2
   else if s.kind=2 then(if Tr.up c.Ar k=(i:Int)then 0 else 2)
   else if s.kind=5 then(if Tr.up c.Ar k=Tr.up c.Ar i then 0 else 2)
   else if Tr.Es c.Ar (Tr.up c.Ar i) k=true then 0 else 2
def DE:List UInt8:=[100,111,110,101,46]
def FV (c:Af) (e:ByteArray):Bool:=
 decide (e.size=0)||decide (e=BJ)||E5 c.events e||c.Aa.any fun s=>(decide (s.kind=2)||decide (s.kind=3))&&decide (e.data.toList=DE++s.name.data.toList)
def BN (c:Af):List ByteArray:=(c.Aa.filter fun s=>!BR s.kind).map fun s=>s.name
def Hr (c:Af) (g:List Cell):Int:=
 if g.length=0 then 0
 else match kindOf c.vars (BN c) g with
  |.err e=>e
  |.ok k=>if k=2 then 0 else 8
def US (c:Af) (t:Trans):Int:=
 if t.to.size=0 then 0
 else match place c t.to with
  |none=>2
  |some k=>if Tr.domain c.Ar t.FH.toNat k<0 then 9 else 0
def CR (c:Af) (i:Nat) (t:Trans):Int:=
 if t.FH<0\/(c.Aa.length:Int)<=t.FH\/(0<i/\t.FH<(c.trans[i-1]?.map fun u=>u.FH).getD 0)\/3<Tr.kd c.Ar t.FH.toNat then 1
 else if FV c t.BM=false then 2
 else Av [Hr c t.guard,US c t,Br c t.Ey]
def distinct (l:List ByteArray):Bool:=match l with
 | []=>true
 |a::l=>!E5 l a&&distinct l
def Af.AN (c:Af):List ByteArray:=c.vars.map fun v=>v.name
def Af.An (c:Af):List ByteArray:=c.Aa.map fun s=>s.name
def CN (b:Bool) (e:Int):Int:=if b=true then 0 else e
def DL (c:Af):Int:=Av [
 CN (decide (c.events.length<=12)&&decide (c.vars.length<=8)&&decide (c.Aa.length<=40)&&decide (c.trans.length<=48)) 4,
 CN ((c.name::(c.events++(c.AN++c.An))).all Bv) 2,
 CN (distinct c.events&&distinct c.AN&&distinct c.An) 3,
 CN (decide (Tr.right c.Ar)) 9,
 Av (c.Aa.mapIdx fun i s=>Ew c i s),
 Av (c.vars.map Gc),
 Av (c.Aa.map (BB c)),
 Av (c.trans.mapIdx fun i t=>CR c i t)]
end Q
end
section
open Go.RowKit
abbrev Rel (α:Type):=World->Nat->α->Nat->Value->Prop
def Hc {α:Type} (E:Rel α):Prop:=∀(w o:World) (B I:Nat) (a:α) (j:Nat) (u:Value),B<=I->(∀p:Addr,p.block<B->o.cell? p=w.cell? p)->E w B a j u->E o I a j u
def Cq {α:Type} (k:Nat) (E:Rel α) (w:World) (B:Nat) (v:Value) (l:List α):Prop:=
 ∃A n c,v=.slice A n c/\l.length=n/\n<=9223372036854775807/\∀i (h:i<l.length),∃ad,A=some ad/\ad.block<B/\∀j,j<k->∃u,w.cell? ((ad.add (i*k)).add j)=some u/\E w B l[i] j u
theorem Cq.keep {α:Type} {k:Nat} {E:Rel α} (R:Hc E) {w o:World} {B I:Nat} {v:Value} {l:List α} (U:B<=I) (J:∀p:Addr,p.block<B->o.cell? p=w.cell? p) (h:Cq k E w B v l):Cq k E o I v l:=by
 obtain⟨A,n,c,h1,h2,h3,h4⟩:=h;refine⟨A,n,c,h1,h2,h3,fun i hi=>?_⟩;obtain⟨ad,e1,e2,e3⟩:=h4 i hi;refine⟨ad,e1,by omega,fun j hj=>?_⟩;obtain⟨u,e4,e5⟩:=e3 j hj;exact⟨u,(J _ (by rw[Bz,Bz];exact e2)).trans e4,R w o B I _ j u U J e5⟩
theorem Cq.below {α:Type} {k:Nat} {E:Rel α} (o:Hc E) {w j:World} {B:Nat} {v:Value} {l:List α} (p:Below B w j) (h:Cq k E w B v l):Cq k E j B v l:=h.keep o (aL _) fun _ hp=>p.cell hp
def strs (l:List ByteArray):List Value:=l.map .string
def Gf (l:List Int):List Value:=l.map (.int .i64 ·)
def AE (w:World) (B:Nat) (v:Value) (l:List ByteArray):Prop:=∃A n c,v=.slice A n c/\l.length=n/\n<=9223372036854775807/\Reads w B 1 A n (strs l)
def BD (w:World) (B:Nat) (v:Value) (l:List Int):Prop:=∃A n c,v=.slice A n c/\l.length=n/\n<=9223372036854775807/\Reads w B 1 A n (Gf l)
theorem AE.below {w j:World} {B:Nat} {v:Value} {l:List ByteArray} (h:AE w B v l) (o:Below B w j):AE j B v l:=by
 obtain⟨A,n,c,e,p,I,J⟩:=h;exact⟨A,n,c,e,p,I,J.below o⟩
theorem AE.more {w:World} {B j:Nat} {v:Value} {l:List ByteArray} (h:AE w B v l) (o:B<=j):AE w j v l:=by
 obtain⟨A,n,c,e,p,I,J⟩:=h;exact⟨A,n,c,e,p,I,J.more o⟩
theorem BD.below {w j:World} {B:Nat} {v:Value} {l:List Int} (h:BD w B v l) (o:Below B w j):BD j B v l:=by
 obtain⟨A,n,c,e,p,I,J⟩:=h;exact⟨A,n,c,e,p,I,J.below o⟩
theorem BD.more {w:World} {B j:Nat} {v:Value} {l:List Int} (h:BD w B v l) (o:B<=j):BD w j v l:=by
 obtain⟨A,n,c,e,p,I,J⟩:=h;exact⟨A,n,c,e,p,I,J.more o⟩
theorem AE.form {w:World} {B:Nat} {v:Value} {l:List ByteArray} (h:AE w B v l):∃A c,v=.slice A l.length c/\l.length<=9223372036854775807/\Reads w B 1 A l.length (strs l):=by
 obtain⟨A,n,c,rfl,rfl,j,o⟩:=h;exact⟨A,c,rfl,j,o⟩
theorem BD.form {w:World} {B:Nat} {v:Value} {l:List Int} (h:BD w B v l):∃A c,v=.slice A l.length c/\l.length<=9223372036854775807/\Reads w B 1 A l.length (Gf l):=by
 obtain⟨A,n,c,rfl,rfl,j,o⟩:=h;exact⟨A,c,rfl,j,o⟩
theorem Za5 {w:World} {B n:Nat} {ad:Addr} {l:List ByteArray} (h:Reads w B 1 (some ad) n (strs l)) {i:Nat} (hi:i<l.length) (I:l.length=n):w.cell? (ad.add i)=some (.string l[i])/\ad.block<B:=by
 obtain⟨j,u,e,o,hu,p⟩:=h.at_ (k:=i) (by omega);injection e with e
 subst e;rw[p];have:u=.string l[i]:=by simpa[strs,hi]using hu.symm
 exact⟨by rw[this],o⟩
theorem Tt {w:World} {B n:Nat} {A:Option Addr} {xs:List Value} (h:Reads w B 1 A n xs) {i:Nat} (hi:i<n):∃ad,A=some ad/\ad.block<B:=by
 obtain⟨ad,e,j,_⟩:=h.2 (by omega);exact⟨ad,e,j⟩
theorem Cq.on {α:Type} {k:Nat} {E:Rel α} (p:Hc E) {w j:World} {v:Value} {l:List α} (h:Cq k E w w.heap.size v l) (o:Below w.heap.size w j):Cq k E j j.heap.size v l:=h.keep p o.size fun _ hp=>o.cell hp
theorem AE.on {w j:World} {v:Value} {l:List ByteArray} (h:AE w w.heap.size v l) (o:Below w.heap.size w j):AE j j.heap.size v l:=(h.below o).more o.size
theorem BD.on {w j:World} {v:Value} {l:List Int} (h:BD w w.heap.size v l) (o:Below w.heap.size w j):BD j j.heap.size v l:=(h.below o).more o.size
theorem AT (w:World) (o:Obj):Below w.heap.size w (w.alloc o):=(aJ _ _).alloc (aL _) _
theorem Ab {a b c:World} (h:Below a.heap.size a b) (k:Below b.heap.size b c):Below a.heap.size a c:=h.trans (k.mono h.size)
theorem CU {a b:World} (h:Below a.heap.size a b) (o:Obj):Below a.heap.size a (b.alloc o):=h.alloc h.size _
def LO:Rel Q.Cell:=fun _ _ c j u=>match j with
 | 0=>u=.int .i64 c.op
 | 1=>u=.int .i64 c.a
 |_=>u=.string c.name
def Zcl:Rel Q.BS:=fun _ _ c j u=>match j with
 | 0=>u=.int .i64 c.kind
 | 1=>u=.int .i64 c.a
 |_=>u=.int .i64 c.b
def XO:Rel Q.Var:=fun _ _ c j u=>match j with
 | 0=>u=.string c.name
 | 1=>u=.int .i64 c.kind
 | 2=>u=.int .i64 c.lo
 | 3=>u=.int .i64 c.hi
 | 4=>u=.int .i64 c.init.kind
 | 5=>u=.int .i64 c.init.a
 |_=>u=.int .i64 c.init.b
def Mt:Rel Q.Act:=fun w B c j u=>match j with
 | 0=>u=.int .i64 c.kind
 | 1=>u=.string c.name
 |_=>Cq 3 LO w B u c.expr
def JL:Rel Q.State:=fun w B c j u=>match j with
 | 0=>u=.string c.name
 | 1=>u=.int .i64 c.kind
 | 2=>u=.int .i64 c.depth
 | 3=>u=.string c.initial
 | 4=>Cq 3 Mt w B u c.entry
 |_=>Cq 3 Mt w B u c.exit
def Le:Rel Q.Trans:=fun w B c j u=>match j with
 | 0=>u=.int .i64 c.FH
 | 1=>u=.string c.BM
 | 2=>Cq 3 LO w B u c.guard
 | 3=>u=.string c.to
 |_=>Cq 3 Mt w B u c.Ey
theorem Aw:Hc LO:=fun _ _ _ _ _ _ _ _ _ h=>h
theorem BV:Hc Zcl:=fun _ _ _ _ _ _ _ _ _ h=>h
theorem AL:Hc XO:=fun _ _ _ _ _ _ _ _ _ h=>h
theorem Ax:Hc Mt:=fun w I B J a j u o p h=>by
 unfold Mt at *;split at h
 ·exact h
 ·exact h
 ·exact Cq.keep Aw o p h
theorem AU:Hc JL:=fun w I B J a j u o p h=>by
 unfold JL at *;split at h
 ·exact h
 ·exact h
 ·exact h
 ·exact h
 ·exact Cq.keep Ax o p h
 ·exact Cq.keep Ax o p h
theorem Ij:Hc Le:=fun w I B J a j u o p h=>by
 unfold Le at *;split at h
 ·exact h
 ·exact h
 ·exact Cq.keep Aw o p h
 ·exact h
 ·exact Cq.keep Ax o p h
abbrev Bp:=Cq 3 LO
abbrev Ci:=Cq 3 Zcl
abbrev BK:=Cq 7 XO
abbrev Cj:=Cq 3 Mt
abbrev A6:=Cq 6 JL
abbrev JV:=Cq 5 Le
section
variable {w:World} {B n c:Nat} {ad:Addr}
theorem Bp.at_ {l:List Q.Cell} (h:Bp w B (.slice (some ad) n c) l) {i:Nat} (hi:i<l.length):w.cell? (ad.add (i*3))=some (.int .i64 l[i].op)/\
  w.cell? {block:=(ad.add (i*3)).block,off:=(ad.add (i*3)).off+1}=some (.int .i64 l[i].a)/\w.cell? {block:=(ad.add (i*3)).block,off:=(ad.add (i*3)).off+2}=some (.string l[i].name):=by
 obtain⟨A',n',c',e,h2,h3,J⟩:=h;injection e with j e2 e3
 obtain⟨R,U,_,o⟩:=J i hi;rw[U]at j;injection j with j
 subst j;obtain⟨u,hu,rfl⟩:=o 0 (by omega);obtain⟨u1,p,rfl⟩:=o 1 (by omega);obtain⟨u2,I,rfl⟩:=o 2 (by omega);exact⟨hu,p,I⟩
theorem Ci.at_ {l:List Q.BS} (h:Ci w B (.slice (some ad) n c) l) {i:Nat} (hi:i<l.length):w.cell? (ad.add (i*3))=some (.int .i64 l[i].kind)/\
  w.cell? {block:=(ad.add (i*3)).block,off:=(ad.add (i*3)).off+1}=some (.int .i64 l[i].a)/\w.cell? {block:=(ad.add (i*3)).block,off:=(ad.add (i*3)).off+2}=some (.int .i64 l[i].b):=by
 obtain⟨A',n',c',e,h2,h3,J⟩:=h;injection e with j e2 e3
 obtain⟨R,U,_,o⟩:=J i hi;rw[U]at j;injection j with j
 subst j;obtain⟨u,hu,rfl⟩:=o 0 (by omega);obtain⟨u1,p,rfl⟩:=o 1 (by omega);obtain⟨u2,I,rfl⟩:=o 2 (by omega);exact⟨hu,p,I⟩
theorem BK.at_ {l:List Q.Var} (h:BK w B (.slice (some ad) n c) l) {i:Nat} (hi:i<l.length):w.cell? (ad.add (i*7))=some (.string l[i].name)/\
  w.cell? {block:=(ad.add (i*7)).block,off:=(ad.add (i*7)).off+1}=some (.int .i64 l[i].kind)/\w.cell? {block:=(ad.add (i*7)).block,off:=(ad.add (i*7)).off+2}=some (.int .i64 l[i].lo)/\
  w.cell? {block:=(ad.add (i*7)).block,off:=(ad.add (i*7)).off+3}=some (.int .i64 l[i].hi)/\w.cell? {block:=(ad.add (i*7)).block,off:=(ad.add (i*7)).off+4}=some (.int .i64 l[i].init.kind)/\
  w.cell? {block:=(ad.add (i*7)).block,off:=(ad.add (i*7)).off+5}=some (.int .i64 l[i].init.a)/\w.cell? {block:=(ad.add (i*7)).block,off:=(ad.add (i*7)).off+6}=some (.int .i64 l[i].init.b):=by
 obtain⟨A',n',c',e,h2,h3,h4⟩:=h;injection e with o e2 e3
 obtain⟨a7,e4,_,j⟩:=h4 i hi;rw[e4]at o;injection o with o
 subst o;obtain⟨u,hu,rfl⟩:=j 0 (by omega);obtain⟨u1,p,rfl⟩:=j 1 (by omega);obtain⟨u2,I,rfl⟩:=j 2 (by omega);obtain⟨u3,J,rfl⟩:=j 3 (by omega);obtain⟨u4,R,rfl⟩:=j 4 (by omega);obtain⟨u5,U,rfl⟩:=j 5 (by omega);obtain⟨u6,a1,rfl⟩:=j 6 (by omega);exact⟨hu,p,I,J,R,U,a1⟩
theorem Cj.at_ {l:List Q.Act} (h:Cj w B (.slice (some ad) n c) l) {i:Nat} (hi:i<l.length):∃u,w.cell? (ad.add (i*3))=some (.int .i64 l[i].kind)/\
  w.cell? {block:=(ad.add (i*3)).block,off:=(ad.add (i*3)).off+1}=some (.string l[i].name)/\w.cell? {block:=(ad.add (i*3)).block,off:=(ad.add (i*3)).off+2}=some u/\Bp w B u l[i].expr:=by
 obtain⟨A',n',c',e,J,h3,R⟩:=h;injection e with j e2 e3
 obtain⟨U,e4,_,o⟩:=R i hi;rw[e4]at j;injection j with j
 subst j;obtain⟨u,hu,rfl⟩:=o 0 (by omega);obtain⟨u1,p,rfl⟩:=o 1 (by omega);obtain⟨u2,I,J⟩:=o 2 (by omega);exact⟨u2,hu,p,I,J⟩
theorem A6.at_ {l:List Q.State} (h:A6 w B (.slice (some ad) n c) l) {i:Nat} (hi:i<l.length):∃u v,w.cell? (ad.add (i*6))=some (.string l[i].name)/\
  w.cell? {block:=(ad.add (i*6)).block,off:=(ad.add (i*6)).off+1}=some (.int .i64 l[i].kind)/\w.cell? {block:=(ad.add (i*6)).block,off:=(ad.add (i*6)).off+2}=some (.int .i64 l[i].depth)/\
  w.cell? {block:=(ad.add (i*6)).block,off:=(ad.add (i*6)).off+3}=some (.string l[i].initial)/\w.cell? {block:=(ad.add (i*6)).block,off:=(ad.add (i*6)).off+4}=some u/\
  w.cell? {block:=(ad.add (i*6)).block,off:=(ad.add (i*6)).off+5}=some v/\Cj w B u l[i].entry/\Cj w B v l[i].exit:=by
 obtain⟨A',n',c',e,h2,h3,p⟩:=h;injection e with o e2 e3
 obtain⟨a6,e4,_,j⟩:=p i hi;rw[e4]at o;injection o with o
 subst o;obtain⟨u,hu,rfl⟩:=j 0 (by omega);obtain⟨u1,I,rfl⟩:=j 1 (by omega);obtain⟨u2,J,rfl⟩:=j 2 (by omega);obtain⟨u3,R,rfl⟩:=j 3 (by omega);obtain⟨u4,U,p⟩:=j 4 (by omega);obtain⟨u5,a1,j⟩:=j 5 (by omega);exact⟨u4,u5,hu,I,J,R,U,a1,p,j⟩
theorem JV.at_ {l:List Q.Trans} (h:JV w B (.slice (some ad) n c) l) {i:Nat} (hi:i<l.length):∃u v,w.cell? (ad.add (i*5))=some (.int .i64 l[i].FH)/\
  w.cell? {block:=(ad.add (i*5)).block,off:=(ad.add (i*5)).off+1}=some (.string l[i].BM)/\w.cell? {block:=(ad.add (i*5)).block,off:=(ad.add (i*5)).off+2}=some u/\
  w.cell? {block:=(ad.add (i*5)).block,off:=(ad.add (i*5)).off+3}=some (.string l[i].to)/\w.cell? {block:=(ad.add (i*5)).block,off:=(ad.add (i*5)).off+4}=some v/\
  Bp w B u l[i].guard/\Cj w B v l[i].Ey:=by
 obtain⟨A',n',c',e,h2,h3,p⟩:=h;injection e with o e2 e3
 obtain⟨a6,e4,_,j⟩:=p i hi;rw[e4]at o;injection o with o
 subst o;obtain⟨u,hu,rfl⟩:=j 0 (by omega);obtain⟨u1,I,rfl⟩:=j 1 (by omega);obtain⟨u2,J,h2⟩:=j 2 (by omega);obtain⟨u3,R,rfl⟩:=j 3 (by omega);obtain⟨u4,U,p⟩:=j 4 (by omega);exact⟨u2,u4,hu,I,J,R,U,h2,p⟩
end
theorem Cq.form {α:Type} {k:Nat} {E:Rel α} {w:World} {B:Nat} {v:Value} {l:List α} (h:Cq k E w B v l):∃A c,v=.slice A l.length c/\l.length<=9223372036854775807/\∀i,i<l.length->∃ad,A=some ad/\ad.block<B:=by
 obtain⟨A,n,c,rfl,rfl,j,o⟩:=h;exact⟨A,c,rfl,j,fun i hi=>by
  obtain⟨ad,e,p,_⟩:=o i hi;exact⟨ad,e,p⟩⟩
end
section
open Go.RowKit Q
theorem Dl (s:ByteArray):s.toList=s.data.toList:=by
 exact ByteArray.toList_eq s
def SU (s:ByteArray) (k:Nat):Prop:=∀j (h:j<s.size),j<k->KV s[j].toNat=true
theorem Zx (b:Nat):KV b=true↔(97<=b/\b<=122)\/(48<=b/\b<=57)\/b=95:=by
 unfold KV;simp only[bV,aG,aP,or_assoc]
theorem Gt (s:ByteArray):Bv s=true↔∃h:0<s.size,s.size<=12/\(97<=(s[0].toNat:Int)/\(s[0].toNat:Int)<=122)/\SU s s.size/\s.data.toList∉LQ:=by
 have U:s.data.toList.length=s.size:=by rw[bS,gI]
 have p:∀j (h:j<s.size),s.data.toList[j]?=some s[j]:=fun j h=>aQ (by omega)
 unfold Bv SU;generalize hL:s.data.toList=l at *;cases l with
 |nil=>
  simp only[I8,dY,false_iff];rintro⟨h,_⟩;simp at U;omega
 |cons a l=>
  have h0:0<s.size:=by rw[<-U];simp
  have ha:s[0]=a:=by have:=p 0 h0;simpa using this.symm
  simp only[I8,aG,aP,aY,Bool.not_eq_true',ha];constructor
  ·rintro⟨⟨⟨h1,h2,h3⟩,I⟩,J⟩;refine⟨h0,by omega,⟨by omega,by omega⟩,fun j R _=>?_,fun h=>?_⟩
   ·exact I _ (bR (p j R))
   ·have:=cS.2 h;rw[J]at this;cases this
  ·rintro⟨_,h1,⟨h2,h3⟩,I,J⟩;refine⟨⟨⟨by omega,by omega,by omega⟩,fun x hx=>?_⟩,?_⟩
   ·obtain⟨j,R,rfl⟩:=cU hx;have o:=p j (by omega);rw[aQ R]at o;injection o with o
    rw[o];exact I j (by omega) (by omega)
   ·cases h:LQ.contains (a::l)with
    |false=>rfl
    |true=>exact absurd (cS.1 h) J
theorem DI {s:ByteArray} (h:0<s.size) (o:(s[0].toNat:Int)<97\/122<(s[0].toNat:Int)):Bv s=false:=by
 cases j:Bv s with
 |false=>rfl
 |true=>
  obtain⟨_,_,p,_⟩:=(Gt s).1 j;omega
theorem Hs {s:ByteArray} (h:12<s.size):Bv s=false:=by
 cases j:Bv s with
 |false=>rfl
 |true=>
  obtain⟨_,_,o,_⟩:=(Gt s).1 j;omega
theorem ES {s:ByteArray} {k:Nat} (h:k<s.size) (j:¬KV s[k].toNat=true):Bv s=false:=by
 cases o:Bv s with
 |false=>rfl
 |true=>
  obtain⟨_,_,_,p,_⟩:=(Gt s).1 o;exact absurd (p k h h) j
theorem GD {s:ByteArray} (h:s.data.toList∈LQ):Bv s=false:=by
 cases j:Bv s with
 |false=>rfl
 |true=>
  obtain⟨_,_,_,_,o⟩:=(Gt s).1 j;exact absurd h o
theorem OP {s:ByteArray} (h:0<s.size) (j:s.size<=12) (o:97<=(s[0].toNat:Int)/\(s[0].toNat:Int)<=122) (ha:SU s s.size) (p:s.data.toList∉LQ):Bv s=true:=
 (Gt s).2 ⟨h,j,o,ha,p⟩
theorem SU.succ {s:ByteArray} {k:Nat} (h:SU s k) (J:k<s.size) (o:KV s[k].toNat=true):SU s (k+1):=fun j p I=>by
 by_cases e:j=k
 ·subst e;exact o
 ·exact h j p (by omega)
theorem Rn (c:Nat):(97<=(c:Int)/\(c:Int)<=122/\KV c=true)\/((c:Int)<97/\48<=(c:Int)/\(c:Int)<=57/\KV c=true)\/((c:Int)<97/\57<(c:Int)/\((c:Int) != 95)=false/\KV c=true)\/
  ((c:Int)<97/\57<(c:Int)/\((c:Int) != 95)=true/\¬KV c=true)\/((c:Int)<48/\((c:Int) != 95)=true/\¬KV c=true)\/(122<(c:Int)/\((c:Int) != 95)=true/\¬KV c=true):=by
 simp only[Zx,bne_iff_ne,ne_eq,bne_eq_false_iff_eq];omega
theorem OJ (s:ByteArray):((s.toList==[116,114,117,101])=true/\s.data.toList∈LQ)\/((s.toList==[116,114,117,101])=false/\(s.toList==[102,97,108,115,101])=true/\s.data.toList∈LQ)\/
  ((s.toList==[116,114,117,101])=false/\(s.toList==[102,97,108,115,101])=false/\(s.toList==[105,110])=true/\s.data.toList∈LQ)\/
  ((s.toList==[116,114,117,101])=false/\(s.toList==[102,97,108,115,101])=false/\(s.toList==[105,110])=false/\(s.toList==[114,101])=true/\s.data.toList∈LQ)\/
  ((s.toList==[116,114,117,101])=false/\(s.toList==[102,97,108,115,101])=false/\(s.toList==[105,110])=false/\(s.toList==[114,101])=false/\(s.toList==[105,109])=true/\s.data.toList∈LQ)\/
  ((s.toList==[116,114,117,101])=false/\(s.toList==[102,97,108,115,101])=false/\(s.toList==[105,110])=false/\(s.toList==[114,101])=false/\(s.toList==[105,109])=false/\¬s.data.toList∈LQ):=by
 rw[Dl];generalize s.data.toList=l;unfold LQ;simp only[bJ,eS,iG,dI,dJ,ne_eq];by_cases j:l=[116,114,117,101]
 ·simp[j]
 by_cases o:l=[102,97,108,115,101]
 ·simp[o]
 by_cases p:l=[105,110]
 ·simp[p]
 by_cases I:l=[114,101]
 ·simp[I]
 by_cases J:l=[105,109]
 ·simp[J]
 simp[j,o,p,I,J]
theorem Kk (s:ByteArray) (w:World):Calls prog 65 #[.string s] w fun e w'=>e=.returned (.bool (Bv s))/\w'=w:=by
 obtain⟨b,hb⟩:∃b,Bv s=b:=⟨_,rfl⟩;rw[hb];have p:=jK hb;clear hb;go_enter func65,ntmps65;by_cases h0:s.size=0
 ·obtain rfl:s=⟨#[]⟩:=gO (jJ.1 h0);obtain rfl:b=false:=by rw[<-p.out];rfl
  go_wp2;go_ret;exact⟨rfl,rfl⟩
 ·have hp:0<s.size:=by omega
  have he:s.toList.isEmpty=false:=by
   rw[Dl];cases h:s.data.toList with
   |nil=>exact absurd (by rw[<-gI,<-bS,h];rfl) h0
   |cons _ _=>rfl
  by_cases b1:s.size<=12
  ·have J:¬(12:Int)<(s.size:Int):=by omega
   clear h0;by_cases b2:97<=(s[0].toNat:Int)
   ·by_cases b3:(s[0].toNat:Int)<=122
    ·go_wp2
     go_loop [24] (fun v=>∃k:Nat,k<=s.size/\v=.int .i64 (k:Int)/\SU s k) (fun v=>s.size-(intOf v).toNat)
     case atStart=>exact⟨0,by omega,rfl,fun j _ hj=>absurd hj (by omega)⟩
     case round=>
      obtain⟨k,hk,rfl,o⟩:=hrel;by_cases R:k<s.size
      ·have b9:(k:Int)<(s.size:Int):=by omega
       have HA:=jK o;clear he o;rcases Rn s[k].toNat with⟨c1,c2,I⟩|⟨c1,c2,c3,I⟩|⟨c1,c2,c3,I⟩|⟨c1,c2,c3,I⟩|⟨c1,c2,I⟩|⟨c1,c2,I⟩
       iterate 3 focus
        have HC:=jK I;clear I;go_wp2
        go_round
        case rel=>exact⟨k+1,by omega,by go_num,HA.out.succ R HC.out⟩
        case measure=>simp[intOf];omega
       all_goals
        obtain rfl:b=false:=by rw[<-p.out];exact ES R I
        clear I;go_wp2;go_ret;exact⟨rfl,rfl⟩
      ·obtain rfl:k=s.size:=by omega
       have c4:¬(s.size:Int)<(s.size:Int):=by omega
       have HA:=jK o;clear o;rcases OJ s with⟨U,h⟩|⟨U,h2,h⟩|⟨U,h2,h3,h⟩|⟨U,h2,h3,h4,h⟩|⟨U,h2,h3,h4,h5,h⟩|⟨U,h2,h3,h4,h5,h⟩
       ·go_wp2;go_ret;exact⟨by rw[<-p.out,GD h];rfl,rfl⟩
       ·go_wp2;go_ret;exact⟨by rw[<-p.out,GD h];rfl,rfl⟩
       ·go_wp2;go_ret;exact⟨by rw[<-p.out,GD h];rfl,rfl⟩
       ·go_wp2;go_ret;exact⟨by rw[<-p.out,GD h];rfl,rfl⟩
       ·go_wp2;go_ret;exact⟨by rw[<-p.out,GD h];rfl,rfl⟩
       ·have HK:=jK h;clear h;go_wp2;go_ret;exact⟨by rw[<-p.out,OP hp b1 ⟨b2,b3⟩ HA.out HK.out];rfl,rfl⟩
    ·have a1:122<(s[0].toNat:Int):=by omega
     obtain rfl:b=false:=by rw[<-p.out];exact DI hp (.inr a1)
     go_wp2;go_ret;exact⟨rfl,rfl⟩
   ·have a6:(s[0].toNat:Int)<97:=by omega
    obtain rfl:b=false:=by rw[<-p.out];exact DI hp (.inl a6)
    go_wp2;go_ret;exact⟨rfl,rfl⟩
  ·have J:(12:Int)<(s.size:Int):=by omega
   obtain rfl:b=false:=by rw[<-p.out];exact Hs (by omega)
   go_wp2;go_ret;exact⟨rfl,rfl⟩
end
section
open Go.Shelf Go.RowKit Go.Lib
def ET {α:Type} (p:α->Bool) (l:List α):Int:=match l.findIdx? p with
 |some i=>(i:Int)
 |none=>-1
theorem ID {α:Type} {p:α->Bool} {l:List α} (h:l.findIdx? p=none):ET p l=-1:=by unfold ET;rw[h]
theorem IF {α:Type} {p:α->Bool} {l:List α} {i:Nat} (h:l.findIdx? p=some i):ET p l=(i:Int):=by unfold ET;rw[h]
theorem Ki {α:Type} [Inhabited α] (p:α->Bool):∀(l:List α) (i:Nat),idxByFrom (fun _ y=>p y) default l i=match l.findIdx? p with
  |some j=>((i+j:Nat):Int)
  |none=>-1
 | [],i=>rfl
 |a::l,i=>by
  unfold idxByFrom;rw[List.findIdx?_cons];by_cases h:p a=true
  ·simp[h]
  ·simp only[h,dY,if_false];rw[Ki p l (i+1)];cases l.findIdx? p with
   |none=>rfl
   |some j=>
    show((i+1+j:Nat):Int)=((i+(j+1):Nat):Int);congr 1;omega
theorem Yn {α:Type} [Inhabited α] (p:α->Bool) (l:List α):idxBy (fun _ y=>p y) l default=ET p l:=by
 unfold idxBy ET;rw[Ki];cases l.findIdx? p with
 |none=>rfl
 |some j=>simp
theorem Zf {α β:Type} (p:α->Bool) (f:β->α) (l:List β):ET (fun b=>p (f b)) l=ET p (l.map f):=by
 unfold ET;rw[List.findIdx?_map];rfl
variable {P:Program} {ρ:Ren}
theorem NY (L:SlLaysH0.n6 P ρ) (a:Option Addr) (c:Nat) (j:Value) (w:World) :
  Calls P (ρ.f 6) #[.slice a 0 c,j] w fun e o=>e=.returned (.int .i64 (-1))/\o=w:=by
 have mixed:=L.mixed;have t0:=L.t0;have a0:=L.a0;have z0:=L.z0;have v0:=L.v0;have t3:=L.t3;have a3:=L.a3;have z3:=L.z3;have v3:=L.v3;have t4:=L.t4;have a4:=L.a4;have z4:=L.z4;have v4:=L.v4;have t22:=L.t22;have a22:=L.a22;have z22:=L.z22;have v22:=L.v22;have t25:=L.t25;have a25:=L.a25;have z25:=L.z25;have v25:=L.v25;obtain⟨_,_,p⟩:=L.f6;go_enter p,SlBodyH.n6_ntmps ρ;go_wp2
 go_loopg [5,8] 0 (fun _ _ I wr=>I=.int .i64 0/\wr=w)
 case atStart=>exact⟨rfl,rfl⟩
 case round=>
  obtain⟨rfl,rfl⟩:=hrel;go_wp2;go_ret;exact⟨rfl,rfl⟩
theorem TE (L:SlLaysH0.n8 P ρ) (a:Option Addr) (c:Nat) (j:Value) (w:World) :
  Calls P (ρ.f 8) #[.slice a 0 c,j] w fun e o=>e=.returned (.bool false)/\o=w:=by
 have mixed:=L.mixed;have t0:=L.t0;have a0:=L.a0;have z0:=L.z0;have v0:=L.v0;have t3:=L.t3;have a3:=L.a3;have z3:=L.z3;have v3:=L.v3;have t4:=L.t4;have a4:=L.a4;have z4:=L.z4;have v4:=L.v4;have t22:=L.t22;have a22:=L.a22;have z22:=L.z22;have v22:=L.v22;have t25:=L.t25;have a25:=L.a25;have z25:=L.z25;have v25:=L.v25;have J:∀args w,(callFunc (ρ.f 6) args).run P w=.ok (.enter (ρ.f 6) args) w:=L.f6.enters rfl;have p:=NY (P:=P) (ρ:=ρ) {L with} a c j w;obtain⟨_,_,I⟩:=L.f8;go_enter I,SlBodyH.n8_ntmps ρ;go_wp2_with (go_at_fn (ρ.f 6);refine p.mono ?_;rintro e o⟨rfl,rfl⟩);go_ret;exact⟨rfl,rfl⟩
theorem Uf {α β:Type} [Inhabited β] {k:Nat} {E:Rel α} (proj:β->α) (o:β->List Value)
  (U:∀(w:World) (B:Nat) (a:α) (J:Nat->Value),(∀j,j<k->E w B a j (J j))->∃b:β,proj b=a/\∀j,j<k->(o b)[j]?=some (J j))
  (hk:∀b,(o b).length=k) {w:World} {B n c:Nat} {ad:Addr} {l:List α} (h:Cq k E w B (.slice (some ad) n c) l) :
  ∃zs:List β,zs.map proj=l/\∀i,i<zs.length->∀j v,(o zs[i]!)[j]?=some v->w.cell? ((ad.add (i*k)).add j)=some v:=by
 obtain⟨A',n',c',e,h2,h3,h4⟩:=h;injection e with e1 e2 e3
 have hex:∀i:Nat,∃b:β,∀hi:i<l.length,proj b=l[i]/\∀j v,(o b)[j]?=some v->w.cell? ((ad.add (i*k)).add j)=some v:=fun i=>by
  by_cases hi:i<l.length
  ·obtain⟨b5,e4,_,h5⟩:=h4 i hi;rw[e4]at e1;injection e1 with e1
   subst e1;have p:∃J:Nat->Value,∀j,j<k->w.cell? ((ad.add (i*k)).add j)=some (J j)/\E w B l[i] j (J j):=
    ⟨fun j=>(w.cell? ((ad.add (i*k)).add j)).getD (.bool false),fun j R=>by
     obtain⟨u,hu,hE⟩:=h5 j R;simp only[hu,Option.getD_some];exact⟨trivial,hE⟩⟩
   obtain⟨J,p⟩:=p;obtain⟨b,a8,b0⟩:=U w B l[i] J fun j R=>(p j R).2
   refine⟨b,fun _=>⟨a8,fun j v I=>?_⟩⟩;have R:j<k:=by rw[<-hk b];exact(bC.1 I).1
   rw[b0 j R]at I;injection I with I
   rw[<-I];exact(p j R).1
  ·exact⟨default,fun h=>absurd h hi⟩
 refine⟨(List.range l.length).map fun i=>(hex i).choose,?_,fun i hi j v I=>?_⟩
 ·rw[fI];refine gZ (by simp) fun i h1 h2=>?_
  simp only[gC,List.getElem_range,Function.comp];exact((hex i).choose_spec h2).1
 ·have b1:i<l.length:=by simpa using hi
  rw[getElem!_pos _ i hi]at I;simp only[gC,List.getElem_range]at I;exact((hex i).choose_spec b1).2 j v I
theorem Ye {α β:Type} [Inhabited β] {k:Nat} {E:Rel α} (L:SlLaysH0.n6 P ρ) (aE:∀w,(isAgg (ρ.t 23)).run P w=.ok true w) (zE:∀w,(Go.sizeOf (ρ.t 23)).run P w=.ok k w) (proj:β->α) (o:β->List Value)
  (I:∀(w:World) (B:Nat) (a:α) (cs:Nat->Value),(∀j,j<k->E w B a j (cs j))->∃b:β,proj b=a/\∀j,j<k->(o b)[j]?=some (cs j))
  (hk:∀b,(o b).length=k) (a6:0<k) (p:α->Bool) (g:Nat) (lb:Array Value) (eg:∀args w,(callFunc g args).run P w=.ok (.enter g args) w) (w:World) (v:Value) (l:List α)
  (h:Cq k E w w.heap.size v l) (hp:PredBelow P g lb (fun x:β=>.agg (o x).toArray) (fun b=>p (proj b)) w) :
  Calls P (ρ.f 6) #[v,.func (.func g) #[] lb] w fun e w'=>e=.returned (.int .i64 (ET p l))/\Below w.heap.size w w':=by
 have h0:=h;obtain⟨A,c,rfl,hn,hA⟩:=h.form;by_cases hl:0<l.length
 ·obtain⟨U,rfl,a8⟩:=hA 0 hl;obtain⟨zs,hz,hc⟩:=Uf proj o I hk h;have b1:zs.length=l.length:=by rw[<-hz,bG]
  have J:U.spot=none:=by
   obtain⟨A',n',c',e,h2,h3,h4⟩:=h;injection e with e1 e2 e3
   obtain⟨c4,e4,_,h5⟩:=h4 0 hl;rw[e4]at e1;injection e1 with e1
   subst e1;obtain⟨u,hu,_⟩:=h5 0 a6;have:(U.add (0*k)).add 0=U:=by simp[Addr.add]
   rw[this]at hu;exact World.cell?_spot hu
  obtain⟨b,off,spot⟩:=U;dsimp only at J;subst J;refine(AnyQ.slices_IndexFunc L k aE zE o hk (fun b=>p (proj b)) g lb eg b off l.length c zs w hp (by omega) hn a8 (fun i hi j u hu=>?_)).mono ?_
  ·have:=hc i hi j u hu;rw[Ca]at this;by_cases R:i*k+j=0
   ·rw[R]at this;rw[show off+i*k+j=off by omega];exact this
   ·rw[Addr.add,if_neg R]at this;rw[show off+i*k+j=off+(i*k+j)by omega];exact this
  ·rintro e w'⟨rfl,hb⟩;refine⟨?_,hb⟩;rw[Yn,<-b1,bT,Zf p proj zs,hz]
 ·have b2:l.length=0:=by omega
  obtain rfl:=aZ b2;refine(NY L A c _ w).mono ?_;rintro e w'⟨rfl,rfl⟩;exact⟨rfl,aJ _ _⟩
theorem ZE {α β:Type} [Inhabited β] {k:Nat} {E:Rel α} (L:SlLaysH0.n8 P ρ) (aE:∀w,(isAgg (ρ.t 23)).run P w=.ok true w) (zE:∀w,(Go.sizeOf (ρ.t 23)).run P w=.ok k w) (proj:β->α) (o:β->List Value)
  (I:∀(w:World) (B:Nat) (a:α) (cs:Nat->Value),(∀j,j<k->E w B a j (cs j))->∃b:β,proj b=a/\∀j,j<k->(o b)[j]?=some (cs j))
  (hk:∀b,(o b).length=k) (a6:0<k) (p:α->Bool) (g:Nat) (lb:Array Value) (eg:∀args w,(callFunc g args).run P w=.ok (.enter g args) w) (w:World) (v:Value) (l:List α)
  (h:Cq k E w w.heap.size v l) (hp:PredBelow P g lb (fun x:β=>.agg (o x).toArray) (fun b=>p (proj b)) w) :
  Calls P (ρ.f 8) #[v,.func (.func g) #[] lb] w fun e w'=>e=.returned (.bool (l.any p))/\Below w.heap.size w w':=by
 have h0:=h;obtain⟨A,c,rfl,hn,hA⟩:=h.form;by_cases hl:0<l.length
 ·obtain⟨U,rfl,a8⟩:=hA 0 hl;obtain⟨zs,hz,hc⟩:=Uf proj o I hk h;have b0:zs.length=l.length:=by rw[<-hz,bG]
  have J:U.spot=none:=by
   obtain⟨A',n',c',e,h2,h3,h4⟩:=h;injection e with e1 e2 e3
   obtain⟨c4,e4,_,h5⟩:=h4 0 hl;rw[e4]at e1;injection e1 with e1
   subst e1;obtain⟨u,hu,_⟩:=h5 0 a6;have:(U.add (0*k)).add 0=U:=by simp[Addr.add]
   rw[this]at hu;exact World.cell?_spot hu
  obtain⟨b,off,spot⟩:=U;dsimp only at J;subst J;refine(AnyQ.slices_ContainsFunc L k aE zE o hk (fun b=>p (proj b)) g lb eg b off l.length c zs w hp (by omega) hn a8 (fun i hi j u hu=>?_)).mono ?_
  ·have:=hc i hi j u hu;rw[Ca]at this;by_cases R:i*k+j=0
   ·rw[R]at this;rw[show off+i*k+j=off by omega];exact this
   ·rw[Addr.add,if_neg R]at this;rw[show off+i*k+j=off+(i*k+j)by omega];exact this
  ·rintro e w'⟨rfl,hb⟩;refine⟨?_,hb⟩;rw[<-b0,bT,<-hz,List.any_map];rfl
 ·have b1:l.length=0:=by omega
  obtain rfl:=aZ b1;refine(TE L A c _ w).mono ?_;rintro e w'⟨rfl,rfl⟩;exact⟨rfl,aJ _ _⟩
end
section
namespace Q
structure Wk where
 Ag:List Nat
 Ac:List BS
 queue:List ByteArray
 status:Int
 lost:Int
 Ao:List ByteArray
def Wk.raise (d:Wk) (name:ByteArray):Wk:=
 if 16<=d.queue.length then {d with lost:=if d.lost<1099511627776 then d.lost+1 else d.lost}else {d with queue:=d.queue++[name]}
def Wk.C1 (d:Wk) (l:List ByteArray):Wk:=l.foldl Wk.raise d
def Wk.block (c:Af) (d:Wk) (l:List Act):Wk:=
 let r:=I1 c.vars l ⟨d.Ac,[],[],true⟩
 Wk.C1 {d with Ac:=r.Ac,Ao:=d.Ao++r.Ao} r.raised
def He (st:BQ) (Ag:List Nat):Nat->Nat->Bool
 | 0,_=>false
 |f+1,i=>
  if Tr.kd st i=2 then(Tr.kids st i).any fun k=>decide (Tr.kd st k=4)&&Ag.contains k
  else if Tr.kd st i=3 then(Tr.kids st i).all fun k=>He st Ag f k
  else false
def over (st:BQ) (Ag:List Nat) (i:Nat):Bool:=He st Ag (st.length-i) i
def Qk (c:Af) (i:Nat):ByteArray:=match c.Aa[i]? with
 |some s=>s.name
 |none=>⟨#[]⟩
def G4 (c:Af) (i:Nat):ByteArray:=match c.Aa[i]? with
 |some s=>s.initial
 |none=>⟨#[]⟩
def CB (c:Af) (i:Nat):List Act:=match c.Aa[i]? with
 |some s=>s.entry
 |none=>[]
def nm (c:Af) (i:Nat):ByteArray:=⟨(DE++(Qk c i).data.toList).toArray⟩
def N4 (c:Af):Nat->Int->Wk->Wk
 | 0,_,d=>d
 |f+1,up,d=>if 0<=up/\Tr.kd c.Ar up.toNat=3/\over c.Ar d.Ag up.toNat=true then N4 c f (Tr.up c.Ar up.toNat) (d.raise (nm c up.toNat))else d
def Ce (n:Nat) (Ag:List Nat) (i:Nat):List Nat:=(List.range n).filter fun k=>decide (k=i)||Ag.contains k
def Wk.C3 (c:Af) (d:Wk) (i:Nat):Wk:=
 let d:=Wk.block c {d with Ag:=Ce c.Aa.length d.Ag i} (CB c i)
 if Tr.kd c.Ar i=4 then N4 c i (Tr.up c.Ar (Tr.up c.Ar i).toNat) (d.raise (nm c (Tr.up c.Ar i).toNat))else d
def Wk.enter (c:Af) (d:Wk) (l:List Nat):Wk:=l.foldl (Wk.C3 c) d
def F4 (c:Af) (Ag:List Nat):Bool:=(List.range c.Aa.length).all fun i=>!decide (Tr.dp c.Ar i=0)||over c.Ar Ag i
def Wk.settle (c:Af) (d:Wk):Wk:=if F4 c d.Ag=true/\d.status=0 then {d with status:=1}else d
def lead (c:Af) (i:Nat):List Nat:=
 if Tr.kd c.Ar i=2 then(match place c (G4 c i)with|some k=>[k]|none=>[])
 else if Tr.kd c.Ar i=3 then Tr.kids c.Ar i
 else []
def Z8 (c:Af):Nat->Nat->List Nat
 | 0,_=>[]
 |f+1,i=>i::(lead c i).flatMap (Z8 c f)
def DH (c:Af) (i:Nat):List Nat:=Z8 c (c.Aa.length-i) i
def roots (c:Af):List Nat:=(List.range c.Aa.length).filter fun i=>decide (Tr.dp c.Ar i=0)
def CO (c:Af):List Nat:=(roots c).flatMap (DH c)
def Cw (c:Af):Wk:=Wk.settle c (Wk.enter c ⟨[],c.vars.map Var.init,[],0,0,[]⟩ (CO c))
end Q
end
section
open Go.Sort
namespace Q
theorem RZ {α:Type} [Inhabited α] [DecidableEq α] (o:List α):(Lib.compact o).length=o.length↔∀j,j<o.length->Lib.keeps o.toArray j=true:=by
 unfold Lib.compact Lib.compactUpTo;rw[bG];constructor
 ·intro h j p;have I:(List.range o.length).filter (Lib.keeps o.toArray)=List.range o.length:=by
   refine List.Sublist.eq_of_length (List.filter_sublist) ?_;rw[h,fP]
  have J:j∈(List.range o.length).filter (Lib.keeps o.toArray):=by rw[I];exact cQ.2 p
  exact(fO.1 J).2
 ·intro h;rw[List.filter_eq_self.2 (fun j p=>h j (cQ.1 p)),fP]
theorem XQ {α:Type} [Inhabited α] [DecidableEq α] (o:List α):(∀j,j<o.length->Lib.keeps o.toArray j=true)↔∀j (h:j+1<o.length),o[j]≠o[j+1]:=by
 constructor
 ·intro h j p e;have:=h (j+1) p;unfold Lib.keeps at this;rw[aP]at this;rcases this with I|I
  ·omega
  ·refine I ?_;rw[iQ,getElem!_pos _ _ (by simpa using p),getElem!_pos _ _ (by simp;omega)];simpa using e.symm
 ·intro h j p;unfold Lib.keeps;rw[aP];by_cases J:j=0
  ·exact .inl J
  ·refine .inr fun e=>?_
   obtain⟨i,rfl⟩:∃i,j=i+1:=⟨j-1,by omega⟩;rw[iQ,getElem!_pos _ _ (by simpa using p),getElem!_pos _ _ (by simp;omega)]at e;exact h i p (by simpa using e.symm)
theorem QJ {α:Type} {le:α->α->Bool} (o:∀a b,le a b=true->le b a=true->a=b) {l:List α} (J:l.Pairwise fun a b=>le a b=true):l.Nodup↔∀j (h:j+1<l.length),l[j]≠l[j+1]:=by
 constructor
 ·intro h j I e;rw[iN,eG]at h;exact h j (j+1) (by omega) I (by omega) e
 ·intro h;rw[iN,eG];intro i j hi I R e;have p:i+1<l.length:=by omega
  have hp:=eG.1 J;have U:=hp i (i+1) hi p (by omega);by_cases hk:i+1=j
  ·subst hk;exact h i p e
  have h3:le l[i+1] l[i]=true:=by
   rw[e];exact hp (i+1) j p I (by omega)
  exact h i p (o _ _ U h3)
theorem Eg:∀l:List ByteArray,distinct l=true↔l.Nodup
 | []=>by simp[distinct]
 |a::l=>by
  unfold distinct;rw[aG,Bool.not_eq_true',List.nodup_cons,Eg l,<-Bool.not_eq_true,KG]
theorem M3 (a b c:List UInt8):decide (a<=b)=true->decide (b<=c)=true->decide (a<=c)=true:=by
 simp only[aP];exact fun j o=>List.le_trans j o
theorem NW (a b:List UInt8):(decide (a<=b)||decide (b<=a))=true:=by
 rw[bV,aP,aP];exact List.le_total a b
theorem ZaB (l:List ByteArray):decide ((Lib.compact ((l.map fun s=>s.data.toList).mergeSort fun x y=>decide (x<=y))).length=l.length)=distinct l:=by
 rw[cH,aP,Eg];have hlen:((l.map fun s=>s.data.toList).mergeSort fun x y=>decide (x<=y)).length=l.length:=by simp[gW]
 rw[<-hlen,RZ,XQ,<-QJ (le:=fun x y=>decide (x<=y)) (fun a b o p=>List.le_antisymm (cV o) (cV p)) (List.pairwise_mergeSort M3 NW _)];rw[(List.mergeSort_perm _ _).nodup_iff];unfold List.Nodup;rw[List.pairwise_map];refine⟨fun h=>h.imp fun j e=>j (by rw[e]),fun h=>h.imp fun j e=>j (gO (gG.1 e))⟩
end Q
end
end Go.Proofs.YthbihnpoghlfaaaGreatDoor
