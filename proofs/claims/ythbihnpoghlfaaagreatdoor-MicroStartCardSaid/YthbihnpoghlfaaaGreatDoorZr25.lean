import Derived.Test.YthbihnpoghlfaaaGreatDoorZr22
import Derived.Test.YthbihnpoghlfaaaGreatDoorZr24
set_option linter.unusedVariables false
set_option linter.unusedSimpArgs false
set_option maxHeartbeats 8000000
set_option maxRecDepth 100000
namespace Go.Proofs.YthbihnpoghlfaaaGreatDoor
section
open Go.RowKit Q Go.Lib
theorem WW {vars:List Var} {Ac:List BS} {j:List ByteArray} {l:List Q.Cell} {x:BS} (o:∀y∈Ac,FL y) (h:C4 vars Ac j l=.ok x):FL x:=by
 unfold C4 Hi.of at h;split at h
 ·rename_i p;obtain⟨t,hw,rfl⟩:=CE p;have e:=Ii (Dq vars Ac j) t hw [] [];rw[cP]at e;rw[e]at h;cases he:(Dq vars Ac j).ev t with
  |err y=>rw[he]at h;cases h
  |ok y=>
   rw[he]at h;injection h with h
   subst h;exact Jm o t hw he
 ·cases h
theorem KY {vars:List Var} {Ac vals':List BS} {a:Q.Act} (j:∀y∈Ac,FL y) (h:C5 vars Ac a=some vals'):vals'.length=Ac.length/\∀y∈vals',FL y:=by
 unfold C5 at h;split at h
 ·cases h
 ·split at h
  ·cases h
  ·rename_i x p;split at h
   ·split at h
    ·injection h with h
     subst h;refine⟨List.length_set,fun y o=>?_⟩;rcases iV o with o|rfl
     ·exact j y o
     ·exact WW j p
    ·cases h
   ·cases h
end
section
open Go.RowKit Q Go.Lib
structure F6 (B:Nat) (V R S:Value) (d:N7) (w:World):Prop where
 Ac:w.ownsRow B 60 3 V d.Ac.length (d.Ac.flatMap BU)
 raised:w.ownsRow B 9 1 R d.raised.length (strs d.raised)
 Ao:w.ownsRow B 9 1 S d.Ao.length (strs d.Ao)
 apart:R.ownBlock=none\/R.ownBlock≠S.ownBlock
section
variable {B:Nat} {V R S:Value} {d:N7} {w w':World}
theorem F6.below (h:F6 B V R S d w) (j:Below w.heap.size w w'):F6 B V R S d w':=
 ⟨AG h.Ac j,AG h.raised j,AG h.Ao j,h.apart⟩
theorem F6.raise {R':Value} {s:ByteArray} (h:F6 B V R S d w) (o:w'.ownsRow B 9 1 R' (d.raised.length+1) (strs d.raised++[.string s])) (j:w.grownBy w' R.ownBlock) (p:R'.ownBlock=R.ownBlock\/R'.ownBlock=some w.heap.size) :
  F6 B V R' S {d with raised:=d.raised++[s]} w':=by
 refine⟨h.Ac.kept j (Fm h.Ac h.raised (by decide)),?_,?_,?_⟩
 ·show w'.ownsRow B _ 1 R' (d.raised++[s]).length (strs (d.raised++[s]));unfold strs;rw[aO,bN];exact o
 ·refine h.Ao.kept j ?_;rcases h.apart with e|e
  ·cases I:S.ownBlock with
   |none=>exact .inl rfl
   |some g=>rw[e];exact .inr fun h=>by cases h
  ·exact .inr fun x=>e x.symm
 ·rcases p with e|e
  ·rw[e];exact h.apart
  ·refine .inr fun x=>?_
   rw[e]at x;have:=(Bd h.Ao x.symm).1;omega
theorem F6.tell {j:Value} {s:ByteArray} (h:F6 B V R S d w) (p:w'.ownsRow B 9 1 j (d.Ao.length+1) (strs d.Ao++[.string s])) (o:w.grownBy w' S.ownBlock) (I:j.ownBlock=S.ownBlock\/j.ownBlock=some w.heap.size) :
  F6 B V R j {d with Ao:=d.Ao++[s]} w':=by
 refine⟨h.Ac.kept o (Fm h.Ac h.Ao (by decide)),h.raised.kept o h.apart,?_,?_⟩
 ·show w'.ownsRow B _ 1 j (d.Ao++[s]).length (strs (d.Ao++[s]));unfold strs;rw[aO,bN];exact p
 ·rcases I with e|e
  ·rw[e];exact h.apart
  ·cases J:R.ownBlock with
   |none=>exact .inl rfl
   |some g=>
    refine .inr fun x=>?_
    rw[e]at x;injection x with x
    have:=(Bd h.raised J).1;omega
end
theorem Q2 (Ac:List BS) (i:Nat) (x:BS) (h:i<Ac.length):(Ac.set i x).flatMap BU=(((Ac.flatMap BU).set (i*3) (.int .i64 x.kind)).set (i*3+1) (.int .i64 x.a)).set (i*3+2) (.int .i64 x.b):=by
 induction Ac generalizing i with
 |nil=>simp at h
 |cons v Ac ih=>
  cases i with
  |zero=>rfl
  |succ i=>
   have e:(i+1)*3=i*3+3:=by omega
   rw[e,aD,eE,eE,ih i (by simpa using h)];rfl
end
end Go.Proofs.YthbihnpoghlfaaaGreatDoor
