/- Package wire: messages; 'tell'. -/
import Derived.Test.YtgacphicgglogaaWireF
namespace Go.Proofs.Ytgacphicgglogaa
open Go.RowKit Crc
set_option linter.unusedVariables false

structure SetL where
  var : Int
  kind : Int
  a : Int
  b : Int
structure PastL where
  state : Int
  set : List Int
structure MsgL where
  kind : Int
  step : Nat
  event : ByteArray
  trans : List Int
  states : List Int
  enter : List Int
  vars : List Int
  sets : List SetL
  pasts : List PastL

/-- A slice of numbers in memory below block B. -/
def IntsAt (w : World) (B : Nat) (v : Value) (l : List Int) : Prop := ∃ A n c, v = .slice A n c ∧ l.length = n ∧ n ≤ 9223372036854775807 ∧ Reads w B 1 A n (intV l)
def SetsAt (w : World) (B : Nat) (v : Value) (l : List SetL) : Prop := ∃ A n c, v = .slice A n c ∧ l.length = n ∧ n ≤ 9223372036854775807 ∧ ∀ i (h : i < l.length), ∃ ad, A = some ad ∧ ad.block < B ∧ w.cell? (ad.add (i * 4)) = some (.int .i64 l[i].var) ∧
  w.cell? { block := (ad.add (i * 4)).block, off := (ad.add (i * 4)).off + 1 } = some (.int .i64 l[i].kind) ∧ w.cell? { block := (ad.add (i * 4)).block, off := (ad.add (i * 4)).off + 2 } = some (.int .i64 l[i].a) ∧ w.cell? { block := (ad.add (i * 4)).block, off := (ad.add (i * 4)).off + 3 } = some (.int .i64 l[i].b)
def PastsAt (w : World) (B : Nat) (v : Value) (l : List PastL) : Prop := ∃ A n c, v = .slice A n c ∧ l.length = n ∧ n ≤ 9223372036854775807 ∧ ∀ i (h : i < l.length), ∃ ad u, A = some ad ∧ ad.block < B ∧ w.cell? (ad.add (i * 2)) = some (.int .i64 l[i].state) ∧
  w.cell? { block := (ad.add (i * 2)).block, off := (ad.add (i * 2)).off + 1 } = some u ∧ IntsAt w B u l[i].set

def SetL.wf (s : SetL) : Prop := (-9223372036854775808 ≤ s.a ∧ s.a ≤ 9223372036854775807) ∧ (-9223372036854775808 ≤ s.b ∧ s.b ≤ 9223372036854775807)

structure MsgAt (w : World) (B : Nat) (v : Value) (m : MsgL) : Prop where
  ex : ∃ v1 v2 v3 v4 v5 v6, v = .agg #[.int .i64 m.kind, .int .u64 (m.step : Int), .string m.event, v1, v2, v3, v4, v5, v6] ∧ IntsAt w B v1 m.trans ∧ IntsAt w B v2 m.states ∧ IntsAt w B v3 m.enter ∧ IntsAt w B v4 m.vars ∧ SetsAt w B v5 m.sets ∧ PastsAt w B v6 m.pasts
  step : m.step < 18446744073709551616
  event : m.event.size ≤ maxLen
  sets : ∀ s ∈ m.sets, s.wf

section
variable {w w' : World} {B : Nat} {v : Value}
theorem IntsAt.below {l : List Int} (h : IntsAt w B v l) (hb : Below B w w') : IntsAt w' B v l := by
  obtain ⟨A, n, c, e, h1, h2, h3⟩ := h
  exact ⟨A, n, c, e, h1, h2, h3.below hb⟩
theorem SetsAt.below {l : List SetL} (h : SetsAt w B v l) (hb : Below B w w') : SetsAt w' B v l := by
  obtain ⟨A, n, c, e, h1, h2, h3⟩ := h
  refine ⟨A, n, c, e, h1, h2, fun i hi => ?_⟩
  obtain ⟨ad, e1, e2, e3, e4, e5, e6⟩ := h3 i hi
  have hbl : (ad.add (i * 4)).block < B := by rw [block_of_add]; exact e2
  have hcl : ∀ o, w'.cell? { block := (ad.add (i * 4)).block, off := o } = w.cell? { block := (ad.add (i * 4)).block, off := o } := fun o => hb.cell (p := { block := (ad.add (i * 4)).block, off := o }) hbl
  exact ⟨ad, e1, e2, (hb.cell hbl).trans e3, (hcl _).trans e4, (hcl _).trans e5, (hcl _).trans e6⟩
theorem PastsAt.below {l : List PastL} (h : PastsAt w B v l) (hb : Below B w w') : PastsAt w' B v l := by
  obtain ⟨A, n, c, e, h1, h2, h3⟩ := h
  refine ⟨A, n, c, e, h1, h2, fun i hi => ?_⟩
  obtain ⟨ad, u, e1, e2, e3, e4, e5⟩ := h3 i hi
  have hbl : (ad.add (i * 2)).block < B := by rw [block_of_add]; exact e2
  have hcl : ∀ o, w'.cell? { block := (ad.add (i * 2)).block, off := o } = w.cell? { block := (ad.add (i * 2)).block, off := o } := fun o => hb.cell (p := { block := (ad.add (i * 2)).block, off := o }) hbl
  exact ⟨ad, u, e1, e2, (hb.cell hbl).trans e3, (hcl _).trans e4, e5.below hb⟩
theorem MsgAt.below {m : MsgL} (h : MsgAt w B v m) (hb : Below B w w') : MsgAt w' B v m := by
  obtain ⟨⟨v1, v2, v3, v4, v5, v6, e, h1, h2, h3, h4, h5, h6⟩, hs, he, hst⟩ := h
  exact ⟨⟨v1, v2, v3, v4, v5, v6, e, h1.below hb, h2.below hb, h3.below hb, h4.below hb, h5.below hb, h6.below hb⟩, hs, he, hst⟩
end

def u64of (a : Int) : Nat := (a % 18446744073709551616).toNat
theorem u64of_lt (a : Int) : u64of a < 18446744073709551616 := by unfold u64of; omega
theorem u64of_wrap (a : Int) : IntKind.u64.wrap a = (u64of a : Int) := by
  unfold u64of
  simp [IntKind.wrap, IntKind.bits, IntKind.signed]
  omega
def setOk (s : SetL) : Prop := (0 ≤ s.var ∧ s.var ≤ 63) ∧ 1 ≤ s.kind ∧ s.kind ≤ 3
def setB (s : SetL) : List UInt8 := smallB s.var :: smallB s.kind :: (le8 (u64of s.a) ++ le8 (u64of s.b))
def pastOk (p : PastL) : Prop := (0 ≤ p.state ∧ p.state ≤ 63) ∧ listOk p.set
def pastB (p : PastL) : List UInt8 := smallB p.state :: listB p.set
instance (s : SetL) : Decidable (setOk s) := by unfold setOk; infer_instance
instance (p : PastL) : Decidable (pastOk p) := by unfold pastOk; infer_instance
structure MsgL.Ok (m : MsgL) : Prop where
  kind1 : 1 ≤ m.kind
  kind9 : m.kind ≤ 9
  event : m.event.size ≤ 20
  trans : listOk m.trans
  states : listOk m.states
  enter : listOk m.enter
  vars : listOk m.vars
  setsN : m.sets.length ≤ 8
  sets : ∀ s ∈ m.sets, setOk s
  pastsN : m.pasts.length ≤ 40
  pasts : ∀ p ∈ m.pasts, pastOk p
/-- What a message's bytes are, part by part. -/
def msgHead (m : MsgL) : List UInt8 := smallB m.kind :: (le8 m.step ++ smallB (m.event.size : Int) :: m.event.data.toList)
def msgLists (m : MsgL) : List UInt8 := listB m.trans ++ (listB m.states ++ (listB m.enter ++ listB m.vars))
def msgB (m : MsgL) : List UInt8 := msgHead m ++ (msgLists m ++ (smallB (m.sets.length : Int) :: (m.sets.flatMap setB ++ smallB (m.pasts.length : Int) :: m.pasts.flatMap pastB)))

/-! ### the ways out of 'tell' -/
theorem tell_fail (R : Ending → World → Prop) (tmps : Array Value) (E : Nat) (x : Value) (w1 : World) (h2 : tmps[2]? = some (.slice none 0 0)) (h3 : tmps[3]? = some (.pointer (some ⟨E, 0, none⟩)))
    (hc : w1.cell? ⟨E, 0, none⟩ = some x) (hz : w1.frozen? ⟨E, 0, none⟩ = false) (hlt : E < w1.heap.size)
    (hR : ∀ o, R (.returned (.tuple #[.slice none 0 0, .int .i64 1])) ((w1.alloc o).setCell ⟨E, 0, none⟩ (.int .i64 1))) :
    bodyPostD Try.prog Try.f53 R (.panic stops) { tmps := tmps, defers := [{ target := .fn (.func 77) #[], args := #[.pointer (some ⟨E, 0, none⟩)] }] } w1 := by
  refine leaves_cons (f := 77) (args := #[.pointer (some ⟨E, 0, none⟩)]) (by simp) (by simp [go_sem]) ?_
  refine (caught_panicking ⟨E, 0, none⟩ x [] w1 hlt hc hz).mono ?_
  rintro e u' w'' ⟨rfl, rfl, o, rfl⟩
  have hlt2 : E < (w1.alloc o).heap.size := by rw [World.size_alloc]; omega
  have hc2 : ((w1.alloc o).setCell ⟨E, 0, none⟩ (.int .i64 1)).cell? ⟨E, 0, none⟩ = some (.int .i64 1) := by
    have hca : (w1.alloc o).cell? ⟨E, 0, none⟩ = some x := by
      rw [World.cell?_alloc_lt w1 o ⟨E, 0, none⟩ hlt]
      exact hc
    simp [go_sem, hca]
  simp [Leaves, settle, results, Try.results53, go_sem, h2, h3, hc2]
  exact hR o
theorem tell_done (R : Ending → World → Prop) (tmps : Array Value) (E : Nat) (y x : Value) (w1 : World) (h2 : tmps[2]? = some y) (h3 : tmps[3]? = some (.pointer (some ⟨E, 0, none⟩)))
    (hc : w1.cell? ⟨E, 0, none⟩ = some x) (hx : x.oneCell' = true) (hR : R (.returned (.tuple #[y, x])) w1) :
    bodyPostD Try.prog Try.f53 R .ret { tmps := tmps, defers := [{ target := .fn (.func 77) #[], args := #[.pointer (some ⟨E, 0, none⟩)] }] } w1 := by
  refine leaves_cons (f := 77) (args := #[.pointer (some ⟨E, 0, none⟩)]) (by simp) (by simp [go_sem]) ?_
  refine (caught_idle ⟨E, 0, none⟩ w1).mono ?_
  rintro e u' w'' ⟨rfl, rfl, rfl⟩
  simp [Leaves, settle, results, Try.results53, go_sem, h2, h3, hc]
  exact hR
end Go.Proofs.Ytgacphicgglogaa
