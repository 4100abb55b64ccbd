/- A link's end in memory: its block, the rows of its two slices; what an act leaves; 'put'. -/
import Derived.Test.YtgacphicgglogaaWireC
import Derived.WalkSpells
namespace Go.Proofs.Ytgacphicgglogaa
open Go.RowKit Crc
set_option linter.unusedVariables false

theorem str_info : (Try.prog.info? 9).map (fun i => (i.zero, i.size, i.bytes)) = some (some (.string ByteArray.empty), 1, 16) := by kernel_rfl
def strs (l : List ByteArray) : List Value := l.map Value.string
theorem strs_len (l : List ByteArray) : (strs l).length = l.length := by simp [strs]
theorem strs_one (l : List ByteArray) : ∀ u ∈ strs l, u.oneCell' = true := fun u hu => by
  obtain ⟨s, _, rfl⟩ := List.mem_map.1 hu
  rfl

/-- What may have been written: the blocks of S, and new ones. -/
structure Touch (S : Nat → Prop) (w w' : World) : Prop where
  os : w'.os = w.os
  tape : w'.tape = w.tape
  output : w'.output = w.output
  size : w.heap.size ≤ w'.heap.size
  block : ∀ k, k < w.heap.size → ¬ S k → w'.heap[k]? = w.heap[k]?

section
variable {S S1 : Nat → Prop} {w w1 w2 : World}
theorem Touch.refl (S : Nat → Prop) (w : World) : Touch S w w := ⟨rfl, rfl, rfl, Nat.le_refl _, fun _ _ _ => rfl⟩
theorem Touch.trans (h : Touch S w w1) (k : Touch S1 w1 w2) (hs : ∀ k, S1 k → S k ∨ w.heap.size ≤ k) : Touch S w w2 :=
  ⟨k.os.trans h.os, k.tape.trans h.tape, k.output.trans h.output, Nat.le_trans h.size k.size, fun j hj hS =>
    (k.block j (by have := h.size; omega) (fun h1 => by rcases hs j h1 with h2 | h2; exact hS h2; omega)).trans (h.block j hj hS)⟩
theorem Touch.of_below (h : Below w.heap.size w w1) : Touch S w w1 := ⟨h.os, h.tape, h.output, h.size, fun j hj _ => h.block j hj⟩
theorem Touch.of_grown {r : Option Nat} (h : w.grownBy w1 r) (hr : ∀ k, r = some k → S k) : Touch S w w1 := ⟨h.os, h.tape, h.output, h.size, fun j hj hS => h.block j hj (fun e => hS (hr j e.symm))⟩
theorem Touch.of_set (p : Addr) (u : Value) (hp : S p.block) : Touch S w (w.setCell p u) := ⟨rfl, rfl, rfl, by rw [World.size_setCell]; exact Nat.le_refl _, fun j _ hS => Below.heap_setCell w p u j (fun e => hS (e ▸ hp))⟩
theorem Touch.drewN (h : Touch S w w1) (n : Nat) : Touch S w (w1.drewN n) := ⟨h.os, h.tape, h.output, h.size, h.block⟩
theorem Touch.more (h : Touch S w w1) (hs : ∀ k, S k → S1 k) : Touch S1 w w1 := ⟨h.os, h.tape, h.output, h.size, fun j hj hS => h.block j hj (fun h1 => hS (hs j h1))⟩
theorem Touch.below {B : Nat} (h : Touch S w w1) (hB : B ≤ w.heap.size) (hS : ∀ k, S k → B ≤ k) : Below B w w1 :=
  ⟨h.os, h.tape, h.output, h.size, fun j hj => h.block j (by omega) (fun h1 => by have := hS j h1; omega)⟩
theorem Touch.own {B e size n : Nat} {v : Value} {xs : List Value} (h : Touch S w w1) (ho : w.ownsRow B e size v n xs) (hv : ∀ k, v.ownBlock = some k → ¬ S k) : w1.ownsRow B e size v n xs := by
  refine ⟨ho.1, ?_⟩
  rcases ho.2 with h1 | ⟨g, cap, cur, rfl, hb, hg, h3⟩
  · exact .inl h1
  · exact .inr ⟨g, cap, cur, rfl, hb, (h.block g (Array.getElem?_eq_some_iff.1 hg).1 (hv g rfl)).trans hg, h3⟩
theorem Touch.blk {g t : Nat} {cs : Array Value} (h : Touch S w w1) (hb : Blk w g t cs) (hg : ¬ S g) : Blk w1 g t cs := (h.block g hb.lt hg).trans hb
end

structure LK where
  last : Nat
  told : Nat
  out : Nat
  came : Nat
  taken : Nat
  loads : List ByteArray
  slots : List (Option ByteArray)
  goes : List ByteArray

def slotCells : Option ByteArray → List Value
  | none => [.bool false, .string ⟨#[]⟩]
  | some s => [.bool true, .string s]
def slotsCells (l : List (Option ByteArray)) : List Value := l.flatMap slotCells
theorem slotsCells_len : ∀ l : List (Option ByteArray), (slotsCells l).length = l.length * 2
  | [] => rfl
  | a :: l => by
    have := slotsCells_len l
    unfold slotsCells at this ⊢
    rw [List.flatMap_cons, List.length_append, this, List.length_cons]
    cases a <;> simp [slotCells] <;> omega
theorem slotsCells_at : ∀ (l : List (Option ByteArray)) (i j : Nat), i < l.length → j < 2 → (slotsCells l)[i * 2 + j]? = (slotCells (l[i]?.getD none))[j]?
  | [], i, j, h, _ => absurd h (by simp)
  | a :: l, 0, j, _, hj => by
    unfold slotsCells
    rw [List.flatMap_cons, List.getElem?_append_left (by cases a <;> simp [slotCells] <;> omega)]
    simp
  | a :: l, i + 1, j, h, hj => by
    have := slotsCells_at l i j (by simpa using h) hj
    unfold slotsCells at this ⊢
    have ha : (slotCells a).length = 2 := by cases a <;> rfl
    rw [List.flatMap_cons, List.getElem?_append_right (by omega), ha, show (i + 1) * 2 + j - 2 = i * 2 + j by omega, this]
    simp
theorem slotsCells_set : ∀ (l : List (Option ByteArray)) (i : Nat) (x : Option ByteArray) (a b : Value), i < l.length → slotCells x = [a, b] → ((slotsCells l).set (i * 2) a).set (i * 2 + 1) b = slotsCells (l.set i x)
  | [], i, _, _, _, h, _ => absurd h (by simp)
  | s :: l, 0, x, a, b, _, hx => by
    unfold slotsCells
    simp only [List.set_cons_zero, List.flatMap_cons, hx]
    cases s <;> rfl
  | s :: l, i + 1, x, a, b, h, hx => by
    have := slotsCells_set l i x a b (by simpa using h) hx
    unfold slotsCells at this ⊢
    have ha : (slotCells s).length = 2 := by cases s <;> rfl
    rw [List.flatMap_cons, List.set_cons_succ, List.flatMap_cons, List.set_append_right _ _ (by omega), List.set_append_right _ _ (by omega), ha, show (i + 1) * 2 - 2 = i * 2 by omega, show (i + 1) * 2 + 1 - 2 = i * 2 + 1 by omega, this]

namespace LK
def cells (l : LK) (vL vG : Value) : List Value := [.int .u64 l.last, .int .u64 l.told, .int .u64 l.out, .int .u64 l.came, .int .u64 l.taken, vL] ++ (slotsCells l.slots ++ [vG])
/-- What always holds of an end. -/
structure Ok (l : LK) : Prop where
  told : l.told ≤ l.out
  out : l.out ≤ l.last
  ahead : l.out ≤ l.told + 8
  room : l.last ≤ l.told + 64
  loads : l.loads.length = l.last - l.told
  taken : l.taken ≤ l.came
  came : l.came ≤ l.taken + 8
  slots : l.slots.length = 8
  goes : l.goes.length ≤ 64
  short : ∀ s ∈ l.loads, s.size ≤ 800
def put (l : LK) (k n : Nat) (s : ByteArray) : LK := { l with goes := if l.goes.length = 64 then l.goes else l.goes ++ [(packRes k n s).1] }
end LK

def Foot (p : Nat) (vL vG : Value) (k : Nat) : Prop := k = p ∨ vL.ownBlock = some k ∨ vG.ownBlock = some k

/-- An end in memory: its block p, the slices of its loads and of what is to go. -/
structure LinkAt (w : World) (B p : Nat) (vL vG : Value) (l : LK) : Prop where
  base : B ≤ p
  blk : Blk w p 96 (l.cells vL vG).toArray
  loads : w.ownsRow B 9 1 vL l.loads.length (strs l.loads)
  goes : w.ownsRow B 9 1 vG l.goes.length (strs l.goes)
  apart : ∀ k, vL.ownBlock = some k → vG.ownBlock ≠ some k
  slots : l.slots.length = 8

section
variable {w w' : World} {B p : Nat} {vL vG : Value} {l : LK}
theorem LinkAt.pL (h : LinkAt w B p vL vG l) : vL.ownBlock ≠ some p := own_blk_ne h.loads h.blk (by decide)
theorem LinkAt.pG (h : LinkAt w B p vL vG l) : vG.ownBlock ≠ some p := own_blk_ne h.goes h.blk (by decide)
theorem LinkAt.foot (h : LinkAt w B p vL vG l) {k : Nat} (hk : Foot p vL vG k) : B ≤ k ∧ k < w.heap.size := by
  rcases hk with rfl | hk | hk
  · exact ⟨h.base, h.blk.lt⟩
  · exact h.loads.lt k hk
  · exact h.goes.lt k hk
theorem LinkAt.touch {S : Nat → Prop} (h : LinkAt w B p vL vG l) (ht : Touch S w w') (hS : ∀ k, Foot p vL vG k → ¬ S k) : LinkAt w' B p vL vG l :=
  ⟨h.base, ht.blk h.blk (hS p (.inl rfl)), ht.own h.loads (fun k hk => hS k (.inr (.inl hk))), ht.own h.goes (fun k hk => hS k (.inr (.inr hk))), h.apart, h.slots⟩
theorem LinkAt.below (h : LinkAt w B p vL vG l) (hb : Below w.heap.size w w') : LinkAt w' B p vL vG l :=
  h.touch (S := fun _ => False) (Touch.of_below hb) (fun _ _ h => h)
theorem LinkAt.more {B' : Nat} (h : LinkAt w B p vL vG l) (hB : B' ≤ B) : LinkAt w B' p vL vG l :=
  ⟨Nat.le_trans hB h.base, h.blk, ⟨h.loads.1, h.loads.2.imp_right fun ⟨g, c, u, e, hb, r⟩ => ⟨g, c, u, e, Nat.le_trans hB hb, r⟩⟩, ⟨h.goes.1, h.goes.2.imp_right fun ⟨g, c, u, e, hb, r⟩ => ⟨g, c, u, e, Nat.le_trans hB hb, r⟩⟩, h.apart, h.slots⟩
theorem LinkAt.drewN (h : LinkAt w B p vL vG l) (n : Nat) : LinkAt (w.drewN n) B p vL vG l := ⟨h.base, h.blk, h.loads, h.goes, h.apart, h.slots⟩
theorem LinkAt.alloc (h : LinkAt w B p vL vG l) (o : Obj) : LinkAt (w.alloc o) B p vL vG l := h.below ((Below.refl _ _).alloc (Nat.le_refl _) _)
theorem LinkAt.cell (h : LinkAt w B p vL vG l) (i : Nat) : w.cell? ⟨p, i, none⟩ = (l.cells vL vG)[i]? := by rw [h.blk.cell i, List.getElem?_toArray]
theorem LinkAt.cells (h : LinkAt w B p vL vG l) : w.cell? ⟨p, 0, none⟩ = some (.int .u64 l.last) ∧ w.cell? ⟨p, 1, none⟩ = some (.int .u64 l.told) ∧ w.cell? ⟨p, 2, none⟩ = some (.int .u64 l.out) ∧ w.cell? ⟨p, 3, none⟩ = some (.int .u64 l.came) ∧ w.cell? ⟨p, 4, none⟩ = some (.int .u64 l.taken) ∧
    w.cell? ⟨p, 5, none⟩ = some vL ∧ w.cell? ⟨p, 22, none⟩ = some vG :=
  ⟨h.cell 0, h.cell 1, h.cell 2, h.cell 3, h.cell 4, h.cell 5, by
    rw [h.cell 22]
    unfold LK.cells
    have := slotsCells_len l.slots
    have hs := h.slots
    rw [List.getElem?_append_right (by simp), List.getElem?_append_right (by simp; omega)]
    simp only [List.length_cons, List.length_nil, this, hs]
    rfl⟩
theorem LinkAt.slot (h : LinkAt w B p vL vG l) (i j : Nat) (hi : i < 8) (hj : j < 2) : w.cell? ⟨p, 6 + (i * 2 + j), none⟩ = (slotCells (l.slots[i]?.getD none))[j]? := by
  rw [h.cell]
  unfold LK.cells
  have := slotsCells_len l.slots
  have hs := h.slots
  rw [List.getElem?_append_right (by simp), List.getElem?_append_left (by simp; omega)]
  simp only [List.length_cons, List.length_nil]
  rw [show 6 + (i * 2 + j) - (0 + 1 + 1 + 1 + 1 + 1 + 1) = i * 2 + j by omega]
  exact slotsCells_at l.slots i j (by omega) hj
theorem LinkAt.slot0 (h : LinkAt w B p vL vG l) (q : Nat) (hq : q < 8) : w.cell? ⟨p, 6 + q * 2, none⟩ = some (.bool (l.slots[q]?.getD none).isSome) := by
  have := h.slot q 0 hq (by omega)
  rw [Nat.add_zero] at this
  rw [this]
  cases l.slots[q]?.getD none <;> rfl
theorem LinkAt.slot1 (h : LinkAt w B p vL vG l) (q : Nat) (hq : q < 8) : w.cell? ⟨p, 6 + q * 2 + 1, none⟩ = some (.string ((l.slots[q]?.getD none).getD ⟨#[]⟩)) := by
  have := h.slot q 1 hq (by omega)
  rw [← Nat.add_assoc] at this
  rw [this]
  cases l.slots[q]?.getD none <;> rfl
theorem LinkAt.frozen (h : LinkAt w B p vL vG l) (i : Nat) : w.frozen? ⟨p, i, none⟩ = false := h.blk.frozen i
theorem LinkAt.set_ (h : LinkAt w B p vL vG l) (i : Nat) (u : Value) (l' : LK) (hc : (l.cells vL vG).set i u = l'.cells vL vG) (h1 : l'.loads = l.loads) (h2 : l'.goes = l.goes) (h3 : l'.slots.length = 8) : LinkAt (w.setCell ⟨p, i, none⟩ u) B p vL vG l' := by
  have ht : Touch (fun k => k = p) w (w.setCell ⟨p, i, none⟩ u) := Touch.of_set _ _ rfl
  refine ⟨h.base, ?_, ?_, ?_, h.apart, h3⟩
  · have := h.blk.set_ i u
    rw [List.setIfInBounds_toArray, hc] at this
    exact this
  · rw [h1]; exact ht.own h.loads (fun k hk e => h.pL (e ▸ hk))
  · rw [h2]; exact ht.own h.goes (fun k hk e => h.pG (e ▸ hk))
end

theorem LK.cells_setS (l : LK) (q : Nat) (x : Option ByteArray) (a b vL vG : Value) (hs : l.slots.length = 8) (hq : q < 8) (hx : slotCells x = [a, b]) : ((l.cells vL vG).set (6 + q * 2) a).set (6 + q * 2 + 1) b = ({ l with slots := l.slots.set q x } : LK).cells vL vG := by
  have := slotsCells_len l.slots
  have h2 := slotsCells_set l.slots q x a b (by omega) hx
  unfold LK.cells
  rw [List.set_append_right _ _ (by simp), List.set_append_right _ _ (by simp; omega)]
  simp only [List.length_cons, List.length_nil]
  rw [show 6 + q * 2 - (0 + 1 + 1 + 1 + 1 + 1 + 1) = q * 2 by omega, show 6 + q * 2 + 1 - (0 + 1 + 1 + 1 + 1 + 1 + 1) = q * 2 + 1 by omega, List.set_append_left _ _ (by omega), List.set_append_left _ _ (by rw [List.length_set]; omega), h2]
theorem LinkAt.setS {w : World} {B p : Nat} {vL vG : Value} {l : LK} (h : LinkAt w B p vL vG l) (q : Nat) (hq : q < 8) (x : Option ByteArray) (a b : Value) (hx : slotCells x = [a, b]) :
    LinkAt ((w.setCell ⟨p, 6 + q * 2, none⟩ a).setCell ⟨p, 6 + q * 2 + 1, none⟩ b) B p vL vG { l with slots := l.slots.set q x } := by
  have ht : Touch (fun k => k = p) w ((w.setCell ⟨p, 6 + q * 2, none⟩ a).setCell ⟨p, 6 + q * 2 + 1, none⟩ b) := (Touch.of_set (S := fun k => k = p) _ _ rfl).trans (Touch.of_set (S := fun k => k = p) _ _ rfl) (fun k hk => .inl hk)
  refine ⟨h.base, ?_, ht.own h.loads (fun k hk e => h.pL (e ▸ hk)), ht.own h.goes (fun k hk e => h.pG (e ▸ hk)), h.apart, by show (l.slots.set q x).length = 8; rw [List.length_set]; exact h.slots⟩
  have := (h.blk.set_ (6 + q * 2) a).set_ (6 + q * 2 + 1) b
  rw [List.setIfInBounds_toArray, List.setIfInBounds_toArray, LK.cells_setS l q x a b vL vG h.slots hq hx] at this
  exact this
theorem LK.cells_setG (l : LK) (g : List ByteArray) (vL vG v' : Value) (hs : l.slots.length = 8) : (l.cells vL vG).set 22 v' = ({ l with goes := g } : LK).cells vL v' := by
  have := slotsCells_len l.slots
  unfold LK.cells
  rw [List.set_append_right _ _ (by simp), List.set_append_right _ _ (by simp; omega)]
  simp only [List.length_cons, List.length_nil, this, hs]
  rfl
theorem LinkAt.setG {w : World} {B p : Nat} {vL vG v' : Value} {l : LK} (g : List ByteArray) (hp : B ≤ p) (hb : Blk w p 96 (l.cells vL vG).toArray) (hL : w.ownsRow B 9 1 vL l.loads.length (strs l.loads)) (hG : w.ownsRow B 9 1 v' g.length (strs g))
    (hap : ∀ k, vL.ownBlock = some k → v'.ownBlock ≠ some k) (hs : l.slots.length = 8) : LinkAt (w.setCell ⟨p, 22, none⟩ v') B p vL v' { l with goes := g } := by
  have ht : Touch (fun k => k = p) w (w.setCell ⟨p, 22, none⟩ v') := Touch.of_set _ _ rfl
  refine ⟨hp, ?_, ht.own hL (fun k hk e => own_blk_ne hL hb (by decide) (e ▸ hk)), ht.own hG (fun k hk e => own_blk_ne hG hb (by decide) (e ▸ hk)), hap, hs⟩
  have := hb.set_ 22 v'
  rw [List.setIfInBounds_toArray, LK.cells_setG l g vL vG v' hs] at this
  exact this
theorem LinkAt.setL {w : World} {B p : Nat} {vL vG v' : Value} {l : LK} (g : List ByteArray) (hp : B ≤ p) (hb : Blk w p 96 (l.cells vL vG).toArray) (hG : w.ownsRow B 9 1 vG l.goes.length (strs l.goes)) (hL : w.ownsRow B 9 1 v' g.length (strs g))
    (hap : ∀ k, v'.ownBlock = some k → vG.ownBlock ≠ some k) (hs : l.slots.length = 8) : LinkAt (w.setCell ⟨p, 5, none⟩ v') B p v' vG { l with loads := g } := by
  have ht : Touch (fun k => k = p) w (w.setCell ⟨p, 5, none⟩ v') := Touch.of_set _ _ rfl
  refine ⟨hp, ?_, ht.own hL (fun k hk e => own_blk_ne hL hb (by decide) (e ▸ hk)), ht.own hG (fun k hk e => own_blk_ne hG hb (by decide) (e ▸ hk)), hap, hs⟩
  have := hb.set_ 5 v'
  rw [List.setIfInBounds_toArray] at this
  exact this

/-- What an act leaves of an end. -/
def LinkEnd (w : World) (B p : Nat) (vL vG : Value) (l' : LK) (w' : World) : Prop :=
  ∃ vL' vG', LinkAt w' B p vL' vG' l' ∧ Touch (Foot p vL vG) w w' ∧ ∀ k, Foot p vL' vG' k → Foot p vL vG k ∨ w.heap.size ≤ k

theorem LinkEnd.refl {w : World} {B p : Nat} {vL vG : Value} {l : LK} (h : LinkAt w B p vL vG l) : LinkEnd w B p vL vG l w := ⟨vL, vG, h, Touch.refl _ _, fun k hk => .inl hk⟩
theorem LinkEnd.next {w w1 w2 : World} {B p : Nat} {vL vG vL1 vG1 : Value} {l2 : LK} (ht : Touch (Foot p vL vG) w w1) (hf : ∀ k, Foot p vL1 vG1 k → Foot p vL vG k ∨ w.heap.size ≤ k)
    (h : LinkEnd w1 B p vL1 vG1 l2 w2) : LinkEnd w B p vL vG l2 w2 := by
  obtain ⟨vL2, vG2, h2, ht2, hf2⟩ := h
  refine ⟨vL2, vG2, h2, ht.trans ht2 hf, fun k hk => ?_⟩
  rcases hf2 k hk with h3 | h3
  · exact hf k h3
  · exact .inr (Nat.le_trans ht.size h3)

set_option maxHeartbeats 1000000 in
set_option maxRecDepth 100000 in
theorem put_any (w : World) (B p : Nat) (vL vG : Value) (l : LK) (h : LinkAt w B p vL vG l) (hB : B ≤ w.heap.size) (hg : l.goes.length ≤ 64) (k n : Nat) (s : ByteArray) (hn : n < 18446744073709551616) (hs : s.size ≤ 800) :
    Calls Try.prog 75 #[.pointer (some ⟨p, 0, none⟩), .int .i64 (k : Int), .int .u64 (n : Int), .string s] w fun e w' => e = .returned (.tuple #[]) ∧ LinkEnd w B p vL vG (l.put k n s) w' := by
  obtain ⟨i0, hi0, hz0, hz1, hz2⟩ := info_parts str_info
  obtain ⟨hc0, hc1, hc2, hc3, hc4, hc5, hc22⟩ := h.cells
  obtain ⟨A, c, rfl⟩ := own_form h.goes
  clear hc0 hc1 hc2 hc3 hc4 hc5
  go_enter Try.func75, Try.ntmps75
  by_cases h64 : l.goes.length = 64
  · have HL := Lib.hid (show l.put k n s = l by unfold LK.put; rw [if_pos h64])
    rw [h64] at hc22
    clear h64
    go_wp2
    refine bodyPost_ret (results_none rfl _ _ _) rfl ?_
    exact ⟨rfl, by rw [HL.out]; exact LinkEnd.refl h⟩
  · have HL := Lib.hid (show l.put k n s = { l with goes := l.goes ++ [(packRes k n s).1] } by unfold LK.put; rw [if_neg h64])
    obtain ⟨m, hm⟩ : ∃ m, l.goes.length = m := ⟨_, rfl⟩
    have hgo := h.goes
    rw [hm] at hc22 h64 hg hgo
    have hmb : ((m : Int) == 64) = false := beq_eq_false_iff_ne.2 (by omega)
    have HM := Lib.hid hm
    clear hm
    go_wp2_with fail
    refine (pack_any (k : Int) n s w hn (by unfold maxLen; omega)).mono ?_
    rintro e w1 ⟨rfl, hb1⟩
    obtain ⟨x, hx⟩ : ∃ x, (packRes (k : Int) n s).1 = x := ⟨_, rfl⟩
    obtain ⟨y, hy⟩ : ∃ y, (packRes (k : Int) n s).2 = y := ⟨_, rfl⟩
    rw [hx] at HL
    rw [hx, hy]
    clear hx hy
    have h1 := h.below hb1
    have hc1 := h1.cells.2.2.2.2.2.2
    rw [HM.out] at hc1
    have hgo1 := ownsRow_below hgo hb1
    have hb1s := hb1.size
    clear hc22 hgo
    have hrx : Reads (w1.alloc (.cells #[.string x] 9)) (w1.alloc (.cells #[.string x] 9)).heap.size 1 (some ⟨w1.heap.size, 0, none⟩) 1 (strs [x]) := ⟨rfl, fun _ => ⟨_, rfl, by simp, fun j u hu => cells_new w1 [.string x] _ j u hu⟩⟩
    have hone := strs_one [x]
    go_wp2_with (at_builtin; refine wpList_append_any _ rfl _ _ 34 rfl B 9 i0 _ 1 16 Try.underlying34 hi0 hz0 hz1 hz2 rfl (by decide) _ _ _ rfl (hgo1.alloc _) _ (some ⟨w1.heap.size, 0, none⟩) 1 1 _ rfl hrx hone ?c3 ?c4 ?c5 ?_)
    case c3 => unfold maxLen; omega
    case c4 => omega
    case c5 => simp; omega
    intro v' w2 hown2 hg2 hbl
    have ht2 : Touch (fun k => (Value.slice A m c).ownBlock = some k) w1 w2 := (Touch.of_below ((Below.refl _ w1).alloc (Nat.le_refl _) _)).trans (Touch.of_grown (S := fun k => (Value.slice A m c).ownBlock = some k) hg2 (fun k hk => hk)) (fun k hk => .inl hk)
    have h1b := h1.blk
    rw [HM.out] at h1b
    have hpG := h1.pG
    rw [HM.out] at hpG
    have hb2 := ht2.blk h1b (fun e => hpG e)
    have hL2 := ht2.own h1.loads (fun k hk e => h1.apart k hk (by rw [HM.out]; exact e))
    have hG2 : w2.ownsRow B 9 1 v' (l.goes ++ [x]).length (strs (l.goes ++ [x])) := by
      rw [List.length_append, HM.out]
      simpa [strs] using hown2
    have hap2 : ∀ k, vL.ownBlock = some k → v'.ownBlock ≠ some k := fun k hk e => by
      rcases hbl with h2 | h2
      · exact h1.apart k hk (by rw [HM.out]; exact h2.symm.trans e)
      · have := (h1.loads.lt k hk).2
        rw [h2] at e
        simp at e
        omega
    have hend := LinkAt.setG (l.goes ++ [x]) h.base hb2 hL2 hG2 hap2 h.slots
    have hcell := hb2.cell 22
    have hfz := hb2.frozen 22
    have h22 : (l.cells vL (.slice A m c)).toArray[22]? = some (.slice A m c) := by
      have := h1.cells.2.2.2.2.2.2
      rw [h1.cell 22, HM.out] at this
      rw [List.getElem?_toArray]
      exact this
    rw [h22] at hcell
    have hfoot : LinkEnd w B p vL (.slice A m c) { l with goes := l.goes ++ [x] } (w2.setCell ⟨p, 22, none⟩ v') := by
      refine ⟨vL, v', hend, ?_, fun k hk => ?_⟩
      · refine ((Touch.of_below hb1).trans ht2 (fun k hk => .inl (.inr (.inr hk)))).trans (Touch.of_set (S := fun k => k = p) _ _ rfl) (fun k hk => .inl (.inl hk))
      · rcases hk with hk | hk | hk
        · exact .inl (.inl hk)
        · exact .inl (.inr (.inl hk))
        · rcases hbl with h2 | h2
          · exact .inl (.inr (.inr (h2 ▸ hk)))
          · rw [h2] at hk
            simp at hk
            exact .inr (by omega)
    have HF := Lib.hid hfoot
    obtain ⟨A', c', rfl⟩ := own_form hG2
    clear hend hfoot h22 hb2 hL2 hG2 hap2 hbl hg2 hown2 ht2 h1b hrx hone hgo1 hc1
    go_wp2
    go_end0
    exact ⟨rfl, by rw [HL.out]; simpa [HM.out] using HF.out⟩

end Go.Proofs.Ytgacphicgglogaa
