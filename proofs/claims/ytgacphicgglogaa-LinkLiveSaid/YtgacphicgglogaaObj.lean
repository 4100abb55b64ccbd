/- A block with rows of its own: an object that holds several slices, each in a row that no other name has. -/
import Derived.Test.YtgacphicgglogaaLinkA
namespace Go.Proofs.Ytgacphicgglogaa
open Go.RowKit
set_option linter.unusedVariables false

structure RowV where
  e : TypeId
  v : Value
  xs : List Value

def FootR (p : Nat) (R : List RowV) (k : Nat) : Prop := k = p ∨ ∃ x ∈ R, x.v.ownBlock = some k

structure ObjAt (w : World) (B p t : Nat) (cs : List Value) (R : List RowV) : Prop where
  base : B ≤ p
  blk : Blk w p t cs.toArray
  rows : ∀ x ∈ R, w.ownsRow B x.e 1 x.v x.xs.length x.xs
  off : ∀ x ∈ R, x.v.ownBlock ≠ some p
  apart : ∀ (i j : Nat) (x y : RowV), R[i]? = some x → R[j]? = some y → i ≠ j → ∀ k, x.v.ownBlock = some k → y.v.ownBlock ≠ some k

section
variable {w w' : World} {B p t : Nat} {cs : List Value} {R : List RowV}
theorem ObjAt.foot (h : ObjAt w B p t cs R) {k : Nat} (hk : FootR p R k) : B ≤ k ∧ k < w.heap.size := by
  rcases hk with rfl | ⟨x, hx, hk⟩
  · exact ⟨h.base, h.blk.lt⟩
  · exact (h.rows x hx).lt k hk
theorem ObjAt.touch {S : Nat → Prop} (h : ObjAt w B p t cs R) (ht : Touch S w w') (hS : ∀ k, FootR p R k → ¬ S k) : ObjAt w' B p t cs R :=
  ⟨h.base, ht.blk h.blk (hS p (.inl rfl)), fun x hx => ht.own (h.rows x hx) (fun k hk => hS k (.inr ⟨x, hx, hk⟩)), h.off, h.apart⟩
theorem ObjAt.below (h : ObjAt w B p t cs R) (hb : Below w.heap.size w w') : ObjAt w' B p t cs R := h.touch (S := fun _ => False) (Touch.of_below hb) (fun _ _ h => h)
theorem ObjAt.drewN (h : ObjAt w B p t cs R) (n : Nat) : ObjAt (w.drewN n) B p t cs R := ⟨h.base, h.blk, h.rows, h.off, h.apart⟩
theorem ObjAt.alloc (h : ObjAt w B p t cs R) (o : Obj) : ObjAt (w.alloc o) B p t cs R := h.below ((Below.refl _ _).alloc (Nat.le_refl _) _)
theorem ObjAt.cell (h : ObjAt w B p t cs R) (i : Nat) : w.cell? ⟨p, i, none⟩ = cs[i]? := by rw [h.blk.cell i, List.getElem?_toArray]
theorem ObjAt.frozen (h : ObjAt w B p t cs R) (i : Nat) : w.frozen? ⟨p, i, none⟩ = false := h.blk.frozen i
theorem ObjAt.set_ (h : ObjAt w B p t cs R) (i : Nat) (u : Value) : ObjAt (w.setCell ⟨p, i, none⟩ u) B p t (cs.set i u) R := by
  have ht : Touch (fun k => k = p) w (w.setCell ⟨p, i, none⟩ u) := Touch.of_set _ _ rfl
  refine ⟨h.base, ?_, fun x hx => ht.own (h.rows x hx) (fun k hk e => h.off x hx (e ▸ hk)), h.off, h.apart⟩
  have := h.blk.set_ i u
  rw [List.setIfInBounds_toArray] at this
  exact this
theorem ObjAt.row_ (h : ObjAt w B p t cs R) (i : Nat) (x y : RowV) (hi : R[i]? = some x) (ht : Touch (fun k => x.v.ownBlock = some k) w w') (ho : w'.ownsRow B y.e 1 y.v y.xs.length y.xs)
    (hbl : ∀ k, y.v.ownBlock = some k → x.v.ownBlock = some k ∨ w.heap.size ≤ k) : ObjAt w' B p t cs (R.set i y) := by
  have hx : x ∈ R := List.mem_of_getElem? hi
  have hil : i < R.length := (List.getElem?_eq_some_iff.1 hi).1
  have hin : ∀ z, z ∈ R.set i y → z = y ∨ ∃ j, R[j]? = some z ∧ i ≠ j := fun z hz => by
    obtain ⟨j, hj⟩ := List.mem_iff_getElem?.1 hz
    rw [List.getElem?_set] at hj
    by_cases hij : i = j
    · rw [if_pos hij, if_pos hil] at hj
      injection hj with hj
      exact .inl hj.symm
    · rw [if_neg hij] at hj
      exact .inr ⟨j, hj, hij⟩
  have hlt : ∀ z ∈ R, ∀ k, z.v.ownBlock = some k → k < w.heap.size := fun z hz k hk => ((h.rows z hz).lt k hk).2
  refine ⟨h.base, ht.blk h.blk (h.off x hx), fun z hz => ?_, fun z hz => ?_, fun a b z1 z2 h1 h2 hab k hk1 hk2 => ?_⟩
  · rcases hin z hz with rfl | ⟨j, hj, hij⟩
    · exact ho
    · exact ht.own (h.rows z (List.mem_of_getElem? hj)) (fun k hk e => h.apart i j x z hi hj hij k e hk)
  · rcases hin z hz with rfl | ⟨j, hj, hij⟩
    · intro e
      rcases hbl p e with h3 | h3
      · exact h.off x hx h3
      · have := h.blk.lt
        omega
    · exact h.off z (List.mem_of_getElem? hj)
  · rw [List.getElem?_set] at h1 h2
    by_cases ha : i = a
    · rw [if_pos ha, if_pos hil] at h1
      injection h1 with h1
      subst h1
      have hb : i ≠ b := by omega
      rw [if_neg hb] at h2
      rcases hbl k hk1 with h3 | h3
      · exact h.apart i b x z2 hi h2 hb k h3 hk2
      · have := hlt z2 (List.mem_of_getElem? h2) k hk2
        omega
    · rw [if_neg ha] at h1
      by_cases hb : i = b
      · rw [if_pos hb, if_pos hil] at h2
        injection h2 with h2
        subst h2
        rcases hbl k hk2 with h3 | h3
        · exact h.apart i a x z1 hi h1 ha k h3 hk1
        · have := hlt z1 (List.mem_of_getElem? h1) k hk1
          omega
      · rw [if_neg hb] at h2
        exact h.apart a b z1 z2 h1 h2 hab k hk1 hk2
/-- A cell of one of the rows is written. -/
theorem ObjAt.put_ (h : ObjAt w B p t cs R) (i : Nat) (e g n c : Nat) (xs : List Value) (hi : R[i]? = some ⟨e, .slice (some ⟨g, 0, none⟩) n c, xs⟩) (hn : xs.length = n) (j : Nat) (u : Value) :
    ObjAt (w.setCell ⟨g, j, none⟩ u) B p t cs (R.set i ⟨e, .slice (some ⟨g, 0, none⟩) n c, xs.set j u⟩) := by
  refine h.row_ i _ _ hi (Touch.of_set (S := fun k => (Value.slice (some ⟨g, 0, none⟩) n c).ownBlock = some k) _ _ rfl) ?_ (fun k hk => .inl hk)
  have := h.rows _ (List.mem_of_getElem? hi)
  dsimp only at this ⊢
  rw [List.length_set, hn]
  rw [hn] at this
  exact ownsRow_set this j u
/-- A row is set anew: what is let go is another's. -/
theorem ObjAt.fresh (h : ObjAt w B p t cs R) (i : Nat) (x y : RowV) (hi : R[i]? = some x) (ho : w.ownsRow B y.e 1 y.v y.xs.length y.xs) (hy : y.v.ownBlock = none) : ObjAt w B p t cs (R.set i y) :=
  h.row_ i x y hi (Touch.refl _ _) ho (fun k hk => by rw [hy] at hk; cases hk)
theorem foot_set {i N : Nat} {x y : RowV} (hi : R[i]? = some x) (hbl : ∀ k, y.v.ownBlock = some k → x.v.ownBlock = some k ∨ N ≤ k) : ∀ k, FootR p (R.set i y) k → FootR p R k ∨ N ≤ k := by
  rintro k (rfl | ⟨z, hz, hk⟩)
  · exact .inl (.inl rfl)
  · rcases List.mem_or_eq_of_mem_set hz with h1 | rfl
    · exact .inl (.inr ⟨z, h1, hk⟩)
    · rcases hbl k hk with h2 | h2
      · exact .inl (.inr ⟨x, List.mem_of_getElem? hi, h2⟩)
      · exact .inr h2
end

/-- What the append arm leaves. -/
theorem touch_app {w w2 : World} {o : Obj} {v v' : Value} (hg : (w.alloc o).grownBy w2 v.ownBlock) (hbl : v'.ownBlock = v.ownBlock ∨ v'.ownBlock = some (w.heap.size + 1)) :
    Touch (fun k => v.ownBlock = some k) w w2 ∧ ∀ k, v'.ownBlock = some k → v.ownBlock = some k ∨ w.heap.size ≤ k := by
  refine ⟨(Touch.of_below ((Below.refl _ w).alloc (Nat.le_refl _) _)).trans (Touch.of_grown (S := fun k => v.ownBlock = some k) hg (fun k hk => hk)) (fun k hk => .inl hk), fun k hk => ?_⟩
  rcases hbl with h | h
  · exact .inl (h ▸ hk)
  · rw [h] at hk
    injection hk with hk
    exact .inr (by omega)
end Go.Proofs.Ytgacphicgglogaa
