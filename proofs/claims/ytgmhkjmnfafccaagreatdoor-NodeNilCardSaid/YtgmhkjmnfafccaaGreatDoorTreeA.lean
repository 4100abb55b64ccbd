/- Lists of states: the words for memory, the argument opened; the loops of 'up' and 'end'. -/
import Derived.Test.YtgmhkjmnfafccaaGreatDoorWords
import Derived.ProofKit
import Derived.OpenShut
import Derived.Deep.Slices
import Derived.Deep.Fields
import Derived.ChangeSame
namespace Go.Proofs.YtgmhkjmnfafccaaGreatDoor
open Go.ChangeShapes Go.WideShapes Go.RowKit

/-- Kinds and depths. -/
abbrev Sts := List (Int × Int)
namespace Tr
def kd (st : Sts) (i : Nat) : Int := (st[i]?.getD (0, 0)).1
def dp (st : Sts) (i : Nat) : Int := (st[i]?.getD (0, 0)).2
def upTo (st : Sts) (d : Int) : Nat → Int
  | 0 => -1
  | k + 1 => if dp st k < d then (k : Int) else upTo st d k
def up (st : Sts) (i : Nat) : Int := upTo st (dp st i) i
def finFrom (st : Sts) (d : Int) (k : Nat) : Nat → Nat
  | 0 => k
  | f + 1 => if d < dp st k then finFrom st d (k + 1) f else k
def fin (st : Sts) (i : Nat) : Nat := finFrom st (dp st i) (i + 1) (st.length - (i + 1))
def Wf (st : Sts) : Prop := ∀ i, i < st.length → (-9223372036854775808 ≤ kd st i ∧ kd st i ≤ 9223372036854775807) ∧ (-9223372036854775808 ≤ dp st i ∧ dp st i ≤ 9223372036854775807)
theorem below_drewN {B : Nat} {w w' : World} (h : Below B w w') (k : Nat) : Below B w (w'.drewN k) := h.trans ⟨rfl, rfl, rfl, Nat.le_refl _, fun _ _ => rfl⟩
end Tr

/-- A list of states in memory. -/
def Tree (w : World) (B : Nat) (A : Option Addr) (n : Nat) (st : Sts) : Prop :=
  st.length = n ∧ ∃ xs : List Value, Reads w B 6 A n xs ∧ ∀ i, i < n → (∃ s0, xs[i * 6]? = some (.string s0)) ∧ xs[i * 6 + 1]? = some (.int .i64 (Tr.kd st i)) ∧ xs[i * 6 + 2]? = some (.int .i64 (Tr.dp st i)) ∧
    (∃ s3, xs[i * 6 + 3]? = some (.string s3)) ∧ (∃ a4 n4 c4, xs[i * 6 + 4]? = some (.slice a4 n4 c4)) ∧ ∃ a5 n5 c5, xs[i * 6 + 5]? = some (.slice a5 n5 c5)

section
variable {w w' : World} {B B' n : Nat} {A : Option Addr} {st : Sts}
theorem Tree.keep (h : Tree w B A n st) (hk : ∀ p : Addr, p.block < B → w'.cell? p = w.cell? p) : Tree w' B A n st := ⟨h.1, by
  obtain ⟨_, xs, hr, hx⟩ := h
  exact ⟨xs, hr.keep hk, hx⟩⟩
theorem Tree.below (h : Tree w B A n st) (hb : Below B w w') : Tree w' B A n st := h.keep fun _ hp => hb.cell hp
theorem Tree.more (h : Tree w B A n st) (hB : B ≤ B') : Tree w B' A n st := ⟨h.1, by
  obtain ⟨_, xs, hr, hx⟩ := h
  exact ⟨xs, hr.more hB, hx⟩⟩
theorem Tree.drew (h : Tree w B A n st) : Tree w.drew B A n st := h
theorem Tree.drewN (h : Tree w B A n st) (k : Nat) : Tree (w.drewN k) B A n st := h
theorem Tree.alloc (h : Tree w B A n st) (hB : B ≤ w.heap.size) (o : Obj) : Tree (w.alloc o) B A n st := h.keep fun p hp => World.cell?_alloc_lt w o p (by omega)
theorem Tree.addr {i : Nat} (h : Tree w B A n st) (hi : i < n) : ∃ ad, A = some ad ∧ ad.block < B := by
  obtain ⟨_, xs, hr, _⟩ := h
  obtain ⟨ad, e, hb, _⟩ := hr.2 (by omega)
  exact ⟨ad, e, hb⟩
theorem Tree.at_ {i : Nat} {ad : Addr} (h : Tree w B (some ad) n st) (hi : i < n) :
    w.cell? { block := (ad.add (i * 6)).block, off := (ad.add (i * 6)).off + 1 } = some (.int .i64 (Tr.kd st i)) ∧ w.cell? { block := (ad.add (i * 6)).block, off := (ad.add (i * 6)).off + 2 } = some (.int .i64 (Tr.dp st i)) := by
  show w.cell? ((ad.add (i * 6)).add 1) = _ ∧ w.cell? ((ad.add (i * 6)).add 2) = _
  obtain ⟨_, xs, hr, hx⟩ := h
  obtain ⟨ad', e, _, hc⟩ := hr.2 (by omega)
  injection e with e
  subst e
  rw [add_of_add, add_of_add]
  exact ⟨hc _ _ (hx i hi).2.1, hc _ _ (hx i hi).2.2.1⟩
theorem Tree.all {i : Nat} {ad : Addr} (h : Tree w B (some ad) n st) (hi : i < n) :
    ∃ s0 s3 a4 n4 c4 a5 n5 c5, w.cell? (ad.add (i * 6)) = some (.string s0) ∧ w.cell? { block := (ad.add (i * 6)).block, off := (ad.add (i * 6)).off + 3 } = some (.string s3) ∧ w.cell? { block := (ad.add (i * 6)).block, off := (ad.add (i * 6)).off + 4 } = some (.slice a4 n4 c4) ∧
      w.cell? { block := (ad.add (i * 6)).block, off := (ad.add (i * 6)).off + 5 } = some (.slice a5 n5 c5) := by
  show ∃ s0 s3 a4 n4 c4 a5 n5 c5, w.cell? (ad.add (i * 6)) = some (.string s0) ∧ w.cell? ((ad.add (i * 6)).add 3) = some (.string s3) ∧ w.cell? ((ad.add (i * 6)).add 4) = some (.slice a4 n4 c4) ∧ w.cell? ((ad.add (i * 6)).add 5) = some (.slice a5 n5 c5)
  obtain ⟨_, xs, hr, hx⟩ := h
  obtain ⟨ad', e, _, hc⟩ := hr.2 (by omega)
  injection e with e
  subst e
  obtain ⟨⟨s0, h0⟩, _, _, ⟨s3, h3⟩, ⟨a4, n4, c4, h4⟩, a5, n5, c5, h5⟩ := hx i hi
  simp only [add_of_add]
  exact ⟨s0, s3, a4, n4, c4, a5, n5, c5, hc _ _ h0, hc _ _ h3, hc _ _ h4, hc _ _ h5⟩
end

theorem up_any (w : World) (A : Option Addr) (n c : Nat) (st : Sts) (h : Tree w w.heap.size A n st) (hn : n ≤ maxLen) (i : Nat) (hi : i < n) :
    Calls Tryz.prog 173 #[.slice A n c, .int .i64 (i : Int)] w fun e w' => e = .returned (.int .i64 (Tr.up st i)) ∧ Below w.heap.size w w' := by
  unfold maxLen at hn
  obtain ⟨ad, rfl, hab⟩ := h.addr hi
  go_enter Tryz.func173, Tryz.ntmps173
  go_wp2
  go_loopw [5] (fun v wr => ∃ k : Nat, k ≤ i ∧ v = .int .i64 ((k : Int) - 1) ∧ Below w.heap.size w wr ∧ Tr.upTo st (Tr.dp st i) k = Tr.up st i) (fun v _ => (intOf v + 1).toNat)
  case atStart => exact ⟨i, Nat.le_refl _, rfl, Below.refl _ _, rfl⟩
  case round =>
    obtain ⟨k, hk, rfl, hb, hu⟩ := hrel
    have ht := h.below hb
    cases k with
    | zero =>
      have hu2 : Tr.up st i = -1 := hu.symm
      rw [show ((0 : Nat) : Int) - 1 = -1 from rfl]
      go_wp2
      go_ret
      exact ⟨by rw [hu2]; rfl, hb⟩
    | succ k =>
      have hk1 := (ht.at_ (show k < n by omega)).2
      have hk2 := (ht.at_ hi).2
      have hkz : (k : Int) < (n : Int) := by omega
      have hiz : (i : Int) < (n : Int) := by omega
      have hkn : k < n := by omega
      rw [show ((k + 1 : Nat) : Int) - 1 = (k : Int) by omega]
      by_cases hd : Tr.dp st k < Tr.dp st i
      · have hu2 : Tr.up st i = (k : Int) := by rw [← hu, Tr.upTo, if_pos hd]
        generalize Tr.dp st k = d1 at *
        generalize Tr.dp st i = d2 at *
        go_wp2
        go_quiet (fail)
        go_wp2
        go_ret
        exact ⟨by rw [hu2]; rfl, Tr.below_drewN hb _⟩
      · have hu2 : Tr.upTo st (Tr.dp st i) k = Tr.up st i := by rw [← hu, Tr.upTo, if_neg hd]
        obtain ⟨d1, h1⟩ : ∃ x, Tr.dp st k = x := ⟨_, rfl⟩
        obtain ⟨d2, h2⟩ : ∃ x, Tr.dp st i = x := ⟨_, rfl⟩
        rw [h1] at hk1 hd
        rw [h2] at hk2 hd
        clear h1 h2
        go_wp2
        go_quiet (fail)
        go_wp2
        go_roundw
        case rel => exact ⟨k, by omega, rfl, Tr.below_drewN hb _, hu2⟩
        case measure => simp [intOf]

theorem fin_any (w : World) (A : Option Addr) (n c : Nat) (st : Sts) (h : Tree w w.heap.size A n st) (hn : n ≤ maxLen) (i : Nat) (hi : i < n) :
    Calls Tryz.prog 214 #[.slice A n c, .int .i64 (i : Int)] w fun e w' => e = .returned (.int .i64 (Tr.fin st i : Int)) ∧ Below w.heap.size w w' := by
  unfold maxLen at hn
  obtain ⟨ad, rfl, hab⟩ := h.addr hi
  go_enter Tryz.func214, Tryz.ntmps214
  go_wp2
  go_loopw [5] (fun v wr => ∃ k : Nat, i < k ∧ k ≤ n ∧ v = .int .i64 (k : Int) ∧ Below w.heap.size w wr ∧ Tr.finFrom st (Tr.dp st i) k (n - k) = Tr.fin st i) (fun v _ => n - (intOf v).toNat)
  case atStart => exact ⟨i + 1, by omega, by omega, by go_num, Below.refl _ _, by rw [Tr.fin, h.1]⟩
  case round =>
    obtain ⟨k, hik, hk, rfl, hb, hu⟩ := hrel
    have ht := h.below hb
    have hk2 := (ht.at_ hi).2
    by_cases hkn : k < n
    · have hk1 := (ht.at_ hkn).2
      have hkn2 : (k : Int) < (n : Int) := by omega
      have hiz : (i : Int) < (n : Int) := by omega
      rw [show n - k = (n - (k + 1)) + 1 by omega, Tr.finFrom] at hu
      by_cases hd : Tr.dp st i < Tr.dp st k
      · rw [if_pos hd] at hu
        obtain ⟨d1, h1⟩ : ∃ x, Tr.dp st k = x := ⟨_, rfl⟩
        obtain ⟨d2, h2⟩ : ∃ x, Tr.dp st i = x := ⟨_, rfl⟩
        rw [h1] at hk1 hd
        rw [h2] at hk2 hd
        have hgt : d1 > d2 := hd
        clear h1 h2
        go_wp2
        go_quiet (fail)
        go_wp2
        go_roundw
        case rel => exact ⟨k + 1, by omega, by omega, by go_num, Tr.below_drewN hb _, hu⟩
        case measure => simp [intOf]; omega
      · rw [if_neg hd] at hu
        obtain ⟨d1, h1⟩ : ∃ x, Tr.dp st k = x := ⟨_, rfl⟩
        obtain ⟨d2, h2⟩ : ∃ x, Tr.dp st i = x := ⟨_, rfl⟩
        rw [h1] at hk1 hd
        rw [h2] at hk2 hd
        have HU := Lib.hid hu
        clear h1 h2 hu
        go_wp2
        go_quiet (fail)
        go_wp2
        go_ret
        exact ⟨by rw [← HU.out]; rfl, Tr.below_drewN hb _⟩
    · obtain rfl : k = n := by omega
      have hkn2 : ¬ (k : Int) < (k : Int) := by omega
      rw [Nat.sub_self, Tr.finFrom] at hu
      go_wp2
      go_quiet (fail)
      go_wp2
      go_ret
      exact ⟨by rw [← hu]; rfl, Tr.below_drewN hb _⟩

end Go.Proofs.YtgmhkjmnfafccaaGreatDoor
