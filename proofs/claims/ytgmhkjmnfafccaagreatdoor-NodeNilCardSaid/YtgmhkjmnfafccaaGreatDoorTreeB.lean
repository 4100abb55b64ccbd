/- 'past' and 'shape'. -/
import Derived.Test.YtgmhkjmnfafccaaGreatDoorTreeA
namespace Go.Proofs.YtgmhkjmnfafccaaGreatDoor
open Go.RowKit

namespace Tr
def pastB (k : Int) : Bool := decide (k = 5) || decide (k = 6)
def ahead (st : Sts) (i : Nat) : Int := if i = 0 then -1 else dp st (i - 1)
def bad (st : Sts) (i : Nat) : Prop := dp st i < 0 ∨ ahead st i + 1 < dp st i ∨ 6 ≤ dp st i ∨ kd st i < 1 ∨ 6 < kd st i ∨ (dp st i = 0 ∧ kd st i ≠ 2)
instance (st : Sts) (i : Nat) : Decidable (bad st i) := by unfold bad; infer_instance
def regs (st : Sts) : Nat → Nat
  | 0 => 0
  | i + 1 => regs st i + if dp st i = 0 then 1 else 0
def shape (st : Sts) : Prop := (∀ i, i < st.length → ¬ bad st i) ∧ regs st st.length ≤ 4 ∧ 0 < st.length ∧ st.length ≤ 40
instance (st : Sts) : Decidable (shape st) := by unfold shape; infer_instance
theorem regs_le (st : Sts) : ∀ i, regs st i ≤ i
  | 0 => Nat.le_refl _
  | i + 1 => by have := regs_le st i; unfold regs; split <;> omega
end Tr

theorem past_any (w : World) (k : Int) : Calls Tryz.prog 161 #[.int .i64 k] w fun e w' => e = .returned (.bool (Tr.pastB k)) ∧ w' = w := by
  go_enter Tryz.func161, Tryz.ntmps161
  unfold Tr.pastB
  by_cases h5 : k = 5
  · subst h5
    go_wp2
    go_ret
    exact ⟨rfl, rfl⟩
  · by_cases h6 : k = 6
    · subst h6
      go_wp2
      go_ret
      exact ⟨rfl, rfl⟩
    · go_wp2
      go_ret
      exact ⟨by simp [h5, h6], rfl⟩

set_option maxHeartbeats 1000000 in
theorem shape_any (w : World) (A : Option Addr) (n c : Nat) (st : Sts) (h : Tree w w.heap.size A n st) (_hw : Tr.Wf st) (hn : n ≤ maxLen) :
    Calls Tryz.prog 159 #[.slice A n c] w fun e w' => e = .returned (.bool (decide (Tr.shape st))) ∧ Below w.heap.size w w' := by
  unfold maxLen at hn
  go_enter Tryz.func159, Tryz.ntmps159
  go_wp2
  go_loopw [9, 3] (fun v r wr => ∃ i : Nat, i ≤ n ∧ v = .int .i64 (i : Int) ∧ r = .int .i64 (Tr.regs st i : Int) ∧ Below w.heap.size w wr ∧ (∀ j, j < i → ¬ Tr.bad st j)) (fun v _ _ => n - (intOf v).toNat)
  case atStart => exact ⟨0, by omega, rfl, rfl, Below.refl _ _, fun j hj => absurd hj (by omega)⟩
  case round =>
    obtain ⟨i, hi, rfl, rfl, hb, hall⟩ := hrel
    have ht := h.below hb
    have hrl := Tr.regs_le st i
    by_cases hin : i < n
    · obtain ⟨ad, rfl, hab⟩ := h.addr hin
      obtain ⟨hk1, hk2⟩ := ht.at_ hin
      obtain ⟨s0, s3, a4, n4, c4, a5, n5, c5, hc0, hc3, hc4, hc5⟩ := ht.all hin
      have hiz : (i : Int) < (n : Int) := by omega
      have hD : ∀ o, (wr.alloc o).cell? { block := (ad.add (i * 6)).block, off := (ad.add (i * 6)).off + 2 } = some (.int .i64 (Tr.dp st i)) := fun o => (ht.alloc hb.size o |>.at_ hin).2
      have hpa : i = 0 ∨ (0 < i ∧ 0 ≤ Tr.dp st (i - 1) ∧ Tr.dp st (i - 1) ≤ 5 ∧ ∀ o, (wr.alloc o).cell? { block := (ad.add ((i - 1) * 6)).block, off := (ad.add ((i - 1) * 6)).off + 2 } = some (.int .i64 (Tr.dp st (i - 1)))) := by
        rcases Nat.eq_zero_or_pos i with h0 | h0
        · exact .inl h0
        · refine .inr ⟨h0, ?_, ?_, fun o => (ht.alloc hb.size o |>.at_ (show i - 1 < n by omega)).2⟩
          · exact Int.not_lt.1 fun h => hall (i - 1) (by omega) (.inl h)
          · exact Int.not_lt.1 fun h => hall (i - 1) (by omega) (.inr (.inr (.inl (by omega))))
      by_cases hbad : Tr.bad st i
      · have hf : decide (Tr.shape st) = false := decide_eq_false fun hs => hs.1 i (by rw [h.1]; exact hin) hbad
        have HF := Lib.hid hf
        clear hf
        unfold Tr.bad Tr.ahead at hbad
        generalize Tr.dp st i = D at *
        generalize Tr.kd st i = K at *
        have hbf : ∀ o, Below w.heap.size w (wr.alloc o) := fun o => hb.alloc hb.size o
        rcases hpa with h0 | ⟨h0, hp0, hp5, hpc⟩
        · rw [if_pos h0] at hbad
          have hnz : ¬ (0 : Int) < (i : Int) := by omega
          clear h0
          have hcs : D < 0 ∨ (0 ≤ D ∧ 0 < D) ∨ (D = 0 ∧ K < 1) ∨ (D = 0 ∧ 1 ≤ K ∧ 6 < K) ∨ (D = 0 ∧ 1 ≤ K ∧ K ≤ 6 ∧ K ≠ 2) := by omega
          clear hbad
          rcases hcs with h1 | ⟨h1, h2⟩ | ⟨rfl, h2⟩ | ⟨rfl, h2, h3⟩ | ⟨rfl, h2, h3, h4⟩ <;> (go_wp2; go_ret; exact ⟨by rw [HF.out]; rfl, hbf _⟩)
        · rw [if_neg (by omega)] at hbad
          generalize Tr.dp st (i - 1) = pa at *
          have hcs : D < 0 ∨ (0 ≤ D ∧ pa + 1 < D) ∨ (0 ≤ D ∧ D ≤ pa + 1 ∧ 6 ≤ D) ∨ (0 ≤ D ∧ D ≤ pa + 1 ∧ D < 6 ∧ K < 1) ∨ (0 ≤ D ∧ D ≤ pa + 1 ∧ D < 6 ∧ 1 ≤ K ∧ 6 < K) ∨ (D = 0 ∧ 1 ≤ K ∧ K ≤ 6 ∧ K ≠ 2) := by omega
          have hiz0 : 0 < (i : Int) := by omega
          have hpn : i - 1 < n := by omega
          have hpn2 : (i : Int) - 1 < (n : Int) := by omega
          clear hbad
          rcases hcs with h1 | ⟨h1, h2⟩ | ⟨h1, h2, h3⟩ | ⟨h1, h2, h3, h4⟩ | ⟨h1, h2, h3, h4, h5⟩ | ⟨rfl, h2, h3, h4⟩ <;> (go_wp2; go_ret; exact ⟨by rw [HF.out]; rfl, hbf _⟩)
      · have hall2 : ∀ j, j < i + 1 → ¬ Tr.bad st j := fun j hj => by
          by_cases h : j = i
          · subst h; exact hbad
          · exact hall j (by omega)
        have hbf : ∀ o, Below w.heap.size w (wr.alloc o) := fun o => hb.alloc hb.size o
        have hr2 : Tr.dp st i = 0 → Tr.regs st (i + 1) = Tr.regs st i + 1 := fun h => by rw [Tr.regs, if_pos h]
        have hr3 : Tr.dp st i ≠ 0 → Tr.regs st (i + 1) = Tr.regs st i := fun h => by rw [Tr.regs, if_neg h, Nat.add_zero]
        unfold Tr.bad Tr.ahead at hbad
        generalize Tr.dp st i = D at *
        generalize Tr.kd st i = K at *
        generalize Tr.regs st i = r at *
        rcases hpa with h0 | ⟨h0, hp0, hp5, hpc⟩
        · rw [if_pos h0] at hbad
          have hnz : ¬ (0 : Int) < (i : Int) := by omega
          obtain ⟨rfl, rfl⟩ : D = 0 ∧ K = 2 := by omega
          have HR := Lib.hid (hr2 rfl)
          clear h0 hbad hr2 hr3
          go_wp2
          go_roundw
          case rel => exact ⟨i + 1, by omega, by go_num, by rw [HR.out]; go_num, hbf _, hall2⟩
          case measure => simp [intOf]; omega
        · rw [if_neg (by omega)] at hbad
          generalize Tr.dp st (i - 1) = pa at *
          have hiz0 : 0 < (i : Int) := by omega
          have hpn : i - 1 < n := by omega
          have hpn2 : (i : Int) - 1 < (n : Int) := by omega
          have g1 : 0 ≤ D := by omega
          have g2 : D ≤ pa + 1 := by omega
          have g3 : D < 6 := by omega
          have g4 : 1 ≤ K := by omega
          have g5 : K ≤ 6 := by omega
          by_cases hD0 : D = 0
          · obtain rfl : K = 2 := by omega
            subst hD0
            have HR := Lib.hid (hr2 rfl)
            clear hbad hr2 hr3
            go_wp2
            go_roundw
            case rel => exact ⟨i + 1, by omega, by go_num, by rw [HR.out]; go_num, hbf _, hall2⟩
            case measure => simp [intOf]; omega
          · have HR := Lib.hid (hr3 hD0)
            clear hbad hr2 hr3
            go_wp2
            go_roundw
            case rel => exact ⟨i + 1, by omega, by go_num, by rw [HR.out], hbf _, hall2⟩
            case measure => simp [intOf]; omega
    · obtain rfl : i = n := by omega
      have hs : Tr.shape st ↔ Tr.regs st i ≤ 4 ∧ 0 < i ∧ i ≤ 40 := by
        unfold Tr.shape
        rw [h.1]
        exact ⟨fun h => h.2, fun h => ⟨hall, h⟩⟩
      clear hall
      generalize Tr.regs st i = r at *
      by_cases h1 : r ≤ 4
      · by_cases h2 : 0 < i
        · by_cases h3 : i ≤ 40
          · have HF := Lib.hid (decide_eq_true (hs.2 ⟨h1, h2, h3⟩))
            clear hs
            go_wp2
            go_ret
            exact ⟨by rw [HF.out]; show Ending.returned (.bool (decide ((i : Int) ≤ 40))) = _; rw [decide_eq_true (by omega)], hb⟩
          · have HF := Lib.hid (decide_eq_false (fun h => h3 (hs.1 h).2.2))
            clear hs
            go_wp2
            go_ret
            exact ⟨by rw [HF.out]; show Ending.returned (.bool (decide ((i : Int) ≤ 40))) = _; rw [decide_eq_false (by omega)], hb⟩
        · have HF := Lib.hid (decide_eq_false (fun h => h2 (hs.1 h).2.1))
          have hnz : ¬ (0 : Int) < (i : Int) := by omega
          clear hs h2
          go_wp2
          go_ret
          exact ⟨by rw [HF.out]; rfl, hb⟩
      · have HF := Lib.hid (decide_eq_false (fun h => h1 (hs.1 h).1))
        clear hs
        go_wp2
        go_ret
        exact ⟨by rw [HF.out]; rfl, hb⟩

end Go.Proofs.YtgmhkjmnfafccaaGreatDoor
