/- The reference's Same and Right. -/
import Derived.Test.YtkndboclpkmdiaaTreeR
namespace Go.Proofs.Ytkndboclpkmdiaa
open Go.RowKit

namespace Tr
def nodeR (st : Sts) (i : Nat) : Prop := (∀ p : Nat, up st i = (p : Int) → kd st p = 2 ∨ (kd st p = 3 ∧ kd st i ≤ 3)) ∧ ((kd st i = 2 ∨ kd st i = 3) → reals st (kids st i) ≠ 0)

theorem pastB_iff (k : Int) : pastB k = true ↔ k = 5 ∨ k = 6 := by unfold pastB; simp

theorem right_iff (st : Sts) (nb : NB st) (h0 : 0 < st.length) (h40 : st.length ≤ 40) : right st ↔ regs st st.length ≤ 4 ∧ ∀ i, i < st.length → nodeR st i := by
  constructor
  · rintro ⟨⟨_, hr, _⟩, hnode⟩
    refine ⟨hr, fun i hi => ⟨fun p hp => ?_, fun hk => ?_⟩⟩
    · have hpi := ((up_eq st i p).1 hp).1
      have hpl : p < st.length := by omega
      have hm := (mem_kids st hpl).2 ⟨hi, hp⟩
      obtain ⟨h1, h2⟩ := hnode p hpl
      by_cases hc : kd st p = 2 ∨ kd st p = 3
      · rcases hc with hc | hc
        · exact .inl hc
        · obtain ⟨h3, h4⟩ := h1 i hm hc
          refine .inr ⟨hc, ?_⟩
          have h5 := nb.dp hi
          have h6 : ¬ (kd st i = 5 ∨ kd st i = 6) := fun h => by rw [(pastB_iff _).2 h] at h3; cases h3
          omega
      · rw [if_neg hc] at h2
        rw [List.eq_nil_of_length_eq_zero h2] at hm
        cases hm
    · have h2 := (hnode i hi).2
      rw [if_pos hk] at h2
      exact h2
  · rintro ⟨hr, hnode⟩
    refine ⟨⟨nb, hr, h0, h40⟩, fun i hi => ⟨fun k hk => ?_, ?_⟩⟩
    · obtain ⟨hkl, hu⟩ := (mem_kids st hi).1 hk
      intro h3
      have h4 := (hnode k hkl).1 i hu
      refine ⟨?_, by omega⟩
      cases hp : pastB (kd st k) with
      | false => rfl
      | true => have := (pastB_iff _).1 hp; omega
    · by_cases hc : kd st i = 2 ∨ kd st i = 3
      · rw [if_pos hc]
        exact (hnode i hi).2 hc
      · rw [if_neg hc]
        cases hks : kids st i with
        | nil => rfl
        | cons k l =>
          obtain ⟨hkl, hu⟩ := (mem_kids st hi).1 (show k ∈ kids st i by rw [hks]; simp)
          have := (hnode k hkl).1 i hu
          omega
end Tr

theorem same_any (w : World) (A1 A2 : Option Addr) (n1 n2 c1 c2 : Nat) (l1 l2 : List Nat) (hn1 : l1.length = n1) (hn2 : l2.length = n2) (h1 : Reads w w.heap.size 1 A1 n1 (ints l1)) (h2 : Reads w w.heap.size 1 A2 n2 (ints l2)) (hm : n1 ≤ maxLen) :
    Calls Try.prog 24 #[.slice A1 n1 c1, .slice A2 n2 c2] w fun e w' => e = .returned (.bool (decide (l1 = l2))) ∧ Below w.heap.size w w' := by
  unfold maxLen at hm
  obtain ⟨b, hb0⟩ : ∃ b, decide (l1 = l2) = b := ⟨_, rfl⟩
  rw [hb0]
  have HB := Lib.hid hb0
  clear hb0
  go_enter Try.func24, Try.ntmps24
  by_cases hne : n1 = n2
  · subst hne
    go_wp2
    go_loopw [5] (fun v wr => ∃ k : Nat, v = .int .i64 (k : Int) ∧ k ≤ n1 ∧ Below w.heap.size w wr ∧ l1.take k = l2.take k) (fun v _ => n1 - (intOf v).toNat)
    case atStart => exact ⟨0, rfl, Nat.zero_le _, Below.refl _ _, rfl⟩
    case round =>
      obtain ⟨k, rfl, hk, hb, htk⟩ := hrel
      by_cases hkn : k < n1
      · have hkz : (k : Int) < (n1 : Int) := by omega
        obtain ⟨a1, u1, rfl, hb1, hu1, hc1⟩ := (h1.below hb).at_ hkn
        obtain ⟨a2, u2, rfl, hb2, hu2, hc2⟩ := (h2.below hb).at_ hkn
        have hl1 : k < l1.length := by omega
        have hl2 : k < l2.length := by omega
        have e1 : u1 = .int .i64 (l1[k] : Int) := by simpa [ints, hl1] using hu1.symm
        have e2 : u2 = .int .i64 (l2[k] : Int) := by simpa [ints, hl2] using hu2.symm
        subst e1 e2
        by_cases he : l1[k] = l2[k]
        · have HT := Lib.hid (show l1.take (k + 1) = l2.take (k + 1) by rw [List.take_succ_eq_append_getElem hl1, List.take_succ_eq_append_getElem hl2, htk, he])
          rw [he] at hc1
          clear hu1 hu2 htk he
          generalize l2[k] = x at *
          go_wp2
          go_quiet (fail)
          go_wp2
          go_roundw
          case rel => exact ⟨k + 1, by go_num, by omega, Tr.below_drewN hb _, HT.out⟩
          case measure => simp [intOf]; omega
        · have hbf : b = false := by
            rw [← HB.out]
            exact decide_eq_false fun h => he (by subst h; rfl)
          subst hbf
          have hez : ¬ (l1[k] : Int) = (l2[k] : Int) := by omega
          clear hu1 hu2 htk he
          generalize l1[k] = x at *
          generalize l2[k] = y at *
          go_wp2
          go_quiet (fail)
          go_wp2
          go_ret
          exact ⟨rfl, Tr.below_drewN hb _⟩
      · obtain rfl : k = n1 := by omega
        have hkz : ¬ (k : Int) < (k : Int) := by omega
        have hbt : b = true := by
          rw [← HB.out]
          rw [List.take_of_length_le (by omega), List.take_of_length_le (by omega)] at htk
          exact decide_eq_true htk
        subst hbt
        clear htk
        go_wp2
        go_ret
        exact ⟨rfl, hb⟩
  · have hbf : b = false := by
      rw [← HB.out]
      exact decide_eq_false fun h => hne (by rw [← hn1, ← hn2, h])
    subst hbf
    have hnz : ¬ (n1 : Int) = (n2 : Int) := by omega
    go_wp2
    go_ret
    exact ⟨rfl, Below.refl _ _⟩

end Go.Proofs.Ytkndboclpkmdiaa
