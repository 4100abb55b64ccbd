/- The walk of BagBound. -/
import Derived.Test.YtmaljobfboboeaaBagT
namespace Go.Proofs.Ytmaljobfboboeaa.bagBound
open Go.RowKit

def full (s : ByteArray) (k : Nat) : List Item := List.replicate (min k 16) (s, false)
theorem full_succ (s : ByteArray) (k : Nat) : putL (full s k) s = full s (k + 1) := by
  unfold putL full
  rw [List.length_replicate]
  by_cases h : k < 16
  · rw [if_pos (by omega), show min k 16 = k by omega, show min (k + 1) 16 = k + 1 by omega, List.replicate_succ']
  · rw [if_neg (by omega), show min k 16 = 16 by omega, show min (k + 1) 16 = 16 by omega]
theorem full_len (s : ByteArray) (k : Nat) : (full s k).length = min k 16 := by simp [full]

set_option maxHeartbeats 400000 in
theorem walk (a0 : Int) (a1 : ByteArray) (w : World) (w0 : (Lit.int .u8 a0).wf = true) (w1 : a1.size ≤ maxLen) :
    Calls Try.prog 5 #[.int .u8 a0, .string a1] w fun e w' => e = .returned (.bool true) ∧ Below w.heap.size w w' := by
  have hx : 0 ≤ a0 ∧ a0 ≤ 255 := by simpa [Lit.wf, IntKind.min, IntKind.max, IntKind.signed, IntKind.bits] using w0
  obtain ⟨hx0, hx1⟩ := hx
  obtain ⟨n, rfl⟩ := Int.eq_ofNat_of_zero_le hx0
  clear w0 w1
  have hn : n ≤ 255 := by omega
  go_enter Try.func5, Try.ntmps5
  go_wp2_with fail
  refine (new_any w w.heap.size (Nat.le_refl _)).mono ?_
  rintro e w1 ⟨rfl, hb1, hw1⟩
  go_wp2_with fail
  go_loopw [6, 9] (fun k i wr => ∃ (m : Nat) (v : Value), m ≤ n ∧ i = .int .u8 m ∧ k = .int .i64 (min m 16 : Nat) ∧ Below w.heap.size w wr ∧ BagAt wr w.heap.size w.heap.size v (full a1 m)) (fun _ i _ => n - (intOf i).toNat)
  case atStart => exact ⟨0, _, Nat.zero_le _, rfl, rfl, hw1, hb1⟩
  case round =>
    obtain ⟨m, v, hm, rfl, rfl, hb, hbag⟩ := hrel
    by_cases hlt : m < n
    · go_wp2_with fail
      refine (put_any wr _ _ _ _ hbag (by rw [full_len]; omega) a1 hb.size).mono ?_
      rintro e w2 ⟨rfl, hb2, v2, hbag2⟩
      rw [full_succ] at hbag2
      by_cases hlt2 : m < 16
      · have hput : putB (full a1 m) = true := by simp [putB, full_len]; omega
        rw [hput]
        go_wp2
        go_roundw
        case rel => exact ⟨m + 1, v2, by omega, by go_num, by rw [show min (m + 1) 16 = min m 16 + 1 by omega]; go_num, hb.trans hb2, hbag2⟩
        case measure => simp [intOf]; omega
      · have hput : putB (full a1 m) = false := by simp [putB, full_len]; omega
        rw [hput]
        go_wp2
        go_roundw
        case rel => exact ⟨m + 1, v2, by omega, by go_num, by rw [show min (m + 1) 16 = min m 16 by omega], hb.trans hb2, hbag2⟩
        case measure => simp [intOf]; omega
    · obtain rfl : m = n := by omega
      go_wp2_with fail
      refine (wakes17_any wr).mono ?_
      rintro e w2 ⟨rfl, hw2⟩
      have hbag2 := bag_below hbag hw2
      by_cases h16 : m < 16
      · rw [show min m 16 = m by omega]
        have hlen : (full a1 m).length = m := by rw [full_len]; omega
        have hL : (full a1 m).length ≤ 16 := by omega
        generalize full a1 m = l at *
        have H := Lib.hid hlen
        clear hlen
        go_wp2_with fail
        refine (len_any w2 _ _ _ _ hbag2).mono ?_
        rintro e w3 ⟨rfl, rfl⟩
        rw [H.out]
        go_wp2_with fail
        refine (all_any w2 _ _ _ _ hbag2 hL (Nat.le_trans hb.size hw2.size)).mono ?_
        rintro e w3 ⟨v3, rfl, hw3, ho3⟩
        obtain ⟨A3, c3, rfl⟩ := own_form ho3
        rw [H.out]
        go_wp2
        go_ret
        exact ⟨rfl, (hb.trans (hw2.mono hb.size)).trans (hw3.mono (Nat.le_trans hb.size hw2.size))⟩
      · rw [show min m 16 = 16 by omega]
        have hlen : (full a1 m).length = 16 := by rw [full_len]; omega
        have hL : (full a1 m).length ≤ 16 := by omega
        generalize full a1 m = l at *
        have H := Lib.hid hlen
        clear hlen
        go_wp2_with fail
        all_goals
          refine (len_any w2 _ _ _ _ hbag2).mono ?_
          rintro e w3 ⟨rfl, rfl⟩
          rw [H.out]
          go_wp2_with fail
          refine (all_any w2 _ _ _ _ hbag2 hL (Nat.le_trans hb.size hw2.size)).mono ?_
          rintro e w3 ⟨v3, rfl, hw3, ho3⟩
          obtain ⟨A3, c3, rfl⟩ := own_form ho3
          rw [H.out]
          go_wp2
          go_ret
          exact ⟨rfl, (hb.trans (hw2.mono hb.size)).trans (hw3.mono (Nat.le_trans hb.size hw2.size))⟩


end Go.Proofs.Ytmaljobfboboeaa.bagBound
