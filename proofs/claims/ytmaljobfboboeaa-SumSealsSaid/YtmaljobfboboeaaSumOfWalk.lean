/- The walks of SumOf, SumSeals and SumOpens. -/
import Derived.Test.YtmaljobfboboeaaSumG
namespace Go.Proofs.Ytmaljobfboboeaa
open Go.RowKit Crc

theorem sumOf.walk (a0 : ByteArray) (w : World) (w0 : a0.size ≤ maxLen) :
    Calls Try.prog 7 #[.string a0] w fun e w' => e = .returned (.bool true) ∧ Below w.heap.size w w' := by
  have w0' := w0
  unfold maxLen at w0
  by_cases hbig : 5000 < a0.size
  · have hb' : (5000 : Int) < (a0.size : Int) := by omega
    go_enter Try.func7, Try.ntmps7
    go_wp2_with (go_at_call 22; refine (wakes15_any w).mono ?_; rintro e w1 ⟨rfl, hw1⟩)
    go_ret
    exact ⟨rfl, hw1⟩
  · have hb' : ¬ (5000 : Int) < (a0.size : Int) := by omega
    go_enter Try.func7, Try.ntmps7
    go_wp2_with fail
    refine (wakes15_any w).mono ?_
    rintro e w1 ⟨rfl, hw1⟩
    go_wp2_with fail
    refine (of_any a0 w1 w0').mono ?_
    rintro e w2 ⟨rfl, hw2⟩
    go_wp2_with fail
    refine (refOf_any a0 w2 w0').mono ?_
    rintro e w3 ⟨rfl, rfl⟩
    generalize crc a0.data.toList = c at *
    go_wp2
    go_ret
    exact ⟨rfl, hw1.trans (hw2.mono hw1.size)⟩

theorem sumSeals.walk (a0 : ByteArray) (w : World) (w0 : a0.size ≤ maxLen) :
    Calls Try.prog 8 #[.string a0] w fun e w' => e = .returned (.bool true) ∧ Below w.heap.size w w' := by
  unfold maxLen at w0
  by_cases hbig : 5000 < a0.size
  · have hb' : (5000 : Int) < (a0.size : Int) := by omega
    go_enter Try.func8, Try.ntmps8
    go_wp2_with (go_at_call 22; refine (wakes15_any w).mono ?_; rintro e w1 ⟨rfl, hw1⟩)
    go_ret
    exact ⟨rfl, hw1⟩
  · have hb' : ¬ (5000 : Int) < (a0.size : Int) := by omega
    go_enter Try.func8, Try.ntmps8
    go_wp2_with fail
    refine (wakes15_any w).mono ?_
    rintro e w1 ⟨rfl, hw1⟩
    go_wp2_with fail
    refine (seal_any a0 w1 (by omega)).mono ?_
    rintro e w2 ⟨rfl, hw2⟩
    go_wp2_with fail
    refine (open_any (sealB a0) w2 (by rw [sealB_size]; omega)).mono ?_
    rintro e w3 ⟨he, hw3⟩
    rw [openRes_seal] at he
    subst he
    go_wp2_with fail
    refine (refSeal_any a0 w3 (by omega)).mono ?_
    rintro e w4 ⟨rfl, hw4⟩
    generalize sealB a0 = sb at *
    go_wp2
    go_ret
    exact ⟨rfl, ((hw1.trans (hw2.mono hw1.size)).trans (hw3.mono (Nat.le_trans hw1.size hw2.size))).trans (hw4.mono (Nat.le_trans (Nat.le_trans hw1.size hw2.size) hw3.size))⟩

theorem sumOpens.walk (a0 : ByteArray) (w : World) (w0 : a0.size ≤ maxLen) :
    Calls Try.prog 9 #[.string a0] w fun e w' => e = .returned (.bool true) ∧ Below w.heap.size w w' := by
  unfold maxLen at w0
  by_cases hbig : 5000 < a0.size
  · have hb' : (5000 : Int) < (a0.size : Int) := by omega
    go_enter Try.func9, Try.ntmps9
    go_wp2_with (go_at_call 22; refine (wakes15_any w).mono ?_; rintro e w1 ⟨rfl, hw1⟩)
    go_ret
    exact ⟨rfl, hw1⟩
  · have hb' : ¬ (5000 : Int) < (a0.size : Int) := by omega
    go_enter Try.func9, Try.ntmps9
    go_wp2_with fail
    refine (wakes15_any w).mono ?_
    rintro e w1 ⟨rfl, hw1⟩
    go_wp2_with fail
    refine (open_any a0 w1 (by omega)).mono ?_
    rintro e w2 ⟨rfl, hw2⟩
    go_wp2_with fail
    refine (refOpen_any a0 w2 (by omega)).mono ?_
    rintro e w3 ⟨rfl, hw3⟩
    generalize openRes a0 = r at *
    obtain ⟨rs, re⟩ := r
    go_wp2
    go_ret
    exact ⟨rfl, (hw1.trans (hw2.mono hw1.size)).trans (hw3.mono (Nat.le_trans hw1.size hw2.size))⟩

end Go.Proofs.Ytmaljobfboboeaa
