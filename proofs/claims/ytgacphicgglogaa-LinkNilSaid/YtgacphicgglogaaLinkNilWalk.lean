/- The walk of LinkNil. -/
import Derived.Test.YtgacphicgglogaaLinkG
namespace Go.Proofs.Ytgacphicgglogaa.linkNil
set_option linter.unusedVariables false
open Go.RowKit

set_option maxHeartbeats 1000000 in
set_option maxRecDepth 100000 in
theorem walk (s : ByteArray) (w : World) (_hs : s.size ≤ maxLen) :
    Calls Try.prog 5 #[.string s] w fun e w' => e = .returned (.bool true) ∧ Below w.heap.size w w' := by
  go_enter Try.func5, Try.ntmps5
  go_wp2_with fail
  refine (tick_nil w).mono ?_
  rintro e w1 ⟨rfl, rfl⟩
  go_wp2_with fail
  refine (recv_nil _).mono ?_
  rintro e w2 ⟨rfl, n, hw2⟩
  have hb2 : Below w1.heap.size w1 w2 := by rw [hw2]; exact Tr_below_drewN (Below.refl _ _) n
  clear hw2
  go_wp2_with fail
  refine (state_nil _).mono ?_
  rintro e w3 ⟨rfl, rfl⟩
  go_wp2_with fail
  refine (wakes18_any _).mono ?_
  rintro e w4 ⟨rfl, hb4⟩
  have hb4' := hb2.trans (hb4.mono hb2.size)
  go_wp2_with fail
  refine (send_nil _ s).mono ?_
  rintro e w5 ⟨rfl, rfl⟩
  go_wp2_with fail
  refine (get_nil _ s).mono ?_
  rintro e w6 ⟨rfl, rfl⟩
  go_wp2_with fail
  refine (out_nil _).mono ?_
  rintro e w7 ⟨rfl, rfl⟩
  go_wp2
  go_ret
  exact ⟨rfl, hb4'⟩

end Go.Proofs.Ytgacphicgglogaa.linkNil
