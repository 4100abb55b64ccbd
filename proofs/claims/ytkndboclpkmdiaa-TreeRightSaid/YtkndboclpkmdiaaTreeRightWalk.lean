/- The walk of TreeRight. -/
import Derived.Test.YtkndboclpkmdiaaTreeX
namespace Go.Proofs.Ytkndboclpkmdiaa.treeRight
open Go.RowKit

set_option maxHeartbeats 1000000 in
set_option maxRecDepth 100000 in
theorem walk (v0 : Value) (w : World) {H : Type} {enc : TypeId × Value → H} {base : Nat} {d : DataW H} {p : List MemPlace}
    (hv : Value.okWide Try.prog w .any base 22 v0) (h1 : DataW.Trod enc Try.prog w 0 (fun _ => true) true 22 v0 d p) (_lt1 : ∀ x ∈ p, x.block < w.heap.size) (hz1 : ∀ n ∈ d.weights Try.prog 22, n ≤ reachBytes) :
    Calls Try.prog 3 #[v0] w fun e w' => e = .returned (.bool true) ∧ Below w.heap.size w w' := by
  obtain ⟨A, n, c, st, rfl, hnc, hcz, hnm, hT, hwf⟩ := open_tree hv h1 hz1
  have hn96 : n * 96 ≤ 140737488355328 := by unfold reachBytes at hcz; omega
  clear hv h1 _lt1 hz1 hcz hnc
  go_enter Try.func3, Try.ntmps3
  go_wp2_with fail
  refine (wakes_any w).mono ?_
  rintro e w1 ⟨rfl, hb1⟩
  go_wp2_with fail
  refine (copied_any w1 A n c st ((hT.below hb1).more hb1.size) hn96).mono ?_
  rintro e w2 ⟨A', c', rfl, hb2, ht2⟩
  have hB2 := hb1.trans (hb2.mono hb1.size)
  go_wp2_with fail
  refine (right_any w2 A' n c' st ht2 hwf hnm).mono ?_
  rintro e w3 ⟨rfl, hb3⟩
  have hB3 := hB2.trans (hb3.mono hB2.size)
  go_wp2_with fail
  refine (refRight_any w3 A n c st ((hT.below hB3).more hB3.size) hwf).mono ?_
  rintro e w4 ⟨rfl, hb4⟩
  have hB4 := hB3.trans (hb4.mono hB3.size)
  obtain ⟨b, hb⟩ : ∃ b, decide (Tr.right st) = b := ⟨_, rfl⟩
  rw [hb]
  clear hb
  cases b <;> (go_wp2; go_ret; exact ⟨rfl, hB4⟩)

end Go.Proofs.Ytkndboclpkmdiaa.treeRight
