/- A node is made, asked, and turned: 'wakes' of the node's laws. -/
import Derived.Test.YtgmhkjmnfafccaaGreatDoorEvU
namespace Go.Proofs.YtgmhkjmnfafccaaGreatDoor
open Go.RowKit
open Ev in
theorem wakes20_run : good (evF Tryz.prog TB treeOrc 2000 5 [] AH.empty) = true := by kernel_rfl
theorem wakes20_any (w : World) : Calls Tryz.prog 5 #[] w fun e w' => e = .returned (.bool true) ∧ Below w.heap.size w w' :=
  Ev.true_calls [] wakes20_run w
end Go.Proofs.YtgmhkjmnfafccaaGreatDoor
