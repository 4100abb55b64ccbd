/- MicroStart: the row's closed facts, part 4. (Printed by wip/mk_facts.py.) -/
import Derived.Test.YthbihnpoghlfaaaGreatDoorRows
import Derived.WalkKit
import Derived.ProofKit
import Derived.OpenShut
import Derived.SizedLaws
import Derived.Handy
import Derived.Lay
import Derived.MakeChecks
import Derived.SevenTiedAt
import Derived.Test.YthbihnpoghlfaaaGreatDoorCards
import Derived.Test.YthbihnpoghlfaaaGreatDoorTie
namespace Go.Proofs.YthbihnpoghlfaaaGreatDoor.microStart
open Go.ChangeShapes Go.WideShapes Go.ChangeAt Go.RowKit
set_option linter.unusedVariables false

theorem pw : Rows.microStartRow.wfByText (OpenSpec.ofChange Rows.microStartSpec) = true := by kernel_rfl
theorem pm : Tryz.pinned.checked.prog.mainIs = some (Rows.microStartCard.stood.harness.1, Rows.microStartCard.stood.harness.2.toList) := by kernel_rfl
theorem pf : Tryz.prog.funcNamed Rows.microStartRow.func = some 4 := by kernel_rfl
theorem pl : true = Tryz.prog.looks [] := by kernel_rfl
theorem pg : false = Rows.microStartRow.goesBy Tryz.pinned.checked.prog := by kernel_rfl
theorem ph : (Tryz.f4.params.toList.all fun u => !Tryz.prog.wantsStandIn u) = true := by kernel_rfl
end Go.Proofs.YthbihnpoghlfaaaGreatDoor.microStart
