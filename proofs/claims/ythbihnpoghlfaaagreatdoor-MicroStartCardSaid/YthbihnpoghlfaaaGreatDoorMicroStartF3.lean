/- MicroStart: the row's closed facts, part 3. (Printed by wip/mk_facts.py.) -/
import Derived.Test.YthbihnpoghlfaaaGreatDoorRows
import Derived.WalkKit
import Derived.ProofKit
import Derived.OpenShut
import Derived.SizedLaws
import Derived.Handy
import Derived.Lay
import Derived.MakeChecks
import Derived.SevenTiedAt
import Derived.Test.YthbihnpoghlfaaaGreatDoorCards
import Derived.Test.YthbihnpoghlfaaaGreatDoorTie
namespace Go.Proofs.YthbihnpoghlfaaaGreatDoor.microStart
open Go.ChangeShapes Go.WideShapes Go.ChangeAt Go.RowKit
set_option linter.unusedVariables false

theorem q12 : ((Rows.microStartRow.named == Tryz.prog.varsNamed 4)) = true := by kernel_rfl
theorem q24 : (Tryz.prog.stopsHeard) = true := by kernel_rfl
theorem q25 : (Tryz.prog.mayEnter) = true := by kernel_rfl
theorem q26 : ((Rows.microStartRow.lifted == Tryz.prog.liftsFinal)) = true := by kernel_rfl
theorem q27 : ((Tryz.prog.make == some Rows.microStartRow.make)) = true := by kernel_rfl
theorem q28 : ((Rows.microStartRow.kinds == (if Rows.microStartRow.domain.isEmpty then [] else Tryz.f4.params.toList.map fun t => match Tryz.prog.underlying t with | some (.int k) => some k | _ => none))) = true := by kernel_rfl
theorem q29 : ((Rows.microStartRow.pinned == Rows.microStartRow.pinnedBy)) = true := by kernel_rfl
theorem q30 : ((Rows.microStartRow.veiled == (Tryz.f4.params.toList ++ Rows.microStartSpec.plain.varTypes Tryz.prog ++ Tryz.f4.resultTypes.toList).any (Tryz.prog.veiledRec ·))) = true := by kernel_rfl
theorem q31 : (Rows.microStartRow.veiledFits Tryz.prog Tryz.f4.params.toList (Tryz.f4.params.toList ++ Rows.microStartSpec.plain.varTypes Tryz.prog ++ Tryz.f4.resultTypes.toList)) = true := by kernel_rfl
end Go.Proofs.YthbihnpoghlfaaaGreatDoor.microStart
