/- MicroStart: the row's closed facts, part 2. (Printed by wip/mk_facts.py.) -/
import Derived.Test.YthbihnpoghlfaaaGreatDoorRows
import Derived.WalkKit
import Derived.ProofKit
import Derived.OpenShut
import Derived.SizedLaws
import Derived.Handy
import Derived.Lay
import Derived.MakeChecks
import Derived.SevenTiedAt
import Derived.Test.YthbihnpoghlfaaaGreatDoorCards
import Derived.Test.YthbihnpoghlfaaaGreatDoorTie
namespace Go.Proofs.YthbihnpoghlfaaaGreatDoor.microStart
open Go.ChangeShapes Go.WideShapes Go.ChangeAt Go.RowKit
set_option linter.unusedVariables false

theorem q4 : (namedTie Tryz.prog Rows.microStartRow.named Rows.microStartSpec.vars) = true := by kernel_rfl
theorem q5 : ((Rows.microStartRow.stops == [])) = true := by kernel_rfl
theorem q6 : ((Tryz.prog.stops == [])) = true := by kernel_rfl
theorem q7 : ((Rows.microStartRow.knobs == [])) = true := by kernel_rfl
theorem q8 : ((Tryz.prog.stopKnobs == [])) = true := by kernel_rfl
theorem q10 : ((Rows.microStartRow.unfollowed == Tryz.prog.unfollowed 4)) = true := by kernel_rfl
theorem q11 : ((Rows.microStartRow.recurses == Tryz.prog.recurses 4)) = true := by kernel_rfl
theorem q18 : (Rows.microStartSpec.vars.all (Tryz.prog.varReadable ·)) = true := by kernel_rfl
theorem q19 : (Tryz.f4.resultTypes.all (fun t => Tryz.prog.readableRec t && decide (t < Tryz.prog.types.size))) = true := by kernel_rfl
theorem q20 : ((Rows.microStartRow.ifacesOut == Tryz.f4.resultTypes.toList.any (Tryz.prog.ifacesRec ·))) = true := by kernel_rfl
theorem q21 : ((Rows.microStartRow.loopsOut == Tryz.f4.resultTypes.toList.any (Tryz.prog.loopsFrom ·))) = true := by kernel_rfl
theorem q22 : ((Rows.microStartRow.plainKeys == Tryz.prog.plainKeys)) = true := by kernel_rfl
theorem q23 : (Rows.microStartRow.shortTexts.isNone) = true := by kernel_rfl
end Go.Proofs.YthbihnpoghlfaaaGreatDoor.microStart
