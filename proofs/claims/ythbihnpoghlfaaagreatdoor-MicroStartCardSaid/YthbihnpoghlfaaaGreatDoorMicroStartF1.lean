/- MicroStart: the row's closed facts, part 1. (Printed by wip/mk_facts.py.) -/
import Derived.Test.YthbihnpoghlfaaaGreatDoorRows
import Derived.WalkKit
import Derived.ProofKit
import Derived.OpenShut
import Derived.SizedLaws
import Derived.Handy
import Derived.Lay
import Derived.MakeChecks
import Derived.SevenTiedAt
import Derived.Test.YthbihnpoghlfaaaGreatDoorCards
import Derived.Test.YthbihnpoghlfaaaGreatDoorTie
namespace Go.Proofs.YthbihnpoghlfaaaGreatDoor.microStart
open Go.ChangeShapes Go.WideShapes Go.ChangeAt Go.RowKit
set_option linter.unusedVariables false

theorem q0 : (Rows.microStartRow.wf (OpenSpec.ofChange Rows.microStartSpec)) = true := by kernel_rfl
theorem q1 : (laidOutB Tryz.prog) = true := by kernel_rfl
theorem q2 : (mapsRowed Tryz.prog) = true := by kernel_rfl
theorem q3 : (Tryz.f4.params.all (Tryz.prog.readableRec ·)) = true := by kernel_rfl
theorem q9 : ((Rows.microStartRow.inPlace == Tryz.prog.inPlace 4)) = true := by kernel_rfl
theorem q13 : ((Rows.microStartRow.maps == (Tryz.f4.params.toList ++ Rows.microStartSpec.plain.varTypes Tryz.prog).any (Tryz.prog.mapsRec ·))) = true := by kernel_rfl
theorem q14 : ((Rows.microStartRow.ifaces == (Tryz.f4.params.toList ++ Rows.microStartSpec.plain.varTypes Tryz.prog).any (Tryz.prog.ifacesRec ·))) = true := by kernel_rfl
theorem q15 : ((Rows.microStartRow.mapsOut == Tryz.prog.mapsAmong Tryz.f4.resultTypes.toList)) = true := by kernel_rfl
theorem q16 : ((Rows.microStartRow.loops == (Tryz.f4.params.toList ++ Rows.microStartSpec.plain.varTypes Tryz.prog).any (Tryz.prog.loopsFrom ·))) = true := by kernel_rfl
theorem q17 : ((Rows.microStartRow.wideKeys == (Tryz.f4.params.toList ++ Rows.microStartSpec.plain.varTypes Tryz.prog ++ Tryz.f4.resultTypes.toList).any (Tryz.prog.wideKeysFrom ·))) = true := by kernel_rfl
end Go.Proofs.YthbihnpoghlfaaaGreatDoor.microStart
