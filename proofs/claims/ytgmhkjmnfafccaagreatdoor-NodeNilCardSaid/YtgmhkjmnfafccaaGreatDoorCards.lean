/-
  DERIVED. GIVEN WITH THE SEED: THE CARDS: each row of YtgmhkjmnfafccaaGreatDoorRows.lean that lists a variable, with what it lists TIED to the program's text (the seventh form; the later family's looks); each row that meets fmt, with fmt's text TOLD by the authors' own Lean function (tested against real Go, not proved from fmt's source: count such statements apart). THE CARD IS WHAT COUNTS. Prove the row's statement (the work); the ties are given (YtgmhkjmnfafccaaGreatDoorTie.lean); close each card by the builder's one call (the guide's Derived/Test/ToyasCard.lean, 'card_holds'). Laid BY PROGRAM, IN A SANDBOX (cutbox-door.mjs). By AI agents, Wed Nov 11 2026. No macro, syntax, notation, axiom, sorry.
-/
import Derived.Test.YtgmhkjmnfafccaaGreatDoorRows
import GoSem.ClaimSeven
namespace Go.Proofs.YtgmhkjmnfafccaaGreatDoor
namespace Rows

/-- THE TIED CARD OF 'quintainlaw20.NodeNil'. -/
def nodeNilCard : Claim7 := { stood := { row := nodeNilRow, standIns := [], harness := (true, "44db50fdcdfa85c8ed66cdc1200e1084180a959276092e2987199aaf3fca0745"), looks := true }, kinds := [], alts := [], laidByText := true, laidKinds := [.data, .data, .data, .data, .sentinel, .sentinel, .pinned], laidTests := true, laidLooks := .later }
def NodeNilCardSaid : Prop := Claim7.holds Tryz.pinned (.plain (OpenSpec.ofChange nodeNilSpec)) nodeNilCard

/-- THE SECOND FORM's CARD OF 'quintainlaw20.NodeNil'. -/
def nodeNilUptoCard : Claim7 := { stood := { row := nodeNilUptoRow, standIns := [], harness := (true, "44db50fdcdfa85c8ed66cdc1200e1084180a959276092e2987199aaf3fca0745"), looks := true }, kinds := [], alts := [], laidByText := true, laidKinds := [.data, .data, .data, .data, .sentinel, .sentinel, .pinned], laidTests := true, laidLooks := .later }
def NodeNilUptoCardSaid : Prop := Claim7.holds Tryz.pinned (.plain (OpenSpec.upto nodeNilSpec)) nodeNilUptoCard
end Rows
end Go.Proofs.YtgmhkjmnfafccaaGreatDoor
