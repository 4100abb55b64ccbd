/-
  DERIVED. GIVEN WITH THE SEED: THE CARDS: each row of YthbihnpoghlfaaaGreatDoorRows.lean that lists a variable, with what it lists TIED to the program's text (the seventh form; the later family's looks); each row that meets fmt, with fmt's text TOLD by the authors' own Lean function (tested against real Go, not proved from fmt's source: count such statements apart). THE CARD IS WHAT COUNTS. Prove the row's statement (the work); the ties are given (YthbihnpoghlfaaaGreatDoorTie.lean); close each card by the builder's one call (the guide's Derived/Test/ToyasCard.lean, 'card_holds'). Laid BY PROGRAM, IN A SANDBOX (cutbox-door.mjs). By AI agents, Wed Nov 11 2026. No macro, syntax, notation, axiom, sorry.
-/
import Derived.Test.YthbihnpoghlfaaaGreatDoorRows
import GoSem.ClaimSeven
namespace Go.Proofs.YthbihnpoghlfaaaGreatDoor
namespace Rows

/-- THE TIED CARD OF 'quintainlaw13.MicroRight'. -/
def microRightCard : Claim7 := { stood := { row := microRightRow, standIns := [], harness := (true, "cd69d2b7333c3fc3ead73eba9be50061b31b6909f7271cf5d47c886e064c3641"), looks := true }, kinds := [], alts := [], laidByText := true, laidKinds := [.data, .data, .data, .data, .sentinel, .sentinel, .pinned], laidTests := true, laidLooks := .later }
def MicroRightCardSaid : Prop := Claim7.holds Tryz.pinned (.plain (OpenSpec.ofChange microRightSpec)) microRightCard

/-- THE TIED CARD OF 'quintainlaw13.MicroStart'. -/
def microStartCard : Claim7 := { stood := { row := microStartRow, standIns := [], harness := (true, "cd69d2b7333c3fc3ead73eba9be50061b31b6909f7271cf5d47c886e064c3641"), looks := true }, kinds := [], alts := [], laidByText := true, laidKinds := [.data, .data, .data, .data, .sentinel, .sentinel, .pinned], laidTests := true, laidLooks := .later }
def MicroStartCardSaid : Prop := Claim7.holds Tryz.pinned (.plain (OpenSpec.ofChange microStartSpec)) microStartCard

/-- THE TIED CARD OF 'quintainlaw13.MicroSteps'. -/
def microStepsCard : Claim7 := { stood := { row := microStepsRow, standIns := [], harness := (true, "cd69d2b7333c3fc3ead73eba9be50061b31b6909f7271cf5d47c886e064c3641"), looks := true }, kinds := [], alts := [], laidByText := true, laidKinds := [.data, .data, .data, .data, .sentinel, .sentinel, .pinned], laidTests := true, laidLooks := .later }
def MicroStepsCardSaid : Prop := Claim7.holds Tryz.pinned (.plain (OpenSpec.ofChange microStepsSpec)) microStepsCard

/-- THE TIED CARD OF 'quintainlaw13.MicroStays'. -/
def microStaysCard : Claim7 := { stood := { row := microStaysRow, standIns := [], harness := (true, "cd69d2b7333c3fc3ead73eba9be50061b31b6909f7271cf5d47c886e064c3641"), looks := true }, kinds := [], alts := [], laidByText := true, laidKinds := [.data, .data, .data, .data, .sentinel, .sentinel, .pinned], laidTests := true, laidLooks := .later }
def MicroStaysCardSaid : Prop := Claim7.holds Tryz.pinned (.plain (OpenSpec.ofChange microStaysSpec)) microStaysCard

/-- THE TIED CARD OF 'quintainlaw13.MicroQueue'. -/
def microQueueCard : Claim7 := { stood := { row := microQueueRow, standIns := [], harness := (true, "cd69d2b7333c3fc3ead73eba9be50061b31b6909f7271cf5d47c886e064c3641"), looks := true }, kinds := [], alts := [], laidByText := true, laidKinds := [.data, .data, .data, .data, .sentinel, .sentinel, .pinned], laidTests := true, laidLooks := .later }
def MicroQueueCardSaid : Prop := Claim7.holds Tryz.pinned (.plain (OpenSpec.ofChange microQueueSpec)) microQueueCard

/-- THE TIED CARD OF 'quintainlaw13.MicroDone'. -/
def microDoneCard : Claim7 := { stood := { row := microDoneRow, standIns := [], harness := (true, "cd69d2b7333c3fc3ead73eba9be50061b31b6909f7271cf5d47c886e064c3641"), looks := true }, kinds := [], alts := [], laidByText := true, laidKinds := [.data, .data, .data, .data, .sentinel, .sentinel, .pinned], laidTests := true, laidLooks := .later }
def MicroDoneCardSaid : Prop := Claim7.holds Tryz.pinned (.plain (OpenSpec.ofChange microDoneSpec)) microDoneCard

/-- THE SECOND FORM's CARD OF 'quintainlaw13.MicroRight'. -/
def microRightUptoCard : Claim7 := { stood := { row := microRightUptoRow, standIns := [], harness := (true, "cd69d2b7333c3fc3ead73eba9be50061b31b6909f7271cf5d47c886e064c3641"), looks := true }, kinds := [], alts := [], laidByText := true, laidKinds := [.data, .data, .data, .data, .sentinel, .sentinel, .pinned], laidTests := true, laidLooks := .later }
def MicroRightUptoCardSaid : Prop := Claim7.holds Tryz.pinned (.plain (OpenSpec.upto microRightSpec)) microRightUptoCard

/-- THE SECOND FORM's CARD OF 'quintainlaw13.MicroStart'. -/
def microStartUptoCard : Claim7 := { stood := { row := microStartUptoRow, standIns := [], harness := (true, "cd69d2b7333c3fc3ead73eba9be50061b31b6909f7271cf5d47c886e064c3641"), looks := true }, kinds := [], alts := [], laidByText := true, laidKinds := [.data, .data, .data, .data, .sentinel, .sentinel, .pinned], laidTests := true, laidLooks := .later }
def MicroStartUptoCardSaid : Prop := Claim7.holds Tryz.pinned (.plain (OpenSpec.upto microStartSpec)) microStartUptoCard

/-- THE SECOND FORM's CARD OF 'quintainlaw13.MicroSteps'. -/
def microStepsUptoCard : Claim7 := { stood := { row := microStepsUptoRow, standIns := [], harness := (true, "cd69d2b7333c3fc3ead73eba9be50061b31b6909f7271cf5d47c886e064c3641"), looks := true }, kinds := [], alts := [], laidByText := true, laidKinds := [.data, .data, .data, .data, .sentinel, .sentinel, .pinned], laidTests := true, laidLooks := .later }
def MicroStepsUptoCardSaid : Prop := Claim7.holds Tryz.pinned (.plain (OpenSpec.upto microStepsSpec)) microStepsUptoCard

/-- THE SECOND FORM's CARD OF 'quintainlaw13.MicroStays'. -/
def microStaysUptoCard : Claim7 := { stood := { row := microStaysUptoRow, standIns := [], harness := (true, "cd69d2b7333c3fc3ead73eba9be50061b31b6909f7271cf5d47c886e064c3641"), looks := true }, kinds := [], alts := [], laidByText := true, laidKinds := [.data, .data, .data, .data, .sentinel, .sentinel, .pinned], laidTests := true, laidLooks := .later }
def MicroStaysUptoCardSaid : Prop := Claim7.holds Tryz.pinned (.plain (OpenSpec.upto microStaysSpec)) microStaysUptoCard

/-- THE SECOND FORM's CARD OF 'quintainlaw13.MicroQueue'. -/
def microQueueUptoCard : Claim7 := { stood := { row := microQueueUptoRow, standIns := [], harness := (true, "cd69d2b7333c3fc3ead73eba9be50061b31b6909f7271cf5d47c886e064c3641"), looks := true }, kinds := [], alts := [], laidByText := true, laidKinds := [.data, .data, .data, .data, .sentinel, .sentinel, .pinned], laidTests := true, laidLooks := .later }
def MicroQueueUptoCardSaid : Prop := Claim7.holds Tryz.pinned (.plain (OpenSpec.upto microQueueSpec)) microQueueUptoCard

/-- THE SECOND FORM's CARD OF 'quintainlaw13.MicroDone'. -/
def microDoneUptoCard : Claim7 := { stood := { row := microDoneUptoRow, standIns := [], harness := (true, "cd69d2b7333c3fc3ead73eba9be50061b31b6909f7271cf5d47c886e064c3641"), looks := true }, kinds := [], alts := [], laidByText := true, laidKinds := [.data, .data, .data, .data, .sentinel, .sentinel, .pinned], laidTests := true, laidLooks := .later }
def MicroDoneUptoCardSaid : Prop := Claim7.holds Tryz.pinned (.plain (OpenSpec.upto microDoneSpec)) microDoneUptoCard
end Rows
end Go.Proofs.YthbihnpoghlfaaaGreatDoor
