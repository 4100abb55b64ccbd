/-
  No cell of these rows narrows 'for every input' (looked for: loops, veiled, ifaces, maps, wideKeys, modest, calm, conditions, laid).
  DERIVED. THE GIVEN ROWS OF THIS SEAT. 6 by the template 'for every input the law returns true; each argument reads behind the call as it read before'; 0 by the template 'total and deterministic' (their statements: YtkndboclpkmdiaaTotals.lean).
  GIVEN WITH THE SEED: the statements are not yours to turn. If you find one false, say at which input.
  Laid BY PROGRAM, IN A SANDBOX (cutbox-rows.mjs): the forced cells as the released guide's own fill.sh prints them over the translation 317ef35d41dadb5c… (all of the seat's roots in one cut). By AI agents, Wed Nov 11 2026. No macro, syntax, notation, axiom, sorry.
-/
import Derived.Test.YtkndboclpkmdiaaChecked
import GoSem.Claim
import GoSem.ClaimJoined
import GoSem.ClaimMapViews
import Derived.JoinedTies
import Derived.KernelRfl
namespace Go.Proofs.Ytkndboclpkmdiaa
/- THE CELL 'sum', in the pinned program and in every row, IS THE sha256 OF THE DUMP (.gsa) THAT YtkndboclpkmdiaaProg.lean LOADS. Nothing in Lean hashes anything: it is a label: what it is worth is what the hold of that sum in a sandbox is worth. -/
noncomputable def Try.pinned : Pinned := { name := "ytkndboclpkmdiaa", sum := "317ef35d41dadb5c71fa499bd52b8f26679e9315d4061bc6676b3996f1528111", checked := Try.checked }
namespace Rows
def none {H : Type} : Left H := { results := [], args := [] }

/-- 'quintainlaw07.TreeRight': WHATEVER THE INPUT: true; the input reads as it did. -/
def treeRightSpec : ChangeSpec := { name := "treeRight", fn := fun _ => fun
  | [d] => { results := [.lit (.bool true)], args := [d] }
  | _ => none }
def treeRightRow : OpenClaim := { program := "ytkndboclpkmdiaa", sum := "317ef35d41dadb5c71fa499bd52b8f26679e9315d4061bc6676b3996f1528111", func := "quintain/quintainlaw07.TreeRight", spec := "treeRight", unfollowed := true, recurses := true, apart := false }
def TreeRightSaid : Prop := treeRightRow.holds Try.pinned (OpenSpec.ofChange treeRightSpec)

/-- ITS FALSE NEIGHBOUR: 'it returns false'. Refute it at one input. -/
def treeRightWrong : ChangeSpec := { name := "treeRight", fn := fun _ => fun
  | [d] => { results := [.lit (.bool false)], args := [d] }
  | _ => none }
def TreeRightWrongFalsely : Prop := treeRightRow.holds Try.pinned (OpenSpec.ofChange treeRightWrong)

/-- 'quintainlaw07.TreeWithin': WHATEVER THE INPUT: true; the input reads as it did. -/
def treeWithinSpec : ChangeSpec := { name := "treeWithin", fn := fun _ => fun
  | [d1, d2, d3] => { results := [.lit (.bool true)], args := [d1, d2, d3] }
  | _ => none }
def treeWithinRow : OpenClaim := { program := "ytkndboclpkmdiaa", sum := "317ef35d41dadb5c71fa499bd52b8f26679e9315d4061bc6676b3996f1528111", func := "quintain/quintainlaw07.TreeWithin", spec := "treeWithin", unfollowed := true, recurses := true, apart := false }
def TreeWithinSaid : Prop := treeWithinRow.holds Try.pinned (OpenSpec.ofChange treeWithinSpec)

/-- ITS FALSE NEIGHBOUR: 'it returns false'. Refute it at one input. -/
def treeWithinWrong : ChangeSpec := { name := "treeWithin", fn := fun _ => fun
  | [d1, d2, d3] => { results := [.lit (.bool false)], args := [d1, d2, d3] }
  | _ => none }
def TreeWithinWrongFalsely : Prop := treeWithinRow.holds Try.pinned (OpenSpec.ofChange treeWithinWrong)

/-- 'quintainlaw07.TreeParts': WHATEVER THE INPUT: true; the input reads as it did. -/
def treePartsSpec : ChangeSpec := { name := "treeParts", fn := fun _ => fun
  | [d] => { results := [.lit (.bool true)], args := [d] }
  | _ => none }
def treePartsRow : OpenClaim := { program := "ytkndboclpkmdiaa", sum := "317ef35d41dadb5c71fa499bd52b8f26679e9315d4061bc6676b3996f1528111", func := "quintain/quintainlaw07.TreeParts", spec := "treeParts", unfollowed := true, recurses := true, apart := false }
def TreePartsSaid : Prop := treePartsRow.holds Try.pinned (OpenSpec.ofChange treePartsSpec)

/-- ITS FALSE NEIGHBOUR: 'it returns false'. Refute it at one input. -/
def treePartsWrong : ChangeSpec := { name := "treeParts", fn := fun _ => fun
  | [d] => { results := [.lit (.bool false)], args := [d] }
  | _ => none }
def TreePartsWrongFalsely : Prop := treePartsRow.holds Try.pinned (OpenSpec.ofChange treePartsWrong)

/-- 'quintainlaw07.TreeDomains': WHATEVER THE INPUT: true; the input reads as it did. -/
def treeDomainsSpec : ChangeSpec := { name := "treeDomains", fn := fun _ => fun
  | [d1, d2, d3] => { results := [.lit (.bool true)], args := [d1, d2, d3] }
  | _ => none }
def treeDomainsRow : OpenClaim := { program := "ytkndboclpkmdiaa", sum := "317ef35d41dadb5c71fa499bd52b8f26679e9315d4061bc6676b3996f1528111", func := "quintain/quintainlaw07.TreeDomains", spec := "treeDomains", unfollowed := true, recurses := true, apart := false }
def TreeDomainsSaid : Prop := treeDomainsRow.holds Try.pinned (OpenSpec.ofChange treeDomainsSpec)

/-- ITS FALSE NEIGHBOUR: 'it returns false'. Refute it at one input. -/
def treeDomainsWrong : ChangeSpec := { name := "treeDomains", fn := fun _ => fun
  | [d1, d2, d3] => { results := [.lit (.bool false)], args := [d1, d2, d3] }
  | _ => none }
def TreeDomainsWrongFalsely : Prop := treeDomainsRow.holds Try.pinned (OpenSpec.ofChange treeDomainsWrong)

/-- 'quintainlaw07.TreePlaces': WHATEVER THE INPUT: true; the input reads as it did. -/
def treePlacesSpec : ChangeSpec := { name := "treePlaces", fn := fun _ => fun
  | [d1, d2] => { results := [.lit (.bool true)], args := [d1, d2] }
  | _ => none }
def treePlacesRow : OpenClaim := { program := "ytkndboclpkmdiaa", sum := "317ef35d41dadb5c71fa499bd52b8f26679e9315d4061bc6676b3996f1528111", func := "quintain/quintainlaw07.TreePlaces", spec := "treePlaces", unfollowed := true, recurses := true, apart := false }
def TreePlacesSaid : Prop := treePlacesRow.holds Try.pinned (OpenSpec.ofChange treePlacesSpec)

/-- ITS FALSE NEIGHBOUR: 'it returns false'. Refute it at one input. -/
def treePlacesWrong : ChangeSpec := { name := "treePlaces", fn := fun _ => fun
  | [d1, d2] => { results := [.lit (.bool false)], args := [d1, d2] }
  | _ => none }
def TreePlacesWrongFalsely : Prop := treePlacesRow.holds Try.pinned (OpenSpec.ofChange treePlacesWrong)

/-- 'quintainlaw07.TreeRegions': WHATEVER THE INPUT: true; the input reads as it did. -/
def treeRegionsSpec : ChangeSpec := { name := "treeRegions", fn := fun _ => fun
  | [d] => { results := [.lit (.bool true)], args := [d] }
  | _ => none }
def treeRegionsRow : OpenClaim := { program := "ytkndboclpkmdiaa", sum := "317ef35d41dadb5c71fa499bd52b8f26679e9315d4061bc6676b3996f1528111", func := "quintain/quintainlaw07.TreeRegions", spec := "treeRegions", unfollowed := true, recurses := true, apart := false }
def TreeRegionsSaid : Prop := treeRegionsRow.holds Try.pinned (OpenSpec.ofChange treeRegionsSpec)

/-- ITS FALSE NEIGHBOUR: 'it returns false'. Refute it at one input. -/
def treeRegionsWrong : ChangeSpec := { name := "treeRegions", fn := fun _ => fun
  | [d] => { results := [.lit (.bool false)], args := [d] }
  | _ => none }
def TreeRegionsWrongFalsely : Prop := treeRegionsRow.holds Try.pinned (OpenSpec.ofChange treeRegionsWrong)

/- THE SECOND FORM. 'bulk': how many values and letters a reading holds, each counted each time it is reached (what is shared counts as often as it is met; a slice's spare places count too). A statement '..UptoSaid' is the law's where the arguments, and the package variables that the reading takes, are together of bulk at most 1048576: NARROWER than '..Said'. Prove '..Said' where nothing that the law and all that it calls make is longer than what came in: it says more and counts as full. Else prove '..UptoSaid'. A law counts once. -/
mutual
def uptoBulk {H : Type} : DataW H → Nat
  | .lit (.string bytes) => bytes.length + 1
  | .lit _ => 1
  | .nil => 1
  | .ptr d => uptoBulk d + 1
  | .slice elems spare => uptoBulkAll elems + uptoBulkAll spare + 1
  | .agg parts => uptoBulkAll parts + 1
  | .iface _ d => uptoBulk d + 1
  | .map entries => uptoBulkEntries entries + 1
  | .held _ => 1
def uptoBulkAll {H : Type} : List (DataW H) → Nat
  | [] => 0
  | d :: r => uptoBulk d + uptoBulkAll r
def uptoBulkEntries {H : Type} : List (Lit × DataW H) → Nat
  | [] => 0
  | x :: r => uptoBulkEntry x + uptoBulkEntries r
def uptoBulkEntry {H : Type} : Lit × DataW H → Nat
  | (.string bytes, d) => bytes.length + uptoBulk d + 1
  | (_, d) => uptoBulk d + 1
 end
def uptoSmall : (H : Type) → List (DataW H) → Bool := fun _ ds => decide (uptoBulkAll ds ≤ 1048576)
def OpenSpec.upto (s : _root_.Go.ChangeSpec) : _root_.Go.OpenSpec := { _root_.Go.OpenSpec.ofChange s with cond := some uptoSmall }

/-- 'quintainlaw07.TreeRight', WHERE WHAT IT READS IS OF BULK AT MOST 1048576: true; the input reads as it did. -/
def treeRightUptoRow : OpenClaim := { program := "ytkndboclpkmdiaa", sum := "317ef35d41dadb5c71fa499bd52b8f26679e9315d4061bc6676b3996f1528111", func := "quintain/quintainlaw07.TreeRight", spec := "treeRight", unfollowed := true, recurses := true, apart := false, narrowed := true }
def TreeRightUptoSaid : Prop := treeRightUptoRow.holds Try.pinned (OpenSpec.upto treeRightSpec)

/-- 'quintainlaw07.TreeWithin', WHERE WHAT IT READS IS OF BULK AT MOST 1048576: true; the input reads as it did. -/
def treeWithinUptoRow : OpenClaim := { program := "ytkndboclpkmdiaa", sum := "317ef35d41dadb5c71fa499bd52b8f26679e9315d4061bc6676b3996f1528111", func := "quintain/quintainlaw07.TreeWithin", spec := "treeWithin", unfollowed := true, recurses := true, apart := false, narrowed := true }
def TreeWithinUptoSaid : Prop := treeWithinUptoRow.holds Try.pinned (OpenSpec.upto treeWithinSpec)

/-- 'quintainlaw07.TreeParts', WHERE WHAT IT READS IS OF BULK AT MOST 1048576: true; the input reads as it did. -/
def treePartsUptoRow : OpenClaim := { program := "ytkndboclpkmdiaa", sum := "317ef35d41dadb5c71fa499bd52b8f26679e9315d4061bc6676b3996f1528111", func := "quintain/quintainlaw07.TreeParts", spec := "treeParts", unfollowed := true, recurses := true, apart := false, narrowed := true }
def TreePartsUptoSaid : Prop := treePartsUptoRow.holds Try.pinned (OpenSpec.upto treePartsSpec)

/-- 'quintainlaw07.TreeDomains', WHERE WHAT IT READS IS OF BULK AT MOST 1048576: true; the input reads as it did. -/
def treeDomainsUptoRow : OpenClaim := { program := "ytkndboclpkmdiaa", sum := "317ef35d41dadb5c71fa499bd52b8f26679e9315d4061bc6676b3996f1528111", func := "quintain/quintainlaw07.TreeDomains", spec := "treeDomains", unfollowed := true, recurses := true, apart := false, narrowed := true }
def TreeDomainsUptoSaid : Prop := treeDomainsUptoRow.holds Try.pinned (OpenSpec.upto treeDomainsSpec)

/-- 'quintainlaw07.TreePlaces', WHERE WHAT IT READS IS OF BULK AT MOST 1048576: true; the input reads as it did. -/
def treePlacesUptoRow : OpenClaim := { program := "ytkndboclpkmdiaa", sum := "317ef35d41dadb5c71fa499bd52b8f26679e9315d4061bc6676b3996f1528111", func := "quintain/quintainlaw07.TreePlaces", spec := "treePlaces", unfollowed := true, recurses := true, apart := false, narrowed := true }
def TreePlacesUptoSaid : Prop := treePlacesUptoRow.holds Try.pinned (OpenSpec.upto treePlacesSpec)

/-- 'quintainlaw07.TreeRegions', WHERE WHAT IT READS IS OF BULK AT MOST 1048576: true; the input reads as it did. -/
def treeRegionsUptoRow : OpenClaim := { program := "ytkndboclpkmdiaa", sum := "317ef35d41dadb5c71fa499bd52b8f26679e9315d4061bc6676b3996f1528111", func := "quintain/quintainlaw07.TreeRegions", spec := "treeRegions", unfollowed := true, recurses := true, apart := false, narrowed := true }
def TreeRegionsUptoSaid : Prop := treeRegionsUptoRow.holds Try.pinned (OpenSpec.upto treeRegionsSpec)

end Rows
end Go.Proofs.Ytkndboclpkmdiaa
