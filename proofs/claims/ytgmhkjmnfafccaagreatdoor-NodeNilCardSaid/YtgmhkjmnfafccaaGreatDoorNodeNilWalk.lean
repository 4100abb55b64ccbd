/- The walk of NodeNil. -/
import Derived.Test.YtgmhkjmnfafccaaGreatDoorNodeW
import Derived.WalkKit
import Derived.Tactics
import Derived.ProofKit
import Derived.OpenShut
namespace Go.Proofs.YtgmhkjmnfafccaaGreatDoor.nodeNil
set_option linter.unusedVariables false
open Go.RowKit Go.WideShapes Go.ChangeShapes Go.ChangeAt

/-- A message of zeros. -/
def zmsg : Value := .agg #[.int .i64 0, .int .u64 0, .string ByteArray.empty, .slice none 0 0, .slice none 0 0, .slice none 0 0, .slice none 0 0, .slice none 0 0, .slice none 0 0]
theorem same_run : Ev.good (Ev.evF Tryz.prog Ev.TB Ev.treeOrc 100 6 ([zmsg, zmsg].map .v) Ev.AH.empty) = true := by kernel_rfl
theorem view_nil (w : World) : Calls Tryz.prog 4 #[.pointer none] w fun e w' => e = .returned (.tuple #[.slice none 0 0, .slice none 0 0, .slice none 0 0, .int .u64 0]) ∧ w' = w := by
  go_enter Tryz.func4, Tryz.ntmps4
  go_wp2_with fail
  exact bodyPost_ret (v := .tuple #[.slice none 0 0, .slice none 0 0, .slice none 0 0, .int .u64 0]) (by simp [results, Tryz.results4, go_sem]) rfl ⟨rfl, rfl⟩
theorem handle_nil (w : World) (c0 c1 c2 c3 c4 c5 c6 c7 c8 : Value) : Calls Tryz.prog 7 #[.pointer none, .agg #[c0, c1, c2, c3, c4, c5, c6, c7, c8]] w fun e w' => e = .returned zmsg ∧ Below w.heap.size w w' := by
  go_enter Tryz.func7, Tryz.ntmps7
  go_wp2_with fail
  refine bodyPost_ret (v := zmsg) ?_ rfl ⟨rfl, ((Below.refl _ w).alloc (Nat.le_refl _) _).alloc (by simp) _⟩
  simp [results, Tryz.results7, go_sem]
  rfl

set_option maxHeartbeats 1000000 in
set_option maxRecDepth 100000 in
theorem walkC (w : World) (c0 c1 c2 c3 c4 c5 c6 c7 c8 : Value) :
    Calls Tryz.prog 3 #[.agg #[c0, c1, c2, c3, c4, c5, c6, c7, c8]] w fun e w' => e = .returned (.bool true) ∧ Below w.heap.size w w' := by
  go_enter Tryz.func3, Tryz.ntmps3
  go_wp2_with fail
  refine (view_nil _).mono ?_
  rintro e w1 ⟨rfl, rfl⟩
  go_wp2_with fail
  refine (wakes20_any _).mono ?_
  rintro e w2 ⟨rfl, hb2⟩
  have hcl : ∀ j v, #[c0, c1, c2, c3, c4, c5, c6, c7, c8].toList[j]? = some v → w2.cell? ⟨w.heap.size, j, none⟩ = some v := fun j v hj => by
    have hk : w2.heap[w.heap.size]? = some (.cells #[c0, c1, c2, c3, c4, c5, c6, c7, c8] 27 (0, 0)) := by
      rw [hb2.block _ (by simp)]
      exact heap_alloc_new w _
    rw [cell_of_row w2 w.heap.size j _ _ _ hk]
    simpa using hj
  have hb2' : Below w.heap.size w w2 := ((Below.refl _ w).alloc (Nat.le_refl _) _).trans (hb2.mono (by simp))
  go_wp2_with fail
  refine (handle_nil w2 c0 c1 c2 c3 c4 c5 c6 c7 c8).mono ?_
  rintro e w3 ⟨rfl, hb3⟩
  have hb3' := hb2'.trans (hb3.mono hb2'.size)
  clear hcl hb2 hb2' hb3
  go_wp2_with fail
  refine (Ev.true_calls [zmsg, zmsg] same_run w3).mono ?_
  rintro e w4 ⟨rfl, hb4⟩
  have hb4' := hb3'.trans (hb4.mono hb3'.size)
  go_wp2
  go_ret
  exact ⟨rfl, hb4'⟩

set_option maxRecDepth 100000 in
theorem walk (v : Value) (w : World) {H : Type} {enc : TypeId × Value → H} {base : Nat} {d : DataW H} {p : List MemPlace}
    (hv : Value.okWide Tryz.prog w .any base 27 v) (_h : DataW.Trod enc Tryz.prog w 0 (fun _ => true) true 27 v d p) (_lt : ∀ x ∈ p, x.block < w.heap.size) :
    Calls Tryz.prog 3 #[v] w fun e w' => e = .returned (.bool true) ∧ Below w.heap.size w w' := by
  obtain ⟨cs, rfl, hsz⟩ := okWide_struct Tryz.underlying27 hv
  rw [show Tryz.prog.cellsOf 27 = 9 by kernel_rfl] at hsz
  obtain ⟨l, rfl⟩ : ∃ l : List Value, cs = l.toArray := ⟨cs.toList, rfl⟩
  match l, hsz with
  | [c0, c1, c2, c3, c4, c5, c6, c7, c8], _ => exact walkC w c0 c1 c2 c3 c4 c5 c6 c7 c8

end Go.Proofs.YtgmhkjmnfafccaaGreatDoor.nodeNil
