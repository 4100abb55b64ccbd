/- Package wire: 'must', 'caught'. -/
import Derived.Test.YtgacphicgglogaaObj
import Derived.Test.YtgacphicgglogaaWireC
import Derived.Tactics2
import Derived.Defers
import Derived.Recover
import Derived.WalkLawsBesides
namespace Go.Proofs.Ytgacphicgglogaa
open Go.RowKit Crc
set_option linter.unusedVariables false

/-- The panic of a telling, or a reading, that ends. -/
def stopV : Value := .iface 153 (.agg #[])
def stops : List PanicEntry := [{ v := stopV, recovered := false }]

theorem must_true (w : World) : Calls Try.prog 78 #[.bool true] w fun e w' => e = .returned (.tuple #[]) ∧ w' = w := by
  go_enter Try.func78, Try.ntmps78
  go_wp2
  go_end0
  exact ⟨rfl, rfl⟩
theorem must_false (w : World) : Calls Try.prog 78 #[.bool false] w fun e w' => e = .panicked stops ∧ w' = w := by
  go_enter Try.func78, Try.ntmps78
  go_wp2
  exact ⟨rfl, rfl, rfl⟩

theorem caught_idle (p : Addr) (w : World) :
    CallsD Try.prog 77 #[.pointer (some p)] .returning w fun e u' w' => e = .returned (.tuple #[]) ∧ u' = .returning ∧ w' = w := by
  refine callsD_of_wpS Try.func77 rfl fun c₀ cs hu => ?_
  apply wpS_seq
  apply wpS_region
  simp [wpOpsS, go_sem, recoverD, hu, Try.ntmps77, Exit.thenS]
  refine wpS_of_wp ?_
  have e : (#[Value.pointer (some p)] ++ ((Array.replicate 17 undef).setIfInBounds 4 .nilIface).setIfInBounds 1 .nilIface : Array Value) = #[.pointer (some p), undef, .nilIface, undef, undef, .nilIface, undef, undef, undef, undef, undef, undef, undef, undef, undef, undef, undef, undef] := by simp [Array.replicate]
  rw [e]
  clear e
  go_wp2
  exact ⟨rfl, .returning, by cases c₀; simp_all, .tuple #[], results_none rfl _ _ _, rfl, rfl, rfl⟩

set_option maxRecDepth 100000 in
theorem caught_panicking (p : Addr) (x : Value) (older : List PanicEntry) (w : World) (hlt : p.block < w.heap.size) (hc : w.cell? p = some x) (hz : w.frozen? p = false) :
    CallsD Try.prog 77 #[.pointer (some p)] (.panicking ({ v := stopV, recovered := false } :: older)) w fun e u' w' =>
      e = .returned (.tuple #[]) ∧ u' = .panicking ({ v := stopV, recovered := true } :: older) ∧ ∃ o, w' = (w.alloc o).setCell p (.int .i64 1) := by
  have hb : Below w.heap.size w (w.alloc (.cells #[] 153)) := (Below.refl _ _).alloc (Nat.le_refl _) _
  have hc' := (hb.cell hlt).trans hc
  have hz' := (hb.frozen hlt).trans hz
  have hta : ∀ w, (Instr.typeAssert (.iface 153 (.agg #[])) 20 153 true).run Try.prog w = .ok (.tuple #[.agg #[], .bool true]) w := fun w => by kernel_rfl
  refine callsD_of_wpS Try.func77 rfl fun c₀ cs hu => ?_
  apply wpS_seq
  apply wpS_region
  simp [wpOpsS, go_sem, recoverD, hu, Try.ntmps77, Exit.thenS]
  refine wpS_of_wp ?_
  have e : (#[Value.pointer (some p)] ++ ((Array.replicate 17 undef).setIfInBounds 4 stopV).setIfInBounds 1 stopV : Array Value) = #[.pointer (some p), undef, stopV, undef, undef, stopV, undef, undef, undef, undef, undef, undef, undef, undef, undef, undef, undef, undef] := by simp [Array.replicate]
  rw [e]
  clear e
  unfold stopV
  go_wp2
  exact ⟨rfl, _, rfl, .tuple #[], results_none rfl _ _ _, rfl, rfl, _, rfl⟩
end Go.Proofs.Ytgacphicgglogaa
