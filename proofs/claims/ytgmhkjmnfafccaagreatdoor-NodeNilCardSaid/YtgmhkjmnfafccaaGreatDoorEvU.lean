/- The program's tables, and the run of 'wakes', computed by the kernel. -/
import Derived.Test.YtgmhkjmnfafccaaGreatDoorEvT
namespace Go.Proofs.YtgmhkjmnfafccaaGreatDoor
open Go.RowKit
namespace Ev
def tbOf (P : Program) : Tb := ⟨Tr.build 10 P.types.toList, Tr.build 10 P.funcs.toList⟩
theorem tb_get {α : Type} (l : Array α) (k : Nat) (x : α) (h : Tr.get 10 (Tr.build 10 l.toList) k = some x) : l[k]? = some x := by
  rw [Tr.get_build 10 _ _ (Tr.get_lt 10 _ _ _ h)] at h
  rw [← Array.getElem?_toList]
  exact h
theorem info_get (P : Program) (t : Nat) (i : TypeInfo) (h : P.types[t]? = some i) : P.info? t = some i := by
  obtain ⟨hl, _⟩ := Array.getElem?_eq_some_iff.1 h
  simp only [Tables.info?]
  rw [if_pos hl]
  exact h
theorem names_get (l : Array Func) (h : (l.toList.all fun fn => !(fn.name == "runtime.NumGoroutine")) = true) (k : Nat) (fn : Func) (hk : l[k]? = some fn) : (fn.name == "runtime.NumGoroutine") = false := by
  rw [← Array.getElem?_toList] at hk
  have h2 := List.all_eq_true.1 h fn (List.mem_of_getElem? hk)
  simpa using h2
theorem tbOf_ok (P : Program) (hn : (P.funcs.toList.all fun fn => !(fn.name == "runtime.NumGoroutine")) = true) (hm : P.follows .mixedOrders = true) : TbOk P (tbOf P) :=
  ⟨fun t i h => info_get P t i (tb_get P.types t i h), fun f fn h => tb_get P.funcs f fn h, fun f fn h => names_get P.funcs hn f fn (tb_get P.funcs f fn h), hm⟩
noncomputable def TB : Tb := tbOf Tryz.prog
theorem tb_ok : TbOk Tryz.prog TB := tbOf_ok Tryz.prog (by kernel_rfl) (by kernel_rfl)
def good : Option (AV × AH) → Bool
  | some (.v (.bool true), _) => true
  | _ => false
theorem good_ok {r : Option (AV × AH)} (h : good r = true) : ∃ H, r = some (.v (.bool true), H) := by
  unfold good at h
  split at h
  · exact ⟨_, rfl⟩
  · cases h
/-- A call of closed flat values that answers a flat value. -/
theorem flat_calls {f : FuncId} {n : Nat} (vs : List Value) {x : Value} {H : AH} (h : evF Tryz.prog TB treeOrc n f (vs.map .v) AH.empty = some (.v x, H)) (w : World) :
    Calls Tryz.prog f vs.toArray w fun e w' => e = .returned x ∧ Below w.heap.size w w' := by
  have hd : ∀ (l : List Value) (e : Env), DRL e (l.map .v) l := fun l e => by
    induction l with
    | nil => exact .nil
    | cons a l ih => exact .cons (.v a) ih
  refine (evF_calls tb_ok treeOrc_ok h (HRel.start w) (hd vs _)).mono fun en w' hen => ?_
  cases en with
  | returned r =>
    obtain ⟨e', _, hx, _, hb⟩ := hen
    cases hx
    exact ⟨rfl, hb⟩
  | panicked c => exact hen.elim
  | outgrown => exact hen.elim
/-- The same, its answer being 'true'. -/
theorem true_calls {f : FuncId} {n : Nat} (vs : List Value) (h : good (evF Tryz.prog TB treeOrc n f (vs.map .v) AH.empty) = true) (w : World) :
    Calls Tryz.prog f vs.toArray w fun e w' => e = .returned (.bool true) ∧ Below w.heap.size w w' := by
  obtain ⟨H, h⟩ := good_ok h
  exact flat_calls vs h w
end Ev
end Go.Proofs.YtgmhkjmnfafccaaGreatDoor
