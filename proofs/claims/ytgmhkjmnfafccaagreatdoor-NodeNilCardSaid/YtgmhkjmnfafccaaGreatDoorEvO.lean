/- A region that draws its order: the text's walk serves every order, if 'evDrawn' says so. -/
import Derived.Test.YtgmhkjmnfafccaaGreatDoorEvN
import Derived.Test.YtgmhkjmnfafccaaGreatDoorRegB
namespace Go.Proofs.YtgmhkjmnfafccaaGreatDoor
open Go.RowKit
namespace Ev
set_option linter.unusedVariables false

/-! ### values that are the same -/
theorem beq_ok {a b : Nat} (h : Nat.beq a b = true) : a = b := Nat.eq_of_beq_eq_true h
theorem list_zip_eq {α : Type} {p : α × α → Bool} (hp : ∀ x, p x = true → x.1 = x.2) : ∀ (a b : List α), (a.length == b.length && (a.zip b).all p) = true → a = b
  | [], [], _ => rfl
  | x :: a, y :: b, h => by
    rw [Bool.and_eq_true] at h
    obtain ⟨h1, h2⟩ := h
    rw [List.zip_cons_cons, List.all_cons, Bool.and_eq_true] at h2
    have h3 : x = y := hp (x, y) h2.1
    have h4 : a = b := list_zip_eq hp a b (by rw [Bool.and_eq_true]; exact ⟨by simpa using h1, h2.2⟩)
    rw [h3, h4]
  | [], _ :: _, h => by simp at h
  | _ :: _, [], h => by simp at h
theorem eqV_ok : ∀ (n : Nat) (a b : Value), eqV n a b = true → a = b := by
  intro n
  induction n with
  | zero => intro a b h; unfold eqV at h; cases h
  | succ n ih =>
    intro a b h
    unfold eqV at h
    split at h
    all_goals first
      | rfl
      | (cases h; done)
      | skip
    · rename_i heq; cases heq; have := eq_of_beq h; rw [this]
    · rename_i heq; cases heq; rw [Bool.and_eq_true] at h; have h1 := sameKind_eq h.1; have h2 := eq_of_beq h.2; rw [h1, h2]
    · rename_i heq; cases heq; have h1 := eq_of_beq h; congr 1; rename_i x y; cases x; cases y; congr 1; exact Array.toList_inj.1 h1
    · rename_i heq; cases heq; rw [Bool.and_eq_true] at h; rw [beq_ok h.1, beq_ok h.2]
    · rename_i heq; cases heq; rw [Bool.and_eq_true] at h; rw [beq_ok h.1, beq_ok h.2]
    · rename_i heq; cases heq; congr 1; exact Array.toList_inj.1 (list_zip_eq (fun x hx => ih _ _ hx) _ _ h)
    · rename_i heq; cases heq; congr 1; exact Array.toList_inj.1 (list_zip_eq (fun x hx => ih _ _ hx) _ _ h)
theorem eqCp_ok {a b : Cp} (h : eqCp a b = true) : a = b := by
  cases a <;> cases b <;> first | (cases h; done) | rw [beq_ok h]
theorem eqAV_ok : ∀ (n : Nat) (a b : AV), eqAV n a b = true → a = b := by
  intro n
  induction n with
  | zero => intro a b h; unfold eqAV at h; cases h
  | succ n ih =>
    intro a b h
    unfold eqAV at h
    split at h
    all_goals first
      | (cases h; done)
      | skip
    · rename_i heq; cases heq; rw [eqV_ok _ _ _ h]
    · rename_i heq; cases heq; rw [Bool.and_eq_true] at h; rw [beq_ok h.1, beq_ok h.2]
    · rename_i heq; cases heq; rw [Bool.and_eq_true, Bool.and_eq_true, Bool.and_eq_true] at h; rw [beq_ok h.1.1.1, beq_ok h.1.1.2, beq_ok h.1.2, eqCp_ok h.2]
    · rename_i heq; cases heq; rw [beq_ok h]
    · rename_i heq; cases heq; rw [Bool.and_eq_true, Bool.and_eq_true, Bool.and_eq_true] at h; rw [beq_ok h.1.1.1, beq_ok h.1.1.2, beq_ok h.1.2, beq_ok h.2]
    · rename_i heq; cases heq; rw [list_zip_eq (fun x hx => ih _ _ hx) _ _ h]
    · rename_i heq; cases heq; rw [list_zip_eq (fun x hx => ih _ _ hx) _ _ h]
    · rename_i heq; cases heq
      rw [Bool.and_eq_true, Bool.and_eq_true] at h
      rw [beq_ok h.1.1, list_zip_eq (fun x hx => ih _ _ hx) _ _ h.1.2, list_zip_eq (fun x hx => ih _ _ hx) _ _ h.2]

section
variable {P : Program} {T : Tb} {base : Nat} {e e' : Env} {H H' : AH} {w w' : World} {x : AV} {F F' : Fr} {a : Act}
/-! ### quiet operations leave the heap alone -/
def sameH (H : AH) : Option Gives → Prop
  | some (.val _ H') => H' = H
  | _ => True
theorem sameH_val {r : Option Gives} (h : r = some (.val x H')) (k : sameH H r) : H' = H := by subst h; exact k
theorem sh_one {y : Option AV} : sameH H (one y H) := by cases y <;> first | exact trivial | rfl
theorem sh_flat {ev : Operand → AV} {o : Oper} : sameH H (flatOp P ev o H) := by
  unfold flatOp
  repeat' (first | exact trivial | rfl | split)
theorem sh_cond {b : Bool} {r r' : Option Gives} (h : sameH H r) (h' : sameH H r') : sameH H (bif b then r else r') := by cases b <;> assumption
theorem sh_ev {b : Builtin} {ts : Array TypeId} {args : List AV} (hb : b = .len ∨ b = .cap ∨ b = .min ∨ b = .max) : sameH H (evBuiltin T H b ts args) := by
  unfold evBuiltin
  split
  · unfold opLen; repeat' (first | exact trivial | rfl | split)
  · unfold opCap; repeat' (first | exact trivial | rfl | split)
  · rcases hb with h | h | h | h <;> cases h
  · rcases hb with h | h | h | h <;> cases h
  · rcases hb with h | h | h | h <;> cases h
  · exact trivial
theorem sh_builtin {ev : Operand → AV} {o : Oper} {b : Builtin} {ts : Array TypeId} {args : List AV} (hb : b = .len ∨ b = .cap ∨ b = .min ∨ b = .max) : sameH H (opBuiltin P T ev o b ts args H) := by
  unfold opBuiltin
  have h := sh_ev (H := H) (T := T) (ts := ts) (args := args) hb
  generalize evBuiltin T H b ts args = r at h
  cases r with
  | none => exact sh_flat
  | some r => exact h
theorem sh_convert {ev : Operand → AV} {o : Oper} {s d : TypeId} {y : Operand} (hq : quietOp ev (.convert s d y) = true) : sameH H (opConvert P T ev o s d (ev y) H) := by
  unfold opConvert
  split
  · rename_i hy _
    have hq' : (!isStrB (ev y)) = true := hq
    rw [hy] at hq'
    cases hq'
  · exact sh_flat
theorem quiet_same {ev : Operand → AV} {o : Oper} (hq : quietOp ev o.op = true) (h : evOp P T ev o H = some (.val x H')) : H' = H := by
  refine sameH_val h ?_
  unfold evOp
  split
  case h_29 c ho =>
    rw [ho] at hq
    unfold quietOp at hq
    simp only at hq
    unfold opCall0
    split at hq
    all_goals first
      | (cases hq; done)
      | skip
    all_goals
      rename_i hc
      rw [hc]
      exact sh_builtin (by simp)
  all_goals first
    | (rename_i ho; rw [ho] at hq; cases hq; done)
    | (rename_i ho _; rw [ho] at hq; cases hq; done)
    | exact trivial
    | rfl
    | exact sh_flat
    | (rename_i ho; rw [ho] at hq; exact sh_convert hq)
    | (simp only [opBuild, opPick, opExtract, opLoad, opNil, opFieldAddr, opIndexAddr, opField, opLookup, opIndex, opSlice, strSlice, opBin, opEql, opUn]; repeat' (first | exact trivial | exact sh_flat | exact sh_one | rfl | apply sh_cond | split))
end
end Ev
end Go.Proofs.YtgmhkjmnfafccaaGreatDoor
