/- The evaluator's code: frames, conditions, blocks, rounds, scopes, calls. -/
import Derived.Test.YtgmhkjmnfafccaaGreatDoorEvM
import Derived.ScopeJumps
import Derived.Tactics
namespace Go.Proofs.YtgmhkjmnfafccaaGreatDoor
open Go.RowKit
namespace Ev
set_option linter.unusedVariables false

/-! ### frames -/
structure FR (e : Env) (F : Fr) (a : Act) : Prop where
  size : a.tmps.size = F.n
  le : F.n ≤ 1024
  get : ∀ i, DR e (F.get i) (a.tmps[i]?.getD undef)
  defers : a.defers = []
section
variable {P : Program} {T : Tb} {base : Nat} {e e' : Env} {H H' : AH} {w w' : World} {x : AV} {F F' : Fr} {a : Act}
theorem FR.mono (h : FR e F a) (he : ELe e e') : FR e' F a := ⟨h.size, h.le, fun i => (h.get i).mono he, h.defers⟩
theorem Fr.get_put (F : Fr) (d i : Nat) (x : AV) (hd : d < F.n) (hn : F.n ≤ 1024) : (F.put (some d) x).get i = if i = d then x else F.get i := by
  unfold Fr.put
  have hb : Nat.blt d F.n = true := by rw [Nat.blt_eq]; exact hd
  simp only [hb, cond_true]
  unfold Fr.get
  simp only
  rw [Tr.get_set 10 F.t d i (some x) (by omega)]
  by_cases hi : i = d
  · rw [if_pos hi, if_pos hi]
  · rw [if_neg hi, if_neg hi]
theorem Fr.put_n (F : Fr) (d : Option Tmp) (x : AV) : (F.put d x).n = F.n := by
  unfold Fr.put
  cases d with
  | none => rfl
  | some d => simp only; cases Nat.blt d F.n <;> rfl
theorem FR.put (h : FR e F a) (d : Option Tmp) {y : Value} (hx : DR e x y) : FR e (F.put d x) (a.put d y) := by
  cases d with
  | none => exact h
  | some d =>
    by_cases hd : d < F.n
    · refine ⟨by rw [Fr.put_n]; simp [Act.put, h.size], by rw [Fr.put_n]; exact h.le, fun i => ?_, h.defers⟩
      rw [Fr.get_put F d i x hd h.le]
      by_cases hi : i = d
      · subst hi
        rw [if_pos rfl]
        simp [Act.put, h.size, hd]
        exact hx
      · rw [if_neg hi]
        simp only [Act.put, Array.getElem?_setIfInBounds_ne (fun e => hi e.symm)]
        exact h.get i
    · have h1 : F.put (some d) x = F := by
        unfold Fr.put
        have hb : Nat.blt d F.n = false := by
          cases hc : Nat.blt d F.n with
          | false => rfl
          | true => rw [Nat.blt_eq] at hc; exact absurd hc hd
        simp only [hb, cond_false]
      have h2 : a.put (some d) y = a := by
        have : a.tmps.size ≤ d := by rw [h.size]; exact Nat.le_of_not_lt hd
        simp [Act.put, Array.setIfInBounds_eq_of_size_le this]
      rw [h1, h2]
      exact h
theorem FR.eval (h : FR e F a) (y : Operand) : DR e (evalO F y) (a.eval y) := by
  cases y with
  | tmp t =>
    show DR e (F.get t) (a.tmps.getD t undef)
    rw [Array.getD_eq_getD_getElem?]
    exact h.get t
  | const v => exact .v v
  | global g => exact .v _
  | func f => exact .fn .nil .nil
theorem bool_dr {y : Value} (h : DR e x y) (b : Bool) : x = .v (.bool b) ↔ y = .bool b := by
  cases h with
  | v z => exact ⟨fun h => by cases h; rfl, fun h => by rw [h]⟩
  | _ => exact ⟨fun h => (by cases h), fun h => (by cases h)⟩
/-- What a guard's slot says. -/
def boolOf : AV → Option Bool
  | .v (.bool b) => some b
  | _ => none
def boolV : Value → Option Bool
  | .bool b => some b
  | _ => none
theorem boolOf_ok {y : Value} (h : DR e x y) : boolOf x = boolV y := by
  cases h with
  | v _ => cases y <;> rfl
  | _ => rfl
theorem yieldedB_eq (ops : Array Oper) (F : Fr) (j : Nat) : yieldedB ops F j = match (ops[j]?).bind (·.dst) with | some t => boolOf (F.get t) | none => none := by
  unfold yieldedB
  cases (ops[j]?).bind (·.dst) with
  | none => rfl
  | some t => rfl
theorem yielded_eq (ops : Array Oper) (tmps : Array Value) (j : Nat) : yielded ops tmps j = match (ops[j]?).bind (·.dst) with | some t => boolV (tmps[t]?.getD undef) | none => none := by
  unfold yielded
  cases (ops[j]?).bind (·.dst) with
  | none => rfl
  | some t =>
    simp only [Option.bind_some]
    cases tmps[t]? with
    | none => rfl
    | some v => cases v <;> rfl
theorem wanted_eq {ops : Array Oper} {o : Oper} (h : ∀ t, ∀ g b, o.guard = some (g, b) → (ops[g]?).bind (·.dst) = some t → DR e (F.get t) (a.tmps[t]?.getD undef)) : Region.wanted o (yieldedB ops F) = Region.wanted o (yielded ops a.tmps) := by
  unfold Region.wanted
  cases hg : o.guard with
  | none => rfl
  | some gw =>
    obtain ⟨g, want⟩ := gw
    simp only
    rw [yieldedB_eq, yielded_eq]
    cases ht : (ops[g]?).bind (·.dst) with
    | none => rfl
    | some t =>
      simp only
      rw [boolOf_ok (h t g want hg ht)]

/-! ### what is known of calls and of code -/
/-- A call's end. -/
def Ret (base : Nat) (e : Env) (w : World) (x : AV) (H' : AH) : Ending → World → Prop
  | .returned r, w' => ∃ e', ELe e e' ∧ DR e' x r ∧ HRel base e' H' w' ∧ Below base w w'
  | _, _ => False
def CallOk (P : Program) (base : Nat) (call : FuncId → List AV → AH → Option (AV × AH)) : Prop :=
  ∀ f args H x H', call f args H = some (x, H') → ∀ e w ys, HRel base e H w → DRL e args ys → Calls P f ys.toArray w (Ret base e w x H')
/-- How code leaves. -/
def exitOf : EX → Exit
  | .normal => .normal
  | .exit id => .exit id
  | .goto l => .goto l
  | .ret => .ret
/-- What code may hand on to. -/
def Post (base : Nat) (e : Env) (w : World) (X : EX) (F' : Fr) (H' : AH) (Q : Exit → Act → World → Prop) : Prop :=
  ∀ e' a' w', ELe e e' → FR e' F' a' → HRel base e' H' w' → Below base w w' → Q (exitOf X) a' w'
theorem Post.trans {X : EX} {Q : Exit → Act → World → Prop} (h : Post base e w X F' H' Q) (he : ELe e e') (hw : Below base w w') : Post base e' w' X F' H' Q :=
  fun e2 a2 w2 h1 h2 h3 h4 => h e2 a2 w2 (he.trans h1) h2 h3 (hw.trans h4)
/-- Behind a round's head. -/
def LoopWp (P : Program) (c : Code) (Q : Exit → Act → World → Prop) (a : Act) (w : World) : Prop :=
  ∀ (b : Frame) (k : List Item) (cs : List Frame), ∃ e a' w', Q e a' w' ∧ Arrives P (lone (b.at a (.code c :: .inLoop c :: k)) cs w) b k cs e a' w'
theorem LoopWp.of {c : Code} {Q : Exit → Act → World → Prop} (h : c.wp P (Exit.then (LoopWp P c Q) Q) a w) : LoopWp P c Q a w := by
  intro b k cs
  obtain ⟨e, a₁, w₁, hq, harr⟩ := h b (.inLoop c :: k) cs
  cases e with
  | normal =>
    obtain ⟨e₂, a₂, w₂, hq₂, harr₂⟩ := hq b k cs
    exact ⟨e₂, a₂, w₂, hq₂, .of_steps (Steps.trans harr (.one step_inLoop)) harr₂⟩
  | exit id => exact ⟨_, a₁, w₁, hq, .pass (x := .inLoop c) rfl (fun _ _ => .inl (by simp)) harr⟩
  | goto l => exact ⟨_, a₁, w₁, hq, .pass (x := .inLoop c) rfl (fun _ _ => .inl (by simp)) harr⟩
  | ret => exact ⟨_, a₁, w₁, hq, .pass (x := .inLoop c) rfl (fun _ _ => .inl (by simp)) harr⟩
  | panic ch => exact ⟨_, a₁, w₁, hq, .pass (x := .inLoop c) rfl (fun _ _ => .inl (by simp)) harr⟩
  | outgrown => exact ⟨_, a₁, w₁, hq, .pass (x := .inLoop c) rfl (fun _ _ => .inl (by simp)) harr⟩
theorem LoopWp.wp {c : Code} {Q : Exit → Act → World → Prop} (h : LoopWp P c Q a w) : (Code.loop c).wp P Q a w := fun b k cs => by
  obtain ⟨e, a', w', hq, harr⟩ := h b k cs
  exact ⟨e, a', w', hq, .of_steps (.one step_loop) harr⟩
/-- Code's run; of a loop: behind its first step. -/
def Wp (P : Program) (c : Code) (Q : Exit → Act → World → Prop) (a : Act) (w : World) : Prop := match c with
  | .loop b => LoopWp P b Q a w
  | c => c.wp P Q a w
theorem Wp.wp {c : Code} {Q : Exit → Act → World → Prop} (h : Wp P c Q a w) : c.wp P Q a w := by
  unfold Wp at h
  split at h
  · exact h.wp
  · exact h
def CodeOk (P : Program) (base : Nat) (code : Code → Fr → AH → Ans) : Prop :=
  ∀ c F H X F' H', code c F H = some (X, F', H') → ∀ e a w Q, FR e F a → HRel base e H w → Post base e w X F' H' Q → Wp P c Q a w
/-- A jump to a label of a scope's body. -/
def JumpWp (P : Program) (b : Code) (l : Nat) (Q : Exit → Act → World → Prop) (a : Act) (w : World) : Prop := match findLabel b l with
  | some rest => ∀ (fr : Frame) (k : List Item) (cs : List Frame), ∃ e a' w', Q e a' w' ∧ Arrives P (lone (fr.at a (.code rest :: .inScope b :: k)) cs w) fr k cs e a' w'
  | none => Q (.goto l) a w
def JumpOk (P : Program) (base : Nat) (jump : Code → Nat → Fr → AH → Ans) : Prop :=
  ∀ b l F H X F' H', jump b l F H = some (X, F', H') → ∀ e a w Q, FR e F a → HRel base e H w → Post base e w X F' H' Q → JumpWp P b l Q a w
/-- What holds where a part of a scope's body ends. -/
def inScopeQ (P : Program) (b : Code) (Q : Exit → Act → World → Prop) : Exit → Act → World → Prop
  | .goto l, a, w => JumpWp P b l Q a w
  | e, a, w => Q e a w
theorem scope_part {b c : Code} {Q : Exit → Act → World → Prop} (h : c.wp P (inScopeQ P b Q) a w) (fr : Frame) (k : List Item) (cs : List Frame) :
    ∃ e a' w', Q e a' w' ∧ Arrives P (lone (fr.at a (.code c :: .inScope b :: k)) cs w) fr k cs e a' w' := by
  obtain ⟨e, a₁, w₁, hq, harr⟩ := h fr (.inScope b :: k) cs
  cases e with
  | normal => exact ⟨.normal, a₁, w₁, hq, Steps.trans harr (.one step_inScope)⟩
  | exit id => exact ⟨.exit id, a₁, w₁, hq, fun k' hk => harr k' (by simp [exitTo, hk])⟩
  | goto l =>
    have hq' : JumpWp P b l Q a₁ w₁ := hq
    unfold JumpWp at hq'
    split at hq'
    · rename_i rest hf
      obtain ⟨e₂, a₂, w₂, hq₂, harr₂⟩ := hq' fr k cs
      exact ⟨e₂, a₂, w₂, hq₂, .of_steps (harr _ (by simp [gotoIn, hf])) harr₂⟩
    · rename_i hf
      exact ⟨.goto l, a₁, w₁, hq', fun k' hk => harr k' (by simp [gotoIn, hf, hk])⟩
  | ret => exact ⟨_, a₁, w₁, hq, harr⟩
  | panic ch => exact ⟨_, a₁, w₁, hq, harr⟩
  | outgrown => exact ⟨_, a₁, w₁, hq, harr⟩
theorem scope_wp {b : Code} {Q : Exit → Act → World → Prop} (h : b.wp P (inScopeQ P b Q) a w) : (Code.scope b).wp P Q a w := fun fr k cs => by
  obtain ⟨e, a', w', hq, harr⟩ := scope_part h fr k cs
  exact ⟨e, a', w', hq, .of_steps (.one step_scope) harr⟩

/-! ### a region in the text's order -/
theorem does_wp {o : Oper} {K : Act → World → Prop} {Q : Exit → Act → World → Prop} (h : Does P base e w (execOp a.eval o) x H')
    (hK : ∀ e' w' r, ELe e e' → DR e' x r → HRel base e' H' w' → Below base w w' → K (a.put o.dst r) w') : o.wp P a w K Q := by
  obtain ⟨e', w', n, r, h1, h2, h3, h4, h5, h6⟩ := h
  unfold Oper.wp
  rw [h2]
  rcases h3 with rfl | ⟨rfl, rfl⟩
  · exact hK e' w' r h1 h4 h5 h6
  · exact hK e' w' _ h1 h4 h5 h6
theorem call_wp {o : Oper} {f : FuncId} {ys : Array Value} {K : Act → World → Prop} {Q : Exit → Act → World → Prop} (h : (execOp a.eval o).run P w = .ok (.enter f ys) w) (hc : Calls P f ys w (Ret base e w x H'))
    (hK : ∀ e' w' r, ELe e e' → DR e' x r → HRel base e' H' w' → Below base w w' → K (a.put o.dst r) w') : o.wp P a w K Q := by
  unfold Oper.wp
  rw [h]
  refine Calls.mono hc fun en w' hen => ?_
  cases en with
  | returned r =>
    obtain ⟨e', h1, h2, h3, h4⟩ := hen
    exact hK e' w' r h1 h2 h3 h4
  | panicked c => exact hen.elim
  | outgrown => exact hen.elim
/-- One operation that is wanted. -/
theorem evOp_wp (hT : TbOk P T) {call : FuncId → List AV → AH → Option (AV × AH)} (hcall : CallOk P base call) {o : Oper} {ev : Operand → AV} {K : Act → World → Prop} {Q : Exit → Act → World → Prop} (hr : HRel base e H w)
    (hop : ∀ y ∈ o.op.operands, DR e (ev y) (a.eval y))
    (h : evOp P T ev o H = some (.val x H') ∧ H'.next ≤ 2 ^ depth ∨ ∃ f args H0, evOp P T ev o H = some (.enter f args H0) ∧ call f args H0 = some (x, H'))
    (hK : ∀ e' w' r, ELe e e' → DR e' x r → HRel base e' H' w' → Below base w w' → K (a.put o.dst r) w') : o.wp P a w K Q := by
  rcases h with ⟨h, hn⟩ | ⟨f, args, H0, h, hc⟩
  · exact does_wp (evOp_val hT hr hop h hn) hK
  · obtain ⟨rfl, ys, hys, hrun⟩ := evOp_enter hT hop h
    exact call_wp (hrun w) (hcall f args _ _ _ hc e w ys hr hys) hK
theorem evOps_ok (hT : TbOk P T) {call : FuncId → List AV → AH → Option (AV × AH)} (hcall : CallOk P base call) {all : Array Oper} {Q : Exit → Act → World → Prop} : ∀ (l : List Oper) (F : Fr) (H : AH) (e : Env) (a : Act) (w : World),
    evOps P T call all l F H = some (F', H') → FR e F a → HRel base e H w → Post base e w .normal F' H' Q → wpList P all Q l a w
  | [], F, H, e, a, w, h, hF, hr, hQ => by
    cases h
    exact hQ e a w (ELe.refl e) hF hr (Below.refl _ _)
  | o :: rest, F, H, e, a, w, h, hF, hr, hQ => by
    unfold evOps at h
    unfold wpList
    rw [wanted_eq (a := a) fun t g b _ _ => hF.get t] at h
    cases hw : Region.wanted o (yielded all a.tmps) with
    | false =>
      rw [hw] at h
      rw [if_neg (by simp)]
      exact evOps_ok hT hcall rest _ _ e _ w h (hF.put _ (.v _)) hr hQ
    | true =>
      rw [hw] at h
      rw [if_pos rfl]
      refine .inl ?_
      simp only [cond_true] at h
      split at h
      · rename_i y H1 hev
        cases hb : H1.next.ble 16384 with
        | false => rw [hb] at h; cases h
        | true =>
          rw [hb] at h
          refine evOp_wp hT hcall hr (fun y _ => hF.eval y) (.inl ⟨hev, Nat.le_of_ble_eq_true hb⟩) fun e1 w1 r h1 h2 h3 h4 => ?_
          exact evOps_ok hT hcall rest _ _ e1 _ w1 h ((hF.mono h1).put _ h2) h3 (hQ.trans h1 h4)
      · rename_i f args H1 hev
        split at h
        · rename_i y H2 hc
          refine evOp_wp hT hcall hr (fun y _ => hF.eval y) (.inr ⟨f, args, H1, hev, hc⟩) fun e1 w1 r h1 h2 h3 h4 => ?_
          exact evOps_ok hT hcall rest _ _ e1 _ w1 h ((hF.mono h1).put _ h2) h3 (hQ.trans h1 h4)
        · cases h
      · cases h
end
end Ev
end Go.Proofs.YtgmhkjmnfafccaaGreatDoor
