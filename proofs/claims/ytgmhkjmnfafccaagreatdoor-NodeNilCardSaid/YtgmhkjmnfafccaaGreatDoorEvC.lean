/- The evaluator's operations are the model's: those that read, and those that make. -/
import Derived.Test.YtgmhkjmnfafccaaGreatDoorEvB
namespace Go.Proofs.YtgmhkjmnfafccaaGreatDoor
open Go.RowKit
namespace Ev
set_option linter.unusedVariables false

/-- The tables are the program's. -/
structure TbOk (P : Program) (T : Tb) : Prop where
  info : ∀ t i, T.info t = some i → P.info? t = some i
  func : ∀ f fn, T.func f = some fn → P.funcs[f]? = some fn
  ng : ∀ f fn, T.func f = some fn → (fn.name == "runtime.NumGoroutine") = false
  mx : P.follows .mixedOrders = true
section
variable {P : Program} {T : Tb} (hT : TbOk P T)
include hT
theorem und_ok {t : TypeId} {d : TypeDesc} (h : T.und t = some d) : P.underlying t = some d := by
  unfold Tb.und at h
  split at h
  · rename_i i hi
    have h1 := hT.info t i hi
    unfold Program.underlying
    rw [h1]
    split at h
    · rename_i n u hd
      obtain ⟨desc, _, _, _, _, _, _, _, _, _⟩ := i
      cases hd
      split at h
      · rename_i j hj
        show (P.info? u).map (·.desc) = _
        rw [hT.info u j hj]
        exact h
      · cases h
    · rename_i hd
      obtain ⟨desc, _, _, _, _, _, _, _, _, _⟩ := i
      cases desc <;> first
        | exact h
        | exact absurd rfl (hd _ _)
  · cases h
theorem size_ok {t : TypeId} {n : Nat} (h : sizeB T t = some n) : (P.info? t).map (·.size) = some n := by
  unfold sizeB at h
  cases hi : T.info t with
  | none => rw [hi] at h; cases h
  | some i => rw [hi] at h; rw [hT.info t i hi]; exact h
theorem run_sizeB {t : TypeId} {n : Nat} (h : sizeB T t = some n) (w : World) : (sizeOf t).run P w = .ok n w := by
  have := size_ok hT h
  cases hi : P.info? t with
  | none => rw [hi] at this; cases this
  | some i =>
    rw [hi] at this
    cases this
    simp [sizeOf, typeInfo, Sem.run_bind, hi]
theorem run_undB {t : TypeId} {d : TypeDesc} (h : T.und t = some d) (w : World) : (underlying t).run P w = .ok d w := run_underlying (und_ok hT h) w
theorem run_isAggB {t : TypeId} {b : Bool} (h : isAggB T t = some b) (w : World) : (isAgg t).run P w = .ok b w := by
  unfold isAggB at h
  cases hu : T.und t with
  | none => rw [hu] at h; cases h
  | some d =>
    rw [hu] at h
    unfold isAgg
    rw [Sem.run_bind, run_undB hT hu w]
    cases d <;> cases h <;> rfl
theorem run_zeroB {t : TypeId} {l : List AV} (h : zeroCellsB T t = some l) : ∃ z, (∀ w, (zeroValue t).run P w = .ok z w) ∧ l = z.cells.toList.map .v := by
  unfold zeroCellsB at h
  cases hi : T.info t with
  | none => rw [hi] at h; cases h
  | some i =>
    rw [hi] at h
    dsimp only at h
    cases hz : i.zero with
    | none => rw [hz] at h; cases h
    | some z =>
      rw [hz] at h
      cases h
      refine ⟨z, fun w => ?_, rfl⟩
      simp [zeroValue, typeInfo, Sem.run_bind, hT.info t i hi, hz]
end

/-- What an operation does: its value, and the heap behind it. -/
def Does (P : Program) (base : Nat) (e : Env) (w : World) (s : Sem Next) (x : AV) (H' : AH) : Prop :=
  ∃ e' w' n r, ELe e e' ∧ s.run P w = .ok n w' ∧ (n = .value r ∨ (n = .skip ∧ r = Go.undef)) ∧ DR e' x r ∧ HRel base e' H' w' ∧ Below base w w'
section
variable {P : Program} {T : Tb} {base : Nat} {e : Env} {H H' : AH} {w : World} {x : AV}
theorem does_value {s : Sem Value} {r : Value} (h : HRel base e H w) (hs : s.run P w = .ok r w) (hx : DR e x r) : Does P base e w (do pure (.value (← s))) x H :=
  ⟨e, w, .value r, r, ELe.refl e, by simp [hs], .inl rfl, hx, h, Below.refl _ _⟩
theorem does_pure {r : Value} (h : HRel base e H w) (hx : DR e x r) : Does P base e w (pure (.value r)) x H :=
  ⟨e, w, .value r, r, ELe.refl e, rfl, .inl rfl, hx, h, Below.refl _ _⟩
/-- A run that looks at no world. -/
theorem flatRun_ok {α : Type} {s : Sem α} {a : α} (h : flatRun P s = some a) (w : World) : s.run P w = .ok a w := by
  induction s with
  | pure b => cases h; rfl
  | program k ih => exact ih P h
  | mark m k ih => exact ih h
  | _ => cases h
theorem flatOp_ok {ev : Operand → AV} {o : Oper} {ρ : Operand → Value} (hr : HRel base e H w) (hop : ∀ y ∈ o.op.operands, DR e (ev y) (ρ y)) (h : flatOp P ev o H = some (.val x H')) : Does P base e w (execOp ρ o) x H' ∧ H' = H := by
  unfold flatOp at h
  split at h
  · cases h
  · rename_i hsel
    split at h
    · rename_i vs hfl
      have hρ : ∀ y ∈ o.op.operands, (ev y).flat = some (ρ y) := fun y hy => by
        have : ∀ (l : List Operand) (vs : List Value), allFlat (l.map ev) = some vs → ∀ y ∈ l, (ev y).flat ≠ none := by
          intro l
          induction l with
          | nil => intro _ _ y hy; cases hy
          | cons a l ih =>
            intro vs hv y hy
            rw [List.map_cons] at hv
            unfold allFlat at hv
            split at hv
            · rename_i u r h1 h2
              rcases List.mem_cons.1 hy with rfl | hy
              · rw [h1]; exact fun h => by cases h
              · exact ih r h2 y hy
            · cases hv
        have hne := this _ _ hfl y (Array.mem_toList_iff.2 hy)
        cases hf : (ev y).flat with
        | none => exact absurd hf hne
        | some z => rw [flat_eq (hop y hy) hf]
      have hex : execOp (fun y => (ev y).flat.getD Go.undef) o = execOp ρ o := execOp_congr o (fun cs b heq => hsel cs b heq) fun y hy => by rw [hρ y hy]; rfl
      rw [hex] at h
      split at h
      · rename_i v hv
        cases h
        exact ⟨⟨e, w, .value v, v, ELe.refl e, flatRun_ok hv w, .inl rfl, .v v, hr, Below.refl _ _⟩, rfl⟩
      · rename_i hv
        cases h
        exact ⟨⟨e, w, .skip, Go.undef, ELe.refl e, flatRun_ok hv w, .inr ⟨rfl, rfl⟩, .v _, hr, Below.refl _ _⟩, rfl⟩
      · cases h
    · cases h
theorem pick_ok {c a b : AV} {c' a' b' : Value} (hr : HRel base e H w) (hc : DR e c c') (ha : DR e a a') (hb : DR e b b') (h : opPick c a b H = some (.val x H')) :
    Does P base e w (do pure (.value (if ← asBool c' then a' else b'))) x H' := by
  unfold opPick at h
  split at h
  · cases h
    cases hc
    exact does_pure hr ha
  · cases h
    cases hc
    exact does_pure hr hb
  · cases h
theorem extract_ok {t : AV} {t' : Value} {i : Nat} (hr : HRel base e H w) (ht : DR e t t') (h : opExtract t i H = some (.val x H')) :
    Does P base e w (do pure (.value (← Instr.extract t' i))) x H' := by
  unfold opExtract at h
  split at h
  · rename_i l
    cases ht with
    | tup hl =>
      rename_i xs
      cases hx : l[i]? with
      | none => rw [hx] at h; cases h
      | some y =>
        rw [hx] at h
        cases h
        obtain ⟨r, h1, h2⟩ := hl.get hx
        refine does_value (r := r) hr ?_ h2
        simp [Instr.extract, h1]
  · rename_i vs
    cases ht
    cases hx : vs[i]? with
    | none => rw [hx] at h; cases h
    | some y =>
      rw [hx] at h
      cases h
      refine does_value (r := y) hr ?_ (.v y)
      simp [Instr.extract, hx]
  · cases h
theorem load_does (hT : TbOk P T) {t : TypeId} {b off g o z : Nat} (hr : HRel base e H w) (hb : e b = some (g, o, z)) (h : evLoad T H t b off = some x) :
    ∃ r, (loadVar t ⟨g, o + off, none⟩).run P w = .ok r w ∧ DR e x r := by
  unfold evLoad at h
  split at h
  · rename_i hagg
    split at h
    · rename_i n hn
      split at h
      · rename_i l hl
        cases h
        obtain ⟨ys, h1, h2, h3⟩ := load_ok hr hl hb
        have hrow : ∃ d, P.underlying t = some d ∧ d.isRow = true := by
          unfold isAggB at hagg
          cases hu : T.und t with
          | none => rw [hu] at hagg; cases hagg
          | some d =>
            rw [hu] at hagg
            refine ⟨d, und_ok hT hu, ?_⟩
            cases d <;> first | rfl | cases hagg
        obtain ⟨d, hd1, hd2⟩ := hrow
        exact ⟨_, run_loadVar_mid w g (o + off) t ys d h3 hd1 hd2 (by rw [h2]; exact size_ok hT hn), mkAgg_dr h1⟩
      · cases h
    · cases h
  · rename_i hagg
    split at h
    · rename_i y hl
      cases h
      obtain ⟨ys, h1, h2, h3⟩ := load_ok hr hl hb
      cases h1 with
      | cons hx hn =>
        rename_i r ys
        refine ⟨r, ?_, hx⟩
        have hc := h3 0 r rfl
        rw [Nat.add_zero] at hc
        simp [loadVar, Sem.run_bind, run_isAggB hT hagg w, load, Sem.run, hc]
    · cases h
  · cases h
theorem opLoad_ok (hT : TbOk P T) {t : TypeId} {a : AV} {a' : Value} (hr : HRel base e H w) (ha : DR e a a') (h : opLoad T t a H = some (.val x H')) :
    Does P base e w (do pure (.value (← Instr.loadAt t a'))) x H' := by
  unfold opLoad at h
  split at h
  · rename_i b off
    cases ha with
    | ptr hb =>
      rename_i g o z
      cases hx : evLoad T H t b off with
      | none => rw [hx] at h; cases h
      | some y =>
        rw [hx] at h
        cases h
        obtain ⟨r, h1, h2⟩ := load_does hT hr hb hx
        refine does_value (r := r) hr ?_ h2
        simp [Instr.loadAt, Instr.sureAddr, h1]
  · cases h
theorem opStore_ok (hT : TbOk P T) {t : TypeId} {a y : AV} {a' y' : Value} (hr : HRel base e H w) (ha : DR e a a') (hy : DR e y y') (h : opStore T t a y H = some (.val x H')) :
    Does P base e w (do Instr.storeAt t a' y'; pure .skip) x H' := by
  unfold opStore at h
  split at h
  · rename_i b off
    cases ha with
    | ptr hb =>
      rename_i g o z
      cases hx : evStore T H t b off y with
      | none => rw [hx] at h; cases h
      | some H2 =>
        rw [hx] at h
        cases h
        unfold evStore at hx
        split at hx
        · rename_i n hn
          have hc := cells_dr hy
          cases hnb : (n == y.cells.length) with
          | false => rw [hnb] at hx; cases hx
          | true =>
            rw [hnb] at hx
            have hn' : n = y.cells.length := by simpa using hnb
            obtain ⟨w', h1, h2, h3, _⟩ := store_ok (P := P) hr hx hb hc
            refine ⟨e, w', .skip, Go.undef, ELe.refl e, ?_, .inr ⟨rfl, rfl⟩, .v _, h2, h3⟩
            have hlen : y'.cells.size = n := by rw [hn', ← hc.length]; simp
            simp [Instr.storeAt, Instr.sureAddr, storeVar, Sem.run_bind, run_sizeB hT hn w, hlen, h1]
        · cases hx
  · cases h
/-- A new row, as 'newVar' lays it. -/
theorem newRow_ok {l : List AV} {ys more : List Value} (t : TypeId) (hr : HRel base e H w) (hn : H.next + 1 ≤ 2 ^ depth) (hl : DRL e l ys) :
    ∃ e' w', ELe e e' ∧ (newRow t (ys ++ more).toArray).run P w = .ok ⟨w.heap.size, 0, none⟩ w' ∧ e' H.next = some (w.heap.size, 0, (ys ++ more).length) ∧ HRel base e' (H.alloc (.cells l t)) w' ∧ Below base w w' := by
  obtain ⟨h1, h2⟩ := row_ok (more := more) hr t hn hl
  refine ⟨_, _, new_le hr _, rfl, ?_, h1, h2⟩
  unfold Env.new
  rw [if_pos rfl]
theorem opAlloc_ok (hT : TbOk P T) {t : TypeId} (hr : HRel base e H w) (h : opAlloc T t H = some (.val x H')) (hn : H'.next ≤ 2 ^ depth) :
    Does P base e w (do pure (.value (← Instr.alloc t true (.tuple #[])))) x H' := by
  unfold opAlloc at h
  split at h
  · rename_i l hl
    cases h
    obtain ⟨z, h1, rfl⟩ := run_zeroB hT hl
    obtain ⟨e', w', k1, k2, k3, k4, k5⟩ := newRow_ok (P := P) (more := []) t hr hn (DRL.flat z.cells.toList)
    rw [List.append_nil, Array.toArray_toList] at k2
    refine ⟨e', w', _, _, k1, ?_, .inl rfl, .ptr k3, k4, k5⟩
    simp [Instr.alloc, Sem.run_bind, h1, newVar, k2]
  · cases h
theorem opBox_ok {t : TypeId} {y : AV} {y' : Value} (hr : HRel base e H w) (hy : DR e y y') (hn : H.next + 1 ≤ 2 ^ depth) :
    Does P base e w (do pure (.value (← Instr.box t y'))) (.ptr H.next 0) (H.alloc (.cells y.cells t)) := by
  obtain ⟨e', w', k1, k2, k3, k4, k5⟩ := newRow_ok (P := P) (more := []) t hr hn (cells_dr hy)
  rw [List.append_nil, Array.toArray_toList] at k2
  refine ⟨e', w', _, _, k1, ?_, .inl rfl, .ptr k3, k4, k5⟩
  simp [Instr.box, newVar, k2]
theorem opNil_ok {y : AV} {y' : Value} {o : Oper} {ρ : Operand → Value} {a : Operand} (ho : o.op = .nilCheck a) (hρ : ρ a = y') (hr : HRel base e H w) (hy : DR e y y') (h : opNil y H = some (.val x H')) :
    Does P base e w (execOp ρ o) x H' := by
  unfold execOp
  rw [ho]
  dsimp only
  rw [hρ]
  unfold opNil at h
  split at h
  · cases h
    cases hy with
    | ptr hb => exact does_pure hr (.ptr hb)
  · cases h
    cases hy with
    | fn ha hc => exact does_pure hr (.fn ha hc)
  · cases h
theorem asNat_ok {y : AV} {y' : Value} {n : Nat} (hy : DR e y y') (h : asNat y = some n) : ∃ k, y' = .int k (n : Int) := by
  unfold asNat at h
  split at h
  · cases h
    cases hy
    exact ⟨_, rfl⟩
  · cases h
end
end Ev
end Go.Proofs.YtgmhkjmnfafccaaGreatDoor
