/- The evaluator's operations are the model's: addresses, parts, comparisons, maps, calls. -/
import Derived.Test.YtgmhkjmnfafccaaGreatDoorEvC
namespace Go.Proofs.YtgmhkjmnfafccaaGreatDoor
open Go.RowKit
namespace Ev
set_option linter.unusedVariables false
section
variable {P : Program} {T : Tb} {base : Nat} {e : Env} {H H' : AH} {w : World} {x : AV}
theorem place_ok (hT : TbOk P T) {fs : Array Field} {i o s : Nat} (h : placeB T fs i = some (o, s)) : ∃ f, fs[i]? = some f ∧ f.offset = o ∧ sizeB T f.type = some s := by
  unfold placeB at h
  split at h
  · rename_i f hf
    split at h
    · rename_i n hn
      cases h
      exact ⟨f, hf, rfl, hn⟩
    · cases h
  · cases h
theorem opFieldAddr_ok (hT : TbOk P T) {t : TypeId} {a : AV} {a' : Value} {f : Nat} (hr : HRel base e H w) (ha : DR e a a') (h : opFieldAddr T t a f H = some (.val x H')) :
    Does P base e w (do pure (.value (← Instr.fieldAt t a' f))) x H' := by
  unfold opFieldAddr at h
  split at h
  · rename_i b off
    cases ha with
    | ptr hb =>
      rename_i g o z
      split at h
      · rename_i fs hu
        split at h
        · cases h
        · rename_i oo s hs0 hp
          cases h
          obtain ⟨fl, h1, h2, h3⟩ := place_ok hT hp
          have hs0 : s ≠ 0 := hs0
          refine does_value (r := .pointer (some ⟨g, o + off + oo, none⟩)) hr ?_ (by rw [Nat.add_assoc]; exact .ptr hb)
          simp [Instr.fieldAt, Instr.sureAddr, Sem.run_bind, run_undB hT hu w, h1, fieldPlace, run_sizeB hT h3 w, hs0, h2, Addr.add_mid]
        · cases h
      · cases h
  · cases h
theorem opIndexAddr_ok (hT : TbOk P T) {t : TypeId} {a i : AV} {a' i' : Value} (hr : HRel base e H w) (ha : DR e a a') (hi : DR e i i') (h : opIndexAddr T t a i H = some (.val x H')) :
    Does P base e w (do pure (.value (← Instr.indexAt t a' i'))) x H' := by
  unfold opIndexAddr at h
  split at h
  · rename_i n el b off len cap hn hu
    obtain ⟨k, rfl⟩ := asNat_ok hi hn
    cases hc : Nat.blt n len with
    | false => rw [hc] at h; cases h
    | true =>
      rw [hc] at h
      have hlt := of_eq_true ((Nat.blt_eq).symm.trans (eq_true hc))
      dsimp only [cond_true] at h
      split at h
      · rename_i s hs
        cases h
        cases ha with
        | slc hb hcp hcl =>
          rename_i g o z c
          refine does_value (r := .pointer (some ⟨g, o + off + n * s, none⟩)) hr ?_ (by rw [Nat.add_assoc]; exact .ptr hb)
          simp [Instr.indexAt, asIntOf, Sem.run_bind, run_undB hT hu w, run_sizeB hT hs w, hlt, Addr.add_mid]
      · cases h
  · rename_i n len el b off hn hu
    obtain ⟨k, rfl⟩ := asNat_ok hi hn
    cases hc : Nat.blt n len with
    | false => rw [hc] at h; cases h
    | true =>
      rw [hc] at h
      have hlt := of_eq_true ((Nat.blt_eq).symm.trans (eq_true hc))
      dsimp only [cond_true] at h
      split at h
      · rename_i s hs
        cases h
        cases ha with
        | ptr hb =>
          rename_i g o z
          refine does_value (r := .pointer (some ⟨g, o + off + n * s, none⟩)) hr ?_ (by rw [Nat.add_assoc]; exact .ptr hb)
          simp [Instr.indexAt, Instr.sureAddr, asIntOf, Sem.run_bind, run_undB hT hu w, run_sizeB hT hs w, hlt, Addr.add_mid]
      · cases h
  · cases h
theorem opField_ok (hT : TbOk P T) {ev : Operand → AV} {op : Oper} {ρ : Operand → Value} {t : TypeId} {y : Operand} {f : Nat} (ho : op.op = .field t y f) (hr : HRel base e H w) (hop : ∀ y ∈ op.op.operands, DR e (ev y) (ρ y)) (hy : DR e (ev y) (ρ y)) (h : opField P T ev op t (ev y) f H = some (.val x H')) :
    Does P base e w (execOp ρ op) x H' := by
  unfold opField at h
  split at h
  · rename_i cs hcs
    have hex : execOp ρ op = (do pure (.value (← Instr.field t (ρ y) f))) := by unfold execOp; rw [ho]
    rw [hex]
    rw [hcs] at hy
    generalize ρ y = y' at hy
    cases hy with
    | agg hl =>
      rename_i xs
      split at h
      · rename_i fs hu
        split at h
        · rename_i fl hf
          split at h
          · rename_i n hagg hn
            cases hc : (fl.offset + n).ble cs.length with
            | false => rw [hc] at h; cases h
            | true =>
              rw [hc] at h
              cases h
              refine does_value (r := .agg (xs.toArray.extract fl.offset (fl.offset + n))) hr ?_ ?_
              · simp [Instr.field, Sem.run_bind, run_undB hT hu w, hf, asAgg, part, run_isAggB hT hagg w, run_sizeB hT hn w]
              · have := mkAgg_dr ((hl.drop fl.offset).take n)
                have he : (xs.toArray.extract fl.offset (fl.offset + n)) = ((xs.drop fl.offset).take n).toArray := by
                  simp [List.extract_toArray, List.extract_eq_take_drop]
                rw [he]
                exact this
          · rename_i n hagg hn
            cases hx : cs[fl.offset]? with
            | none => rw [hx] at h; cases h
            | some v =>
              rw [hx] at h
              cases h
              obtain ⟨r, h1, h2⟩ := hl.get hx
              refine does_value (r := r) hr ?_ h2
              simp [Instr.field, Sem.run_bind, run_undB hT hu w, hf, asAgg, part, run_isAggB hT hagg w, h1]
          · cases h
        · cases h
      · cases h
  · exact (flatOp_ok hr hop h).1
theorem opMakeMap_ok (hT : TbOk P T) {ev : Operand → AV} {ρ : Operand → Value} {t : TypeId} {r : Option Operand} (hr : HRel base e H w) (hop : ∀ y, r = some y → DR e (ev y) (ρ y)) (h : opMakeMap T ev t r H = some (.val x H')) (hn : H'.next ≤ 2 ^ depth) :
    Does P base e w (do pure (.value (← Instr.makeMap t (r.map ρ)))) x H' := by
  have key : H.next + 1 ≤ 2 ^ depth → ∀ (s : Sem Value), s.run P w = .ok (.map (some w.heap.size)) (w.alloc (.map #[] 0)) → Does P base e w (do pure (.value (← s))) (.mp H.next) (H.alloc (.map [] 0)) := fun hn s hs => by
    obtain ⟨h1, h2⟩ := alloc_ok hr (.map [] 0) hn (.map #[] 0) 0 0 ⟨[], heap_alloc_new w _, .nil, .nil, rfl⟩
    refine ⟨_, _, _, _, new_le hr _, ?_, .inl rfl, .mp (g := w.heap.size) (o := 0) (z := 0) (by unfold Env.new; rw [if_pos rfl]), h1, h2⟩
    simp [hs]
  unfold opMakeMap at h
  split at h
  · cases h
    refine key hn _ ?_
    rfl
  · rename_i y
    split at h
    · rename_i k el n hu hn2
      cases h
      refine key hn _ ?_
      obtain ⟨kd, hk⟩ := asNat_ok (hop y rfl) hn2
      simp [Instr.makeMap, Sem.run_bind, run_undB hT hu w, hk, asInt, asIntOf, newObj, Sem.run]
    · cases h
theorem opUn_ok {ev : Operand → AV} {op : Oper} {ρ : Operand → Value} {uop : UnOp} {t : TypeId} {y : Operand} (ho : op.op = .unOp uop t y) (hr : HRel base e H w) (hop : ∀ y ∈ op.op.operands, DR e (ev y) (ρ y)) (hy : DR e (ev y) (ρ y)) (h : opUn P ev op uop (ev y) H = some (.val x H')) :
    Does P base e w (execOp ρ op) x H' := by
  unfold opUn at h
  split at h
  · rename_i b hb
    cases h
    have hex : execOp ρ op = (do pure (.value (← Op.unary .not (ρ y)))) := by unfold execOp; rw [ho]
    rw [hex]
    rw [hb] at hy
    generalize ρ y = y' at hy
    cases hy
    exact does_value hr rfl (.v _)
  · exact (flatOp_ok hr hop h).1
theorem sameKind_eq {j k : IntKind} (h : sameKind j k = true) : j = k := by
  cases j <;> cases k <;> first | rfl | cases h
theorem eqGuard_ints {bop : BinOp} {t : TypeId} {a b : Operand} {k j : IntKind} {m n : Int} : (eqGuard bop t a b (.int k m) (.int j n)).run P w = .ok () w := by
  unfold eqGuard
  cases bop <;> rfl
theorem intBin_ok {bop : BinOp} {t : TypeId} {k : IntKind} {m n : Int} {r : Value} (h : intBin bop k m n = some r) : (binOp bop t (.int k m) (.int k n)).run P w = .ok r w := by
  cases bop <;> cases h <;> simp [binOp, Op.intArith, Op.intCmp]
theorem opEql_ok (hT : TbOk P T) {ev : Operand → AV} {op : Oper} {ρ : Operand → Value} {neg : Bool} {t u : TypeId} {a b : Operand} (ho : op.op = .binOp (if neg then .neq else .eql) t a b u) (hr : HRel base e H w) (hop : ∀ y ∈ op.op.operands, DR e (ev y) (ρ y)) (ha : DR e (ev a) (ρ a)) (hb : DR e (ev b) (ρ b))
    (h : opEql P T ev op neg t (ev a) (ev b) H = some (.val x H')) : Does P base e w (execOp ρ op) x H' := by
  unfold opEql at h
  split at h
  · rename_i d hu
    split at h
    · rename_i bb hq
      cases h
      have hex : execOp ρ op = (do pure (.value (← (do eqGuard (if neg then .neq else .eql) t a b (ρ a) (ρ b); binOp (if neg then .neq else .eql) t (ρ a) (ρ b))))) := by unfold execOp; rw [ho]
      rw [hex]
      generalize ev a = va at ha hq
      generalize ev b = vb at hb hq
      generalize ρ a = ra at ha ⊢
      generalize ρ b = rb at hb ⊢
      have hun := run_undB hT hu w
      refine does_value (r := .bool (bif neg then !bb else bb)) hr ?_ (.v _)
      have key : (∀ op', (op' = .eql ∨ op' = .neq) → (eqGuard op' t a b ra rb).run P w = .ok () w ∧ (binOp op' t ra rb).run P w = ((Op.equal t ra rb).run P w).andThen fun r w => .ok (.bool (if op' = .eql then r else !r)) w) ∧ (Op.equal t ra rb).run P w = .ok bb w := by
        unfold evEql at hq
        split at hq <;> first
          | (cases hq; done)
          | (cases hq
             cases ha
             cases hb
             refine ⟨fun op' hop' => ?_, ?_⟩
             · rcases hop' with rfl | rfl <;> refine ⟨rfl, ?_⟩ <;> simp [binOp]
             · show (Op.equalIn (9999 + 1) t _ _).run P w = _
               unfold Op.equalIn
               simp [Sem.run_bind, hun])
      obtain ⟨k1, k2⟩ := key
      cases neg with
      | false =>
        obtain ⟨g1, g2⟩ := k1 .eql (.inl rfl)
        simp [Sem.run_bind, g1, g2, k2]
      | true =>
        obtain ⟨g1, g2⟩ := k1 .neq (.inr rfl)
        simp [Sem.run_bind, g1, g2, k2]
    · exact (flatOp_ok hr hop h).1
  · cases h
theorem opBin_ok (hT : TbOk P T) {ev : Operand → AV} {op : Oper} {ρ : Operand → Value} {bop : BinOp} {t u : TypeId} {a b : Operand} (ho : op.op = .binOp bop t a b u) (hr : HRel base e H w) (hop : ∀ y ∈ op.op.operands, DR e (ev y) (ρ y)) (ha : DR e (ev a) (ρ a)) (hb : DR e (ev b) (ρ b))
    (h : opBin P T ev op bop t (ev a) (ev b) H = some (.val x H')) : Does P base e w (execOp ρ op) x H' := by
  unfold opBin at h
  split at h
  · rename_i k m k' n hka hkb
    cases hk : sameKind k k' with
    | false => rw [hk] at h; cases h
    | true =>
      rw [hk] at h
      have := sameKind_eq hk
      subst this
      dsimp only [cond_true] at h
      split at h
      · rename_i r hrr
        cases h
        have hex : execOp ρ op = (do pure (.value (← (do eqGuard bop t a b (ρ a) (ρ b); binOp bop t (ρ a) (ρ b))))) := by unfold execOp; rw [ho]
        rw [hex]
        rw [hka] at ha
        rw [hkb] at hb
        generalize ρ a = ra at ha ⊢
        generalize ρ b = rb at hb ⊢
        cases ha
        cases hb
        refine does_value (r := r) hr ?_ (.v r)
        rw [Sem.run_bind, eqGuard_ints]
        exact intBin_ok hrr
      · exact (flatOp_ok hr hop h).1
  · split at h
    · exact opEql_ok hT (neg := false) ho hr hop ha hb h
    · exact opEql_ok hT (neg := true) ho hr hop ha hb h
    · exact (flatOp_ok hr hop h).1
end
end Ev
end Go.Proofs.YtgmhkjmnfafccaaGreatDoor
