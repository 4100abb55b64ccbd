/- The evaluator's operations are the model's: every operation that is no call of a Go function. -/
import Derived.Test.YtgmhkjmnfafccaaGreatDoorEvK
import Derived.Maps.RangeRun
namespace Go.Proofs.YtgmhkjmnfafccaaGreatDoor
open Go.RowKit
namespace Ev
set_option linter.unusedVariables false
section
variable {P : Program} {T : Tb} {base : Nat} {e : Env} {H H' : AH} {w : World} {x : AV}
theorem opCopy_ok (hT : TbOk P T) {ts : Array TypeId} {ty : TypeId} {b off len : Nat} {cap : Cp} {y : AV} {d' y' : Value} (hr : HRel base e H w) (hd : DR e (.slc b off len cap) d') (hy : DR e y y') (h : opCopy T H ts b off len y = some (.val x H')) :
    Does P base e w (do pure (.value (← Builtin.copy_ ts ty #[d', y']))) x H' := by
  unfold opCopy at h
  split at h
  · rename_i t ht
    split at h
    · rename_i el hu
      split at h
      · rename_i size hs
        split at h
        · rename_i new n hrow
          split at h
          · rename_i H2 hst
            cases h
            cases hd with
            | slc hb hc hl =>
              rename_i g o z c
              have hfc : ∃ ys, DRL e (new.take (Nat.min n len * size)) ys ∧ (Builtin.lenOf y').run P w = .ok n w ∧ (Builtin.firstCells size (Nat.min n len) y').run P w = .ok ys.toArray w := by
                have hmn : Nat.min n len ≤ n := Nat.min_le_left _ _
                unfold rowOf at hrow
                split at hrow
                · rename_i c2
                  cases hrow
                  cases hy
                  refine ⟨[], by simp; exact .nil, rfl, ?_⟩
                  exact run_firstCells_none w size (Nat.min 0 len) 0 c2
                · rename_i b2 off2 len2 cap2
                  split at hrow
                  · rename_i l0 hl0
                    cases hrow
                    cases hy with
                    | slc hb2 hc2 hl2 =>
                      rename_i g2 o2 z2 c2
                      obtain ⟨ys, h1, h2, h3⟩ := load_ok hr hl0 hb2
                      refine ⟨ys.take (Nat.min n len * size), h1.take _, rfl, ?_⟩
                      refine run_firstCells_some w size (Nat.min n len) ⟨g2, o2 + off2, none⟩ n c2 _ ?_ (fun j v hj => ?_)
                      · rw [List.length_take, h2]
                        exact Nat.min_eq_left (Nat.mul_le_mul_right _ hmn)
                      · rw [List.getElem?_take] at hj
                        split at hj
                        · rw [Addr.add_mid]; exact h3 j v hj
                        · cases hj
                  · cases hrow
                · rename_i s
                  cases hs1 : (size == 1) with
                  | false => rw [hs1] at hrow; cases hrow
                  | true =>
                    rw [hs1] at hrow
                    cases hrow
                    have : size = 1 := by simpa using hs1
                    subst this
                    cases hy
                    refine ⟨(byteCells s).take (Nat.min s.size len * 1), ?_, rfl, ?_⟩
                    · refine DRL.take ?_ _
                      unfold byteCells
                      have := DRL.flat (e := e) (s.data.toList.map fun b => Value.int .u8 b.toNat)
                      rw [List.map_map] at this
                      exact this
                    · have hle : Nat.min s.size len ≤ s.size := Nat.min_le_left _ _
                      unfold Builtin.firstCells byteCells
                      show Result.ok _ w = Result.ok _ w
                      congr 1
                      apply Array.ext'
                      simp
                · cases hrow
              obtain ⟨ys, h1, h2, h3⟩ := hfc
              obtain ⟨w', k1, k2, k3, _⟩ := store_ok (P := P) hr hst hb h1
              refine ⟨e, w', .value (.int .i64 ((Nat.min n len : Nat) : Int)), _, ELe.refl e, ?_, .inl rfl, .v _, k2, k3⟩
              simp [Builtin.copy_, ht, Sem.run_bind, run_undB hT hu w, run_sizeB hT hs w, h2, h3, k1, goInt]
          · cases h
        · cases h
      · cases h
    · cases h
  · cases h
theorem opClear_ok (hT : TbOk P T) {ts : Array TypeId} {ty : TypeId} {b off len : Nat} {cap : Cp} {d' : Value} (hr : HRel base e H w) (hd : DR e (.slc b off len cap) d') (h : opClear T H ts b off len = some (.val x H')) :
    Does P base e w (do pure (.value (← Builtin.clear_ ts ty #[d']))) x H' := by
  unfold opClear at h
  split at h
  · rename_i t ht
    split at h
    · rename_i el hu
      split at h
      · rename_i zl hz
        cases hb0 : (Nat.blt 0 len && Nat.blt 0 zl.length) with
        | false => rw [hb0] at h; cases h
        | true =>
          rw [hb0] at h
          dsimp only [cond_true] at h
          rw [Bool.and_eq_true] at hb0
          split at h
          · rename_i H2 hst
            cases h
            obtain ⟨z, hz1, rfl⟩ := run_zeroB hT hz
            have hpos : 0 < z.cells.size := by
              have := blt_ok hb0.2
              simpa using this
            cases hd with
            | slc hb hc hl =>
              rename_i g o zz c
              have hdr : DRL e (repeatL (z.cells.toList.map .v) len) (repeatV z.cells.toList len) := by rw [repeat_map]; exact DRL.flat _
              obtain ⟨w', k1, k2, k3, _⟩ := store_ok (P := P) hr hst hb hdr
              have hzc : (Builtin.zeroCells z.cells len).toList = repeatV z.cells.toList len := by
                unfold Builtin.zeroCells
                exact repeat_range z.cells hpos len
              refine ⟨e, w', .value (.tuple #[]), _, ELe.refl e, ?_, .inl rfl, .v _, k2, k3⟩
              have hne : len ≠ 0 := Nat.ne_of_gt (blt_ok hb0.1)
              obtain ⟨len0, rfl⟩ : ∃ l, len = l + 1 := ⟨len - 1, by omega⟩
              simp [Builtin.clear_, ht, Sem.run_bind, run_undB hT hu w, hz1, hzc, k1]
          · cases h
      · cases h
    · cases h
  · cases h
theorem opRange_ok (hT : TbOk P T) {t : TypeId} {y : AV} {y' : Value} (hr : HRel base e H w) (hy : DR e y y') (h : opRange T t y H = some (.val x H')) (hn : H'.next ≤ 2 ^ depth) :
    Does P base e w (do pure (.value (← Instr.range t y'))) x H' := by
  unfold opRange at h
  split at h
  · rename_i k el b hu
    split at h
    · rename_i es c hg
      cases h
      cases hy with
      | mp hb =>
        rename_i g o z
        obtain ⟨hbg, es', h1, h2, h3, h4⟩ := map_at hr hb hg
        obtain ⟨k1, k2⟩ := alloc_ok hr (.iter b c [] c) hn (.mapIter (some g) c #[] c) 0 0 ⟨rfl, g, o, z, new_le hr _ _ _ hb, heap_alloc_new w _⟩
        refine ⟨_, _, .value (.pointer (some ⟨w.heap.size, 0 + 0, none⟩)), _, new_le hr _, ?_, .inl rfl, .ptr (g := w.heap.size) (o := 0) (z := 0) (by unfold Env.new; rw [if_pos rfl]), k1, k2⟩
        simp [Instr.range, Sem.run_bind, run_undB hT hu w, MapKept.run_getObj_map h1, newObj, Sem.run]
    · cases h
  · cases h
theorem getIter_ok (hr : HRel base e H w) {b g o z m since last : Nat} {seen : List Nat} (hb : e b = some (g, o, z)) (hg : H.get b = some (.iter m since seen last)) :
    base ≤ g ∧ o = 0 ∧ ∃ g' o' z', e m = some (g', o', z') ∧ w.heap[g]? = some (.mapIter (some g') since seen.toArray last) := by
  obtain ⟨g1, o1, z1, q1, q2, q0, g', o', z', q3, q4⟩ := hr.blk b _ (hr.lt2 hb) hg
  rw [hb] at q1
  cases q1
  exact ⟨q2, q0, g', o', z', q3, q4⟩
/-- Entries side by side. -/
theorem left_ok (seen : List Nat) : ∀ (es : List (AV × AV × Nat)) (es' : List MapEntry), DRL e (es.map (·.1)) (es'.map (·.key)) → DRL e (es.map (·.2.1)) (es'.map (·.val)) → es.map (·.2.2) = es'.map (·.born) →
    DRL e ((es.filter fun p => !seen.contains p.2.2).map (·.1)) ((es'.filter fun p => !seen.contains p.born).map (·.key)) ∧ DRL e ((es.filter fun p => !seen.contains p.2.2).map (·.2.1)) ((es'.filter fun p => !seen.contains p.born).map (·.val)) ∧ (es.filter fun p => !seen.contains p.2.2).map (·.2.2) = (es'.filter fun p => !seen.contains p.born).map (·.born)
  | [], [], _, _, _ => ⟨.nil, .nil, rfl⟩
  | [], _ :: _, h, _, _ => by cases h
  | _ :: _, [], h, _, _ => by cases h
  | (a, b, n) :: es, p :: es', h1, h2, h3 => by
    cases h1 with
    | cons d1 h1 => cases h2 with
      | cons d2 h2 =>
        rw [List.map_cons, List.map_cons] at h3
        injection h3 with hn h3
        have hn' : n = p.born := hn
        obtain ⟨k1, k2, k3⟩ := left_ok seen es es' h1 h2 h3
        rw [List.filter_cons, List.filter_cons]
        dsimp only
        rw [← hn']
        cases hc : seen.contains n with
        | true => exact ⟨k1, k2, k3⟩
        | false => exact ⟨.cons d1 k1, .cons d2 k2, by show _ :: _ = _ :: _; rw [k3]; exact congrArg (· :: _) hn⟩
theorem left_arr (es : List MapEntry) (seen : List Nat) : leftOf es.toArray seen.toArray = (es.filter fun p => !seen.contains p.born).toArray := by
  unfold leftOf
  rw [List.filter_toArray]
  simp
theorem opNext_ok {ty : TypeId} {y : AV} {y' : Value} {s : Bool} (hr : HRel base e H w) (hy : DR e y y') (h : opNext y s H = some (.val x H')) :
    Does P base e w (do pure (.value (← Instr.next y' s ty))) x H' := by
  unfold opNext at h
  split at h
  · rename_i b
    split at h
    · rename_i m since seen last hg
      split at h
      · rename_i es c hm
        cases hy with
        | ptr hb =>
          rename_i g o z
          obtain ⟨hbg, q0, g', o', z', q3, q4⟩ := getIter_ok hr hb hg
          subst q0
          obtain ⟨-, es', h1, h2, h3, h4⟩ := map_at hr q3 hm
          obtain ⟨k1, k2, k3⟩ := left_ok (e := e) seen es es' h2 h3 h4
          unfold nextOf at h
          cases hst : (es.all (fun e => Nat.blt e.2.2 since) && since.ble last) with
          | false => rw [hst] at h; cases h
          | true =>
            rw [hst] at h
            dsimp only [cond_true] at h
            rw [Bool.and_eq_true] at hst
            have hold : ∀ p ∈ es'.toArray.toList, p.born < since := fun p hp => by
              have hm2 : p.born ∈ es.map (·.2.2) := by rw [h4]; exact List.mem_map.2 ⟨p, by simpa using hp, rfl⟩
              obtain ⟨q, hq, hqp⟩ := List.mem_map.1 hm2
              have := blt_ok (List.all_eq_true.1 hst.1 q hq)
              rw [← hqp]
              exact this
            have hrun := run_next_at (P := P) w ty g g' since last seen.toArray es'.toArray c q4 h1 hold (Nat.le_of_ble_eq_true hst.2)
            rw [left_arr] at hrun
            split at h
            · rename_i hl
              cases h
              rw [hl] at k1
              have hl' : (es'.filter fun p => !seen.contains p.born) = [] := by
                have := k1.length
                simpa using this
              rw [hl'] at hrun
              rcases hrun with ⟨-, hrun⟩ | ⟨q, hq, -⟩
              · exact does_value (r := .tuple #[.bool false]) hr hrun (.v _)
              · cases hq
            · rename_i p hl
              cases h
              rw [hl] at k1 k2 k3
              have hl' : ∃ q, (es'.filter fun p => !seen.contains p.born) = [q] := by
                have := k1.length
                rw [List.length_map] at this
                exact List.length_eq_one_iff.1 this
              obtain ⟨q, hl'⟩ := hl'
              rw [hl'] at hrun k1 k2 k3
              rcases hrun with ⟨h0, -⟩ | ⟨q', hq, w1, hw1, hrun⟩
              · cases h0
              · have hqq : q' = q := by simpa using hq
                subst hqq
                have hb3 : p.2.2 = q'.born := by simpa using k3
                have hr1 : HRel base e H w1 := by
                  rcases hw1 with rfl | rfl
                  · exact hr
                  · exact hr.drew
                have hB1 : Below base w w1 := by
                  rcases hw1 with rfl | rfl
                  · exact Below.refl _ _
                  · exact (Below.refl _ _).drew
                obtain ⟨m1, m2⟩ := put_ok (x1 := .iter m since (seen ++ [p.2.2]) c) (obj := .mapIter (some g') since (seen.toArray.push q'.born) c) hr1 hb hg fun w' hw => ⟨rfl, g', o', z', q3, by rw [hw, hb3]; simp⟩
                cases k1 with
                | cons d1 _ => cases k2 with
                  | cons d2 _ =>
                    refine ⟨e, _, .value _, _, ELe.refl e, by simp only [Sem.run_bind, Nat.zero_add, hrun, Result.andThen_ok]; rfl, .inl rfl, mkTup_dr (ys := [.bool true, q'.key, q'.val]) (.cons (.v _) (.cons d1 (.cons d2 .nil))), m1, hB1.trans m2⟩
            · cases h
      · cases h
    · cases h
  · cases h
theorem find_born2 (s : Nat) : ∀ (es : List (AV × AV × Nat)) (es' : List MapEntry), DRL e (es.map (·.1)) (es'.map (·.key)) → DRL e (es.map (·.2.1)) (es'.map (·.val)) → es.map (·.2.2) = es'.map (·.born) →
    ∀ p, (es.find? fun e => Nat.beq e.2.2 s) = some p → ∃ q, es'.find? (·.born == s) = some q ∧ DR e p.1 q.key ∧ DR e p.2.1 q.val
  | [], _, _, _, _, p, h => by cases h
  | _ :: _, [], h, _, _, _, _ => by cases h
  | (a, b, n) :: es, q :: es', h1, h2, h3, p, h => by
    cases h1 with
    | cons d1 h1 => cases h2 with
      | cons d2 h2 =>
        rw [List.map_cons, List.map_cons] at h3
        injection h3 with hn h3
        have hn' : n = q.born := hn
        rw [List.find?_cons] at h ⊢
        dsimp only at h
        cases hc : Nat.beq n s with
        | true =>
          rw [hc] at h
          cases h
          have : (q.born == s) = true := by rw [← hn', Nat.eq_of_beq_eq_true hc]; exact beq_self_eq_true s
          rw [this]
          exact ⟨q, rfl, d1, d2⟩
        | false =>
          rw [hc] at h
          have : (q.born == s) = false := by
            rw [← hn']
            cases hh : (n == s) with
            | false => rfl
            | true => rw [eq_of_beq hh, Nat.beq_refl] at hc; cases hc
          rw [this]
          exact find_born2 s es es' h1 h2 h3 p h
theorem opEntry_ok {y : AV} {y' : Value} (hr : HRel base e H w) (hy : DR e y y') (h : opEntry y H = some (.val x H')) :
    Does P base e w (do pure (.value (← Instr.entry y'))) x H' := by
  unfold opEntry at h
  split at h
  · rename_i b
    split at h
    · rename_i m since seen last hg
      split at h
      · rename_i s es c hs hm
        cases hy with
        | ptr hb =>
          rename_i g o z
          obtain ⟨hbg, q0, g', o', z', q3, q4⟩ := getIter_ok hr hb hg
          subst q0
          obtain ⟨-, es', h1, h2, h3, h4⟩ := map_at hr q3 hm
          have hgo : (getObj g).run P w = .ok (.mapIter (some g') since seen.toArray last) w := by simp [getObj, Sem.run, q4]
          have hgm := MapKept.run_getObj_map (P := P) h1
          cases hcl : Nat.beq c last with
          | false => rw [hcl] at h; cases h
          | true =>
            rw [hcl] at h
            dsimp only [cond_true] at h
            have hcl' : c = last := Nat.eq_of_beq_eq_true hcl
            split at h
            · rename_i p hp
              cases h
              obtain ⟨q, hq, d1, d2⟩ := find_born2 (e := e) s es es' h2 h3 h4 p hp
              have hbk : seen.toArray.back? = some s := by rw [List.back?_toArray]; exact hs
              have hfq : es'.toArray.find? (·.born == s) = some q := by rw [List.find?_toArray]; exact hq
              refine does_value (r := .tuple #[q.key, q.val]) hr ?_ (mkTup_dr (ys := [q.key, q.val]) (.cons d1 (.cons d2 .nil)))
              subst hcl'
              simp only [Nat.zero_add]
              simp only [Instr.entry, Sem.run_bind, hgo, hgm, Result.andThen_ok, hbk, bne_self_eq_false, Bool.false_eq_true, if_false, hfq]
              rfl
            · cases h
      · cases h
    · cases h
  · cases h
end
end Ev
end Go.Proofs.YtgmhkjmnfafccaaGreatDoor
