/- The evaluator's operations are the model's: maps, builtins. -/
import Derived.Test.YtgmhkjmnfafccaaGreatDoorEvG
namespace Go.Proofs.YtgmhkjmnfafccaaGreatDoor
open Go.RowKit
namespace Ev
set_option linter.unusedVariables false
section
variable {P : Program} {T : Tb} {base : Nat} {e : Env} {H H' : AH} {w : World} {x : AV}
theorem map_at (hr : HRel base e H w) {b g o z : Nat} (hb : e b = some (g, o, z)) {es : List (AV × AV × Nat)} {c : Nat} (h : H.get b = some (.map es c)) :
    base ≤ g ∧ ∃ es' : List MapEntry, w.heap[g]? = some (.map es'.toArray c) ∧ DRL e (es.map (·.1)) (es'.map (·.key)) ∧ DRL e (es.map (·.2.1)) (es'.map (·.val)) ∧ es.map (·.2.2) = es'.map (·.born) := by
  obtain ⟨g', o', z', h1, h2, h3⟩ := hr.blk b _ (hr.lt2 hb) h
  rw [hb] at h1
  cases h1
  exact ⟨h2, h3⟩
theorem mapGet_ok (hr : HRel base e H w) {m : AV} {m' : Value} {es : List (AV × AV × Nat)} {c : Nat} (hm : DR e m m') (h : mapGet H m = some (es, c)) :
    ∃ es' : List MapEntry, (m' = .map none ∧ es' = [] ∨ ∃ g, m' = .map (some g) ∧ w.heap[g]? = some (.map es'.toArray c)) ∧ DRL e (es.map (·.1)) (es'.map (·.key)) ∧ DRL e (es.map (·.2.1)) (es'.map (·.val)) := by
  unfold mapGet at h
  split at h
  · rename_i b
    split at h
    · rename_i es2 c2 hg
      cases h
      cases hm with
      | mp hb =>
        obtain ⟨-, es', h1, h2, h3, -⟩ := map_at hr hb hg
        exact ⟨es', .inr ⟨_, rfl, h1⟩, h2, h3⟩
    · cases h
  · cases h
    cases hm
    exact ⟨[], .inl ⟨rfl, rfl⟩, .nil, .nil⟩
  · cases h
theorem opLookup_ok (hT : TbOk P T) {t : TypeId} {m k : AV} {m' k' : Value} {ok : Bool} (hr : HRel base e H w) (hm : DR e m m') (hk : DR e k k') (h : opLookup T t m k ok H = some (.val x H')) :
    Does P base e w (do pure (.value (← Instr.lookup t m' k' ok))) x H' := by
  unfold opLookup at h
  split at h
  · rename_i kt el kv hu
    cases hk
    split at h
    · rename_i d es c hkb hg
      obtain ⟨es', q1, q2, q3⟩ := mapGet_ok hr hm hg
      obtain ⟨u1, u2⟩ := key_und hT hkb
      split at h
      · rename_i i y hf
        cases h
        obtain ⟨r', r1, r2⟩ := find_ok hkb es es' 0 _ hf q2 q3
        rcases r2 with ⟨r2, -⟩ | ⟨j, y1, y2, r2, r3, r4, -⟩
        · cases r2
        · cases r2
          subst r3
          refine does_value (r := if ok then .tuple #[y2, .bool true] else y2) hr ?_ ?_
          · unfold Instr.lookup
            rcases q1 with ⟨rfl, rfl⟩ | ⟨g, rfl, hg⟩
            · cases r1
            · simp [Sem.run_bind, run_undB hT hu w, MapKept.run_getObj_map hg, MapKept.run_checkKey u1 u2, Instr.findKey, run_underlying u1, r1]
          · cases ok with
            | true => exact mkTup_dr (.cons r4 (.cons (.v _) .nil))
            | false => exact r4
      · rename_i hf
        split at h
        · rename_i i hi
          split at h
          · rename_i z hz
            cases h
            obtain ⟨r', r1, r2⟩ := find_ok hkb es es' 0 _ hf q2 q3
            rcases r2 with ⟨-, r2⟩ | ⟨j, y1, y2, r2, -⟩
            · subst r2
              refine does_value (r := if ok then .tuple #[z, .bool false] else z) hr ?_ ?_
              · unfold Instr.lookup
                rcases q1 with ⟨rfl, rfl⟩ | ⟨g, rfl, hg⟩
                · simp [Sem.run_bind, run_undB hT hu w, MapKept.run_checkKey u1 u2, Instr.findKey, run_underlying u1, Instr.findNow, zeroValue, typeInfo, hT.info _ _ hi, hz]
                · simp [Sem.run_bind, run_undB hT hu w, MapKept.run_getObj_map hg, MapKept.run_checkKey u1 u2, Instr.findKey, run_underlying u1, r1, zeroValue, typeInfo, hT.info _ _ hi, hz]
              · cases ok with
                | true => exact mkTup_dr (.cons (.v _) (.cons (.v _) .nil))
                | false => exact .v _
            · cases r2
          · cases h
        · cases h
      · cases h
    · cases h
  · cases h
/-- A block changes as a whole. -/
theorem put_ok (hr : HRel base e H w) {b g o z : Nat} (hb : e b = some (g, o, z)) {x0 x1 : AB} {obj : Obj} (h : H.get b = some x0) (hx : ∀ w' : World, w'.heap[g]? = some obj → BlkR e w' g o z x1) :
    HRel base e (H.put b (some x1)) { w with heap := w.heap.setIfInBounds g obj } ∧ Below base w { w with heap := w.heap.setIfInBounds g obj } := by
  have hb2 := hr.lt2 hb
  obtain ⟨g', o', z', q1, hg, k1⟩ := hr.blk b _ hb2 h
  rw [hb] at q1
  cases q1
  have hlt : g < w.heap.size := k1.lt
  have hfar : ∀ k, k ≠ g → (w.heap.setIfInBounds g obj)[k]? = w.heap[k]? := fun k hk => Array.getElem?_setIfInBounds_ne (Ne.symm hk)
  refine ⟨⟨by simpa using hr.size, hr.next, hr.fresh, fun b' y hb' hy => ?_, fun b1 b2 y1 y2 p1 p2 hb1 hb2' hx1 hx2 hp1 hp2 hne => ?_⟩, ⟨rfl, rfl, rfl, by simp, fun k hk => hfar k (by omega)⟩⟩
  · rw [AH.get_put _ _ _ _ hb2 hb'] at hy
    by_cases hbb : b' = b
    · rw [if_pos hbb] at hy
      cases hy
      exact ⟨g, o, z, by rw [hbb]; exact hb, hg, hx _ (by simp [hlt])⟩
    · rw [if_neg hbb] at hy
      obtain ⟨g2, o2, z2, m1, m2, m3⟩ := hr.blk b' y hb' hy
      exact ⟨g2, o2, z2, m1, m2, m3.heap (hfar g2 (hr.inj b' b y _ _ _ hb' hb2 hy h m1 hb hbb))⟩
  · have alive : ∀ b', b' < 2 ^ depth → ∀ x, (H.put b (some x1)).get b' = some x → ∃ x', H.get b' = some x' := fun b' hb' x hx => by
      rw [AH.get_put _ _ _ _ hb2 hb'] at hx
      by_cases hbb : b' = b
      · exact ⟨_, by rw [hbb]; exact h⟩
      · rw [if_neg hbb] at hx
        exact ⟨_, hx⟩
    obtain ⟨y1, hy1⟩ := alive b1 hb1 _ hx1
    obtain ⟨y2, hy2⟩ := alive b2 hb2' _ hx2
    exact hr.inj b1 b2 _ _ _ _ hb1 hb2' hy1 hy2 hp1 hp2 hne
/-- A map's block changes. -/
theorem putMap_ok (hr : HRel base e H w) {b g o z : Nat} (hb : e b = some (g, o, z)) {es es2 : List (AV × AV × Nat)} {c c2 : Nat} (h : H.get b = some (.map es c)) {es' : List MapEntry}
    (h1 : DRL e (es2.map (·.1)) (es'.map (·.key))) (h2 : DRL e (es2.map (·.2.1)) (es'.map (·.val))) (h3 : es2.map (·.2.2) = es'.map (·.born)) :
    HRel base e (H.put b (some (.map es2 c2))) { w with heap := w.heap.setIfInBounds g (.map es'.toArray c2) } ∧ Below base w { w with heap := w.heap.setIfInBounds g (.map es'.toArray c2) } :=
  put_ok hr hb h fun w' hw => ⟨es', hw, h1, h2, h3⟩
theorem setAt_map : ∀ (es : List (AV × AV × Nat)) (i : Nat) (y : AV), (setAt es i y).map (·.1) = es.map (·.1) ∧ (setAt es i y).map (·.2.1) = (es.map (·.2.1)).set i y ∧ (setAt es i y).map (·.2.2) = es.map (·.2.2)
  | [], _, _ => ⟨rfl, rfl, rfl⟩
  | (k, v, n) :: es, 0, y => ⟨rfl, rfl, rfl⟩
  | (k, v, n) :: es, i + 1, y => by
    obtain ⟨h1, h2, h3⟩ := setAt_map es i y
    exact ⟨by show k :: _ = _; rw [h1]; rfl, by show v :: _ = _; rw [h2]; rfl, by show n :: _ = _; rw [h3]; rfl⟩
theorem opMapUpdate_ok (hT : TbOk P T) {t : TypeId} {m k y : AV} {m' k' y' : Value} (hr : HRel base e H w) (hm : DR e m m') (hk : DR e k k') (hy : DR e y y') (h : opMapUpdate T t m k y H = some (.val x H')) :
    Does P base e w (do Instr.mapUpdate t m' k' y'; pure .skip) x H' := by
  unfold opMapUpdate at h
  split at h
  · rename_i kt el kv hu
    cases hk
    split at h
    · rename_i d hkb
      obtain ⟨u1, u2⟩ := key_und hT hkb
      cases hp : mapPut H m k' y with
      | none => rw [hp] at h; cases h
      | some H2 =>
        rw [hp] at h
        cases h
        unfold mapPut at hp
        split at hp
        · rename_i b
          split at hp
          · rename_i es c hg
            cases hm with
            | mp hb =>
              rename_i g o z
              obtain ⟨hbg, es', k1, k2, k3, k4⟩ := map_at hr hb hg
              split at hp
              · rename_i hf
                cases hp
                obtain ⟨r', r1, r2⟩ := find_ok hkb es es' 0 _ hf k2 k3
                rcases r2 with ⟨-, r2⟩ | ⟨j, y1, y2, r2, -⟩
                · subst r2
                  obtain ⟨a1, a2⟩ := putMap_ok (c2 := c + 1) (es2 := es ++ [(.v k', y, c)]) (es' := es' ++ [⟨k', y', c⟩]) hr hb hg (by rw [List.map_append, List.map_append]; exact k2.append (.cons (.v _) .nil)) (by rw [List.map_append, List.map_append]; exact k3.append (.cons hy .nil)) (by rw [List.map_append, List.map_append, k4]; rfl)
                  refine ⟨e, _, .skip, Go.undef, ELe.refl e, ?_, .inr ⟨rfl, rfl⟩, .v _, a1, a2⟩
                  unfold Instr.mapUpdate
                  simp [Sem.run_bind, run_undB hT hu w, MapKept.run_getObj_map k1, MapKept.run_checkKey u1 u2, Instr.findKey, run_underlying u1, r1, MapKept.run_setObj_map _ k1]
                · cases r2
              · rename_i i y0 hf
                cases hp
                obtain ⟨r', r1, r2⟩ := find_ok hkb es es' 0 _ hf k2 k3
                rcases r2 with ⟨r2, -⟩ | ⟨j, y1, y2, r2, r3, r4, ⟨en, r5, r6⟩, -⟩
                · cases r2
                · cases r2
                  subst r3
                  rw [Nat.sub_zero] at r5
                  have hen : en.key = k' := by
                    rcases (keyB_ok hkb).2 with ⟨s, rfl, rfl⟩ | ⟨jj, n, rfl, rfl⟩
                    · generalize en.key = q at r6
                      cases q <;> first
                        | (cases r6; done)
                        | (rename_i s2
                           have h9 : some (s == s2) = some true := r6
                           injection h9 with h9
                           rw [bytes_beq] at h9
                           have h10 := beq_iff_eq.1 h9
                           congr 1
                           cases s
                           cases s2
                           congr 1
                           exact (Array.ext' h10).symm)
                    · generalize en.key = q at r6
                      cases q <;> first
                        | (cases r6; done)
                        | (rename_i k2 n2
                           unfold Instr.sameNow at r6
                           dsimp only at r6
                           split at r6
                           · rename_i hkk
                             injection r6 with r6
                             have h10 := beq_iff_eq.1 r6
                             rw [hkk, h10]
                           · cases r6)
                  obtain ⟨s1, s2, s3⟩ := setAt_map es i y
                  have hmod : ∀ (f : MapEntry → MapEntry), (∀ q, (f q).born = q.born) → f en = ⟨k', y', en.born⟩ → ((es'.modify i f).map (·.key) = es'.map (·.key) ∧ (es'.modify i f).map (·.val) = (es'.map (·.val)).set i y' ∧ (es'.modify i f).map (·.born) = es'.map (·.born)) := fun f hf1 hf2 => by
                    have hget : ∀ j, (es'.modify i f)[j]? = if i = j then some (f en) else es'[j]? := fun j => by
                      rw [List.getElem?_modify]
                      by_cases hij : i = j
                      · subst hij
                        rw [if_pos rfl, r5]
                        simp
                      · rw [if_neg hij]
                        cases es'[j]? <;> simp [hij]
                    refine ⟨?_, ?_, ?_⟩
                    · apply List.ext_getElem?
                      intro j
                      rw [List.getElem?_map, List.getElem?_map, hget]
                      by_cases hij : i = j
                      · subst hij
                        rw [if_pos rfl, r5, hf2]
                        simp [hen]
                      · rw [if_neg hij]
                    · apply List.ext_getElem?
                      intro j
                      rw [List.getElem?_map, List.getElem?_set, hget]
                      by_cases hij : i = j
                      · subst hij
                        have := (List.getElem?_eq_some_iff.1 r5).1
                        rw [if_pos rfl, if_pos rfl, hf2, List.length_map, if_pos this]
                        rfl
                      · rw [if_neg hij, if_neg hij, List.getElem?_map]
                    · apply List.ext_getElem?
                      intro j
                      rw [List.getElem?_map, List.getElem?_map, hget]
                      by_cases hij : i = j
                      · subst hij
                        rw [if_pos rfl, r5]
                        simp [hf1]
                      · rw [if_neg hij]
                  obtain ⟨m1, m2, m3⟩ := hmod (fun q => { q with key := k', val := y' }) (fun _ => rfl) rfl
                  obtain ⟨a1, a2⟩ := putMap_ok (c2 := c) (es2 := setAt es i y) (es' := es'.modify i fun q => { q with key := k', val := y' }) hr hb hg (by rw [s1, m1]; exact k2) (by rw [s2, m2]; exact k3.set i hy) (by rw [s3, m3]; exact k4)
                  refine ⟨e, _, .skip, Go.undef, ELe.refl e, ?_, .inr ⟨rfl, rfl⟩, .v _, a1, a2⟩
                  unfold Instr.mapUpdate
                  simp [Sem.run_bind, run_undB hT hu w, MapKept.run_getObj_map k1, MapKept.run_checkKey u1 u2, Instr.findKey, run_underlying u1, r1, MapKept.run_setObj_map _ k1, r5, hen, MapKept.run_keyThatStays u2]
              · cases hp
          · cases hp
        · cases hp
    · cases h
  · cases h
end
end Ev
end Go.Proofs.YtgmhkjmnfafccaaGreatDoor
