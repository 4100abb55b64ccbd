/- The evaluator's operations are the model's: builtins, every operation. -/
import Derived.Test.YtgmhkjmnfafccaaGreatDoorEvJ
namespace Go.Proofs.YtgmhkjmnfafccaaGreatDoor
open Go.RowKit
namespace Ev
set_option linter.unusedVariables false
section
variable {P : Program} {T : Tb} {base : Nat} {e : Env} {H H' : AH} {w : World} {x : AV}
theorem blt_ok {a b : Nat} (h : Nat.blt a b = true) : a < b := of_eq_true ((Nat.blt_eq).symm.trans (eq_true h))
theorem appendSrc_ok (hT : TbOk P T) {str : Bool} {t u ty el : TypeId} {i : TypeInfo} {z : Value} {s y : AV} {s' y' : Value} (hr : HRel base e H w) (hs : DR e s s') (hy : DR e y y') (ht : P.underlying t = some (.slice el)) (hu : if str then P.underlying u = some .string else ∃ e', P.underlying u = some (.slice e')) (hi : P.info? el = some i) (hz : i.zero = some z)
    (h : appendSrc str H el i z s y = some (.val x H')) (hn : H'.next ≤ 2 ^ depth) : Does P base e w (do pure (.value (← Builtin.append_ #[t, u] ty #[s', y']))) x H' := by
  unfold appendSrc at h
  split at h
  · rename_i new n hrow
    cases hb : (isStrB y == str && Nat.blt 0 i.size && z.cells.size == i.size && Nat.blt i.bytes 100000 && Nat.blt n 100000 && new.all oneB) with
    | false => rw [hb] at h; cases h
    | true =>
      rw [hb] at h
      simp only [Bool.and_eq_true] at hb
      obtain ⟨⟨⟨⟨⟨b0, b1⟩, b2⟩, b3⟩, b4⟩, b5⟩ := hb
      have c2 : z.cells.size = i.size := by simpa using b2
      have hsrc : ∃ ys, DRL e new ys ∧ Src P i.size u y' n ys w := by
        cases str with
        | true =>
          refine rowOf_ok hr hy (.inr (by simpa using hu)) (fun _ => by simpa using hu) (fun hno => ?_) b5 hrow
          exfalso
          refine hno ?_
          unfold isStrB at b0
          split at b0
          · exact ⟨_, rfl⟩
          · cases b0
        | false =>
          have hu' : ∃ e', P.underlying u = some (.slice e') := by simpa using hu
          refine rowOf_ok hr hy (.inl hu') (fun ⟨s, hs⟩ => ?_) (fun _ => hu') b5 hrow
          rw [hs] at b0
          cases b0
      obtain ⟨ys, k1, k2⟩ := hsrc
      exact evAppend_ok hr hs k1 (app_src ht hi hz k2 c2 (blt_ok b3)) (blt_ok b1) (blt_ok b4) b5 h hn
  · cases h
theorem appendMade_ok (hT : TbOk P T) {t u ty el : TypeId} {k2 : IntKind} {i : TypeInfo} {z : Value} {s y : AV} {s' y' : Value} (hr : HRel base e H w) (hs : DR e s s') (hy : DR e y y') (ht : P.underlying t = some (.slice el)) (hu : P.underlying u = some (.int k2)) (hi : P.info? el = some i) (hz : i.zero = some z)
    (h : appendMade H el i z s y = some (.val x H')) (hn : H'.next ≤ 2 ^ depth) : Does P base e w (do pure (.value (← Builtin.append_ #[t, u] ty #[s', y']))) x H' := by
  unfold appendMade at h
  split at h
  · rename_i n hna
    obtain ⟨k, rfl⟩ := asNat_ok hy hna
    cases hb : (Nat.blt 0 i.size && Nat.blt i.bytes 100000 && Nat.blt n 100000 && z.cells.size == i.size && (repeatL (z.cells.toList.map .v) n).all oneB) with
    | false => rw [hb] at h; cases h
    | true =>
      rw [hb] at h
      simp only [Bool.and_eq_true] at hb
      obtain ⟨⟨⟨⟨b1, b2⟩, b3⟩, b4⟩, b5⟩ := hb
      have c4 : z.cells.size = i.size := by simpa using b4
      have hdr : DRL e (repeatL (z.cells.toList.map .v) n) (repeatV z.cells.toList n) := by rw [repeat_map]; exact DRL.flat _
      have hone : ∀ v ∈ repeatV z.cells.toList n, v.oneCell' = true := fun v hvm => by
        rw [repeat_map] at b5
        have := List.all_eq_true.1 b5 (.v v) (List.mem_map.2 ⟨v, hvm, rfl⟩)
        exact one_dr (e := e) (.v v) this
      exact evAppend_ok hr hs hdr (app_made ht hu hi hz c4 (blt_ok b1) (blt_ok b2) (blt_ok b3) hone) (blt_ok b1) (blt_ok b3) b5 h hn
  · cases h
theorem opAppend_ok (hT : TbOk P T) {ts : Array TypeId} {ty : TypeId} {s y : AV} {s' y' : Value} (hr : HRel base e H w) (hs : DR e s s') (hy : DR e y y') (h : opAppend T H ts s y = some (.val x H')) (hn : H'.next ≤ 2 ^ depth) :
    Does P base e w (do pure (.value (← Builtin.append_ ts ty #[s', y']))) x H' := by
  unfold opAppend at h
  split at h
  · rename_i t u hts
    have htt : ts = #[t, u] := Array.ext' hts
    subst htt
    split at h
    · rename_i el k ht hu
      split at h
      · rename_i i hi
        split at h
        · rename_i z hz
          exact appendMade_ok hT hr hs hy (und_ok hT ht) (und_ok hT hu) (hT.info _ _ hi) hz h hn
        · cases h
      · cases h
    · rename_i el e2 ht hu
      split at h
      · rename_i i hi
        split at h
        · rename_i z hz
          exact appendSrc_ok hT hr hs hy (und_ok hT ht) (by simpa using ⟨e2, und_ok hT hu⟩) (hT.info _ _ hi) hz h hn
        · cases h
      · cases h
    · rename_i el ht hu
      split at h
      · rename_i i hi
        split at h
        · rename_i z hz
          exact appendSrc_ok hT hr hs hy (und_ok hT ht) (by simpa using und_ok hT hu) (hT.info _ _ hi) hz h hn
        · cases h
      · cases h
    · cases h
  · cases h
theorem opLen_ok (hT : TbOk P T) {ts : Array TypeId} {ty : TypeId} {y : AV} {y' : Value} (hr : HRel base e H w) (hy : DR e y y') (h : opLen T H ts y = some (.val x H')) :
    Does P base e w (do pure (.value (← Builtin.len_ ts ty #[y']))) x H' := by
  unfold opLen at h
  split at h
  · rename_i t ht
    split at h
    · rename_i d hd
      split at h
      · rename_i n hln
        cases h
        refine does_value (r := .int .i64 (n : Int)) hr ?_ (.v _)
        have hu := run_undB hT hd w
        unfold lenOfB at hln
        split at hln
        · cases hln; cases hy; simp [Builtin.len_, ht, Sem.run_bind, hu, goInt]
        · cases hln; cases hy; simp [Builtin.len_, ht, Sem.run_bind, hu, goInt]
        · cases hln; cases hy; simp [Builtin.len_, ht, Sem.run_bind, hu, goInt]
        · cases hln; cases hy; simp [Builtin.len_, ht, Sem.run_bind, hu, goInt]
        · cases hln; cases hy; simp [Builtin.len_, ht, Sem.run_bind, hu, goInt]
        · split at hln
          · rename_i hg
            cases hln
            cases hy with
            | mp hb =>
              obtain ⟨-, es', h1, h2, -, -⟩ := map_at hr hb hg
              have hl := h2.length
              rw [List.length_map, List.length_map] at hl
              simp [Builtin.len_, ht, Sem.run_bind, hu, goInt, MapKept.run_getObj_map h1, hl]
          · cases hln
        · cases hln
      · cases h
    · cases h
  · cases h
theorem opCap_ok (hT : TbOk P T) {ts : Array TypeId} {ty : TypeId} {y : AV} {y' : Value} (hr : HRel base e H w) (hy : DR e y y') (h : opCap T H ts y = some (.val x H')) :
    Does P base e w (do pure (.value (← Builtin.cap_ ts ty #[y']))) x H' := by
  unfold opCap at h
  split at h
  · rename_i t ht
    split at h
    · rename_i el b off len n hd
      cases h
      cases hy with
      | slc hb hc hl =>
        rename_i g o z c
        have hcc : c = n := hc
        subst hcc
        exact does_value (r := .int .i64 (c : Int)) hr (by simp [Builtin.cap_, ht, Sem.run_bind, run_undB hT hd w, goInt]) (.v _)
    · cases h
  · cases h
end
end Ev
end Go.Proofs.YtgmhkjmnfafccaaGreatDoor
