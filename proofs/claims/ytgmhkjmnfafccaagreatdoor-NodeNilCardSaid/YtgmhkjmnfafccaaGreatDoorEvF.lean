/- The evaluator's operations are the model's: strings, slices of slices, maps. -/
import Derived.Test.YtgmhkjmnfafccaaGreatDoorEvE
import Derived.MapKept
namespace Go.Proofs.YtgmhkjmnfafccaaGreatDoor
open Go.RowKit
namespace Ev
set_option linter.unusedVariables false
section
variable {P : Program} {T : Tb} {base : Nat} {e : Env} {H H' : AH} {w : World} {x : AV}
theorem bytes_get {s : ByteArray} {i : Nat} {b : UInt8} (h : s.data.toList[i]? = some b) : s[i]? = some b := by
  have hlt : i < s.data.size := by
    have := (List.getElem?_eq_some_iff.1 h).1
    simpa using this
  have hlt' : i < s.size := hlt
  rw [getElem?_pos s i hlt']
  rw [Array.getElem?_toList, Array.getElem?_eq_getElem hlt] at h
  exact h
theorem opIndex_ok (hT : TbOk P T) {ev : Operand → AV} {op : Oper} {ρ : Operand → Value} {t : TypeId} {a b : Operand} (ho : op.op = .index t a b) (hr : HRel base e H w) (hop : ∀ y ∈ op.op.operands, DR e (ev y) (ρ y)) (ha : DR e (ev a) (ρ a)) (hb : DR e (ev b) (ρ b))
    (h : opIndex P T ev op t (ev a) (ev b) H = some (.val x H')) : Does P base e w (execOp ρ op) x H' := by
  unfold opIndex at h
  split at h
  · rename_i s i hs hi
    have hex : execOp ρ op = (do pure (.value (← Instr.index t (ρ a) (ρ b)))) := by unfold execOp; rw [ho]
    rw [hex]
    obtain ⟨k, hk⟩ := asNat_ok hb hi
    rw [hs] at ha
    rw [hk]
    generalize ρ a = ra at ha
    cases ha
    split at h
    · rename_i hu
      split at h
      · rename_i c hc
        cases h
        refine does_value (r := .int .u8 c.toNat) hr ?_ (.v _)
        have h2 := bytes_get hc
        simp [Instr.index, asIntOf, Sem.run_bind, run_undB hT hu w, h2]
      · cases h
    · cases h
  · rename_i l i hs hi
    have hex : execOp ρ op = (do pure (.value (← Instr.index t (ρ a) (ρ b)))) := by unfold execOp; rw [ho]
    rw [hex]
    obtain ⟨k, hk⟩ := asNat_ok hb hi
    rw [hs] at ha
    rw [hk]
    generalize ρ a = ra at ha
    cases ha with
    | agg hl =>
      rename_i xs
      split at h
      · rename_i n el hu
        split at h
        · rename_i z hagg hz
          cases hc : (Nat.blt i n && (i * z + z).ble l.length) with
          | false => rw [hc] at h; cases h
          | true =>
            rw [hc] at h
            cases h
            rw [Bool.and_eq_true] at hc
            have hin := of_eq_true ((Nat.blt_eq).symm.trans (eq_true hc.1))
            refine does_value (r := .agg (xs.toArray.extract (i * z) (i * z + z))) hr ?_ ?_
            · simp [Instr.index, asIntOf, Sem.run_bind, run_undB hT hu w, part, run_isAggB hT hagg w, run_sizeB hT hz w, hin]
            · have := mkAgg_dr ((hl.drop (i * z)).take z)
              have he : (xs.toArray.extract (i * z) (i * z + z)) = ((xs.drop (i * z)).take z).toArray := by
                simp [List.extract_toArray, List.extract_eq_take_drop]
              rw [he]
              exact this
        · rename_i z hagg hz
          cases hc : (Nat.blt i n && z == 1) with
          | false => rw [hc] at h; cases h
          | true =>
            rw [hc] at h
            rw [Bool.and_eq_true] at hc
            have hin := of_eq_true ((Nat.blt_eq).symm.trans (eq_true hc.1))
            have hz1 : z = 1 := by simpa using hc.2
            subst hz1
            cases hx : l[i]? with
            | none => rw [hx] at h; cases h
            | some v =>
              rw [hx] at h
              cases h
              obtain ⟨r, h1, h2⟩ := hl.get hx
              refine does_value (r := r) hr ?_ h2
              simp [Instr.index, asIntOf, Sem.run_bind, run_undB hT hu w, part, run_isAggB hT hagg w, run_sizeB hT hz w, hin, h1]
        · cases h
      · cases h
  · exact (flatOp_ok hr hop h).1
/-- An operand that may be left out. -/
inductive OR (e : Env) : Option AV → Option Value → Prop where
  | none : OR e none none
  | some {x : AV} {y : Value} : DR e x y → OR e (some x) (some y)
theorem bound_ok {y n : Nat} {v : AV} {v' : Value} {code : BoundsCode} (hv : DR e v v') (h : bound y v = some n) : n ≤ y ∧ ∀ y', n ≤ y' → (Instr.sliceBound v' y' code).run P w = .ok n w := by
  unfold bound at h
  split at h
  · rename_i m hm
    cases hb : m.ble y with
    | false => rw [hb] at h; cases h
    | true =>
      rw [hb] at h
      cases h
      obtain ⟨k, rfl⟩ := asNat_ok hv hm
      refine ⟨Nat.le_of_ble_eq_true hb, fun y' hy => ?_⟩
      simp [Instr.sliceBound, asIntOf, hy]
  · cases h
/-- The bounds of a slice's expression of two parts. -/
theorem bounds_ok {isS : Bool} {len room cap h l : Nat} {hiA loA : Option AV} {hi' lo' : Option Value} (hhi : OR e hiA hi') (hlo : OR e loA lo') (hlen : len ≤ cap) (hroom : room ≤ cap)
    (h1 : hiOf len room hiA = some h) (h2 : loOf h loA = some l) :
    (Instr.sliceBounds isS len cap lo' hi' none).run P w = .ok (l, h, cap) w ∧ l ≤ h ∧ h ≤ cap := by
  cases hhi with
  | none =>
    cases h1
    cases hlo with
    | none => cases h2; exact ⟨by simp [Instr.sliceBounds], Nat.zero_le _, hlen⟩
    | some hv =>
      obtain ⟨k1, k2⟩ := bound_ok (P := P) (w := w) (code := .sliceB) hv h2
      exact ⟨by simp [Instr.sliceBounds, k2 _ k1], k1, hlen⟩
  | some hu =>
    obtain ⟨m1, -⟩ := bound_ok (P := P) (w := w) (code := .sliceB) hu h1
    have m2 := fun code => (bound_ok (P := P) (w := w) (code := code) hu h1).2 cap (by omega)
    cases hlo with
    | none => cases h2; exact ⟨by simp [Instr.sliceBounds, m2], Nat.zero_le _, by omega⟩
    | some hv =>
      obtain ⟨k1, k2⟩ := bound_ok (P := P) (w := w) (code := .sliceB) hv h2
      exact ⟨by simp [Instr.sliceBounds, Sem.run_bind, m2, k2 _ k1], k1, by omega⟩
theorem strSlice_ok (hT : TbOk P T) {t : TypeId} {s : ByteArray} {loA hiA : Option AV} {lo' hi' : Option Value} (hr : HRel base e H w) (hu : T.und t = some .string) (hhi : OR e hiA hi') (hlo : OR e loA lo') (h : strSlice s loA hiA H = some (.val x H')) :
    Does P base e w (do pure (.value (← Instr.sliceAt t (.string s) lo' hi' none))) x H' := by
  unfold strSlice at h
  split at h
  · rename_i hh h1
    split at h
    · rename_i l h2
      cases h
      obtain ⟨k1, k2, k3⟩ := bounds_ok (P := P) (w := w) (isS := false) (cap := s.size) hhi hlo (Nat.le_refl _) (Nat.le_refl _) h1 h2
      refine does_value (r := .string (s.extract l hh)) hr ?_ (.v _)
      simp [Instr.sliceAt, Instr.slice, Sem.run_bind, run_undB hT hu w, k1]
    · cases h
  · cases h
theorem evSlice_ok (hT : TbOk P T) {t : TypeId} {y : AV} {y' : Value} {loA hiA : Option AV} {lo' hi' : Option Value} (hr : HRel base e H w) (hy : DR e y y') (hhi : OR e hiA hi') (hlo : OR e loA lo') (h : evSlice T H t y loA hiA none = some x) :
    Does P base e w (do pure (.value (← Instr.sliceAt t y' lo' hi' none))) x H := by
  unfold evSlice at h
  split at h
  · rename_i el b off len cap hu
    split at h
    · cases h
    · rename_i size hs
      cases hy with
      | slc hb hc hl =>
        rename_i g o z c
        dsimp only at h
        split at h
        · cases h
        · rename_i hh h1
          split at h
          · cases h
          · rename_i l h2
            have hsz := run_sizeB hT hs w
            have hroom : roomOf len cap ≤ c := by
              cases cap with
              | «at» c' =>
                have hcc : c = c' := hc
                show c' ≤ c
                omega
              | to s => exact hl
            obtain ⟨k1, k2, k3⟩ := bounds_ok (P := P) (w := w) (isS := true) hhi hlo hl hroom h1 h2
            have hrun : (Instr.sliceAt t (.slice (some ⟨g, o + off, none⟩) len c) lo' hi' none).run P w = .ok (.slice (if c = l then some ⟨g, o + off, none⟩ else some ⟨g, o + off + l * size, none⟩) (hh - l) (c - l)) w := by
              simp [Instr.sliceAt, Instr.slice, Sem.run_bind, run_undB hT hu w, k1, hsz, Addr.add_mid]
            refine does_value hr hrun ?_
            unfold sliceTo at h
            split at h
            · rename_i c'
              have hcc : c = c' := hc
              subst hcc
              cases hcl : (c == l) with
              | true =>
                rw [hcl] at h
                cases h
                have : c = l := by simpa using hcl
                rw [if_pos this]
                exact .slc hb (show c - l = 0 by omega) (by omega)
              | false =>
                rw [hcl] at h
                cases h
                have : c ≠ l := by simpa using hcl
                rw [if_neg this, Nat.add_assoc]
                exact .slc hb rfl (by omega)
            · rename_i s
              have hcs : o + off + c * s = z := hc
              cases hsz1 : (s == size) with
              | false => rw [hsz1] at h; cases h
              | true =>
                rw [hsz1] at h
                have hss : s = size := by simpa using hsz1
                subst hss
                dsimp only [cond_true] at h
                cases hcl : (l == 0 || Nat.blt l len) with
                | false =>
                  rw [hcl] at h
                  dsimp only [cond_false] at h
                  cases ht : (l == len && Nat.blt 0 s) with
                  | false => rw [ht] at h; cases h
                  | true =>
                    rw [ht] at h
                    cases h
                    rw [Bool.and_eq_true] at ht
                    have hll : l = len := by simpa using ht.1
                    have hs0 := of_eq_true ((Nat.blt_eq).symm.trans (eq_true ht.2))
                    subst hll
                    have hhh : hh - l = 0 := by
                      have : hh ≤ roomOf l (.to s) ∨ hh = l := by
                        unfold hiOf at h1
                        split at h1
                        · cases h1; exact .inr rfl
                        · unfold bound at h1
                          split at h1
                          · rename_i m _
                            cases hb2 : m.ble (roomOf l (.to s)) with
                            | false => rw [hb2] at h1; cases h1
                            | true => rw [hb2] at h1; cases h1; exact .inl (Nat.le_of_ble_eq_true hb2)
                          · cases h1
                      rcases this with h9 | h9
                      · have h9' : hh ≤ l := h9
                        omega
                      · omega
                    rw [hhh]
                    by_cases hcl2 : c = l
                    · rw [if_pos hcl2]
                      exact .tl hb ⟨c, hcs, hl, hs0, .inl ⟨hcl2, rfl, by omega⟩⟩
                    · rw [if_neg hcl2]
                      exact .tl hb ⟨c, hcs, hl, hs0, .inr ⟨hcl2, rfl, rfl⟩⟩
                | true =>
                rw [hcl] at h
                cases h
                rw [Bool.or_eq_true] at hcl
                have hcp : CpR o z (off + l * s) (c - l) (.to s) := by
                  show o + (off + l * s) + (c - l) * s = z
                  rw [Nat.sub_mul]
                  have := Nat.mul_le_mul_right s (show l ≤ c by omega)
                  omega
                rcases hcl with hl0 | hll
                · have hl0' : l = 0 := by simpa using hl0
                  subst hl0'
                  have : (if c = 0 then some (⟨g, o + off, none⟩ : Addr) else some ⟨g, o + off + 0 * s, none⟩) = some ⟨g, o + (off + 0 * s), none⟩ := by
                    rw [Nat.zero_mul, Nat.add_zero, Nat.add_zero]
                    split <;> rfl
                  rw [this]
                  exact .slc hb hcp (by omega)
                · have hll' := of_eq_true ((Nat.blt_eq).symm.trans (eq_true hll))
                  rw [if_neg (by omega), Nat.add_assoc]
                  exact .slc hb hcp (by omega)
  · cases h
end
end Ev
end Go.Proofs.YtgmhkjmnfafccaaGreatDoor
