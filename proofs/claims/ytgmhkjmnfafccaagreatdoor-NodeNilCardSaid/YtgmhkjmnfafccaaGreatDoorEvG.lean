/- The evaluator's operations are the model's: three-part slices, maps, builtins. -/
import Derived.Test.YtgmhkjmnfafccaaGreatDoorEvF
import Derived.Laws.IdiomStrings
import Derived.Deep.AppendSrc
namespace Go.Proofs.YtgmhkjmnfafccaaGreatDoor
open Go.RowKit
namespace Ev
set_option linter.unusedVariables false
section
variable {P : Program} {T : Tb} {base : Nat} {e : Env} {H H' : AH} {w : World} {x : AV}
theorem evSlice3_ok (hT : TbOk P T) {t : TypeId} {y m : AV} {y' m' : Value} {loA hiA : Option AV} {lo' hi' : Option Value} (hr : HRel base e H w) (hy : DR e y y') (hhi : OR e hiA hi') (hlo : OR e loA lo') (hm : DR e m m') (h : evSlice T H t y loA hiA (some m) = some x) :
    Does P base e w (do pure (.value (← Instr.sliceAt t y' lo' hi' (some m')))) x H := by
  unfold evSlice at h
  split at h
  · rename_i el b off len cap hu
    split at h
    · cases h
    · rename_i size hs
      cases hy with
      | slc hb hc hl =>
        rename_i g o z c
        dsimp only at h
        split at h
        · rename_i hv mn hbm
          split at h
          · rename_i hh h1
            split at h
            · rename_i l h2
              have hsz := run_sizeB hT hs w
              have hroom : roomOf len cap ≤ c := by
                cases cap with
                | «at» c' =>
                  have hcc : c = c' := hc
                  show c' ≤ c
                  omega
                | to s => exact hl
              cases hhi with
              | @some _ hvy hvv =>
                obtain ⟨m1, -⟩ := bound_ok (P := P) (w := w) (code := .slice3Acap) hm hbm
                have m2 := (bound_ok (P := P) (w := w) (code := .slice3Acap) hm hbm).2 c (by omega)
                obtain ⟨n1, -⟩ := bound_ok (P := P) (w := w) (code := .slice3B) hvv h1
                have n2 := (bound_ok (P := P) (w := w) (code := .slice3B) hvv h1).2 mn n1
                have key : (Instr.sliceBounds true len c lo' (some hvy) (some m')).run P w = .ok (l, hh, mn) w ∧ l ≤ hh := by
                  cases hlo with
                  | none => cases h2; exact ⟨by simp [Instr.sliceBounds, Sem.run_bind, m2, n2], Nat.zero_le _⟩
                  | some hlv =>
                    obtain ⟨k1, -⟩ := bound_ok (P := P) (w := w) (code := .slice3C) hlv h2
                    have k2 := (bound_ok (P := P) (w := w) (code := .slice3C) hlv h2).2 hh k1
                    exact ⟨by simp [Instr.sliceBounds, Sem.run_bind, m2, n2, k2], k1⟩
                obtain ⟨k1, k3⟩ := key
                have hrun : (Instr.sliceAt t (.slice (some ⟨g, o + off, none⟩) len c) lo' (some hvy) (some m')).run P w = .ok (.slice (if mn = l then some ⟨g, o + off, none⟩ else some ⟨g, o + off + l * size, none⟩) (hh - l) (mn - l)) w := by
                  simp [Instr.sliceAt, Instr.slice, Sem.run_bind, run_undB hT hu w, k1, hsz, Addr.add_mid]
                refine does_value hr hrun ?_
                cases hcl : (mn == l) with
                | true =>
                  rw [hcl] at h
                  cases h
                  have : mn = l := by simpa using hcl
                  rw [if_pos this]
                  exact .slc hb (show mn - l = 0 by omega) (by omega)
                | false =>
                  rw [hcl] at h
                  cases h
                  have : mn ≠ l := by simpa using hcl
                  rw [if_neg this, Nat.add_assoc]
                  exact .slc hb rfl (by omega)
            · cases h
          · cases h
        · cases h
  · cases h

/-! ### maps -/
theorem opConvert_ok (hT : TbOk P T) {ev : Operand → AV} {op : Oper} {ρ : Operand → Value} {sr d : TypeId} {y : Operand} (ho : op.op = .convert sr d y) (hr : HRel base e H w) (hop : ∀ y ∈ op.op.operands, DR e (ev y) (ρ y)) (hy : DR e (ev y) (ρ y)) (h : opConvert P T ev op sr d (ev y) H = some (.val x H')) (hn : H'.next ≤ 2 ^ depth) :
    Does P base e w (execOp ρ op) x H' := by
  unfold opConvert at h
  split at h
  · rename_i s el hs hd
    have hex : execOp ρ op = (do pure (.value (← convert sr d (ρ y)))) := by unfold execOp; rw [ho]
    rw [hex]
    rw [hs] at hy
    generalize ρ y = y' at hy
    cases hy
    split at h
    · rename_i hsr hel
      cases h
      have hrun := run_bytes_of_string w sr d el s (und_ok hT hsr) (und_ok hT hd) (und_ok hT hel)
      have hge := grownCap_ge w s.size 0 el
      generalize grownCap w s.size 0 el = nc at hrun hge
      have hsz : (bytesRow s nc).size = nc := by
        unfold bytesRow
        rw [Array.size_append, Array.size_map, Array.size_replicate]
        have : s.data.size = s.size := rfl
        omega
      have hll : (s.data.toList.map fun b => AV.v (Value.int .u8 b.toNat)).length = s.size := by
        rw [List.length_map]
        rfl
      obtain ⟨h1, h2⟩ := alloc_ok hr.drew (.froz (s.data.toList.map fun b => .v (.int .u8 b.toNat))) hn (.cells (bytesRow s nc) el ((bytesRow s nc).size, (bytesRow s nc).size + 1)) 0 (bytesRow s nc).size
        ⟨_, el, _, heap_alloc_new w.drew _, rfl, by rw [hll, hsz]; omega, by
          rw [List.drop_zero, hll]
          have : (bytesRow s nc).toList.take s.size = s.data.toList.map fun b => Value.int .u8 b.toNat := by
            unfold bytesRow
            rw [Array.toList_append, Array.toList_map, List.take_left' (by rw [List.length_map]; rfl)]
          rw [this]
          exact DRL.map _ fun b _ => .v _⟩
      refine ⟨_, _, .value (.slice (some ⟨w.heap.size, 0 + 0, none⟩) s.size nc), _, new_le hr.drew _, by simp only [Sem.run_bind, hrun, Result.andThen_ok]; rfl, .inl rfl, .slc (g := w.heap.size) (o := 0) (z := (bytesRow s nc).size) (by unfold Env.new; rw [if_pos rfl]; rfl) ?_ hge, h1, ((Below.refl _ _).drew).trans h2⟩
      show 0 + 0 + nc * 1 = (bytesRow s nc).size
      rw [hsz]
      omega
    · cases h
  · exact (flatOp_ok hr hop h).1
theorem bytes_beq (a b : ByteArray) : (a == b) = (a.data.toList == b.data.toList) := by
  have h0 : (a == b) = (a.data == b.data) := by cases a; cases b; rfl
  rw [h0, Bool.eq_iff_iff]
  simp only [beq_iff_eq]
  exact ⟨fun h => by rw [h], fun h => Array.ext' h⟩
theorem keyOf_ok {d0 d : TypeDesc} {k : Value} (h : keyOf d0 k = some d) : d0 = d ∧ ((∃ s, d = .string ∧ k = .string s) ∨ ∃ j n, d = .int j ∧ k = .int j n) := by
  unfold keyOf at h
  split at h
  · rename_i s
    cases h
    exact ⟨rfl, .inl ⟨s, rfl, rfl⟩⟩
  · rename_i j k2 n
    cases hs : sameKind j k2 with
    | false => rw [hs] at h; cases h
    | true =>
      rw [hs] at h
      cases h
      have := sameKind_eq hs
      subst this
      exact ⟨rfl, .inr ⟨j, n, rfl, rfl⟩⟩
  · cases h
theorem keyB_ok {kt : TypeId} {k : Value} {d : TypeDesc} (hk : keyB T kt k = some d) : T.und kt = some d ∧ ((∃ s, d = .string ∧ k = .string s) ∨ ∃ j n, d = .int j ∧ k = .int j n) := by
  unfold keyB at hk
  split at hk
  · rename_i d0 hu
    obtain ⟨h1, h2⟩ := keyOf_ok hk
    rw [hu, h1]
    exact ⟨rfl, h2⟩
  · cases hk
theorem sameB_ok {kt : TypeId} {k k' : Value} {d : TypeDesc} {b : Bool} (hk : keyB T kt k = some d) (h : sameB k k' = some b) : Instr.sameNow d k k' = some b := by
  rcases (keyB_ok hk).2 with ⟨s, rfl, rfl⟩ | ⟨j, n, rfl, rfl⟩
  · cases k' <;> first
      | (cases h; done)
      | (rename_i s2
         cases h
         show some (s == s2) = _
         rw [bytes_beq])
  · cases k' <;> first
      | (cases h; done)
      | (rename_i j2 n2
         have h' : (bif sameKind j j2 then some (n == n2) else none) = some b := h
         cases hs : sameKind j j2 with
         | false => rw [hs] at h'; cases h'
         | true =>
           rw [hs] at h'
           cases h'
           have := sameKind_eq hs
           subst this
           simp [Instr.sameNow])
theorem find_ok {kt : TypeId} {k : Value} {d : TypeDesc} (hk : keyB T kt k = some d) : ∀ (es : List (AV × AV × Nat)) (es' : List MapEntry) (i : Nat) (r : Option (Nat × AV)), findB k es i = some r → DRL e (es.map (·.1)) (es'.map (·.key)) → DRL e (es.map (·.2.1)) (es'.map (·.val)) →
    ∃ r', Instr.findNow d k es' i = some r' ∧ (r = none ∧ r' = none ∨ ∃ j y y', r = some (j, y) ∧ r' = some (j, y') ∧ DR e y y' ∧ (∃ en, es'[j - i]? = some en ∧ Instr.sameNow d k en.key = some true) ∧ i ≤ j)
  | [], es', i, r, h, h1, h2 => by
    cases h
    cases es' with
    | nil => exact ⟨none, rfl, .inl ⟨rfl, rfl⟩⟩
    | cons _ _ => cases h1
  | (ka, y, n) :: es, es', i, r, h, h1, h2 => by
    cases es' with
    | nil => cases h1
    | cons en es' =>
      cases h1 with
      | cons hk1 h1 =>
        cases h2 with
        | cons hy h2 =>
          have hk1' : DR e ka en.key := hk1
          have hy' : DR e y en.val := hy
          unfold findB at h
          cases ka with
          | v kv =>
            have hkey : en.key = kv := by
              generalize en.key = q at hk1'
              cases hk1'
              rfl
            dsimp only at h
            cases hs : sameB k kv with
            | none => rw [hs] at h; cases h
            | some b =>
              rw [hs] at h
              have hn := sameB_ok hk hs
              rw [← hkey] at hn
              cases b with
              | true =>
                cases h
                refine ⟨some (i, en.val), by unfold Instr.findNow; rw [hn], .inr ⟨i, y, en.val, rfl, rfl, hy', ⟨en, by rw [Nat.sub_self]; rfl, hn⟩, Nat.le_refl _⟩⟩
              | false =>
                obtain ⟨r', k1, k2⟩ := find_ok hk es es' (i + 1) r h h1 h2
                refine ⟨r', by unfold Instr.findNow; rw [hn]; exact k1, ?_⟩
                rcases k2 with k2 | ⟨j, y1, y2, m1, m2, m3, ⟨en2, m4, m5⟩, m6⟩
                · exact .inl k2
                · refine .inr ⟨j, y1, y2, m1, m2, m3, ⟨en2, ?_, m5⟩, by omega⟩
                  rw [show j - i = (j - (i + 1)) + 1 by omega]
                  exact m4
          | _ => cases h
theorem key_und (hT : TbOk P T) {kt : TypeId} {k : Value} {d : TypeDesc} (hk : keyB T kt k = some d) : P.underlying kt = some d ∧ MapKept.IsKey d k := by
  obtain ⟨h1, h2⟩ := keyB_ok hk
  refine ⟨und_ok hT h1, ?_⟩
  rcases h2 with ⟨s, rfl, rfl⟩ | ⟨j, n, rfl, rfl⟩
  · trivial
  · rfl
end
end Ev
end Go.Proofs.YtgmhkjmnfafccaaGreatDoor
