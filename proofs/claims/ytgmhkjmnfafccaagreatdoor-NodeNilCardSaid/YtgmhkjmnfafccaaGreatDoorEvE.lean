/- The evaluator's operations are the model's: structs' and slices' literals, strings, slices of slices, maps. -/
import Derived.Test.YtgmhkjmnfafccaaGreatDoorEvD
import Derived.Great.FillDense
import Derived.Great.BuildSlice
import Derived.Laws.Tables
import Derived.IntWalk
namespace Go.Proofs.YtgmhkjmnfafccaaGreatDoor
open Go.RowKit
namespace Ev
set_option linter.unusedVariables false
section
variable {P : Program} {T : Tb} {base : Nat} {e : Env} {H H' : AH} {w : World} {x : AV}
theorem DRL.of_get : ∀ {l : List AV} {ys : List Value}, ys.length = l.length → (∀ (i : Nat) (x : AV) (y : Value), l[i]? = some x → ys[i]? = some y → DR e x y) → DRL e l ys
  | [], [], _, _ => .nil
  | x :: l, y :: ys, h, hx => .cons (hx 0 x y rfl rfl) (DRL.of_get (by simpa using h) fun i a b ha hb => hx (i + 1) a b ha hb)
  | [], _ :: _, h, _ => by simp at h
  | _ :: _, [], h, _ => by simp at h
/-- The parts of a struct or an array are laid over its zero. -/
theorem fill_ok {place : Nat → Option (Nat × Nat)} : ∀ (parts : List (Nat × AV)) (parts' : List (Nat × Value)) (cells : List AV) (cells' : Array Value) (cs : List AV), fillB place cells parts = some cs → DRL e cells cells'.toList →
    parts.map (·.1) = parts'.map (·.1) → DRL e (parts.map (·.2)) (parts'.map (·.2)) → ∃ r, Instr.fill place cells' parts' = some r ∧ DRL e cs r.toList
  | [], [], cells, cells', cs, h, hc, _, _ => by
    cases h
    exact ⟨_, rfl, hc⟩
  | [], _ :: _, _, _, _, _, _, h1, _ => by simp at h1
  | _ :: _, [], _, _, _, _, _, h1, _ => by simp at h1
  | (i, v) :: parts, (i', v') :: parts', cells, cells', cs, h, hc, h1, h2 => by
    rw [List.map_cons, List.map_cons] at h1 h2
    injection h1 with hi h1
    have hi' : i = i' := hi
    subst hi'
    cases h2 with
    | cons hv h2 =>
      have hv' : DR e v v' := hv
      have hcv := cells_dr hv'
      unfold fillB at h
      unfold Instr.fill
      cases hp : place i with
      | none => rw [hp] at h; cases h
      | some os =>
        obtain ⟨off, size⟩ := os
        rw [hp] at h
        dsimp only at h ⊢
        cases hb : (v.cells.length == size && (off + size).ble cells.length) with
        | false => rw [hb] at h; cases h
        | true =>
          rw [hb, cond_true] at h
          rw [Bool.and_eq_true] at hb
          have e1 : v.cells.length = size := by simpa using hb.1
          have e2 := Nat.le_of_ble_eq_true hb.2
          have e3 : v'.cells.size = size := by rw [← e1, ← hcv.length]; simp
          have e4 : cells'.size = cells.length := by rw [← hc.length]; simp
          rw [if_neg (by simp only [Bool.or_eq_true, decide_eq_true_eq, ne_eq]; omega)]
          refine fill_ok parts parts' _ _ cs h ?_ h1 h2
          rw [← Array.foldl_toList, Array.toList_zipIdx]
          obtain ⟨k1, k2⟩ := Great.foldl_set off v'.cells.toList 0 cells'
          refine DRL.of_get ?_ fun j a b ha hbb => ?_
          · rw [Array.length_toList, k1, e4, List.length_append, List.length_append, List.length_take, List.length_drop]
            omega
          · rw [Array.getElem?_toList, k2 j] at hbb
            by_cases hin : off + 0 ≤ j ∧ j < off + 0 + v'.cells.toList.length ∧ j < cells'.size
            · rw [if_pos hin] at hbb
              rw [Array.length_toList, e3] at hin
              rw [List.getElem?_append_right (by rw [List.length_take]; omega), List.length_take, Nat.min_eq_left (by omega), List.getElem?_append_left (by omega)] at ha
              obtain ⟨y, g1, g2⟩ := hcv.get ha
              rw [Nat.add_zero, g1] at hbb
              cases hbb
              exact g2
            · rw [if_neg hin] at hbb
              rw [Array.length_toList, e3] at hin
              have hjlt : j < cells.length := by
                have := (Array.getElem?_eq_some_iff.1 hbb).1
                omega
              have ha' : cells[j]? = some a := by
                by_cases hj : j < off
                · rw [List.getElem?_append_left (by rw [List.length_take]; omega), List.getElem?_take, if_pos hj] at ha
                  exact ha
                · rw [List.getElem?_append_right (by rw [List.length_take]; omega), List.length_take, Nat.min_eq_left (by omega), List.getElem?_append_right (by omega), List.getElem?_drop] at ha
                  rw [← ha]
                  congr 1
                  omega
              obtain ⟨y, g1, g2⟩ := hc.get ha'
              rw [Array.getElem?_toList, hbb] at g1
              cases g1
              exact g2
theorem places_ok (hT : TbOk P T) : ∀ {fs : List Field} {pl : List (Nat × Nat)}, placesB T fs = some pl → fs.mapM (fun f => (P.info? f.type).map fun i => (f.offset, i.size)) = some pl
  | [], pl, h => by cases h; rfl
  | f :: fs, pl, h => by
    unfold placesB at h
    split at h
    · rename_i s l hs hl
      cases h
      have h1 := size_ok hT hs
      have h2 := places_ok hT hl
      cases hi : P.info? f.type with
      | none => rw [hi] at h1; cases h1
      | some i =>
        rw [hi] at h1
        cases h1
        simp [List.mapM_cons, hi, h2]
    · cases h
theorem parts_dr {ev : Operand → AV} {ρ : Operand → Value} (parts : Array (Nat × Operand)) (h : ∀ p ∈ parts.toList, DR e (ev p.2) (ρ p.2)) :
    (partsB ev parts).map (·.1) = (parts.map fun (i, x) => (i, ρ x)).toList.map (·.1) ∧ DRL e ((partsB ev parts).map (·.2)) ((parts.map fun (i, x) => (i, ρ x)).toList.map (·.2)) := by
  unfold partsB
  rw [Array.toList_map, List.map_map, List.map_map, List.map_map, List.map_map]
  refine ⟨rfl, ?_⟩
  exact DRL.map _ h
theorem opBuild_ok (hT : TbOk P T) {ev : Operand → AV} {ρ : Operand → Value} {t : TypeId} {parts : Array (Nat × Operand)} (hr : HRel base e H w) (hp : ∀ p ∈ parts.toList, DR e (ev p.2) (ρ p.2)) (h : opBuild T t (partsB ev parts) H = some (.val x H')) :
    Does P base e w (do pure (.value (← Instr.build t (parts.map fun (i, x) => (i, ρ x))))) x H' := by
  obtain ⟨q1, q2⟩ := parts_dr (e := e) parts hp
  unfold opBuild at h
  split at h
  · cases h
  · rename_i zl hz
    obtain ⟨z, hz1, rfl⟩ := run_zeroB hT hz
    have hzi : ∃ i, P.info? t = some i ∧ i.zero = some z := by
      have := hz1 w
      cases hi : P.info? t with
      | none => simp [zeroValue, typeInfo, Sem.run_bind, hi, stuck] at this
      | some i =>
        refine ⟨i, rfl, ?_⟩
        cases hzz : i.zero with
        | none => simp [zeroValue, typeInfo, Sem.run_bind, hi, hzz, unsupported] at this
        | some z' =>
          simp [zeroValue, typeInfo, Sem.run_bind, hi, hzz] at this
          rw [this]
    obtain ⟨it, hi1, hi2⟩ := hzi
    split at h
    · rename_i fs hu
      split at h
      · rename_i pl hpl
        split at h
        · rename_i cs hcs
          cases h
          obtain ⟨r, r1, r2⟩ := fill_ok (e := e) _ _ _ z.cells cs hcs (DRL.flat _) q1 q2
          have hb : P.built t (parts.map fun (i, x) => (i, ρ x)).toList = some r := by
            unfold Program.built
            rw [hi1, und_ok hT hu]
            dsimp only
            rw [hi2, places_ok hT hpl]
            dsimp only
            rw [← r1]
            congr 1
            funext i
            simp
          exact does_value hr (run_build w t _ r hb) (by have := mkAgg_dr r2; simpa using this)
        · cases h
      · cases h
    · rename_i n el hu
      split at h
      · rename_i size hs
        split at h
        · rename_i cs hcs
          cases h
          obtain ⟨r, r1, r2⟩ := fill_ok (e := e) _ _ _ z.cells cs hcs (DRL.flat _) q1 q2
          have hsz := size_ok hT hs
          have hb : P.built t (parts.map fun (i, x) => (i, ρ x)).toList = some r := by
            unfold Program.built
            rw [hi1, und_ok hT hu]
            dsimp only
            rw [hi2]
            cases hie : P.info? el with
            | none => rw [hie] at hsz; cases hsz
            | some ie =>
              rw [hie] at hsz
              cases hsz
              exact r1
          exact does_value hr (run_build w t _ r hb) (by have := mkAgg_dr r2; simpa using this)
        · cases h
      · cases h
    · cases h
def repeatV (z : List Value) : Nat → List Value
  | 0 => []
  | n + 1 => z ++ repeatV z n
theorem repeat_map (z : List Value) : ∀ n, repeatL (z.map .v) n = (repeatV z n).map .v
  | 0 => rfl
  | n + 1 => by
    show z.map .v ++ repeatL (z.map .v) n = (z ++ repeatV z n).map .v
    rw [repeat_map z n, List.map_append]
theorem repeat_get (z : List Value) (hz : 0 < z.length) : ∀ n i, (repeatV z n)[i]? = if i < n * z.length then z[i % z.length]? else none
  | 0, i => by simp [repeatV]
  | n + 1, i => by
    show (z ++ repeatV z n)[i]? = _
    by_cases hi : i < z.length
    · rw [List.getElem?_append_left hi, if_pos (by rw [Nat.add_mul]; omega), Nat.mod_eq_of_lt hi]
    · rw [List.getElem?_append_right (by omega), repeat_get z hz n]
      have hmod : (i - z.length) % z.length = i % z.length := by
        conv => rhs; rw [show i = i - z.length + z.length by omega]
        rw [Nat.add_mod_right]
      rw [hmod]
      by_cases h2 : i - z.length < n * z.length
      · rw [if_pos h2, if_pos (by rw [Nat.add_mul]; omega)]
      · rw [if_neg h2, if_neg (by rw [Nat.add_mul]; omega)]
theorem repeat_range (z : Array Value) (hz : 0 < z.size) (n : Nat) : ((Array.range (n * z.size)).map (z[· % z.size]!)).toList = repeatV z.toList n := by
  apply List.ext_getElem?
  intro i
  rw [repeat_get _ (by simpa using hz), Array.length_toList, Array.toList_map, List.getElem?_map]
  have hlt : i % z.size < z.size := Nat.mod_lt _ hz
  by_cases hi : i < n * z.size
  · rw [if_pos hi]
    simp [hi, hlt]
  · rw [if_neg hi]
    simp [hi]
theorem opBuildSlice_ok (hT : TbOk P T) {ev : Operand → AV} {ρ : Operand → Value} {t : TypeId} {len : Nat} {parts : Array (Nat × Operand)} (hr : HRel base e H w) (hp : ∀ p ∈ parts.toList, DR e (ev p.2) (ρ p.2)) (h : opBuildSlice T t len (partsB ev parts) H = some (.val x H')) (hn : H'.next ≤ 2 ^ depth) :
    Does P base e w (do pure (.value (← Instr.buildSlice t len (parts.map fun (i, x) => (i, ρ x))))) x H' := by
  obtain ⟨q1, q2⟩ := parts_dr (e := e) parts hp
  unfold opBuildSlice at h
  split at h
  · rename_i el hu
    cases hlen : (len == 0) with
    | true =>
      rw [hlen] at h
      dsimp only [cond_true] at h
      have hl0 : len = 0 := by simpa using hlen
      subst hl0
      unfold opEmptySlice at h
      split at h
      · rename_i s0 hs0
        cases hpb : (partsB ev parts).isEmpty with
        | false => rw [hpb] at h; cases h
        | true =>
          rw [hpb] at h
          cases h
          have hpe : parts.toList = [] := by
            unfold partsB at hpb
            simpa using hpb
          obtain ⟨e', w', k1, k2, k3, k4, k5⟩ := newRow_ok (P := P) (l := []) (ys := []) (more := []) el hr hn .nil
          refine ⟨e', w', _, _, k1, ?_, .inl rfl, .slc k3 rfl (by omega), k4, k5⟩
          have hpa : parts = #[] := Array.ext' hpe
          subst hpa
          have k2' : (newRow el (Array.map (fun _ => (default : Value)) (Array.range 0))).run P w = .ok ⟨w.heap.size, 0, none⟩ w' := by rw [show Array.map (fun _ => (default : Value)) (Array.range 0) = #[] by simp]; exact k2
          simp [Instr.buildSlice, Sem.run_bind, run_undB hT hu w, run_sizeB hT hs0 w, Instr.fill, k2']
      · cases h
    | false =>
    rw [hlen] at h
    dsimp only [cond_false] at h
    unfold opFullSlice at h
    split at h
    · rename_i size zl hs hz
      split at h
      · rename_i cs hcs
        cases hb : (zl.length == size && Nat.blt (len * size) 100000 && Nat.blt 0 (len * size)) with
        | false => rw [hb] at h; cases h
        | true =>
          rw [hb] at h
          cases h
          rw [Bool.and_eq_true, Bool.and_eq_true] at hb
          obtain ⟨⟨b1, b2⟩, b3⟩ := hb
          have c1 : zl.length = size := by simpa using b1
          have c2 := of_eq_true ((Nat.blt_eq).symm.trans (eq_true b2))
          have c3 := of_eq_true ((Nat.blt_eq).symm.trans (eq_true b3))
          obtain ⟨z, hz1, rfl⟩ := run_zeroB hT hz
          rw [List.length_map, Array.length_toList] at c1
          have hpos : 0 < z.cells.size := by
            rw [c1]
            exact Nat.pos_of_ne_zero fun h0 => by rw [h0, Nat.mul_zero] at c3; omega
          have hzr := repeat_range z.cells hpos len
          rw [c1] at hzr
          obtain ⟨r, r1, r2⟩ := fill_ok (e := e) _ _ _ ((Array.range (len * size)).map (z.cells[· % size]!)) cs hcs (by rw [hzr, repeat_map]; exact DRL.flat _) q1 q2
          obtain ⟨e', w', k1, k2, k3, k4, k5⟩ := newRow_ok (P := P) (more := []) el hr hn r2
          rw [List.append_nil, Array.toArray_toList] at k2
          refine ⟨e', w', _, _, k1, ?_, .inl rfl, .slc k3 rfl (by omega), k4, k5⟩
          have hne : ¬ len * size = 0 := by omega
          have hsm : ¬ len * size > 2 ^ 24 := by omega
          simp only [Instr.buildSlice, Sem.run_bind, run_undB hT hu w, Result.andThen_ok, run_sizeB hT hs w, hne, hsm, if_false, hz1 w, Sem.run_pure, c1, r1, k2]
      · cases h
    · cases h
  · cases h
theorem opMakeSlice_ok (hT : TbOk P T) {t : TypeId} {l c : AV} {l' c' : Value} (hr : HRel base e H w) (hl : DR e l l') (hc : DR e c c') (h : opMakeSlice T t l c H = some (.val x H')) (hn : H'.next ≤ 2 ^ depth) :
    Does P base e w (do pure (.value (← Instr.makeSlice t l' c'))) x H' := by
  unfold opMakeSlice at h
  split at h
  · rename_i el ln cn hu hln hcn
    obtain ⟨k1, rfl⟩ := asNat_ok hl hln
    obtain ⟨k2, rfl⟩ := asNat_ok hc hcn
    split at h
    · rename_i i hi
      have hie := hT.info _ _ hi
      split at h
      · rename_i z hz
        cases hb : (ln.ble cn && Nat.blt cn 100000 && Nat.blt i.bytes 100000 && z.cells.size == i.size && Nat.blt 0 i.size) with
        | false => rw [hb] at h; cases h
        | true =>
          rw [hb] at h
          cases h
          simp only [Bool.and_eq_true] at hb
          obtain ⟨⟨⟨⟨b1, b2⟩, b3⟩, b4⟩, b5⟩ := hb
          have c1 := Nat.le_of_ble_eq_true b1
          have c2 := of_eq_true ((Nat.blt_eq).symm.trans (eq_true b2))
          have c3 := of_eq_true ((Nat.blt_eq).symm.trans (eq_true b3))
          have c4 : z.cells.size = i.size := by simpa using b4
          have c5 := of_eq_true ((Nat.blt_eq).symm.trans (eq_true b5))
          have w1 : IntKind.i64.wrap (ln : Int) = (ln : Int) := IntWalk.i64_in _ (by omega)
          have w2 : IntKind.i64.wrap (cn : Int) = (cn : Int) := IntWalk.i64_in _ (by omega)
          have hzr := repeat_range z.cells (by omega) cn
          rw [c4] at hzr
          obtain ⟨e', w', k1, k2, k3, k4, k5⟩ := newRow_ok (P := P) (more := []) el hr hn (DRL.flat (e := e) (repeatV z.cells.toList cn))
          rw [List.append_nil, ← hzr, Array.toArray_toList] at k2
          rw [← repeat_map] at k4
          refine ⟨e', w', _, _, k1, ?_, .inl rfl, .slc k3 rfl (by omega), k4, k5⟩
          have hmul : (i.bytes : Int) * (cn : Int) ≤ 2 ^ 48 := by
            have : i.bytes * cn ≤ 100000 * 100000 := Nat.mul_le_mul (Nat.le_of_lt c3) (Nat.le_of_lt c2)
            have h2 : ((i.bytes * cn : Nat) : Int) ≤ ((100000 * 100000 : Nat) : Int) := Int.ofNat_le.2 this
            rw [Int.natCast_mul] at h2
            omega
          have hroom : (askRoom (cn * i.bytes)).run P w = .ok () w := by
            unfold askRoom
            split <;> rfl
          have hn1 : ¬ ((cn : Int) < 0) := by omega
          have hn2 : ¬ ((i.bytes : Int) * (cn : Int) > 2 ^ 48) := by omega
          have hn3 : ¬ ((ln : Int) < 0) := by omega
          have hn4 : ¬ ((ln : Int) > (cn : Int)) := by omega
          have hsz : (sizeOf el).run P w = .ok i.size w := by simp [sizeOf, typeInfo, Sem.run_bind, hie]
          have hzv : (zeroValue el).run P w = .ok z w := by simp [zeroValue, typeInfo, Sem.run_bind, hie, hz]
          have hti : (typeInfo el).run P w = .ok i w := by simp [typeInfo, Sem.run_bind, hie]
          have hcond : (decide ((cn : Int) < 0) || decide ((i.bytes : Int) * (cn : Int) > 2 ^ 48) || decide ((ln : Int) < 0) || decide ((ln : Int) > (cn : Int))) = false := by simp only [hn1, hn2, hn3, hn4, decide_false, Bool.or_self]
          by_cases h0 : cn = 0
          · subst h0
            have hln0 : ln = 0 := by omega
            subst hln0
            rw [Nat.zero_mul] at k2 hroom
            have k2' : (newRow el (Array.map (fun _ => (default : Value)) (Array.range 0))).run P w = .ok ⟨w.heap.size, 0, none⟩ w' := by
              rw [show Array.map (fun _ => (default : Value)) (Array.range 0) = Array.map (z.cells[· % i.size]!) (Array.range 0) by simp]
              exact k2
            simp only [Instr.makeSlice, Sem.run_bind, run_undB hT hu w, Result.andThen_ok, asInt, asIntOf, Sem.run_pure, hti, w1, hcond]
            simp [Sem.run_bind, hroom, hsz, k2']
          · have hpos : ¬ cn * i.size = 0 := by
              have := Nat.mul_pos (Nat.pos_of_ne_zero h0) c5
              omega
            simp only [Instr.makeSlice, Sem.run_bind, run_undB hT hu w, Result.andThen_ok, asInt, asIntOf, Sem.run_pure, hti, w1, w2, hcond]
            simp only [Bool.false_eq_true, if_false, Sem.run_bind, Int.toNat_natCast, hroom, Result.andThen_ok, hsz, hpos, hzv, Sem.run_pure, c4, k2]
      · cases h
    · cases h
  · cases h
end
end Ev
end Go.Proofs.YtgmhkjmnfafccaaGreatDoor
