/- The evaluator's operations are the model's: the builtins, ranges. -/
import Derived.Test.YtgmhkjmnfafccaaGreatDoorEvI
namespace Go.Proofs.YtgmhkjmnfafccaaGreatDoor
open Go.RowKit
namespace Ev
set_option linter.unusedVariables false
section
variable {P : Program} {T : Tb} {base : Nat} {e : Env} {H H' : AH} {w : World} {x : AV}
theorem app_src {t u ty el : TypeId} {i : TypeInfo} {z : Value} {s' x' : Value} {n : Nat} {news : List Value} (hu : P.underlying t = some (.slice el)) (hi : P.info? el = some i) (hz : i.zero = some z) (hs : Src P i.size u x' n news w) (hzs : z.cells.size = i.size) (hby : i.bytes < 100000) :
    App P w (Builtin.append_ #[t, u] ty #[s', x']) el i.size n s' news := by
  refine ⟨hs.newsLen, fun h1 h2 => ?_, fun g off len cap w' h1 h2 h3 => ?_, fun bs len cap olds h1 h2 h3 h4 => ?_⟩
  · subst h1
    subst h2
    have hn : news = [] := List.eq_nil_of_length_eq_zero (by rw [hs.newsLen, Nat.zero_mul])
    rcases hs.kind with ⟨e', hk⟩ | hk <;> simp [Builtin.append_, run_underlying hu, run_underlying hk, sizeOf, typeInfo, hi, hs.len, hs.cells]
  · subst h1
    have hst : (storeCells ((⟨g, off, none⟩ : Addr).add (len * i.size)) news).run P w = .ok () w' := by rw [Addr.add_mid]; exact h3
    rcases hs.kind with ⟨e', hk⟩ | hk <;> simp [Builtin.append_, run_underlying hu, run_underlying hk, sizeOf, typeInfo, hi, hs.len, h2, hs.cells, hst]
  · subst h1
    have hg := run_append_grow_src (P := P) w t u ty el i z hu hi hz bs len cap olds h2 x' n news hs h3 (by omega) (growslice_fits h3 (by
      have : (len + n) * i.bytes ≤ 200000 * 100000 := Nat.mul_le_mul (by omega) (by omega)
      omega))
    refine ⟨_, (Builtin.zeroCells z.cells (grownCap w (len + n) cap el - (len + n))).toList, grownCap_ge w (len + n) cap el, ?_, ?_⟩
    · rw [Array.length_toList, size_zeroCells, hzs]
    · rw [hg]
      congr 3
      apply Array.ext'
      simp
theorem app_made {t u ty el : TypeId} {i : TypeInfo} {z : Value} {s' : Value} {k k2 : IntKind} {n : Nat} (hu : P.underlying t = some (.slice el)) (hu2 : P.underlying u = some (.int k2)) (hi : P.info? el = some i) (hz : i.zero = some z) (hzs : z.cells.size = i.size) (hsz : 0 < i.size) (hby : i.bytes < 100000) (hn : n < 100000)
    (hone : ∀ v ∈ repeatV z.cells.toList n, v.oneCell' = true) :
    App P w (Builtin.append_ #[t, u] ty #[s', .int k (n : Int)]) el i.size n s' (repeatV z.cells.toList n) := by
  have w1 : IntKind.i64.wrap (n : Int) = (n : Int) := IntWalk.i64_in _ (by omega)
  have hmul : (n : Int) * (i.bytes : Int) ≤ 2 ^ 48 := by
    have : n * i.bytes ≤ 100000 * 100000 := Nat.mul_le_mul (Nat.le_of_lt hn) (Nat.le_of_lt hby)
    have h2 : ((n * i.bytes : Nat) : Int) ≤ ((100000 * 100000 : Nat) : Int) := Int.ofNat_le.2 this
    rw [Int.natCast_mul] at h2
    omega
  have hm2 : ¬ ((281474976710656 : Int) < (n : Int) * (i.bytes : Int)) := by omega
  have hrr := repeat_range z.cells (by omega) n
  have hzc : Builtin.zeroCells z.cells n = (repeatV z.cells.toList n).toArray := by
    apply Array.ext'
    unfold Builtin.zeroCells
    rw [hrr]
  have hlen : (repeatV z.cells.toList n).length = n * i.size := by rw [← hrr]; simp [hzs]
  have happ : ∀ w', (if n * i.size = 0 then (pure #[] : Sem (Array Value)) else do pure (Builtin.zeroCells (← zeroValue el).cells n)).run P w' = .ok (repeatV z.cells.toList n).toArray w' := fun w' => by
    split
    · rename_i h0
      have : repeatV z.cells.toList n = [] := List.eq_nil_of_length_eq_zero (by rw [hlen]; exact h0)
      rw [this]
      rfl
    · simp [zeroValue, typeInfo, Sem.run_bind, hi, hz, hzc]
  refine ⟨hlen, fun h1 h2 => ?_, fun g off len cap w' h1 h2 h3 => ?_, fun bs len cap olds h1 h2 h3 h4 => ?_⟩
  · subst h1
    subst h2
    have w0 : IntKind.i64.wrap 0 = 0 := by decide
    simp [Builtin.append_, run_underlying hu, run_underlying hu2, sizeOf, typeInfo, hi, asInt, asIntOf, w0]
  · subst h1
    have hst : (storeCells ((⟨g, off, none⟩ : Addr).add (len * i.size)) (repeatV z.cells.toList n)).run P w = .ok () w' := by rw [Addr.add_mid]; exact h3
    have ha := happ w
    have hn0 : ¬ ((n : Int) < 0) := by omega
    by_cases h0 : n * i.size = 0
    · rw [if_pos h0] at ha
      have he : repeatV z.cells.toList n = [] := List.eq_nil_of_length_eq_zero (by rw [hlen]; exact h0)
      rw [he] at hst
      simp [Builtin.append_, run_underlying hu, run_underlying hu2, sizeOf, typeInfo, hi, asInt, asIntOf, w1, hn0, hm2, h0, h2, hst]
    · simp [Builtin.append_, run_underlying hu, run_underlying hu2, sizeOf, typeInfo, zeroValue, hi, hz, asInt, asIntOf, w1, hn0, hm2, h0, h2, hzc, hst]
  · subst h1
    have hn0 : ¬ ((n : Int) < 0) := by omega
    have hnn : ¬ (len + n ≤ cap) := by omega
    have hfit : ¬ (281474976710656 < Builtin.nextslicecap (len + n) cap * i.bytes) := by
      have := growslice_fits (bytes := i.bytes) h3 (by
        have : (len + n) * i.bytes ≤ 200000 * 100000 := Nat.mul_le_mul (by omega) (by omega)
        omega)
      omega
    have h63 : ¬ (9223372036854775807 < ((len : Int) + (n : Int))) := by omega
    refine ⟨_, (Builtin.zeroCells z.cells (grownCap w (len + n) cap el - (len + n))).toList, grownCap_ge w (len + n) cap el, by rw [Array.length_toList, size_zeroCells, hzs], ?_⟩
    by_cases h0 : n * i.size = 0
    · have he : repeatV z.cells.toList n = [] := List.eq_nil_of_length_eq_zero (by rw [hlen]; exact h0)
      rw [he]
      simp [Builtin.append_, run_underlying hu, run_underlying hu2, sizeOf, typeInfo, zeroValue, hi, hz, asInt, asIntOf, w1, hn0, hm2, h0, hnn, h63, hfit, Question.forced, h2, newRow, grownCap]
      congr 2
      apply Array.ext'
      simp
    · simp [Builtin.append_, run_underlying hu, run_underlying hu2, sizeOf, typeInfo, zeroValue, hi, hz, asInt, asIntOf, w1, hn0, hm2, h0, hnn, h63, hfit, Question.forced, h2, newRow, grownCap, hzc]
      congr 2
      apply Array.ext'
      simp
theorem rowOf_ok (hr : HRel base e H w) {size n : Nat} {y : AV} {y' : Value} {l : List AV} {u : TypeId} (hy : DR e y y') (hk : (∃ e', P.underlying u = some (.slice e')) ∨ P.underlying u = some .string) (hks : (∃ s, y = .v (.string s)) → P.underlying u = some .string) (hkl : (¬ ∃ s, y = .v (.string s)) → ∃ e', P.underlying u = some (.slice e')) (hone : l.all oneB = true) (h : rowOf H size y = some (l, n)) :
    ∃ ys, DRL e l ys ∧ Src P size u y' n ys w := by
  have hov : ∀ ys, DRL e l ys → ∀ v ∈ ys, v.oneCell' = true := fun ys hl v hvm => by
    obtain ⟨i, hi⟩ := List.mem_iff_getElem?.1 hvm
    have hlt : i < l.length := by rw [← hl.length]; exact (List.getElem?_eq_some_iff.1 hi).1
    obtain ⟨y, hy, hd⟩ := hl.get (List.getElem?_eq_getElem hlt)
    rw [hy] at hi
    cases hi
    exact one_dr hd (List.all_eq_true.1 hone _ (List.getElem_mem hlt))
  unfold rowOf at h
  split at h
  · rename_i c
    cases h
    cases hy
    obtain ⟨e', he⟩ := hkl (fun ⟨s, hs⟩ => by cases hs)
    exact ⟨[], .nil, Src.ofNil w he c⟩
  · rename_i b off len cap
    split at h
    · rename_i l0 hl
      cases h
      cases hy with
      | slc hb hc hle =>
        rename_i g o z c
        obtain ⟨ys, h1, h2, h3⟩ := load_ok hr hl hb
        obtain ⟨e', he⟩ := hkl (fun ⟨s, hs⟩ => by cases hs)
        exact ⟨ys, h1, Src.ofSlice w he ⟨g, o + off, none⟩ n c ys h2 (fun j v hj => by rw [Addr.add_mid]; exact h3 j v hj) (hov ys h1)⟩
    · cases h
  · rename_i s
    cases hs1 : (size == 1) with
    | false => rw [hs1] at h; cases h
    | true =>
      rw [hs1] at h
      cases h
      have : size = 1 := by simpa using hs1
      subst this
      cases hy
      refine ⟨byteCells s, ?_, Src.ofString w (hks ⟨s, rfl⟩) s⟩
      unfold byteCells
      have := DRL.flat (e := e) (s.data.toList.map fun b => Value.int .u8 b.toNat)
      rw [List.map_map] at this
      exact this
  · cases h
end
end Ev
end Go.Proofs.YtgmhkjmnfafccaaGreatDoor
