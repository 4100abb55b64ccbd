/- An argument that is a list of states, as 'Tree'; the example's tree; copies; 'has' of the reference. -/
import Derived.Test.YtkndboclpkmdiaaTreeU
import Derived.Test.YtkndboclpkmdiaaTreeK
import Derived.SizedLaws
import Derived.Lib.SmallJoins
namespace Go.Proofs.Ytkndboclpkmdiaa
open Go.ChangeShapes Go.WideShapes Go.ChangeAt Go.RowKit Go.Deep Go.Joins

section
variable {H : Type} {enc : TypeId × Value → H} {P : Program} {w : World} {base : Nat} {spare : Nat → Bool} {held : Bool}
theorem open_slice_fields {t e : TypeId} {fs : Array Field} {fuel : Nat} {cs : List Value} {x : DataW H × List MemPlace} (ht : P.underlying t = some (.slice e)) (he : P.underlying e = some (.struct fs))
    (hone : oneCellFields P fs = true) (hC : P.cellsOf e = fs.size) (h : DataW.trod enc P w base spare held fuel t cs = some x) :
    (cs = [.slice none 0 0] ∧ x = (.nil, [])) ∨
    ∃ (a : Addr) (len cap m : Nat) (D : Nat → DataW H) (Pl : Nat → List MemPlace), cs = [.slice (some a) len cap] ∧ base ≤ a.block ∧ len ≤ cap ∧ cap ≤ maxLen ∧ m = (if spare a.block then cap else len) ∧
      x = (.slice ((List.range len).map D) ((List.range (m - len)).map fun j => D (len + j)), MemPlace.row a (m * fs.size) ++ (List.range m).flatMap Pl) ∧
      ∀ i, i < m → ∃ (ys : List (DataW H × List MemPlace)) (n : Nat), D i = .agg (ys.map (·.1)) ∧ Pl i = ys.flatMap (·.2) ∧ ys.length = fs.size ∧
        ∀ (j : Nat) (f : Field), fs[j]? = some f → ∃ (v : Value) (y : DataW H × List MemPlace), w.cell? (a.add (i * fs.size + j)) = some v ∧ ys[j]? = some y ∧ DataW.trod enc P w base spare held n f.type [v] = some y := by
  rcases open_slice ht h with h0 | ⟨a, len, cap, m, n, D, Pl, hcs, hb, hl, hm, hmm, hx, hi⟩
  · exact .inl h0
  · refine .inr ⟨a, len, cap, m, D, Pl, hcs, hb, hl, hm, hmm, by rw [hC] at hx; exact hx, fun i him => ?_⟩
    obtain ⟨cs', hc, ht'⟩ := hi i him
    rw [hC] at hc
    obtain ⟨ys, n', hn', hy, hlen, hyl, hf⟩ := DataW.trod_struct he ht'
    obtain ⟨_, hcl, hat⟩ := World.cells?_some hc
    simp only [Prod.mk.injEq] at hy
    refine ⟨ys, n', hy.1, hy.2, hyl, fun j f hj => ?_⟩
    obtain ⟨ho, hk⟩ := hone_of hone j f hj
    have hjl : j < fs.size := (Array.getElem?_eq_some_iff.1 hj).1
    have hcell := hat j hjl
    have hv : cs'[j]? = some (cs'[j]'(by omega)) := List.getElem?_eq_getElem (by omega)
    have h1 := hf j f hj
    rw [ho, hk] at h1
    have hone' : (cs'.drop j).take 1 = [cs'[j]'(by omega)] := by
      rw [List.drop_eq_getElem_cons (by omega)]
      rfl
    rw [hone'] at h1
    have hys : ys[j]? = some (ys[j]'(by omega)) := List.getElem?_eq_getElem (by omega)
    refine ⟨_, _, ?_, hys, h1.trans hys⟩
    rw [← Go.Deep.add_add, hcell, hv]
end

theorem flat_len (f : Nat → List Value) (s : Nat) (hf : ∀ i, (f i).length = s) : ∀ n, ((List.range n).flatMap f).length = n * s
  | 0 => by simp
  | n + 1 => by rw [List.range_succ, List.flatMap_append, List.length_append, flat_len f s hf n, List.flatMap_cons, List.flatMap_nil, List.append_nil, hf, Nat.succ_mul]
theorem flat_at (f : Nat → List Value) (s : Nat) (hf : ∀ i, (f i).length = s) : ∀ n i j, i < n → j < s → ((List.range n).flatMap f)[i * s + j]? = (f i)[j]?
  | 0, i, j, hi, _ => absurd hi (by omega)
  | n + 1, i, j, hi, hj => by
    have hl := flat_len f s hf n
    rw [List.range_succ, List.flatMap_append, List.flatMap_cons, List.flatMap_nil, List.append_nil]
    by_cases h : i < n
    · have : i * s + j < n * s := by
        have := Nat.mul_le_mul_right s (show i + 1 ≤ n by omega)
        rw [Nat.succ_mul] at this
        omega
      rw [List.getElem?_append_left (by omega), flat_at f s hf n i j h hj]
    · obtain rfl : i = n := by omega
      rw [List.getElem?_append_right (by omega), hl, Nat.add_sub_cancel_left]

/-- The reading of one cell of a state is one of these. -/
theorem kd_wf {k : Int} (h : (Lit.int .i64 k).wf = true) : -9223372036854775808 ≤ k ∧ k ≤ 9223372036854775807 := by
  exact bounds_i64 h

theorem open_tree {H : Type} {enc : TypeId × Value → H} {w : World} {base : Nat} {v : Value} {d : DataW H} {p : List MemPlace}
    (hv : Value.okWide Try.prog w .any base 22 v) (h : DataW.Trod enc Try.prog w 0 (fun _ => true) true 22 v d p) (hz : ∀ n ∈ d.weights Try.prog 22, n ≤ reachBytes) :
    ∃ (A : Option Addr) (n c : Nat) (st : Sts), v = .slice A n c ∧ n ≤ c ∧ c * 96 ≤ reachBytes ∧ n ≤ maxLen ∧ Tree w w.heap.size A n st ∧ Tr.Wf st := by
  obtain ⟨A, n, c, rfl⟩ := okWide_slice Try.underlying22 hv
  obtain ⟨fuel, hf⟩ := h
  rcases open_slice_fields Try.underlying22 Try.underlying34 (by kernel_rfl) (by kernel_rfl) hf with ⟨hcs, _⟩ | ⟨a, len, cap, m, D, Pl, hcs, _, hl, hm, hmm, hx, hi⟩
  · simp [Value.cells] at hcs
    obtain ⟨rfl, rfl, rfl⟩ := hcs
    exact ⟨none, 0, 0, [], rfl, Nat.le_refl _, by simp, Nat.zero_le _, ⟨rfl, [], Reads.none_, fun i hi => absurd hi (by omega)⟩, fun i hi => absurd hi (by simp)⟩
  · simp [Value.cells] at hcs
    obtain ⟨rfl, rfl, rfl⟩ := hcs
    simp only [if_true] at hmm
    subst hmm
    have hall : ∀ i, ∃ c : ByteArray × Int × Int × ByteArray × (Option Addr × Nat × Nat) × Option Addr × Nat × Nat, i < m →
        (w.cell? (a.add (i * 6 + 0)) = some (.string c.1) ∧ w.cell? (a.add (i * 6 + 1)) = some (.int .i64 c.2.1) ∧ w.cell? (a.add (i * 6 + 2)) = some (.int .i64 c.2.2.1) ∧ w.cell? (a.add (i * 6 + 3)) = some (.string c.2.2.2.1) ∧
          w.cell? (a.add (i * 6 + 4)) = some (.slice c.2.2.2.2.1.1 c.2.2.2.2.1.2.1 c.2.2.2.2.1.2.2) ∧ w.cell? (a.add (i * 6 + 5)) = some (.slice c.2.2.2.2.2.1 c.2.2.2.2.2.2.1 c.2.2.2.2.2.2.2)) ∧
          (-9223372036854775808 ≤ c.2.1 ∧ c.2.1 ≤ 9223372036854775807) ∧ (-9223372036854775808 ≤ c.2.2.1 ∧ c.2.2.1 ≤ 9223372036854775807) := by
      intro i
      by_cases him : i < m
      · obtain ⟨ys, k, _, _, _, hf6⟩ := hi i him
        obtain ⟨v0, y0, hc0, _, t0⟩ := hf6 0 _ rfl
        obtain ⟨v1, y1, hc1, _, t1⟩ := hf6 1 _ rfl
        obtain ⟨v2, y2, hc2, _, t2⟩ := hf6 2 _ rfl
        obtain ⟨v3, y3, hc3, _, t3⟩ := hf6 3 _ rfl
        obtain ⟨v4, y4, hc4, _, t4⟩ := hf6 4 _ rfl
        obtain ⟨v5, y5, hc5, _, t5⟩ := hf6 5 _ rfl
        obtain ⟨s0, e0, _, _⟩ := DataW.trod_string Try.underlying9 t0
        obtain ⟨z1, e1, _, w1⟩ := DataW.trod_int Try.underlying3 t1
        obtain ⟨z2, e2, _, w2⟩ := DataW.trod_int Try.underlying3 t2
        obtain ⟨s3, e3, _, _⟩ := DataW.trod_string Try.underlying9 t3
        obtain ⟨a4, l4, c4, e4⟩ := slice_form Try.underlying32 t4
        obtain ⟨a5, l5, c5, e5⟩ := slice_form Try.underlying32 t5
        obtain rfl : v0 = _ := List.head_eq_of_cons_eq e0
        obtain rfl : v1 = _ := List.head_eq_of_cons_eq e1
        obtain rfl : v2 = _ := List.head_eq_of_cons_eq e2
        obtain rfl : v3 = _ := List.head_eq_of_cons_eq e3
        obtain rfl : v4 = _ := List.head_eq_of_cons_eq e4
        obtain rfl : v5 = _ := List.head_eq_of_cons_eq e5
        exact ⟨(s0, z1, z2, s3, (a4, l4, c4), a5, l5, c5), fun _ => ⟨⟨hc0, hc1, hc2, hc3, hc4, hc5⟩, kd_wf w1, kd_wf w2⟩⟩
      · exact ⟨(ByteArray.empty, 0, 0, ByteArray.empty, (none, 0, 0), none, 0, 0), fun h => absurd h him⟩
    obtain ⟨g, hg⟩ := Classical.axiomOfChoice hall
    clear hall hi
    have hst : ∀ i, i < n → (((List.range n).map fun i => ((g i).2.1, (g i).2.2.1) : Sts))[i]? = some ((g i).2.1, (g i).2.2.1) := fun i hin => by simp [hin]
    have hkd : ∀ i, i < n → Tr.kd ((List.range n).map fun i => ((g i).2.1, (g i).2.2.1)) i = (g i).2.1 := fun i hin => by unfold Tr.kd; rw [hst i hin]; rfl
    have hdp : ∀ i, i < n → Tr.dp ((List.range n).map fun i => ((g i).2.1, (g i).2.2.1)) i = (g i).2.2.1 := fun i hin => by unfold Tr.dp; rw [hst i hin]; rfl
    have hlen : ∀ i, ((fun i => [Value.string (g i).1, .int .i64 (g i).2.1, .int .i64 (g i).2.2.1, .string (g i).2.2.2.1, .slice (g i).2.2.2.2.1.1 (g i).2.2.2.2.1.2.1 (g i).2.2.2.2.1.2.2, .slice (g i).2.2.2.2.2.1 (g i).2.2.2.2.2.2.1 (g i).2.2.2.2.2.2.2]) i).length = 6 := fun _ => rfl
    have hfl := flat_len _ 6 hlen n
    have hfa := flat_at _ 6 hlen n
    refine ⟨some a, n, m, (List.range n).map fun i => ((g i).2.1, (g i).2.2.1), rfl, hl, ?_, by omega, ⟨by simp, _, ⟨hfl, fun hn => ⟨a, rfl, ?_, fun j u hu => ?_⟩⟩, fun i hin => ?_⟩, fun i hin => ?_⟩
    · refine hz _ ?_
      simp only [Prod.mk.injEq] at hx
      rw [hx.1]
      simp only [DataW.weights, Try.underlying22, List.length_map, List.length_range, List.mem_cons]
      left
      rw [Nat.add_sub_cancel' hl]
      rfl
    · have := World.block_lt_of_cell? w _ (hg 0 (by omega)).1.1
      rwa [block_of_add] at this
    · have hj : j < n * 6 := by
        have := (List.getElem?_eq_some_iff.1 hu).1
        rw [hfl] at this
        exact this
      obtain ⟨q, r, hr, rfl⟩ : ∃ q r, r < 6 ∧ j = q * 6 + r := ⟨j / 6, j % 6, by omega, by omega⟩
      have hj2 := hfa q r (by omega) hr
      rw [hu] at hj2
      obtain ⟨⟨h0, h1, h2, h3, h4, h5⟩, _⟩ := hg q (by omega)
      match r, hr with
      | 0, _ => rw [Option.some.inj hj2]; exact h0
      | 1, _ => rw [Option.some.inj hj2]; exact h1
      | 2, _ => rw [Option.some.inj hj2]; exact h2
      | 3, _ => rw [Option.some.inj hj2]; exact h3
      | 4, _ => rw [Option.some.inj hj2]; exact h4
      | 5, _ => rw [Option.some.inj hj2]; exact h5
    · rw [hkd i hin, hdp i hin]
      exact ⟨⟨_, hfa i 0 hin (by omega)⟩, hfa i 1 hin (by omega), hfa i 2 hin (by omega), ⟨_, hfa i 3 hin (by omega)⟩, ⟨_, _, _, hfa i 4 hin (by omega)⟩, _, _, _, hfa i 5 hin (by omega)⟩
    · have hin' : i < n := by simpa using hin
      rw [hkd i hin', hdp i hin']
      exact (hg i (by omega)).2

end Go.Proofs.Ytkndboclpkmdiaa
