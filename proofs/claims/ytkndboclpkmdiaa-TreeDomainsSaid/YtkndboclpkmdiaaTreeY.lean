/- The plain law of trees, second part: each state is one's child; domains; a region's own tree. -/
import Derived.Test.YtkndboclpkmdiaaTreeX
namespace Go.Proofs.Ytkndboclpkmdiaa
set_option linter.unusedVariables false
namespace Tr

/-! ### each state but the regions is just one's child -/
theorem count_range (k : Nat) : ∀ n, (List.range n).count k = if k < n then 1 else 0
  | 0 => by simp
  | n + 1 => by
    rw [List.range_succ, List.count_append, count_range k n, List.count_singleton]
    by_cases h : k < n
    · rw [if_pos h, if_pos (show k < n + 1 by omega), if_neg (show ¬ (n == k) = true by simp; omega)]
    · by_cases e : n = k
      · subst e; simp
      · rw [if_neg h, if_neg (show ¬ k < n + 1 by omega), if_neg (show ¬ (n == k) = true by simpa using e)]
theorem count_kids (st : Sts) (i k : Nat) (hi : i < st.length) (hk : k < st.length) : (kids st i).count k = if up st k = (i : Int) then 1 else 0 := by
  rw [kids_eq st i hi]
  by_cases h : up st k = (i : Int)
  · rw [if_pos h, List.count_filter (by simpa using h), count_range, if_pos hk]
  · rw [if_neg h]
    refine List.count_eq_zero.2 fun hm => h ?_
    simpa using (List.mem_filter.1 hm).2
def seen (st : Sts) (i : Nat) : List Nat := (List.range i).flatMap (kids st)
theorem seen_succ (st : Sts) (i : Nat) : seen st (i + 1) = seen st i ++ kids st i := by
  unfold seen
  rw [List.range_succ, List.flatMap_append]
  simp
theorem count_seen (st : Sts) (k : Nat) (hk : k < st.length) : ∀ i, i ≤ st.length → (seen st i).count k = if 0 ≤ up st k ∧ up st k < (i : Int) then 1 else 0
  | 0, _ => by
    rw [if_neg (by omega)]
    rfl
  | i + 1, hi => by
    rw [seen_succ, List.count_append, count_seen st k hk i (by omega), count_kids st i k (by omega) hk]
    by_cases h : up st k = (i : Int)
    · rw [if_neg (by omega), if_pos h, if_pos (by omega)]
    · rw [if_neg h]
      by_cases h2 : 0 ≤ up st k ∧ up st k < (i : Int)
      · rw [if_pos h2, if_pos (by omega)]
      · rw [if_neg h2, if_neg (by omega)]
theorem count_all (st : Sts) (k : Nat) (hk : k < st.length) : (seen st st.length).count k = if up st k = -1 then 0 else 1 := by
  rw [count_seen st k hk _ (Nat.le_refl _)]
  have := up_lt st k
  by_cases h : up st k = -1
  · rw [if_pos h, if_neg (by omega)]
  · rw [if_neg h, if_pos (by omega)]
theorem seen_len (st : Sts) : ∀ i, i ≤ st.length → (seen st i).length ≤ i * st.length
  | 0, _ => by simp [seen]
  | i + 1, hi => by
    have := seen_len st i (by omega)
    have := kids_len st (show i < st.length by omega)
    rw [seen_succ, List.length_append, Nat.succ_mul]
    omega
theorem cnt_take (l : List Nat) (k i : Nat) (h : k < l.length) : (l.take (k + 1)).count i = (l.take k).count i + if l[k] = i then 1 else 0 := by
  rw [List.take_succ_eq_append_getElem h, List.count_append, List.count_singleton]
  simp

/-! ### domains -/
/-- d is k, or k is within it. -/
def Over (st : Sts) (d : Nat) (k : Int) : Prop := ∃ m : Nat, k = (m : Int) ∧ (d = m ∨ (d < m ∧ m < fin st d))
theorem over_up (st : Sts) {d m : Nat} (hm : m < st.length) (h : Over st d (up st m)) : d < m ∧ m < fin st d := by
  obtain ⟨p, h1, h2⟩ := h
  exact (within_up st hm).2 ⟨p, h1, h2⟩
theorem dom_spec (st : Sts) (tt : Nat) : ∀ (f : Nat) (k : Int), k + 1 < (f : Int) → k < (st.length : Int) → domTo st tt f k = -1 ∨ ∃ d : Nat, domTo st tt f k = (d : Int) ∧ Over st d k ∧ kd st d = 2 ∧ d < tt ∧ tt < fin st d
  | 0, k, hf, _ => by unfold domTo; exact .inl rfl
  | f + 1, k, hf, hk => by
    rw [domTo_step]
    by_cases h0 : k < 0
    · rw [if_pos h0]; exact .inl rfl
    · rw [if_neg h0]
      obtain ⟨m, rfl⟩ : ∃ m : Nat, k = (m : Int) := ⟨k.toNat, by omega⟩
      rw [Int.toNat_natCast]
      by_cases h1 : kd st m = 2 ∧ (m : Int) < tt ∧ tt < fin st m
      · rw [if_pos h1]
        exact .inr ⟨m, rfl, ⟨m, rfl, .inl rfl⟩, h1.1, by omega, h1.2.2⟩
      · rw [if_neg h1]
        have hu := up_lt st m
        rcases dom_spec st tt f (up st m) (by omega) (by omega) with h2 | ⟨d, h2, h3, h4⟩
        · exact .inl h2
        · exact .inr ⟨d, h2, ⟨m, rfl, .inr (over_up st (by omega) h3)⟩, h4⟩

/-! ### a region's own tree -/
theorem fin_eq (st : Sts) (i e : Nat) (hi : i < e) (he : e ≤ st.length) (hin : ∀ m, i < m → m < e → dp st i < dp st m) (hout : e < st.length → dp st e ≤ dp st i) : fin st i = e := by
  have h1 := fin_gt st i
  have h2 := fin_le st (show i < st.length by omega)
  rcases Nat.lt_trichotomy (fin st i) e with h | h | h
  · have := hin (fin st i) h1 h
    have := fin_out st i (by omega)
    omega
  · exact h
  · have := fin_in st i e hi h
    have := hout (by omega)
    omega
/-- What is within a state ends within it. -/
theorem fin_nest (st : Sts) {r i : Nat} (h1 : r < i) (h2 : i < fin st r) (hi : i < st.length) : fin st i ≤ fin st r := by
  by_cases h : fin st i ≤ fin st r
  · exact h
  · have h3 := fin_le st hi
    have := fin_out st r (by omega)
    have := fin_in st i (fin st r) h2 (by omega)
    have := fin_in st r i h1 h2
    omega

def sub (st : Sts) (r : Nat) : Sts := (st.drop r).take (fin st r - r)
theorem sub_len (st : Sts) {r : Nat} (hr : r < st.length) : (sub st r).length = fin st r - r := by
  have := fin_le st hr
  unfold sub
  rw [List.length_take, List.length_drop]
  omega
theorem sub_at (st : Sts) {r i : Nat} (hi : i < fin st r - r) : (sub st r)[i]? = st[r + i]? := by
  unfold sub
  rw [List.getElem?_take_of_lt hi, List.getElem?_drop]
theorem sub_kd (st : Sts) {r i : Nat} (hi : i < fin st r - r) : kd (sub st r) i = kd st (r + i) := by unfold kd; rw [sub_at st hi]
theorem sub_dp (st : Sts) {r i : Nat} (hi : i < fin st r - r) : dp (sub st r) i = dp st (r + i) := by unfold dp; rw [sub_at st hi]

section
variable {st : Sts} {r : Nat}
theorem sub_pos (nb : NB st) (hr : r < st.length) (h0 : dp st r = 0) {i : Nat} (hi : i < fin st r - r) (hp : 0 < i) : 0 < dp st (r + i) := by
  have := fin_in st r (r + i) (by omega) (by omega)
  omega
theorem sub_up (nb : NB st) (hr : r < st.length) (h0 : dp st r = 0) {i : Nat} (hi : i < fin st r - r) (hp : 0 < i) : ∃ p : Nat, up (sub st r) i = (p : Int) ∧ up st (r + i) = ((r + p : Nat) : Int) ∧ p < i := by
  have hd0 := sub_pos nb hr h0 hi hp
  rcases up_spec (sub st r) i with ⟨h1, h2⟩ | ⟨p, h1, h2, h3, h4⟩
  · have := h2 0 hp
    rw [sub_dp st hi, sub_dp st (by omega), Nat.add_zero] at this
    omega
  · refine ⟨p, h1, (up_eq st (r + i) (r + p)).2 ⟨by omega, ?_, fun m hm1 hm2 => ?_⟩, h2⟩
    · rw [sub_dp st hi, sub_dp st (by omega)] at h3
      exact h3
    · have := h4 (m - r) (by omega) (by omega)
      rw [sub_dp st hi, sub_dp st (by omega), show r + (m - r) = m by omega] at this
      exact this
theorem sub_fin (nb : NB st) (hr : r < st.length) (h0 : dp st r = 0) {i : Nat} (hi : i < fin st r - r) : fin st (r + i) = r + fin (sub st r) i := by
  have hfr := fin_le st hr
  have hsl := sub_len st hr
  have h1 := fin_gt (sub st r) i
  have h2 := fin_le (sub st r) (show i < (sub st r).length by omega)
  refine fin_eq st (r + i) (r + fin (sub st r) i) (by omega) (by omega) (fun m hm1 hm2 => ?_) (fun h => ?_)
  · have := fin_in (sub st r) i (m - r) (by omega) (by omega)
    rw [sub_dp st hi, sub_dp st (by omega), show r + (m - r) = m by omega] at this
    exact this
  · by_cases he : fin (sub st r) i < (sub st r).length
    · have := fin_out (sub st r) i he
      rw [sub_dp st hi, sub_dp st (by omega)] at this
      exact this
    · have he2 : r + fin (sub st r) i = fin st r := by omega
      rw [he2] at h ⊢
      have := fin_out st r h
      have := (nb.dp (show r + i < st.length by omega)).1
      omega
theorem sub_reg (nb : NB st) (hr : r < st.length) (h0 : dp st r = 0) {i : Nat} (hi : i < fin st r - r) : regFrom st (r + i) = r := by
  have hfr := fin_le st hr
  rcases Nat.eq_zero_or_pos i with rfl | hp
  · rw [Nat.add_zero, regFrom_stop st r (by omega)]
  · rw [nb.regFrom_up (r + i) r (by omega) (by omega) (sub_pos nb hr h0 hi hp) (fun m h1 h2 => by
      have := sub_pos nb hr h0 (i := m - r) (by omega) (by omega)
      rw [show r + (m - r) = m by omega] at this
      exact this), regFrom_stop st r (by omega)]
theorem sub_nb (nb : NB st) (hr : r < st.length) (h0 : dp st r = 0) : NB (sub st r) := by
  have hfr := fin_le st hr
  intro i hi
  rw [sub_len st hr] at hi
  have h1 := nb (r + i) (by omega)
  unfold bad at h1 ⊢
  rw [sub_kd st hi, sub_dp st hi]
  rcases Nat.eq_zero_or_pos i with rfl | hp
  · unfold ahead at h1 ⊢
    rw [if_pos rfl]
    rw [Nat.add_zero] at h1 ⊢
    omega
  · unfold ahead at h1 ⊢
    rw [if_neg (by omega), sub_dp st (by omega)]
    rw [if_neg (by omega), show r + i - 1 = r + (i - 1) by omega] at h1
    exact h1
theorem sub_regs (nb : NB st) (hr : r < st.length) (h0 : dp st r = 0) : ∀ i, i ≤ fin st r - r → regs (sub st r) i ≤ 1 ∧ (i = 0 → regs (sub st r) i = 0)
  | 0, _ => ⟨by unfold regs; omega, fun _ => rfl⟩
  | i + 1, hi => by
    have ih := sub_regs nb hr h0 i (by omega)
    refine ⟨?_, fun h => by omega⟩
    unfold regs
    rcases Nat.eq_zero_or_pos i with e | hp
    · have := ih.2 e
      split <;> omega
    · have := sub_pos nb hr h0 (i := i) (by omega) hp
      rw [sub_dp st (by omega), if_neg (by omega)]
      omega
theorem reals_ne (st : Sts) (l : List Nat) : reals st l ≠ 0 ↔ ∃ k ∈ l, pastB (kd st k) = false := by
  unfold reals
  constructor
  · intro h
    cases hf : l.filter (fun k => !pastB (kd st k)) with
    | nil => rw [hf] at h; exact absurd rfl h
    | cons k l' =>
      have hk : k ∈ l.filter (fun k => !pastB (kd st k)) := by rw [hf]; simp
      obtain ⟨h1, h2⟩ := List.mem_filter.1 hk
      exact ⟨k, h1, by simpa using h2⟩
  · rintro ⟨k, h1, h2⟩ h0
    have hk : k ∈ l.filter (fun k => !pastB (kd st k)) := List.mem_filter.2 ⟨h1, by simp [h2]⟩
    rw [List.eq_nil_of_length_eq_zero h0] at hk
    cases hk
theorem sub_right (h : right st) (hr : r < st.length) (h0 : dp st r = 0) : right (sub st r) := by
  have nb := right_nb h
  have hfr := fin_le st hr
  have hfg := fin_gt st r
  have h40 := right_le h
  have hsl := sub_len st hr
  have hR := (right_iff st nb (by omega) h40).1 h
  refine (right_iff (sub st r) (sub_nb nb hr h0) (by omega) (by omega)).2 ⟨?_, fun i hi => ?_⟩
  · have := sub_regs nb hr h0 (fin st r - r) (Nat.le_refl _)
    rw [hsl]
    omega
  · rw [hsl] at hi
    have hnode := hR.2 (r + i) (by omega)
    refine ⟨fun p hp => ?_, fun hk => ?_⟩
    · rcases Nat.eq_zero_or_pos i with rfl | hpos
      · have := (up_lt (sub st r) 0).1
        omega
      · obtain ⟨q, h1, h2, h3⟩ := sub_up nb hr h0 hi hpos
        obtain rfl : q = p := by omega
        have := hnode.1 (r + q) h2
        rw [sub_kd st hi, sub_kd st (by omega)]
        exact this
    · rw [sub_kd st hi] at hk
      obtain ⟨k, hk1, hk2⟩ := (reals_ne st _).1 (hnode.2 hk)
      obtain ⟨hkl, hku⟩ := (mem_kids st (show r + i < st.length by omega)).1 hk1
      obtain ⟨hk3, hk4⟩ := (within_up st hkl).2 ⟨r + i, hku, .inl rfl⟩
      have hfn : fin st (r + i) ≤ fin st r := by
        rcases Nat.eq_zero_or_pos i with rfl | hpos
        · exact Nat.le_refl _
        · exact fin_nest st (by omega) (by omega) (by omega)
      have hkr : k - r < fin st r - r := by omega
      obtain ⟨q, h1, h2, h3⟩ := sub_up nb hr h0 hkr (by omega)
      rw [show r + (k - r) = k by omega, hku] at h2
      refine (reals_ne _ _).2 ⟨k - r, (mem_kids (sub st r) (by omega)).2 ⟨by omega, ?_⟩, ?_⟩
      · rw [h1]; omega
      · rw [sub_kd st hkr, show r + (k - r) = k by omega]
        exact hk2
end
end Tr
end Go.Proofs.Ytkndboclpkmdiaa
