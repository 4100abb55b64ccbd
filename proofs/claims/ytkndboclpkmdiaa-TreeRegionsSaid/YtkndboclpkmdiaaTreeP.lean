/- The plain law of trees: parents by depth, ends, children. -/
import Derived.Test.YtkndboclpkmdiaaTreeE
namespace Go.Proofs.Ytkndboclpkmdiaa
namespace Tr

theorem upTo_spec (st : Sts) (d : Int) : ∀ k, (upTo st d k = -1 ∧ ∀ m, m < k → d ≤ dp st m) ∨ ∃ p : Nat, upTo st d k = (p : Int) ∧ p < k ∧ dp st p < d ∧ ∀ m, p < m → m < k → d ≤ dp st m
  | 0 => .inl ⟨rfl, fun m h => absurd h (by omega)⟩
  | k + 1 => by
    unfold upTo
    by_cases h : dp st k < d
    · rw [if_pos h]
      exact .inr ⟨k, rfl, by omega, h, fun m h1 h2 => absurd h1 (by omega)⟩
    · rw [if_neg h]
      rcases upTo_spec st d k with ⟨h1, h2⟩ | ⟨p, h1, h2, h3, h4⟩
      · refine .inl ⟨h1, fun m hm => ?_⟩
        by_cases e : m = k
        · subst e; omega
        · exact h2 m (by omega)
      · refine .inr ⟨p, h1, by omega, h3, fun m hm1 hm2 => ?_⟩
        by_cases e : m = k
        · subst e; omega
        · exact h4 m hm1 (by omega)

theorem up_spec (st : Sts) (i : Nat) : (up st i = -1 ∧ ∀ m, m < i → dp st i ≤ dp st m) ∨ ∃ p : Nat, up st i = (p : Int) ∧ p < i ∧ dp st p < dp st i ∧ ∀ m, p < m → m < i → dp st i ≤ dp st m := upTo_spec st _ i

theorem up_eq (st : Sts) (i p : Nat) : up st i = (p : Int) ↔ p < i ∧ dp st p < dp st i ∧ ∀ m, p < m → m < i → dp st i ≤ dp st m := by
  rcases up_spec st i with ⟨h1, h2⟩ | ⟨q, h1, h2, h3, h4⟩
  · rw [h1]
    constructor
    · intro h; omega
    · rintro ⟨h5, h6, _⟩
      have := h2 p h5
      omega
  · rw [h1]
    constructor
    · intro h
      obtain rfl : q = p := by omega
      exact ⟨h2, h3, h4⟩
    · rintro ⟨h5, h6, h7⟩
      congr 1
      rcases Nat.lt_trichotomy p q with h | h | h
      · have := h7 q h h2; omega
      · exact h.symm
      · have := h4 p h h5; omega

theorem finFrom_spec (st : Sts) (d : Int) : ∀ f k, (∀ m, k ≤ m → m < finFrom st d k f → d < dp st m) ∧ (finFrom st d k f < k + f → dp st (finFrom st d k f) ≤ d)
  | 0, k => ⟨fun m h1 h2 => by unfold finFrom at h2; omega, fun h => by unfold finFrom at h; omega⟩
  | f + 1, k => by
    unfold finFrom
    by_cases h : d < dp st k
    · rw [if_pos h]
      obtain ⟨h1, h2⟩ := finFrom_spec st d f (k + 1)
      refine ⟨fun m hm1 hm2 => ?_, fun h3 => h2 (by omega)⟩
      by_cases e : m = k
      · subst e; exact h
      · exact h1 m (by omega) hm2
    · rw [if_neg h]
      exact ⟨fun m h1 h2 => absurd h1 (by omega), fun _ => by omega⟩

theorem fin_in (st : Sts) (i m : Nat) (h1 : i < m) (h2 : m < fin st i) : dp st i < dp st m := (finFrom_spec st (dp st i) _ (i + 1)).1 m h1 h2
theorem fin_out (st : Sts) (i : Nat) (h : fin st i < st.length) : dp st (fin st i) ≤ dp st i := (finFrom_spec st (dp st i) (st.length - (i + 1)) (i + 1)).2 (by have := fin_gt st i; show fin st i < _; omega)
/-- What is within a state: all that comes behind it and is deeper, up to the first that is not. -/
theorem lt_fin (st : Sts) {i j : Nat} (hj : j < st.length) : i < j ∧ j < fin st i ↔ i < j ∧ ∀ m, i < m → m ≤ j → dp st i < dp st m := by
  constructor
  · rintro ⟨h1, h2⟩
    exact ⟨h1, fun m h3 h4 => fin_in st i m h3 (by omega)⟩
  · rintro ⟨h1, h2⟩
    refine ⟨h1, ?_⟩
    by_cases h : j < fin st i
    · exact h
    · have := fin_out st i (by omega)
      have := h2 (fin st i) (fin_gt st i) (by omega)
      omega

/-- Within, by parents. -/
theorem within_up (st : Sts) {i j : Nat} (hj : j < st.length) : (i < j ∧ j < fin st i) ↔ ∃ p : Nat, up st j = (p : Int) ∧ (i = p ∨ (i < p ∧ p < fin st i)) := by
  rw [lt_fin st hj]
  constructor
  · rintro ⟨h1, h2⟩
    rcases up_spec st j with ⟨h3, h4⟩ | ⟨p, h3, h4, h5, h6⟩
    · have := h4 i h1; have := h2 j h1 (Nat.le_refl _); omega
    · refine ⟨p, h3, ?_⟩
      rcases Nat.lt_trichotomy i p with h | h | h
      · exact .inr ((lt_fin st (by omega)).2 ⟨h, fun m h7 h8 => h2 m h7 (by omega)⟩)
      · exact .inl h
      · have := h6 i h h1; have := h2 j h1 (Nat.le_refl _); omega
  · rintro ⟨p, h3, h⟩
    obtain ⟨h4, h5, h6⟩ := (up_eq st j p).1 h3
    rcases h with rfl | h
    · refine ⟨h4, fun m h7 h8 => ?_⟩
      by_cases e : m = j
      · subst e; exact h5
      · have := h6 m h7 (by omega); omega
    · obtain ⟨h7, h8⟩ := (lt_fin st (show p < st.length by omega)).1 h
      refine ⟨by omega, fun m h9 h10 => ?_⟩
      by_cases hm : m ≤ p
      · exact h8 m h9 hm
      · have h11 := h8 p h7 (Nat.le_refl _)
        by_cases e : m = j
        · subst e; omega
        · have := h6 m (by omega) (by omega); omega

/-- The children are just those whose parent it is, in their order. -/
theorem kidsFrom_eq (st : Sts) (i : Nat) (hi : i < st.length) : ∀ f k, i < k → fin st i - k ≤ f → (k < fin st i → ∀ m, i < m → m < k → dp st k ≤ dp st m) →
    kidsFrom st (fin st i) f k = (List.range' k (st.length - k)).filter (fun m => up st m = (i : Int)) := by
  have hfl := fin_le st hi
  have hend : ∀ k, fin st i ≤ k → (List.range' k (st.length - k)).filter (fun m => up st m = (i : Int)) = [] := fun k hk => by
    rw [List.filter_eq_nil_iff]
    intro m hm
    obtain ⟨hm1, hm2⟩ := List.mem_range'_1.1 hm
    have h1 := fin_out st i (by omega)
    have h2 := fin_gt st i
    intro h
    obtain ⟨h3, h4, h5⟩ := (up_eq st m i).1 (of_decide_eq_true h)
    by_cases e : m = fin st i
    · rw [e] at h4; omega
    · have := h5 (fin st i) h2 (by omega); omega
  intro f
  induction f with
  | zero =>
    intro k hk hf _
    rw [hend k (by omega)]
    rfl
  | succ f ih =>
    intro k hk hf hinv
    unfold kidsFrom
    by_cases h : k < fin st i
    · rw [if_pos h]
      have hdk := fin_in st i k hk h
      have hfk := fin_gt st k
      have hkl := fin_le st (show k < st.length by omega)
      have hup : up st k = (i : Int) := (up_eq st k i).2 ⟨hk, hdk, fun m h1 h2 => hinv h m h1 h2⟩
      have hnext : fin st k ≤ fin st i := by
        by_cases h2 : fin st k ≤ fin st i
        · exact h2
        · have h3 := fin_out st i (by omega)
          have h4 := fin_in st k (fin st i) (by omega) (by omega)
          omega
      rw [ih (fin st k) (by omega) (by omega) (fun h2 m h3 h4 => by
        have h5 := fin_out st k (by omega)
        by_cases hm : m < k
        · have := hinv h m h3 hm; omega
        · by_cases e : m = k
          · subst e; exact h5
          · have := fin_in st k m (by omega) h4; omega)]
      rw [show st.length - k = (fin st k - k) + (st.length - fin st k) by omega, ← List.range'_append_1, List.filter_append, show k + (fin st k - k) = fin st k by omega,
        show fin st k - k = (fin st k - k - 1) + 1 by omega, List.range'_succ, List.filter_cons, if_pos (by rw [hup]; simp)]
      have hnil : (List.range' (k + 1) (fin st k - k - 1)).filter (fun m => up st m = (i : Int)) = [] := by
        rw [List.filter_eq_nil_iff]
        intro m hm h7
        obtain ⟨hm1, hm2⟩ := List.mem_range'_1.1 hm
        obtain ⟨h8, h9, h10⟩ := (up_eq st m i).1 (of_decide_eq_true h7)
        have h11 := fin_in st k m (by omega) (by omega)
        have := h10 k hk (by omega)
        omega
      rw [hnil]
      rfl
    · rw [if_neg h, hend k (by omega)]

theorem kids_eq (st : Sts) (i : Nat) (hi : i < st.length) : kids st i = (List.range st.length).filter (fun m => up st m = (i : Int)) := by
  unfold kids
  rw [kidsFrom_eq st i hi _ (i + 1) (by omega) (Nat.le_refl _) (fun _ m h1 h2 => absurd h1 (by omega)), List.range_eq_range', show st.length = (i + 1) + (st.length - (i + 1)) by omega, ← List.range'_append_1, List.filter_append]
  have : (List.range' 0 (i + 1)).filter (fun m => up st m = (i : Int)) = [] := by
    rw [List.filter_eq_nil_iff]
    intro m hm h7
    have hm2 := (List.mem_range'_1.1 hm).2
    have := ((up_eq st m i).1 (of_decide_eq_true h7)).1
    omega
  rw [this, List.nil_append, Nat.zero_add, show i + 1 + (st.length - (i + 1)) - (i + 1) = st.length - (i + 1) by omega]

theorem mem_kids (st : Sts) {i k : Nat} (hi : i < st.length) : k ∈ kids st i ↔ k < st.length ∧ up st k = (i : Int) := by
  rw [kids_eq st i hi, List.mem_filter, List.mem_range, decide_eq_true_eq]

end Tr
end Go.Proofs.Ytkndboclpkmdiaa
