/- The reference's Parent, Past, Within, End, Region, Domain. -/
import Derived.Test.YtkndboclpkmdiaaTreeP
namespace Go.Proofs.Ytkndboclpkmdiaa
open Go.RowKit

namespace Tr
def parTo (st : Sts) (d : Int) : Nat → Int
  | 0 => -1
  | k + 1 => if dp st k = d - 1 then (k : Int) else parTo st d k
def par (st : Sts) (i : Nat) : Int := parTo st (dp st i) i
/-- Each state's depth and kind may be. -/
def NB (st : Sts) : Prop := ∀ i, i < st.length → ¬ bad st i
theorem NB.dp {st : Sts} (h : NB st) {i : Nat} (hi : i < st.length) : 0 ≤ dp st i ∧ dp st i ≤ 5 ∧ 1 ≤ kd st i ∧ kd st i ≤ 6 := by
  have := h i hi
  unfold bad at this
  omega
theorem NB.next {st : Sts} (h : NB st) {i : Nat} (hi : i + 1 < st.length) : Tr.dp st (i + 1) ≤ Tr.dp st i + 1 := by
  have := h (i + 1) hi
  unfold bad ahead at this
  rw [if_neg (by omega), Nat.add_sub_cancel] at this
  omega
theorem NB.zero {st : Sts} (h : NB st) (hi : 0 < st.length) : Tr.dp st 0 = 0 := by
  have := h 0 hi
  unfold bad ahead at this
  rw [if_pos rfl] at this
  omega
theorem right_nb {st : Sts} (h : right st) : NB st := h.1.1

theorem parTo_of (st : Sts) (d : Int) (p : Nat) : ∀ k, p < k → dp st p = d - 1 → (∀ m, p < m → m < k → dp st m ≠ d - 1) → parTo st d k = (p : Int)
  | 0, h, _, _ => absurd h (by omega)
  | k + 1, h, h1, h2 => by
    unfold parTo
    by_cases e : k = p
    · subst e; rw [if_pos h1]
    · rw [if_neg (h2 k (by omega) (by omega)), parTo_of st d p k (by omega) h1 (fun m h3 h4 => h2 m h3 (by omega))]
theorem parTo_none (st : Sts) (d : Int) : ∀ k, (∀ m, m < k → dp st m ≠ d - 1) → parTo st d k = -1
  | 0, _ => rfl
  | k + 1, h => by
    unfold parTo
    rw [if_neg (h k (by omega)), parTo_none st d k (fun m hm => h m (by omega))]
theorem parTo_lt (st : Sts) (d : Int) : ∀ k, parTo st d k < k ∧ -1 ≤ parTo st d k
  | 0 => ⟨by unfold parTo; omega, by unfold parTo; omega⟩
  | k + 1 => by
    have := parTo_lt st d k
    unfold parTo
    split <;> omega

theorem NB.par {st : Sts} (h : NB st) {i : Nat} (hi : i < st.length) : par st i = up st i := by
  unfold Tr.par
  rcases up_spec st i with ⟨h1, h2⟩ | ⟨p, h1, h2, h3, h4⟩
  · rw [h1]
    exact parTo_none st _ i (fun m hm => by have := h2 m hm; omega)
  · rw [h1]
    have h5 := h.next (i := p) (by omega)
    have h6 : Tr.dp st i ≤ Tr.dp st (p + 1) := by
      by_cases e : p + 1 = i
      · rw [e]; omega
      · exact h4 (p + 1) (by omega) (by omega)
    exact parTo_of st _ p i h2 (by omega) (fun m hm1 hm2 => by have := h4 m hm1 hm2; omega)

theorem NB.up_neg {st : Sts} (h : NB st) {i : Nat} (hi : i < st.length) : up st i = -1 ↔ Tr.dp st i = 0 := by
  have h0 := h.zero (by omega)
  rcases up_spec st i with ⟨h1, h2⟩ | ⟨p, h1, h2, h3, h4⟩
  · refine ⟨fun _ => ?_, fun _ => h1⟩
    have := (h.dp hi).1
    rcases Nat.eq_zero_or_pos i with rfl | hp
    · exact h0
    · have := h2 0 hp; omega
  · refine ⟨fun h5 => by omega, fun h5 => ?_⟩
    have := (h.dp (show p < st.length by omega)).1
    omega

theorem NB.regFrom_up {st : Sts} (h : NB st) : ∀ (i p : Nat), i < st.length → p < i → 0 < Tr.dp st i → (∀ m, p < m → m < i → 0 < Tr.dp st m) → regFrom st i = regFrom st p
  | 0, p, _, hp, _, _ => absurd hp (by omega)
  | i + 1, p, hi, hp, hd, hm => by
    rw [regFrom_on st (i + 1) (by omega) hd, Nat.add_sub_cancel]
    by_cases e : p = i
    · rw [e]
    · exact h.regFrom_up i p (by omega) (by omega) (hm i (by omega) (by omega)) (fun m h1 h2 => hm m h1 (by omega))
end Tr

theorem refPast_any (w : World) (k : Int) : Calls Try.prog 31 #[.int .i64 k] w fun e w' => e = .returned (.bool (Tr.pastB k)) ∧ w' = w := by
  go_enter Try.func31, Try.ntmps31
  unfold Tr.pastB
  by_cases h5 : k = 5
  · subst h5
    go_wp2
    go_ret
    exact ⟨rfl, rfl⟩
  · by_cases h6 : k = 6
    · subst h6
      go_wp2
      go_ret
      exact ⟨rfl, rfl⟩
    · go_wp2
      go_ret
      exact ⟨by simp [h5, h6], rfl⟩

theorem par_any (w : World) (A : Option Addr) (n c : Nat) (st : Sts) (h : Tree w w.heap.size A n st) (hn : n ≤ maxLen) (i : Nat) (hi : i < n) (hd : 0 ≤ Tr.dp st i ∧ Tr.dp st i ≤ 5) :
    Calls Try.prog 22 #[.slice A n c, .int .i64 (i : Int)] w fun e w' => e = .returned (.int .i64 (Tr.par st i)) ∧ Below w.heap.size w w' := by
  unfold maxLen at hn
  obtain ⟨ad, rfl, hab⟩ := h.addr hi
  go_enter Try.func22, Try.ntmps22
  go_wp2
  go_loopw [6, 5] (fun v f wr => ∃ k : Nat, k ≤ i ∧ v = .int .i64 (k : Int) ∧ f = .int .i64 (Tr.parTo st (Tr.dp st i) k) ∧ Below w.heap.size w wr) (fun v _ _ => i - (intOf v).toNat)
  case atStart => exact ⟨0, Nat.zero_le _, rfl, rfl, Below.refl _ _⟩
  case round =>
    obtain ⟨k, hk, rfl, rfl, hb⟩ := hrel
    have ht := h.below hb
    by_cases hki : k < i
    · have hk1 := (ht.at_ (show k < n by omega)).2
      have hk2 := (ht.at_ hi).2
      have hkz : (k : Int) < (n : Int) := by omega
      have hiz : (i : Int) < (n : Int) := by omega
      have hkn : k < n := by omega
      have hkiz : (k : Int) < (i : Int) := by omega
      have hnx : Tr.parTo st (Tr.dp st i) (k + 1) = if Tr.dp st k = Tr.dp st i - 1 then (k : Int) else Tr.parTo st (Tr.dp st i) k := rfl
      obtain ⟨q', hq'⟩ : ∃ q', Tr.parTo st (Tr.dp st i) (k + 1) = q' := ⟨_, rfl⟩
      rw [hq'] at hnx
      have HQ := Lib.hid hq'
      generalize Tr.parTo st (Tr.dp st i) k = q at *
      obtain ⟨d1, h1⟩ : ∃ x, Tr.dp st k = x := ⟨_, rfl⟩
      obtain ⟨d2, h2⟩ : ∃ x, Tr.dp st i = x := ⟨_, rfl⟩
      rw [h1, h2] at hnx
      rw [h1] at hk1
      rw [h2] at hk2 hd
      clear h1 h2 hq'
      have hwr := IntWalk.i64_in (d2 - 1) (by omega)
      by_cases he : d1 = d2 - 1
      · rw [if_pos he] at hnx
        have HN := Lib.hid hnx
        have hdec : (d1 == d2 - 1) = true := by rw [he]; simp
        clear hnx he
        go_wp2
        go_quiet (fail)
        go_wp2
        go_roundw
        case rel => exact ⟨k + 1, by omega, by go_num, by rw [HQ.out, HN.out], Tr.below_drewN hb _⟩
        case measure => simp [intOf]; omega
      · rw [if_neg he] at hnx
        have HN := Lib.hid hnx
        clear hnx
        go_wp2
        go_quiet (fail)
        go_wp2
        go_roundw
        case rel => exact ⟨k + 1, by omega, by go_num, by rw [HQ.out, HN.out], Tr.below_drewN hb _⟩
        case measure => simp [intOf]; omega
    · obtain rfl : k = i := by omega
      have hkk : ¬ (k : Int) < (k : Int) := by omega
      go_wp2
      go_ret
      exact ⟨rfl, hb⟩

theorem parent_any' (w : World) (A : Option Addr) (n c : Nat) (st : Sts) (h : Tree w w.heap.size A n st) (hn : n ≤ maxLen) (nb : Tr.NB st) (i : Nat) (hi : i < n) :
    Calls Try.prog 22 #[.slice A n c, .int .i64 (i : Int)] w fun e w' => e = .returned (.int .i64 (Tr.up st i)) ∧ Below w.heap.size w w' := by
  have hil : i < st.length := by rw [h.1]; exact hi
  have := par_any w A n c st h hn i hi ⟨(nb.dp hil).1, (nb.dp hil).2.1⟩
  rw [nb.par hil] at this
  exact this

/-- What the chain of parents comes by. -/
def ChainHas (st : Sts) (i : Nat) (q : Int) : Prop := ∃ p : Nat, q = (p : Int) ∧ (i = p ∨ (i < p ∧ p < Tr.fin st i))

theorem refWithin_any (w : World) (A : Option Addr) (n c : Nat) (st : Sts) (h : Tree w w.heap.size A n st) (hn : n ≤ maxLen) (nb : Tr.NB st) (i j : Nat) (hj : j < n) :
    Calls Try.prog 16 #[.slice A n c, .int .i64 (i : Int), .int .i64 (j : Int)] w fun e w' => e = .returned (.bool (decide (i < j ∧ j < Tr.fin st i))) ∧ Below w.heap.size w w' := by
  have hl := h.1
  have hup := fun q => Tr.up_lt st q
  obtain ⟨b, hb0⟩ : ∃ b, decide (i < j ∧ j < Tr.fin st i) = b := ⟨_, rfl⟩
  rw [hb0]
  go_enter Try.func16, Try.ntmps16
  go_wp2_with fail
  refine (parent_any' w A n c st h hn nb j hj).mono ?_
  rintro e w1 ⟨rfl, hb1⟩
  have hw0 := Tr.within_up st (i := i) (j := j) (by rw [hl]; exact hj)
  go_wp2
  go_loopw [7] (fun v wr => ∃ q : Int, v = .int .i64 q ∧ -1 ≤ q ∧ q < (n : Int) ∧ Below w.heap.size w wr ∧ (b = true ↔ ChainHas st i q)) (fun v _ => (intOf v + 1).toNat)
  case atStart => exact ⟨Tr.up st j, rfl, (hup j).2, by have := (hup j).1; omega, hb1, by rw [← hb0, decide_eq_true_eq]; exact hw0⟩
  case round =>
    obtain ⟨q, rfl, hq1, hqn, hb, hbq⟩ := hrel
    clear hb0
    by_cases hq0 : q < 0
    · have hbf : b = false := by
        cases b with
        | false => rfl
        | true =>
          obtain ⟨p, hp, _⟩ := hbq.1 rfl
          omega
      subst hbf
      have hqz : ¬ (0 : Int) ≤ q := by omega
      go_wp2
      go_ret
      exact ⟨rfl, hb⟩
    · obtain ⟨m, rfl⟩ : ∃ m : Nat, q = (m : Int) := ⟨q.toNat, by omega⟩
      have hqz : (0 : Int) ≤ (m : Int) := by omega
      have hmn : m < n := by omega
      by_cases he : m = i
      · have hbt : b = true := hbq.2 ⟨m, rfl, .inl he.symm⟩
        subst hbt
        subst he
        go_wp2
        go_ret
        exact ⟨rfl, hb⟩
      · have hez : ¬ (m : Int) = (i : Int) := by omega
        have HB := Lib.hid (show b = true ↔ ChainHas st i (Tr.up st m) by
          rw [hbq]
          constructor
          · rintro ⟨p, hp, h1⟩
            obtain rfl : m = p := by omega
            rcases h1 with h1 | h1
            · exact absurd h1.symm he
            · exact (Tr.within_up st (by rw [hl]; exact hmn)).1 h1
          · intro h1
            exact ⟨m, rfl, .inr ((Tr.within_up st (by rw [hl]; exact hmn)).2 h1)⟩)
        clear hbq
        have hum := hup m
        go_wp2_with fail
        refine (parent_any' _ A n c st ((h.below hb).more hb.size) hn nb m hmn).mono ?_
        rintro e w3 ⟨rfl, hb3⟩
        go_wp2
        go_roundw
        case rel => exact ⟨Tr.up st m, rfl, hum.2, by omega, hb.trans (hb3.mono hb.size), HB.out⟩
        case measure => simp [intOf]; omega

theorem refEnd_any (w : World) (A : Option Addr) (n c : Nat) (st : Sts) (h : Tree w w.heap.size A n st) (hn : n ≤ maxLen) (nb : Tr.NB st) (i : Nat) (hi : i < n) :
    Calls Try.prog 23 #[.slice A n c, .int .i64 (i : Int)] w fun e w' => e = .returned (.int .i64 (Tr.fin st i : Int)) ∧ Below w.heap.size w w' := by
  have hn' := hn
  unfold maxLen at hn'
  have hfl := Tr.fin_le st (i := i) (by rw [h.1]; exact hi)
  rw [h.1] at hfl
  have hfg := Tr.fin_gt st i
  go_enter Try.func23, Try.ntmps23
  go_wp2
  go_loopw [5] (fun v wr => ∃ k : Nat, v = .int .i64 (k : Int) ∧ i < k ∧ k ≤ Tr.fin st i ∧ Below w.heap.size w wr) (fun v _ => n - (intOf v).toNat)
  case atStart => exact ⟨i + 1, by go_num, by omega, by omega, Below.refl _ _⟩
  case round =>
    obtain ⟨k, rfl, hik, hkf, hb⟩ := hrel
    have htr := (h.below hb).more hb.size
    by_cases hkn : k < n
    · have hkz : (k : Int) < (n : Int) := by omega
      by_cases hf : k < Tr.fin st i
      · go_wp2_with fail
        refine (refWithin_any wr A n c st htr hn nb i k hkn).mono ?_
        rintro e w3 ⟨rfl, hb3⟩
        rw [decide_eq_true ⟨hik, hf⟩]
        go_wp2
        go_roundw
        case rel => exact ⟨k + 1, by go_num, by omega, by omega, hb.trans (hb3.mono hb.size)⟩
        case measure => simp [intOf]; omega
      · obtain rfl : k = Tr.fin st i := by omega
        go_wp2_with fail
        refine (refWithin_any wr A n c st htr hn nb i _ hkn).mono ?_
        rintro e w3 ⟨rfl, hb3⟩
        rw [decide_eq_false (fun h => hf h.2)]
        go_wp2
        go_ret
        exact ⟨rfl, hb.trans (hb3.mono hb.size)⟩
    · have hkf2 : k = Tr.fin st i := by omega
      have hkz : ¬ (k : Int) < (n : Int) := by omega
      have HF := Lib.hid hkf2
      clear hkf2
      go_wp2
      go_ret
      exact ⟨by rw [← HF.out]; rfl, hb⟩

theorem refRegion_any (w : World) (A : Option Addr) (n c : Nat) (st : Sts) (h : Tree w w.heap.size A n st) (hn : n ≤ maxLen) (nb : Tr.NB st) (i : Nat) (hi : i < n) :
    Calls Try.prog 26 #[.slice A n c, .int .i64 (i : Int)] w fun e w' => e = .returned (.int .i64 (Tr.regFrom st i : Int)) ∧ Below w.heap.size w w' := by
  have hl := h.1
  go_enter Try.func26, Try.ntmps26
  go_wp2
  go_loopw [1] (fun v wr => ∃ m : Nat, v = .int .i64 (m : Int) ∧ m < n ∧ Below w.heap.size w wr ∧ Tr.regFrom st m = Tr.regFrom st i) (fun v _ => (intOf v).toNat)
  case atStart => exact ⟨i, rfl, hi, Below.refl _ _, rfl⟩
  case round =>
    obtain ⟨m, rfl, hmn, hb, hu⟩ := hrel
    have htr := (h.below hb).more hb.size
    have hml : m < st.length := by rw [hl]; exact hmn
    go_wp2_with fail
    refine (parent_any' wr A n c st htr hn nb m hmn).mono ?_
    rintro e w2 ⟨rfl, hb2⟩
    have hb2' := hb.trans (hb2.mono hb.size)
    rcases Tr.up_spec st m with ⟨h1, _⟩ | ⟨p, h1, h2, h3, h4⟩
    · rw [h1]
      have hd := (nb.up_neg hml).1 h1
      rw [Tr.regFrom_stop st m (by omega)] at hu
      have HU := Lib.hid hu
      clear hu h1
      go_wp2
      go_ret
      exact ⟨by rw [← HU.out]; rfl, hb2'⟩
    · have hd0 := (nb.dp (show p < st.length by omega)).1
      have hu2 := nb.regFrom_up m p hml h2 (by omega) (fun k hk1 hk2 => by have := h4 k hk1 hk2; omega)
      have HU := Lib.hid (hu2.symm.trans hu)
      have H1 := Lib.hid h1
      rw [h1]
      have hp0 : (0 : Int) ≤ (p : Int) := by omega
      clear hu hu2 h1
      go_wp2_with fail
      refine (parent_any' w2 A n c st ((h.below hb2').more hb2'.size) hn nb m hmn).mono ?_
      rintro e w3 ⟨rfl, hb3⟩
      rw [H1.out]
      go_wp2
      go_roundw
      case rel => exact ⟨p, rfl, by omega, hb2'.trans (hb3.mono hb2'.size), HU.out⟩
      case measure => simp [intOf]; omega

theorem refDomain_any (w : World) (A : Option Addr) (n c : Nat) (st : Sts) (h : Tree w w.heap.size A n st) (hn : n ≤ maxLen) (nb : Tr.NB st) (i j : Nat) (hi : i < n) (hj : j < n) :
    Calls Try.prog 17 #[.slice A n c, .int .i64 (i : Int), .int .i64 (j : Int)] w fun e w' => e = .returned (.int .i64 (Tr.domain st i j)) ∧ Below w.heap.size w w' := by
  obtain ⟨ad, rfl, hab⟩ := h.addr hi
  have HD := Lib.hid (show Tr.domTo st j (i + 2) i = Tr.domain st i j from rfl)
  generalize Tr.domain st i j = D at *
  go_enter Try.func17, Try.ntmps17
  go_wp2
  go_loopw [7] (fun v wr => ∃ (k : Int) (f : Nat), v = .int .i64 k ∧ -1 ≤ k ∧ k ≤ (i : Int) ∧ k + 1 < (f : Int) ∧ Below w.heap.size w wr ∧ Tr.domTo st j f k = D) (fun v _ => (intOf v + 1).toNat)
  case atStart => exact ⟨i, i + 2, rfl, by omega, by omega, by omega, Below.refl _ _, HD.out⟩
  case round =>
    obtain ⟨k, f, rfl, hk1, hki, hkf, hbr, hu⟩ := hrel
    obtain ⟨f, rfl⟩ : ∃ g, f = g + 1 := ⟨f - 1, by omega⟩
    rw [Tr.domTo_step st j f k] at hu
    by_cases hk0 : k < 0
    · rw [if_pos hk0] at hu
      obtain rfl : k = -1 := by omega
      subst hu
      go_wp2
      go_ret
      exact ⟨rfl, hbr⟩
    · rw [if_neg hk0] at hu
      obtain ⟨m, rfl⟩ : ∃ m : Nat, k = (m : Int) := ⟨k.toNat, by omega⟩
      rw [Int.toNat_natCast] at hu
      have hmn : m < n := by omega
      have hmz : (m : Int) < (n : Int) := by omega
      have hm0 : (0 : Int) ≤ (m : Int) := by omega
      have htr := (h.below hbr).more hbr.size
      have hk1' := (htr.at_ hmn).1
      have hul := Tr.up_lt st m
      by_cases hc : Tr.kd st m = 2 ∧ (m : Int) < (j : Int) ∧ j < Tr.fin st m
      · rw [if_pos hc] at hu
        obtain ⟨hK, hmj, hjf⟩ := hc
        have HU := Lib.hid hu
        rw [hK] at hk1'
        clear hu hK
        go_wp2_with fail
        refine (refWithin_any wr (some ad) n c st htr hn nb m j hj).mono ?_
        rintro e w4 ⟨rfl, hb4⟩
        rw [decide_eq_true ⟨by omega, hjf⟩]
        go_wp2
        go_ret
        exact ⟨by rw [← HU.out]; rfl, hbr.trans (hb4.mono hbr.size)⟩
      · rw [if_neg hc] at hu
        have HU := Lib.hid hu
        obtain ⟨K, hK⟩ : ∃ K, Tr.kd st m = K := ⟨_, rfl⟩
        rw [hK] at hc hk1'
        clear hu hK
        by_cases h2 : K = 2
        · subst h2
          have hcf : ¬ (m < j ∧ j < Tr.fin st m) := fun h => hc ⟨rfl, by omega, h.2⟩
          clear hc
          go_wp2_with fail
          refine (refWithin_any wr (some ad) n c st htr hn nb m j hj).mono ?_
          rintro e w4 ⟨rfl, hb4⟩
          rw [decide_eq_false hcf]
          clear hcf
          go_wp2_with fail
          refine (parent_any' w4 (some ad) n c st ((htr.below hb4).more hb4.size) hn nb m hmn).mono ?_
          rintro e w5 ⟨rfl, hb5⟩
          go_wp2
          go_roundw
          case rel => exact ⟨Tr.up st m, f, rfl, hul.2, by omega, by omega, (hbr.trans (hb4.mono hbr.size)).trans (hb5.mono (Nat.le_trans hbr.size hb4.size)), HU.out⟩
          case measure => simp [intOf]; omega
        · clear hc
          go_wp2_with fail
          refine (parent_any' wr (some ad) n c st htr hn nb m hmn).mono ?_
          rintro e w5 ⟨rfl, hb5⟩
          go_wp2
          go_roundw
          case rel => exact ⟨Tr.up st m, f, rfl, hul.2, by omega, by omega, hbr.trans (hb5.mono hbr.size), HU.out⟩
          case measure => simp [intOf]; omega

end Go.Proofs.Ytkndboclpkmdiaa
