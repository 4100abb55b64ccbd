/- 'has', 'Parent', 'End', 'Within', 'Region', 'Domain' of package tree. -/
import Derived.Test.YtgmhkjmnfafccaaGreatDoorTreeD
namespace Go.Proofs.YtgmhkjmnfafccaaGreatDoor
open Go.RowKit

namespace Tr
def hasB (st : Sts) (i : Int) : Bool := decide (0 ≤ i) && decide (i < (st.length : Int)) && decide (right st)
def pParent (st : Sts) (i : Int) : Int := if hasB st i then up st i.toNat else -1
def pEnd (st : Sts) (i : Int) : Int := if hasB st i then (fin st i.toNat : Int) else -1
def pWithin (st : Sts) (i j : Int) : Bool := hasB st i && hasB st j && decide (i < j) && decide (j < (fin st i.toNat : Int))
/-- The last place at or ahead of i whose depth is not above 0. -/
def regFrom (st : Sts) : Nat → Nat
  | 0 => 0
  | i + 1 => if 0 < dp st (i + 1) then regFrom st i else i + 1
def domTo (st : Sts) (to : Nat) : Nat → Int → Int
  | 0, _ => -1
  | f + 1, k => if k < 0 then -1 else if kd st k.toNat = 2 ∧ k < to ∧ to < fin st k.toNat then k else domTo st to f (up st k.toNat)
theorem domTo_step (st : Sts) (to f : Nat) (k : Int) : domTo st to (f + 1) k = if k < 0 then -1 else if kd st k.toNat = 2 ∧ k < to ∧ to < fin st k.toNat then k else domTo st to f (up st k.toNat) := rfl
def domain (st : Sts) (i j : Nat) : Int := domTo st j (i + 2) i
theorem upTo_lt (st : Sts) (d : Int) : ∀ k, upTo st d k < k ∧ -1 ≤ upTo st d k
  | 0 => ⟨by unfold upTo; omega, by unfold upTo; omega⟩
  | k + 1 => by
    have := upTo_lt st d k
    unfold upTo
    split <;> omega
theorem up_lt (st : Sts) (k : Nat) : up st k < k ∧ -1 ≤ up st k := upTo_lt st _ k
end Tr

theorem right_any (w : World) (A : Option Addr) (n c : Nat) (st : Sts) (h : Tree w w.heap.size A n st) (hw : Tr.Wf st) (hn : n ≤ maxLen) :
    Calls Tryz.prog 104 #[.slice A n c] w fun e w' => e = .returned (.bool (decide (Tr.right st))) ∧ Below w.heap.size w w' :=
  (callsIn_wide (n := 3)).1 (right_in A n c st w h hw hn)

theorem has_any (w : World) (A : Option Addr) (n c : Nat) (st : Sts) (h : Tree w w.heap.size A n st) (hw : Tr.Wf st) (hn : n ≤ maxLen) (i : Int) :
    Calls Tryz.prog 113 #[.slice A n c, .int .i64 i] w fun e w' => e = .returned (.bool (Tr.hasB st i)) ∧ Below w.heap.size w w' := by
  go_enter Tryz.func113, Tryz.ntmps113
  have hl := h.1
  by_cases h0 : 0 ≤ i
  · by_cases h1 : i < (n : Int)
    · have HF := Lib.hid (show Tr.hasB st i = decide (Tr.right st) by unfold Tr.hasB; rw [hl, decide_eq_true h0, decide_eq_true h1]; rfl)
      go_wp2_with fail
      refine (right_any w A n c st h hw hn).mono ?_
      rintro e w1 ⟨rfl, hb⟩
      go_wp2
      go_ret
      exact ⟨by rw [HF.out]; rfl, hb⟩
    · have HF := Lib.hid (show Tr.hasB st i = false by unfold Tr.hasB; rw [hl, decide_eq_false h1, Bool.and_false]; rfl)
      go_wp2
      go_ret
      exact ⟨by rw [HF.out]; rfl, Below.refl _ _⟩
  · have HF := Lib.hid (show Tr.hasB st i = false by unfold Tr.hasB; rw [decide_eq_false h0]; rfl)
    go_wp2
    go_ret
    exact ⟨by rw [HF.out]; rfl, Below.refl _ _⟩

theorem hasB_iff {st : Sts} {i : Int} : Tr.hasB st i = true ↔ ∃ k : Nat, i = (k : Int) ∧ k < st.length ∧ Tr.right st := by
  unfold Tr.hasB
  simp only [Bool.and_eq_true, decide_eq_true_eq]
  constructor
  · rintro ⟨⟨h0, h1⟩, h2⟩
    exact ⟨i.toNat, by omega, by omega, h2⟩
  · rintro ⟨k, rfl, h1, h2⟩
    exact ⟨⟨by omega, by omega⟩, h2⟩

theorem parent_any (w : World) (A : Option Addr) (n c : Nat) (st : Sts) (h : Tree w w.heap.size A n st) (hw : Tr.Wf st) (hn : n ≤ maxLen) (i : Int) :
    Calls Tryz.prog 118 #[.slice A n c, .int .i64 i] w fun e w' => e = .returned (.int .i64 (Tr.pParent st i)) ∧ Below w.heap.size w w' := by
  go_enter Tryz.func118, Tryz.ntmps118
  go_wp2_with fail
  refine (has_any w A n c st h hw hn i).mono ?_
  rintro e w1 ⟨rfl, hb⟩
  obtain ⟨b, hh⟩ : ∃ b, Tr.hasB st i = b := ⟨_, rfl⟩
  rw [hh]
  have HB := Lib.hid hh
  cases b with
  | false =>
    clear hh
    go_wp2
    go_ret
    exact ⟨by unfold Tr.pParent; rw [HB.out]; rfl, hb⟩
  | true =>
    obtain ⟨k, rfl, hk, _⟩ := hasB_iff.1 hh
    rw [h.1] at hk
    clear hh
    go_wp2_with fail
    refine (up_any w1 A n c st (h.below hb |>.more hb.size) hn k hk).mono ?_
    rintro e w2 ⟨rfl, hb2⟩
    go_wp2
    go_ret
    exact ⟨by unfold Tr.pParent; rw [HB.out]; rfl, hb.trans (hb2.mono hb.size)⟩

theorem end_any (w : World) (A : Option Addr) (n c : Nat) (st : Sts) (h : Tree w w.heap.size A n st) (hw : Tr.Wf st) (hn : n ≤ maxLen) (i : Int) :
    Calls Tryz.prog 171 #[.slice A n c, .int .i64 i] w fun e w' => e = .returned (.int .i64 (Tr.pEnd st i)) ∧ Below w.heap.size w w' := by
  go_enter Tryz.func171, Tryz.ntmps171
  go_wp2_with fail
  refine (has_any w A n c st h hw hn i).mono ?_
  rintro e w1 ⟨rfl, hb⟩
  obtain ⟨b, hh⟩ : ∃ b, Tr.hasB st i = b := ⟨_, rfl⟩
  rw [hh]
  have HB := Lib.hid hh
  cases b with
  | false =>
    clear hh
    go_wp2
    go_ret
    exact ⟨by unfold Tr.pEnd; rw [HB.out]; rfl, hb⟩
  | true =>
    obtain ⟨k, rfl, hk, _⟩ := hasB_iff.1 hh
    rw [h.1] at hk
    clear hh
    go_wp2_with fail
    refine (fin_any w1 A n c st (h.below hb |>.more hb.size) hn k hk).mono ?_
    rintro e w2 ⟨rfl, hb2⟩
    go_wp2
    go_ret
    exact ⟨by unfold Tr.pEnd; rw [HB.out]; rfl, hb.trans (hb2.mono hb.size)⟩

theorem within_any (w : World) (A : Option Addr) (n c : Nat) (st : Sts) (h : Tree w w.heap.size A n st) (hw : Tr.Wf st) (hn : n ≤ maxLen) (i j : Int) :
    Calls Tryz.prog 162 #[.slice A n c, .int .i64 i, .int .i64 j] w fun e w' => e = .returned (.bool (Tr.pWithin st i j)) ∧ Below w.heap.size w w' := by
  go_enter Tryz.func162, Tryz.ntmps162
  go_wp2_with fail
  refine (has_any w A n c st h hw hn i).mono ?_
  rintro e w1 ⟨rfl, hb⟩
  obtain ⟨b, hh⟩ : ∃ b, Tr.hasB st i = b := ⟨_, rfl⟩
  rw [hh]
  have HB := Lib.hid hh
  cases b with
  | false =>
    clear hh
    go_wp2
    go_ret
    exact ⟨by unfold Tr.pWithin; rw [HB.out]; rfl, hb⟩
  | true =>
    obtain ⟨k, rfl, hk, _⟩ := hasB_iff.1 hh
    rw [h.1] at hk
    clear hh
    have h1 := h.below hb |>.more hb.size
    go_wp2_with fail
    refine (has_any w1 A n c st h1 hw hn j).mono ?_
    rintro e w2 ⟨rfl, hb2⟩
    obtain ⟨b, hh2⟩ : ∃ b, Tr.hasB st j = b := ⟨_, rfl⟩
    rw [hh2]
    have HB2 := Lib.hid hh2
    clear hh2
    cases b with
    | false =>
      go_wp2
      go_ret
      exact ⟨by unfold Tr.pWithin; rw [HB.out, HB2.out]; rfl, hb.trans (hb2.mono hb.size)⟩
    | true =>
      by_cases hij : (k : Int) < j
      · go_wp2_with fail
        refine (fin_any w2 A n c st (h1.below hb2 |>.more hb2.size) hn k hk).mono ?_
        rintro e w3 ⟨rfl, hb3⟩
        go_wp2
        go_ret
        exact ⟨by unfold Tr.pWithin; rw [HB.out, HB2.out, decide_eq_true hij]; rfl, (hb.trans (hb2.mono hb.size)).trans (hb3.mono (Nat.le_trans hb.size hb2.size))⟩
      · go_wp2
        go_ret
        exact ⟨by unfold Tr.pWithin; rw [HB.out, HB2.out, decide_eq_false (Int.not_lt.2 hij)]; rfl, hb.trans (hb2.mono hb.size)⟩

namespace Tr
def pRegion (st : Sts) (i : Int) : Int := if hasB st i then (regFrom st i.toNat : Int) else -1
def pDomain (st : Sts) (i j : Int) : Int := if hasB st i && hasB st j then domain st i.toNat j.toNat else -1
theorem regFrom_on (st : Sts) (m : Nat) (h : 0 < m) (hd : 0 < dp st m) : regFrom st m = regFrom st (m - 1) := by
  obtain ⟨k, rfl⟩ : ∃ k, m = k + 1 := ⟨m - 1, by omega⟩
  rw [regFrom, if_pos hd, Nat.add_sub_cancel]
theorem regFrom_stop (st : Sts) (m : Nat) (hd : ¬ 0 < dp st m) : regFrom st m = m := by
  cases m with
  | zero => rfl
  | succ k => rw [regFrom, if_neg hd]
theorem right_le {st : Sts} (h : right st) : st.length ≤ 40 := h.1.2.2.2
theorem right_dp0 {st : Sts} (h : right st) : dp st 0 = 0 := by
  have h0 := h.1.1 0 h.1.2.2.1
  unfold bad ahead at h0
  rw [if_pos rfl] at h0
  omega
end Tr

theorem region_any (w : World) (A : Option Addr) (n c : Nat) (st : Sts) (h : Tree w w.heap.size A n st) (hw : Tr.Wf st) (hn : n ≤ maxLen) (i : Int) :
    Calls Tryz.prog 55 #[.slice A n c, .int .i64 i] w fun e w' => e = .returned (.int .i64 (Tr.pRegion st i)) ∧ Below w.heap.size w w' := by
  go_enter Tryz.func55, Tryz.ntmps55
  go_wp2_with fail
  refine (has_any w A n c st h hw hn i).mono ?_
  rintro e w1 ⟨rfl, hb⟩
  obtain ⟨b, hh⟩ : ∃ b, Tr.hasB st i = b := ⟨_, rfl⟩
  rw [hh]
  have HB := Lib.hid hh
  cases b with
  | false =>
    clear hh
    go_wp2
    go_ret
    exact ⟨by unfold Tr.pRegion; rw [HB.out]; rfl, hb⟩
  | true =>
    obtain ⟨k, rfl, hk, hr⟩ := hasB_iff.1 hh
    rw [h.1] at hk
    have hd0 := Tr.right_dp0 hr
    have hn40 := Tr.right_le hr
    rw [h.1] at hn40
    have HR := Lib.hid (show Tr.pRegion st (k : Int) = (Tr.regFrom st k : Int) by unfold Tr.pRegion; rw [hh]; rfl)
    clear hh hr HB
    go_wp2
    go_loopw [1] (fun v wr => ∃ m : Nat, m ≤ k ∧ v = .int .i64 (m : Int) ∧ Below w.heap.size w wr ∧ Tr.regFrom st m = Tr.regFrom st k) (fun v _ => (intOf v).toNat)
    case atStart => exact ⟨k, Nat.le_refl _, rfl, hb, rfl⟩
    case round =>
      obtain ⟨m, hm, rfl, hbr, hu⟩ := hrel
      obtain ⟨ad, rfl, hab⟩ := h.addr hk
      have hmn : m < n := by omega
      have hmz : (m : Int) < (n : Int) := by omega
      have hk2 := ((h.below hbr).at_ hmn).2
      by_cases hd : 0 < Tr.dp st m
      · have hm0 : 0 < m := by
          rcases Nat.eq_zero_or_pos m with h0 | h0
          · subst h0; omega
          · exact h0
        rw [Tr.regFrom_on st m hm0 hd] at hu
        have HU := Lib.hid hu
        obtain ⟨D, hD⟩ : ∃ D, Tr.dp st m = D := ⟨_, rfl⟩
        rw [hD] at hd hk2
        clear hu hD hd0
        go_wp2
        go_roundw
        case rel => exact ⟨m - 1, by omega, by congr 1; omega, hbr, HU.out⟩
        case measure => simp [intOf]; omega
      · rw [Tr.regFrom_stop st m hd] at hu
        have HU := Lib.hid hu
        obtain ⟨D, hD⟩ : ∃ D, Tr.dp st m = D := ⟨_, rfl⟩
        rw [hD] at hd hk2
        clear hu hD hd0
        go_wp2
        go_ret
        exact ⟨by rw [HR.out, ← HU.out]; rfl, hbr⟩

theorem domain_any (w : World) (A : Option Addr) (n c : Nat) (st : Sts) (h : Tree w w.heap.size A n st) (hw : Tr.Wf st) (hn : n ≤ maxLen) (i j : Int) :
    Calls Tryz.prog 166 #[.slice A n c, .int .i64 i, .int .i64 j] w fun e w' => e = .returned (.int .i64 (Tr.pDomain st i j)) ∧ Below w.heap.size w w' := by
  go_enter Tryz.func166, Tryz.ntmps166
  go_wp2_with fail
  refine (has_any w A n c st h hw hn i).mono ?_
  rintro e w1 ⟨rfl, hb⟩
  obtain ⟨b, hh⟩ : ∃ b, Tr.hasB st i = b := ⟨_, rfl⟩
  rw [hh]
  cases b with
  | false =>
    have HB := Lib.hid hh
    clear hh
    go_wp2
    go_ret
    exact ⟨by unfold Tr.pDomain; rw [HB.out]; rfl, hb⟩
  | true =>
    obtain ⟨i, rfl, hi, hr⟩ := hasB_iff.1 hh
    have h1 := h.below hb |>.more hb.size
    have HB := Lib.hid hh
    clear hh
    go_wp2_with fail
    refine (has_any w1 A n c st h1 hw hn j).mono ?_
    rintro e w2 ⟨rfl, hb2⟩
    obtain ⟨b, hh2⟩ : ∃ b, Tr.hasB st j = b := ⟨_, rfl⟩
    rw [hh2]
    have hb2' : Below w.heap.size w w2 := hb.trans (hb2.mono hb.size)
    cases b with
    | false =>
      have HB2 := Lib.hid hh2
      clear hh2
      go_wp2
      go_ret
      exact ⟨by unfold Tr.pDomain; rw [HB.out, HB2.out]; rfl, hb2'⟩
    | true =>
      obtain ⟨j, rfl, hj, _⟩ := hasB_iff.1 hh2
      have HR := Lib.hid (show Tr.pDomain st (i : Int) (j : Int) = Tr.domTo st j (i + 2) i by unfold Tr.pDomain Tr.domain; rw [HB.out, hh2]; rfl)
      rw [h.1] at hi hj
      clear hh2 HB hr
      go_wp2
      go_loopw [7] (fun v wr => ∃ (k : Int) (f : Nat), v = .int .i64 k ∧ -1 ≤ k ∧ k ≤ (i : Int) ∧ k + 1 < (f : Int) ∧ Below w.heap.size w wr ∧ Tr.domTo st j f k = Tr.domTo st j (i + 2) i) (fun v _ => (intOf v + 1).toNat)
      case atStart => exact ⟨i, i + 2, rfl, by omega, by omega, by omega, hb2', rfl⟩
      case round =>
        obtain ⟨k, f, rfl, hk1, hki, hkf, hbr, hu⟩ := hrel
        obtain ⟨ad, rfl, hab⟩ := h.addr hi
        obtain ⟨f, rfl⟩ : ∃ g, f = g + 1 := ⟨f - 1, by omega⟩
        rw [Tr.domTo_step st j f k] at hu
        by_cases hk0 : k < 0
        · rw [if_pos hk0] at hu
          have HU := Lib.hid hu
          clear hu
          go_wp2
          go_ret
          exact ⟨by rw [HR.out, ← HU.out]; rfl, hbr⟩
        · rw [if_neg hk0] at hu
          obtain ⟨m, rfl⟩ : ∃ m : Nat, k = (m : Int) := ⟨k.toNat, by omega⟩
          rw [Int.toNat_natCast] at hu
          have hmn : m < n := by omega
          have hmz : (m : Int) < (n : Int) := by omega
          have hm0 : (0 : Int) ≤ (m : Int) := by omega
          have htr := (h.below hbr).more hbr.size
          have hk1' := (htr.at_ hmn).1
          have hul := Tr.up_lt st m
          by_cases hc : Tr.kd st m = 2 ∧ (m : Int) < (j : Int) ∧ j < Tr.fin st m
          · rw [if_pos hc] at hu
            have HU := Lib.hid hu
            obtain ⟨hK, hmj, hjf⟩ := hc
            have hjfz : (j : Int) < (Tr.fin st m : Int) := by omega
            rw [hK] at hk1'
            clear hu hK
            go_wp2_with fail
            refine (fin_any wr (some ad) n c st htr hn m hmn).mono ?_
            rintro e w4 ⟨rfl, hb4⟩
            go_wp2
            go_ret
            exact ⟨by rw [HR.out, ← HU.out]; rfl, hbr.trans (hb4.mono hbr.size)⟩
          · rw [if_neg hc] at hu
            have HU := Lib.hid hu
            obtain ⟨K, hK⟩ : ∃ K, Tr.kd st m = K := ⟨_, rfl⟩
            rw [hK] at hc hk1'
            clear hu hK
            by_cases h2 : K = 2
            · subst h2
              by_cases h3 : (m : Int) < (j : Int)
              · have hjfz : ¬ (j : Int) < (Tr.fin st m : Int) := fun h => hc ⟨rfl, h3, by omega⟩
                clear hc
                go_wp2_with fail
                refine (fin_any wr (some ad) n c st htr hn m hmn).mono ?_
                rintro e w4 ⟨rfl, hb4⟩
                go_wp2_with fail
                refine (up_any w4 (some ad) n c st ((htr.below hb4).more hb4.size) hn m hmn).mono ?_
                rintro e w5 ⟨rfl, hb5⟩
                go_wp2
                go_roundw
                case rel => exact ⟨Tr.up st m, f, rfl, hul.2, by omega, by omega, (hbr.trans (hb4.mono hbr.size)).trans (hb5.mono (Nat.le_trans hbr.size hb4.size)), HU.out⟩
                case measure => simp [intOf]; omega
              · clear hc
                go_wp2_with fail
                refine (up_any wr (some ad) n c st htr hn m hmn).mono ?_
                rintro e w5 ⟨rfl, hb5⟩
                go_wp2
                go_roundw
                case rel => exact ⟨Tr.up st m, f, rfl, hul.2, by omega, by omega, hbr.trans (hb5.mono hbr.size), HU.out⟩
                case measure => simp [intOf]; omega
            · clear hc
              go_wp2_with fail
              refine (up_any wr (some ad) n c st htr hn m hmn).mono ?_
              rintro e w5 ⟨rfl, hb5⟩
              go_wp2
              go_roundw
              case rel => exact ⟨Tr.up st m, f, rfl, hul.2, by omega, by omega, hbr.trans (hb5.mono hbr.size), HU.out⟩
              case measure => simp [intOf]; omega

end Go.Proofs.YtgmhkjmnfafccaaGreatDoor
