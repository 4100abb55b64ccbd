/- The walk of TreeDomains. -/
import Derived.Test.YtkndboclpkmdiaaTreeY
namespace Go.Proofs.Ytkndboclpkmdiaa.treeDomains
open Go.RowKit

set_option maxHeartbeats 4000000 in
set_option maxRecDepth 100000 in
theorem walk (v0 : Value) (i j : Int) (w : World) {H : Type} {enc : TypeId × Value → H} {base : Nat} {d : DataW H} {p : List MemPlace}
    (hv : Value.okWide Try.prog w .any base 22 v0) (h1 : DataW.Trod enc Try.prog w 0 (fun _ => true) true 22 v0 d p) (_lt1 : ∀ x ∈ p, x.block < w.heap.size) (hz1 : ∀ n ∈ d.weights Try.prog 22, n ≤ reachBytes) (_wi : (Lit.int .i64 i).wf = true) (_wj : (Lit.int .i64 j).wf = true) :
    Calls Try.prog 6 #[v0, .int .i64 i, .int .i64 j] w fun e w' => e = .returned (.bool true) ∧ Below w.heap.size w w' := by
  obtain ⟨A, n, c, st, rfl, hnc, hcz, hnm, hT, hwf⟩ := open_tree hv h1 hz1
  have hn96 : n * 96 ≤ 140737488355328 := by unfold reachBytes at hcz; omega
  clear hv h1 _lt1 hz1 hcz hnc
  go_enter Try.func6, Try.ntmps6
  go_wp2_with fail
  refine (wakes_any w).mono ?_
  rintro e w1 ⟨rfl, hb1⟩
  go_wp2_with fail
  refine (copied_any w1 A n c st ((hT.below hb1).more hb1.size) hn96).mono ?_
  rintro e w2 ⟨A2, c2, rfl, hb2, ht2⟩
  have hB2 := hb1.trans (hb2.mono hb1.size)
  go_wp2_with fail
  refine (domain_any w2 A2 n c2 st ht2 hwf hnm i j).mono ?_
  rintro e w3 ⟨rfl, hb3⟩
  have hB3 := hB2.trans (hb3.mono hB2.size)
  clear ht2 hb2 hb3
  have hl := hT.1
  obtain ⟨D, hD⟩ : ∃ D, Tr.pDomain st i j = D := ⟨_, rfl⟩
  rw [hD]
  have hcs : D = -1 ∨ ∃ dd k m : Nat, D = (dd : Int) ∧ i = (k : Int) ∧ j = (m : Int) ∧ k < n ∧ m < n ∧ Tr.right st ∧ Tr.domTo st m (k + 2) k = (dd : Int) ∧ Tr.Over st dd k ∧ Tr.kd st dd = 2 ∧ dd < m ∧ m < Tr.fin st dd := by
    rw [← hD]
    unfold Tr.pDomain Tr.domain
    by_cases hh : (Tr.hasB st i && Tr.hasB st j) = true
    · rw [if_pos hh]
      rw [Bool.and_eq_true] at hh
      obtain ⟨k, rfl, hk, hrt⟩ := hasB_iff.1 hh.1
      obtain ⟨m, rfl, hm, _⟩ := hasB_iff.1 hh.2
      simp only [Int.toNat_natCast]
      rcases Tr.dom_spec st m (k + 2) (k : Int) (by omega) (by omega) with h1 | ⟨dd, h1, h2, h3, h4, h5⟩
      · exact .inl h1
      · exact .inr ⟨dd, k, m, h1, rfl, rfl, by omega, by omega, hrt, h1, h2, h3, h4, h5⟩
    · rw [if_neg hh]
      exact .inl rfl
  clear hD
  rcases hcs with rfl | ⟨dd, k, m, rfl, rfl, rfl, hk, hm, hrt, hdt, hov, hkd, hdm, hmf⟩
  · clear hl
    go_wp2
    go_ret
    exact ⟨rfl, hB3⟩
  · have hddn : dd < n := by omega
    have hb_ : ∀ x, x < n → Tr.hasB st (x : Int) = true := fun x hx => hasB_iff.2 ⟨x, rfl, by omega, hrt⟩
    have hpw : ∀ x y, x < n → y < n → Tr.pWithin st (x : Int) (y : Int) = decide (x < y ∧ y < Tr.fin st x) := by
      intro x y hx hy
      unfold Tr.pWithin
      rw [hb_ x hx, hb_ y hy, Int.toNat_natCast, Bool.and_self, Bool.true_and, Bool.eq_iff_iff]
      simp
    have hpp : ∀ x, x < n → Tr.pParent st (x : Int) = Tr.up st x := by
      intro x hx
      unfold Tr.pParent
      rw [hb_ x hx, Int.toNat_natCast]
      rfl
    have hin1 : Tr.pWithin st (dd : Int) (m : Int) = true := by rw [hpw dd m hddn hm]; exact decide_eq_true ⟨hdm, hmf⟩
    have hov2 : dd = k ∨ (¬ (dd : Int) = (k : Int) ∧ Tr.pWithin st (dd : Int) (k : Int) = true) := by
      obtain ⟨x, hx1, hx2⟩ := hov
      obtain rfl : k = x := by omega
      rcases hx2 with hx2 | hx2
      · exact .inl hx2
      · exact .inr ⟨by omega, by rw [hpw dd k hddn hk]; exact decide_eq_true hx2⟩
    have HPW := Lib.hid hpw
    have HPP := Lib.hid hpp
    have HHAS := Lib.hid (hb_ dd hddn)
    have HIN1 := Lib.hid hin1
    have HDT := Lib.hid hdt
    have HKD := Lib.hid hkd
    have hddz : (dd : Int) < (n : Int) := by omega
    have hdd0 : (0 : Int) ≤ (dd : Int) := by omega
    clear hl hb_ hpw hpp hin1 hdt hov hkd
    obtain ⟨ad, rfl, hab⟩ := hT.addr hk
    go_wp2_with fail
    refine (refHas_any w3 (some ad) n c st ((hT.below hB3).more hB3.size) hwf dd).mono ?_
    rintro e w4 ⟨rfl, hb4⟩
    rw [HHAS.out]
    have hB4 := hB3.trans (hb4.mono hB3.size)
    have hkd4 := ((hT.below hB4).at_ hddn).1
    rw [HKD.out] at hkd4
    clear hb4
    go_wp2_with fail
    refine (within_any w4 (some ad) n c st ((hT.below hB4).more hB4.size) hwf hnm dd m).mono ?_
    rintro e w5 ⟨rfl, hb5⟩
    rw [HIN1.out]
    have hB5 := hB4.trans (hb5.mono hB4.size)
    clear hb5 hkd4
    obtain ⟨w6, hB6, hgo⟩ : ∃ w6, Below w.heap.size w w6 ∧ True := ⟨w5, hB5, trivial⟩
    clear hgo hB6 w6
    have hloop : True := trivial
    rcases hov2 with rfl | ⟨hne, hin2⟩
    all_goals
      go_wp2_with fail
      try (refine (within_any w5 (some ad) n c st ((hT.below hB5).more hB5.size) hwf hnm dd k).mono ?_; rintro e w6 ⟨rfl, hb6⟩; rw [hin2]; replace hB5 := hB5.trans (hb6.mono hB5.size); clear hb6; go_wp2_with fail)
      go_loopw [8] (fun v wr => ∃ (q : Int) (f : Nat), v = .int .i64 q ∧ -1 ≤ q ∧ q < (n : Int) ∧ q + 1 < (f : Int) ∧ Below w.heap.size w wr ∧ Tr.domTo st m f q = (dd : Int)) (fun v _ => (intOf v + 1).toNat)
      case atStart => exact ⟨_, _, rfl, by omega, by omega, by omega, hB5, HDT.out⟩
      case round =>
        obtain ⟨q, f, rfl, hq1, hqn, hqf, hbr, hdo⟩ := hrel
        by_cases hqd : q = (dd : Int)
        · subst hqd
          clear hdo
          go_wp2
          go_ret
          exact ⟨rfl, hbr⟩
        · obtain ⟨f, rfl⟩ : ∃ g, f = g + 1 := ⟨f - 1, by omega⟩
          rw [Tr.domTo_step] at hdo
          have hq0 : ¬ q < 0 := fun h => by rw [if_pos h] at hdo; omega
          rw [if_neg hq0] at hdo
          obtain ⟨x, rfl⟩ : ∃ x : Nat, q = (x : Int) := ⟨q.toNat, by omega⟩
          rw [Int.toNat_natCast] at hdo
          have hno : ¬ (Tr.kd st x = 2 ∧ (x : Int) < m ∧ m < Tr.fin st x) := fun h => by rw [if_pos h] at hdo; exact hqd hdo
          rw [if_neg hno] at hdo
          have HDO := Lib.hid hdo
          have hxn : x < n := by omega
          have hxz : (x : Int) < (n : Int) := by omega
          have hx0 : (0 : Int) ≤ (x : Int) := by omega
          have htr := (hT.below hbr).more hbr.size
          have hkx := (htr.at_ hxn).1
          have hul := Tr.up_lt st x
          have hqb : ((x : Int) != (dd : Int)) = true := bne_iff_ne.2 hqd
          clear hdo hq0
          by_cases hK : Tr.kd st x = 2
          · have HWN := Lib.hid (show Tr.pWithin st (x : Int) (m : Int) = false by rw [HPW.out x m hxn hm]; exact decide_eq_false fun h => hno ⟨hK, by omega, h.2⟩)
            rw [hK] at hkx
            clear hno hK
            go_wp2_with fail
            refine (within_any wr (some ad) n c st htr hwf hnm x m).mono ?_
            rintro e w7 ⟨rfl, hb7⟩
            rw [HWN.out]
            have hb7' := hbr.trans (hb7.mono hbr.size)
            go_wp2_with fail
            refine (parent_any w7 (some ad) n c st ((hT.below hb7').more hb7'.size) hwf hnm x).mono ?_
            rintro e w8 ⟨rfl, hb8⟩
            rw [HPP.out x hxn]
            go_wp2
            go_roundw
            case rel => exact ⟨Tr.up st x, f, rfl, hul.2, by omega, by omega, hb7'.trans (hb8.mono hb7'.size), HDO.out⟩
            case measure => simp [intOf]; omega
          · obtain ⟨K, hKe⟩ : ∃ K, Tr.kd st x = K := ⟨_, rfl⟩
            rw [hKe] at hkx hK
            clear hno hKe
            have hKb : (K == 2) = false := beq_eq_false_iff_ne.2 hK
            go_wp2_with fail
            refine (parent_any wr (some ad) n c st htr hwf hnm x).mono ?_
            rintro e w8 ⟨rfl, hb8⟩
            rw [HPP.out x hxn]
            go_wp2
            go_roundw
            case rel => exact ⟨Tr.up st x, f, rfl, hul.2, by omega, by omega, hbr.trans (hb8.mono hbr.size), HDO.out⟩
            case measure => simp [intOf]; omega

end Go.Proofs.Ytkndboclpkmdiaa.treeDomains
