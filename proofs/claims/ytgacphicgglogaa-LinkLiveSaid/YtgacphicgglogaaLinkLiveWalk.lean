/- The walk of LinkLive. -/
import Derived.Test.YtgacphicgglogaaSteps
import Derived.Test.YtgacphicgglogaaLive
import Derived.Deep.LoopGhost
import Derived.BigRegion
namespace Go.Proofs.Ytgacphicgglogaa.linkLive
set_option linter.unusedVariables false
open Go.RowKit Crc



set_option maxHeartbeats 8000000 in
set_option maxRecDepth 100000 in
theorem walk (v0 : Value) (w : World) {H : Type} {enc : TypeId × Value → H} {base : Nat} {d : DataW H} {pl : List MemPlace}
    (hv : Value.okWide Try.prog w .any base 78 v0) (h1 : DataW.Trod enc Try.prog w 0 (fun _ => true) true 78 v0 d pl) (_lt1 : ∀ x ∈ pl, x.block < w.heap.size) :
    Calls Try.prog 14 #[v0] w fun e w' => e = .returned (.bool true) ∧ Below w.heap.size w w' := by
  obtain ⟨A, n, c, steps, rfl, hnc, hcm, hAc⟩ := open_steps hv h1
  clear hv h1 _lt1
  unfold maxLen at hcm
  go_enter Try.func14, Try.ntmps14
  go_wp2_with fail
  refine (wakes18_any w).mono ?_
  rintro e w1 ⟨rfl, hb1⟩
  by_cases hn : 300 < n
  · have hz : (300 : Int) < (n : Int) := by omega
    go_wp2
    go_ret
    exact ⟨rfl, hb1⟩
  have hz : ¬ (300 : Int) < (n : Int) := by omega
  go_wp2_with fail
  refine (made_any w1).mono ?_
  rintro e w2 ⟨P, rfl, hP2, hb2⟩
  have hb12 := hb1.trans (hb2.mono hb1.size)
  have HLE := Lib.hid hb1.size
  clear hb1 hb2
  generalize hB : w.heap.size = B at *
  have HBB := Lib.hid hB
  have HS := Lib.hid (show ∀ x, Below B w x → B ≤ x.heap.size from fun x h => by have := h.size; rw [HBB.out] at this; exact this)
  clear hB
  generalize hB1 : w1.heap.size = B1 at *
  clear hB1
  have HB1 := Lib.hid hP2.hB
  go_wp2_with fail
  go_loopw [23] (fun v wr => ∃ (i : Nat) (s : PS), i ≤ n ∧ v = .int .i64 (i : Int) ∧ Below B w wr ∧ PairX wr B1 P s 5 (fun _ => rowTh B1 (.slice none 0 0) []) ∧ InvP s i ∧ NeatP s) (fun v _ => n - (intOf v).toNat)
  case atStart => exact ⟨0, PS.new, Nat.zero_le _, rfl, hb12, hP2, InvP.new, NeatP.new⟩
  case round =>
    obtain ⟨i, s, hi, rfl, hb, hP, hI, hN⟩ := hrel
    clear hb12 hP2
    have hBr := HS.out _ hb
    by_cases hin : i < n
    case pos =>
      have hiz : (i : Int) < (n : Int) := by omega
      obtain ⟨ad, a, rfl, hai, hawf, hc0, hc1, hc2, hc3, hc4⟩ := (hAc.below hb).at_ hin
      have HP := Lib.hid (hP.below ((Below.refl _ wr).alloc (Nat.le_refl _) (.cells a.cells.toArray 82)))
      have hXX : Blk (wr.alloc (.cells #[.int .i64 a.kind, .int .i64 a.who, .int .i64 a.i, .int .i64 a.bit, .string a.load] 82)) wr.heap.size 82 #[.int .i64 a.kind, .int .i64 a.who, .int .i64 a.i, .int .i64 a.bit, .string a.load] := Blk.new _ _ _
      have HBX := Lib.hid (hb.alloc hBr (.cells a.cells.toArray 82))
      have HI := Lib.hid hI
      have HN := Lib.hid hN
      have hls := hawf.2.2.2.2
      unfold maxLen at hls
      clear hP hI hai hawf hN
      by_cases htl : 1000 < a.load.size
      · have hz3 : (1000 : Int) < (a.load.size : Int) := by omega
        clear hXX
        go_wp2
        go_ret
        exact ⟨rfl, by rw [HBB.out]; exact HBX.out⟩
      have hz3 : ¬ (1000 : Int) < (a.load.size : Int) := by omega
      go_wp2_with fail
      refine (do_ps HP.out (HI.out.fit (by omega)) a).mono ?_
      rintro e w3 ⟨rfl, hP3, hb3⟩
      have HI3 := Lib.hid (HI.out.doS (by omega) a)
      have HN3 := Lib.hid (HN.out.doS (fun v hv => HI.out.ok v hv) a)
      have HP3 := Lib.hid hP3
      have HB3 := Lib.hid hb3
      clear hP3 hb3 hXX
      go_wp2
      go_roundw
      case rel => exact ⟨i + 1, _, by omega, by go_num, HBX.out.trans (HB3.out.mono HLE.out), HP3.out, HI3.out, HN3.out⟩
      case measure => simp [intOf]; omega
    obtain rfl : i = n := by omega
    have hiz : ¬ (i : Int) < (i : Int) := by omega
    clear hAc
    have hpl := (hP.pair hP.hB).2.1
    obtain ⟨A0, c0, hc0, -, -⟩ := (hP.pair hP.hB).2.2.2 0 (by omega)
    obtain ⟨A1, c1, hc1, -, -⟩ := (hP.pair hP.hB).2.2.2 1 (by omega)
    obtain ⟨A2, c2, hc2, -, -⟩ := (hP.pair hP.hB).2.2.2 2 (by omega)
    obtain ⟨A3, c3, hc3, -, -⟩ := (hP.pair hP.hB).2.2.2 3 (by omega)
    have hr0 := (hI.right 0 (by omega)).1
    have hr1 := (hI.right 1 (by omega)).1
    have hf0 := hI.few 0 (by omega)
    have hf1 := hI.few 1 (by omega)
    rw [show s.row 0 = s.sent 0 from rfl] at hc0
    rw [show s.row 1 = s.sent 1 from rfl] at hc1
    rw [show s.row 2 = s.read 0 from rfl] at hc2
    rw [show s.row 3 = s.read 1 from rfl] at hc3
    rw [show (1 : Nat) - 0 = 1 from rfl] at hr0
    rw [show (1 : Nat) - 1 = 0 from rfl] at hr1
    obtain ⟨n0, hn0⟩ : ∃ k, (s.sent 0).length = k := ⟨_, rfl⟩
    obtain ⟨n1, hn1⟩ : ∃ k, (s.sent 1).length = k := ⟨_, rfl⟩
    obtain ⟨m0, hm0⟩ : ∃ k, (s.read 0).length = k := ⟨_, rfl⟩
    obtain ⟨m1, hm1⟩ : ∃ k, (s.read 1).length = k := ⟨_, rfl⟩
    rw [hn0] at hc0 hr0 hf0
    rw [hn1] at hc1 hr1 hf1
    rw [hm0] at hc2 hr1
    rw [hm1] at hc3 hr0
    have hw0 : IntKind.i64.wrap ((n0 : Int) - (m1 : Int)) = ((n0 - m1 : Nat) : Int) := by rw [show (n0 : Int) - (m1 : Int) = ((n0 - m1 : Nat) : Int) by omega]; exact IntWalk.i64_in _ (by omega)
    have hw1 : IntKind.i64.wrap ((n1 : Int) - (m0 : Int)) = ((n1 - m0 : Nat) : Int) := by rw [show (n1 : Int) - (m0 : Int) = ((n1 - m0 : Nat) : Int) by omega]; exact IntWalk.i64_in _ (by omega)
    have HP := Lib.hid hP
    have HI := Lib.hid hI
    have HN := Lib.hid hN
    have HBW := Lib.hid hb
    have HQ := Lib.hid (And.intro hn0 (And.intro hn1 (And.intro hm0 hm1)))
    obtain ⟨d0, hd0⟩ : ∃ d, n0 - m1 = d := ⟨_, rfl⟩
    obtain ⟨d1, hd1⟩ : ∃ d, n1 - m0 = d := ⟨_, rfl⟩
    have HD := Lib.hid (show (n0 - m1 = d0 ∧ n1 - m0 = d1) ∧ d0 ≤ 300 ∧ d1 ≤ 300 by omega)
    rw [hd0] at hw0
    rw [hd1] at hw1
    clear hP hI hN hb hn0 hn1 hm0 hm1 hd0 hd1
    go_wp2_with fail
    rcases Nat.lt_or_ge d0 d1 with hlt | hge
    · have HL := Lib.hid (Nat.le_of_lt hlt)
      go_region
      obtain ⟨e, hde, hE1, hE2⟩ : ∃ e : Nat, d1 = e ∧ d0 ≤ e ∧ d1 ≤ e := ⟨d1, rfl, HL.out, Nat.le_refl _⟩
      rw [hde]
      have hez : e ≤ 300 := by have := HD.out; omega
      obtain ⟨q, hqe⟩ : ∃ q, (e + 7) / 8 = q := ⟨_, rfl⟩
      have hqz : ((e : Int) + 7) / 8 = (q : Int) := by omega
      have hq40 : q ≤ 40 := by omega
      have HE := Lib.hid (show d0 ≤ 8 * q ∧ d1 ≤ 8 * q by omega)
      clear hlt hde hE1 hE2 hw0 hw1 hc0 hc1 hc2 hc3 hqe
      go_wp2_with fail
      simp only [hqz]
      clear hqz
      go_loopw [67] (fun v wr => ∃ r : Nat, r ≤ 3 * q + 10 ∧ v = .int .i64 (r : Int) ∧ Below B w wr ∧ PairX wr B1 P (s.calmN r) 5 (fun _ => rowTh B1 (.slice none 0 0) [])) (fun v _ => 3 * q + 10 - (intOf v).toNat)
      case atStart => exact ⟨0, Nat.zero_le _, rfl, HBW.out.drew, HP.out.drewN 1⟩
      case round =>
        obtain ⟨r, hr, rfl, hb, hP⟩ := hrel
        have hk := calmN_keep HI.out (by omega) HN.out r
        by_cases hrq : r < 3 * q + 10
        case pos =>
          have hrz : (r : Int) < 3 * (q : Int) + 10 := by omega
          obtain ⟨sr, hsr⟩ : ∃ sr, s.calmN r = sr := ⟨_, rfl⟩
          have HSR := Lib.hid (show s.calmN (r + 1) = sr.calmS by rw [← hsr]; rfl)
          rw [hsr] at hP hk
          have HP1 := Lib.hid hP
          have HB2 := Lib.hid hb
          have HC := Lib.hid (calm_ps hP hk.1 (by omega))
          clear hP hb hk hsr
          go_wp2_with fail
          refine HC.out.mono ?_
          rintro ev w4 ⟨rfl, hp4, hb4⟩
          have HP4 := Lib.hid hp4
          have HB4 := Lib.hid (HB2.out.trans (hb4.mono HLE.out))
          clear hp4 hb4 HC
          go_wp2
          go_roundw
          case rel => exact ⟨r + 1, by omega, by go_num, HB4.out, by rw [HSR.out]; exact HP4.out⟩
          case measure => simp [intOf]; omega
        obtain rfl : r = 3 * q + 10 := by omega
        have hrz : ¬ ((3 * q + 10 : Nat) : Int) < 3 * (q : Int) + 10 := by omega
        have hlive := live_ps HI.out (by omega) HN.out (q := q) (r := 3 * q + 10) (fun v hv => by
          have h1 := HE.out
          have h2 := HD.out
          have h3 := HQ.out
          have hv' : v = 0 ∨ v = 1 := by omega
          rcases hv' with rfl | rfl
          · show (s.sent 0).length ≤ (s.read 1).length + 8 * q
            omega
          · show (s.sent 1).length ≤ (s.read 0).length + 8 * q
            omega) (by omega)
        obtain ⟨z, hz9⟩ : ∃ z, s.calmN (3 * q + 10) = z := ⟨_, rfl⟩
        rw [hz9] at hP hk
        simp only [hz9] at hlive
        obtain ⟨hl0, hs0⟩ := hlive 0 (by omega)
        obtain ⟨hl1, hs1⟩ := hlive 1 (by omega)
        rw [show (1 : Nat) - 0 = 1 from rfl] at hs0
        rw [show (1 : Nat) - 1 = 0 from rfl] at hs1
        have hpl := (hP.pair hP.hB).2.1
        obtain ⟨A4, c4, hc4, ho4, -⟩ := (hP.pair hP.hB).2.2.2 0 (by omega)
        obtain ⟨A5, c5, hc5, ho5, -⟩ := (hP.pair hP.hB).2.2.2 1 (by omega)
        obtain ⟨A6, c6, hc6, ho6, -⟩ := (hP.pair hP.hB).2.2.2 2 (by omega)
        obtain ⟨A7, c7, hc7, ho7, -⟩ := (hP.pair hP.hB).2.2.2 3 (by omega)
        have hg0 := hk.1.few 0 (by omega)
        have hg1 := hk.1.few 1 (by omega)
        rw [show z.row 0 = z.sent 0 from rfl] at hc4 ho4
        rw [show z.row 1 = z.sent 1 from rfl] at hc5 ho5
        rw [show z.row 2 = z.read 0 from rfl, ← hs1] at hc6 ho6
        rw [show z.row 3 = z.read 1 from rfl, ← hs0] at hc7 ho7
        have hr4 := Reads.of_own ho4
        have hr5 := Reads.of_own ho5
        have hr6 := Reads.of_own ho6
        have hr7 := Reads.of_own ho7
        obtain ⟨l0, hl0e⟩ : ∃ l, z.sent 0 = l := ⟨_, rfl⟩
        obtain ⟨l1, hl1e⟩ : ∃ l, z.sent 1 = l := ⟨_, rfl⟩
        rw [hl0e] at hc4 hc7 hr4 hr7 hg0
        rw [hl1e] at hc5 hc6 hr5 hr6 hg1
        obtain ⟨k0, hk0⟩ : ∃ k, l0.length = k := ⟨_, rfl⟩
        obtain ⟨k1, hk1⟩ : ∃ k, l1.length = k := ⟨_, rfl⟩
        rw [hk0] at hc4 hc7 hr4 hr7 hg0
        rw [hk1] at hc5 hc6 hr5 hr6 hg1
        have HCA := Lib.hid (show ∀ w', (∃ q', w' = wr.drewN q') → Calls Try.prog 26 #[.slice A4 k0 c4, .slice A7 k0 c7] w' fun e w'' => e = .returned (.bool true) ∧ ∃ n, w'' = w'.drewN n from fun w' hw' => by
          obtain ⟨q', rfl⟩ := hw'
          have := sameStr_any (wr.drewN q') A4 A7 k0 k0 c4 c7 l0 l0 hk0 hk0 (hr4.drewN q') (hr7.drewN q') (by unfold maxLen; omega)
          rw [decide_eq_true rfl] at this
          exact this)
        have HCB := Lib.hid (show ∀ w', (∃ q', w' = wr.drewN q') → Calls Try.prog 26 #[.slice A5 k1 c5, .slice A6 k1 c6] w' fun e w'' => e = .returned (.bool true) ∧ ∃ n, w'' = w'.drewN n from fun w' hw' => by
          obtain ⟨q', rfl⟩ := hw'
          have := sameStr_any (wr.drewN q') A5 A6 k1 k1 c5 c6 l1 l1 hk1 hk1 (hr5.drewN q') (hr6.drewN q') (by unfold maxLen; omega)
          rw [decide_eq_true rfl] at this
          exact this)
        have HPZ := Lib.hid hP
        have HBZ := Lib.hid hb
        have HLA := Lib.hid (And.intro hl0 hl1)
        clear hP hb hk ho4 ho5 ho6 ho7 hr4 hr5 hr6 hr7 hl0e hl1e hk0 hk1 hs0 hs1 hl0 hl1 hlive hz9 hg0 hg1
        go_wp2_with fail
        refine Reg.wp_chain_known 26 [(10, .bool true), (23, .bool true)] [(10, fun _ _ => True), (23, fun _ _ => True)] (fun w' => ∃ q', w' = wr.drewN q') (fun _ _ => True) (by kernel_rfl) (by kernel_rfl) (by kernel_rfl) (by kernel_rfl) (fun _ _ d _ _ h => by cases d <;> exact h) ⟨1, rfl⟩ ?_
        simp only [List.take_succ_cons, List.take_zero]
        repeat (refine Reg.chain_plain rfl rfl ?_ ?_ ?_; rotate_left; (focus (intro w3 hI _; obtain ⟨q', rfl⟩ := hI; go_simp; rfl)))
        simp only [Act.put, List.setIfInBounds_toArray, List.set_cons_succ, List.set_cons_zero]
        refine Reg.chain_known (.bool true) rfl rfl rfl (fun _ _ _ _ _ => trivial) (fun w3 hI _ K hK => ?_) ?_
        · go_simp
          refine (HCA.out _ hI).mono ?_
          rintro ev w4 ⟨rfl, q4, rfl⟩
          obtain ⟨q', rfl⟩ := hI
          exact hK _ _ (by go_simp) trivial ⟨_, World.drewN_drewN _ _ _⟩ trivial
        simp only [Act.put, List.setIfInBounds_toArray, List.set_cons_succ, List.set_cons_zero]
        repeat (refine Reg.chain_plain rfl rfl ?_ ?_ ?_; rotate_left; (focus (intro w3 hI _; obtain ⟨q', rfl⟩ := hI; go_simp; rfl)))
        simp only [Act.put, List.setIfInBounds_toArray, List.set_cons_succ, List.set_cons_zero]
        repeat (refine Reg.chain_wanted rfl (by kernel_rfl) ?_ ?_ ?_; rotate_left; (focus (intro w3 hI _; obtain ⟨q', rfl⟩ := hI; go_simp; rfl)))
        simp only [Act.put, List.setIfInBounds_toArray, List.set_cons_succ, List.set_cons_zero]
        refine Reg.chain_known (.bool true) rfl rfl (by kernel_rfl) (fun _ _ _ _ _ => trivial) (fun w3 hI _ K hK => ?_) ?_
        · go_simp
          refine (HCB.out _ hI).mono ?_
          rintro ev w4 ⟨rfl, q4, rfl⟩
          obtain ⟨q', rfl⟩ := hI
          exact hK _ _ (by go_simp) trivial ⟨_, World.drewN_drewN _ _ _⟩ trivial
        simp only [Act.put, List.setIfInBounds_toArray, List.set_cons_succ, List.set_cons_zero]
        refine Reg.chain_wanted rfl (by kernel_rfl) ?_ ?_ ?_
        rotate_left
        focus (intro w3 hI _; obtain ⟨q', rfl⟩ := hI; go_simp; rfl)
        simp only [Act.put, List.setIfInBounds_toArray, List.set_cons_succ, List.set_cons_zero]
        refine Reg.chain_plain rfl rfl ?_ ?_ ?_
        rotate_left
        focus (intro w3 hI _; obtain ⟨q', rfl⟩ := hI; go_simp; rfl)
        simp only [Act.put, List.setIfInBounds_toArray, List.set_cons_succ, List.set_cons_zero]
        refine Reg.chain_end (fun w3 hI _ => ?_)
        obtain ⟨q', hq'⟩ := hI
        have HPY := Lib.hid (show PairX w3 B1 P z 5 (fun _ => rowTh B1 (.slice none 0 0) []) by rw [hq']; exact HPZ.out.drewN q')
        have HBY := Lib.hid (show Below B w w3 by rw [hq']; exact Tr_below_drewN HBZ.out q')
        clear hq' hc4 hc5 hc6 hc7 HCA HCB HPZ HBZ hpl
        simp only [List.drop_succ_cons, List.drop_zero]
        obtain ⟨hpe0, -⟩ := (HPY.out.pair HPY.out.hB).1 0 (by omega)
        obtain ⟨hpe1, -⟩ := (HPY.out.pair HPY.out.hB).1 1 (by omega)
        have hpl := (HPY.out.pair HPY.out.hB).2.1
        obtain ⟨vL0, vG0, hlk0, -⟩ := HPY.out.link HPY.out.hB 0 (by omega)
        obtain ⟨vL1, vG1, hlk1, -⟩ := HPY.out.link HPY.out.hB 1 (by omega)
        have HC0 := Lib.hid (state_any w3 B1 (P.pe 0) vL0 vG0 _ hlk0)
        have HC1 := Lib.hid (fun q => state_any (w3.drewN q) B1 (P.pe 1) vL1 vG1 _ (hlk1.drewN q))
        have e0 := HLA.out.1
        have e1 := HLA.out.2
        rw [e0] at HC0
        rw [e1] at HC1
        clear hlk0 hlk1 HPY HLA HL HD HE HQ HI HN HP HS HLE HB1 hrz e0 e1
        go_wp2_with fail
        refine HC0.out.mono ?_
        rintro ev w4 ⟨rfl, q5, rfl⟩
        clear HC0
        go_wp2_with fail
        refine (HC1.out _).mono ?_
        rintro ev w4 ⟨rfl, q6, rfl⟩
        clear HC1
        go_wp2
        go_ret
        exact ⟨rfl, by rw [HBB.out]; exact Tr_below_drewN HBY.out _⟩
    · have HL := Lib.hid hge
      have hnl : ¬ d0 < d1 := Nat.not_lt.2 hge
      go_region
      obtain ⟨e, hde, hE1, hE2⟩ : ∃ e : Nat, d0 = e ∧ d0 ≤ e ∧ d1 ≤ e := ⟨d0, rfl, Nat.le_refl _, HL.out⟩
      rw [hde]
      have hez : e ≤ 300 := by have := HD.out; omega
      obtain ⟨q, hqe⟩ : ∃ q, (e + 7) / 8 = q := ⟨_, rfl⟩
      have hqz : ((e : Int) + 7) / 8 = (q : Int) := by omega
      have hq40 : q ≤ 40 := by omega
      have HE := Lib.hid (show d0 ≤ 8 * q ∧ d1 ≤ 8 * q by omega)
      clear hge hnl hde hE1 hE2 hw0 hw1 hc0 hc1 hc2 hc3 hqe
      go_wp2_with fail
      simp only [hqz]
      clear hqz
      go_loopw [67] (fun v wr => ∃ r : Nat, r ≤ 3 * q + 10 ∧ v = .int .i64 (r : Int) ∧ Below B w wr ∧ PairX wr B1 P (s.calmN r) 5 (fun _ => rowTh B1 (.slice none 0 0) [])) (fun v _ => 3 * q + 10 - (intOf v).toNat)
      case atStart => exact ⟨0, Nat.zero_le _, rfl, HBW.out.drew, HP.out.drewN 1⟩
      case round =>
        obtain ⟨r, hr, rfl, hb, hP⟩ := hrel
        have hk := calmN_keep HI.out (by omega) HN.out r
        by_cases hrq : r < 3 * q + 10
        case pos =>
          have hrz : (r : Int) < 3 * (q : Int) + 10 := by omega
          obtain ⟨sr, hsr⟩ : ∃ sr, s.calmN r = sr := ⟨_, rfl⟩
          have HSR := Lib.hid (show s.calmN (r + 1) = sr.calmS by rw [← hsr]; rfl)
          rw [hsr] at hP hk
          have HP1 := Lib.hid hP
          have HB2 := Lib.hid hb
          have HC := Lib.hid (calm_ps hP hk.1 (by omega))
          clear hP hb hk hsr
          go_wp2_with fail
          refine HC.out.mono ?_
          rintro ev w4 ⟨rfl, hp4, hb4⟩
          have HP4 := Lib.hid hp4
          have HB4 := Lib.hid (HB2.out.trans (hb4.mono HLE.out))
          clear hp4 hb4 HC
          go_wp2
          go_roundw
          case rel => exact ⟨r + 1, by omega, by go_num, HB4.out, by rw [HSR.out]; exact HP4.out⟩
          case measure => simp [intOf]; omega
        obtain rfl : r = 3 * q + 10 := by omega
        have hrz : ¬ ((3 * q + 10 : Nat) : Int) < 3 * (q : Int) + 10 := by omega
        have hlive := live_ps HI.out (by omega) HN.out (q := q) (r := 3 * q + 10) (fun v hv => by
          have h1 := HE.out
          have h2 := HD.out
          have h3 := HQ.out
          have hv' : v = 0 ∨ v = 1 := by omega
          rcases hv' with rfl | rfl
          · show (s.sent 0).length ≤ (s.read 1).length + 8 * q
            omega
          · show (s.sent 1).length ≤ (s.read 0).length + 8 * q
            omega) (by omega)
        obtain ⟨z, hz9⟩ : ∃ z, s.calmN (3 * q + 10) = z := ⟨_, rfl⟩
        rw [hz9] at hP hk
        simp only [hz9] at hlive
        obtain ⟨hl0, hs0⟩ := hlive 0 (by omega)
        obtain ⟨hl1, hs1⟩ := hlive 1 (by omega)
        rw [show (1 : Nat) - 0 = 1 from rfl] at hs0
        rw [show (1 : Nat) - 1 = 0 from rfl] at hs1
        have hpl := (hP.pair hP.hB).2.1
        obtain ⟨A4, c4, hc4, ho4, -⟩ := (hP.pair hP.hB).2.2.2 0 (by omega)
        obtain ⟨A5, c5, hc5, ho5, -⟩ := (hP.pair hP.hB).2.2.2 1 (by omega)
        obtain ⟨A6, c6, hc6, ho6, -⟩ := (hP.pair hP.hB).2.2.2 2 (by omega)
        obtain ⟨A7, c7, hc7, ho7, -⟩ := (hP.pair hP.hB).2.2.2 3 (by omega)
        have hg0 := hk.1.few 0 (by omega)
        have hg1 := hk.1.few 1 (by omega)
        rw [show z.row 0 = z.sent 0 from rfl] at hc4 ho4
        rw [show z.row 1 = z.sent 1 from rfl] at hc5 ho5
        rw [show z.row 2 = z.read 0 from rfl, ← hs1] at hc6 ho6
        rw [show z.row 3 = z.read 1 from rfl, ← hs0] at hc7 ho7
        have hr4 := Reads.of_own ho4
        have hr5 := Reads.of_own ho5
        have hr6 := Reads.of_own ho6
        have hr7 := Reads.of_own ho7
        obtain ⟨l0, hl0e⟩ : ∃ l, z.sent 0 = l := ⟨_, rfl⟩
        obtain ⟨l1, hl1e⟩ : ∃ l, z.sent 1 = l := ⟨_, rfl⟩
        rw [hl0e] at hc4 hc7 hr4 hr7 hg0
        rw [hl1e] at hc5 hc6 hr5 hr6 hg1
        obtain ⟨k0, hk0⟩ : ∃ k, l0.length = k := ⟨_, rfl⟩
        obtain ⟨k1, hk1⟩ : ∃ k, l1.length = k := ⟨_, rfl⟩
        rw [hk0] at hc4 hc7 hr4 hr7 hg0
        rw [hk1] at hc5 hc6 hr5 hr6 hg1
        have HCA := Lib.hid (show ∀ w', (∃ q', w' = wr.drewN q') → Calls Try.prog 26 #[.slice A4 k0 c4, .slice A7 k0 c7] w' fun e w'' => e = .returned (.bool true) ∧ ∃ n, w'' = w'.drewN n from fun w' hw' => by
          obtain ⟨q', rfl⟩ := hw'
          have := sameStr_any (wr.drewN q') A4 A7 k0 k0 c4 c7 l0 l0 hk0 hk0 (hr4.drewN q') (hr7.drewN q') (by unfold maxLen; omega)
          rw [decide_eq_true rfl] at this
          exact this)
        have HCB := Lib.hid (show ∀ w', (∃ q', w' = wr.drewN q') → Calls Try.prog 26 #[.slice A5 k1 c5, .slice A6 k1 c6] w' fun e w'' => e = .returned (.bool true) ∧ ∃ n, w'' = w'.drewN n from fun w' hw' => by
          obtain ⟨q', rfl⟩ := hw'
          have := sameStr_any (wr.drewN q') A5 A6 k1 k1 c5 c6 l1 l1 hk1 hk1 (hr5.drewN q') (hr6.drewN q') (by unfold maxLen; omega)
          rw [decide_eq_true rfl] at this
          exact this)
        have HPZ := Lib.hid hP
        have HBZ := Lib.hid hb
        have HLA := Lib.hid (And.intro hl0 hl1)
        clear hP hb hk ho4 ho5 ho6 ho7 hr4 hr5 hr6 hr7 hl0e hl1e hk0 hk1 hs0 hs1 hl0 hl1 hlive hz9 hg0 hg1
        go_wp2_with fail
        refine Reg.wp_chain_known 26 [(10, .bool true), (23, .bool true)] [(10, fun _ _ => True), (23, fun _ _ => True)] (fun w' => ∃ q', w' = wr.drewN q') (fun _ _ => True) (by kernel_rfl) (by kernel_rfl) (by kernel_rfl) (by kernel_rfl) (fun _ _ d _ _ h => by cases d <;> exact h) ⟨1, rfl⟩ ?_
        simp only [List.take_succ_cons, List.take_zero]
        repeat (refine Reg.chain_plain rfl rfl ?_ ?_ ?_; rotate_left; (focus (intro w3 hI _; obtain ⟨q', rfl⟩ := hI; go_simp; rfl)))
        simp only [Act.put, List.setIfInBounds_toArray, List.set_cons_succ, List.set_cons_zero]
        refine Reg.chain_known (.bool true) rfl rfl rfl (fun _ _ _ _ _ => trivial) (fun w3 hI _ K hK => ?_) ?_
        · go_simp
          refine (HCA.out _ hI).mono ?_
          rintro ev w4 ⟨rfl, q4, rfl⟩
          obtain ⟨q', rfl⟩ := hI
          exact hK _ _ (by go_simp) trivial ⟨_, World.drewN_drewN _ _ _⟩ trivial
        simp only [Act.put, List.setIfInBounds_toArray, List.set_cons_succ, List.set_cons_zero]
        repeat (refine Reg.chain_plain rfl rfl ?_ ?_ ?_; rotate_left; (focus (intro w3 hI _; obtain ⟨q', rfl⟩ := hI; go_simp; rfl)))
        simp only [Act.put, List.setIfInBounds_toArray, List.set_cons_succ, List.set_cons_zero]
        repeat (refine Reg.chain_wanted rfl (by kernel_rfl) ?_ ?_ ?_; rotate_left; (focus (intro w3 hI _; obtain ⟨q', rfl⟩ := hI; go_simp; rfl)))
        simp only [Act.put, List.setIfInBounds_toArray, List.set_cons_succ, List.set_cons_zero]
        refine Reg.chain_known (.bool true) rfl rfl (by kernel_rfl) (fun _ _ _ _ _ => trivial) (fun w3 hI _ K hK => ?_) ?_
        · go_simp
          refine (HCB.out _ hI).mono ?_
          rintro ev w4 ⟨rfl, q4, rfl⟩
          obtain ⟨q', rfl⟩ := hI
          exact hK _ _ (by go_simp) trivial ⟨_, World.drewN_drewN _ _ _⟩ trivial
        simp only [Act.put, List.setIfInBounds_toArray, List.set_cons_succ, List.set_cons_zero]
        refine Reg.chain_wanted rfl (by kernel_rfl) ?_ ?_ ?_
        rotate_left
        focus (intro w3 hI _; obtain ⟨q', rfl⟩ := hI; go_simp; rfl)
        simp only [Act.put, List.setIfInBounds_toArray, List.set_cons_succ, List.set_cons_zero]
        refine Reg.chain_plain rfl rfl ?_ ?_ ?_
        rotate_left
        focus (intro w3 hI _; obtain ⟨q', rfl⟩ := hI; go_simp; rfl)
        simp only [Act.put, List.setIfInBounds_toArray, List.set_cons_succ, List.set_cons_zero]
        refine Reg.chain_end (fun w3 hI _ => ?_)
        obtain ⟨q', hq'⟩ := hI
        have HPY := Lib.hid (show PairX w3 B1 P z 5 (fun _ => rowTh B1 (.slice none 0 0) []) by rw [hq']; exact HPZ.out.drewN q')
        have HBY := Lib.hid (show Below B w w3 by rw [hq']; exact Tr_below_drewN HBZ.out q')
        clear hq' hc4 hc5 hc6 hc7 HCA HCB HPZ HBZ hpl
        simp only [List.drop_succ_cons, List.drop_zero]
        obtain ⟨hpe0, -⟩ := (HPY.out.pair HPY.out.hB).1 0 (by omega)
        obtain ⟨hpe1, -⟩ := (HPY.out.pair HPY.out.hB).1 1 (by omega)
        have hpl := (HPY.out.pair HPY.out.hB).2.1
        obtain ⟨vL0, vG0, hlk0, -⟩ := HPY.out.link HPY.out.hB 0 (by omega)
        obtain ⟨vL1, vG1, hlk1, -⟩ := HPY.out.link HPY.out.hB 1 (by omega)
        have HC0 := Lib.hid (state_any w3 B1 (P.pe 0) vL0 vG0 _ hlk0)
        have HC1 := Lib.hid (fun q => state_any (w3.drewN q) B1 (P.pe 1) vL1 vG1 _ (hlk1.drewN q))
        have e0 := HLA.out.1
        have e1 := HLA.out.2
        rw [e0] at HC0
        rw [e1] at HC1
        clear hlk0 hlk1 HPY HLA HL HD HE HQ HI HN HP HS HLE HB1 hrz e0 e1
        go_wp2_with fail
        refine HC0.out.mono ?_
        rintro ev w4 ⟨rfl, q5, rfl⟩
        clear HC0
        go_wp2_with fail
        refine (HC1.out _).mono ?_
        rintro ev w4 ⟨rfl, q6, rfl⟩
        clear HC1
        go_wp2
        go_ret
        exact ⟨rfl, by rw [HBB.out]; exact Tr_below_drewN HBY.out _⟩

end Go.Proofs.Ytgacphicgglogaa.linkLive
