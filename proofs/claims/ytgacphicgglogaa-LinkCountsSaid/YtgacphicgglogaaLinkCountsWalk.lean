/- The walk of LinkCounts. -/
import Derived.Test.YtgacphicgglogaaSteps
import Derived.Test.YtgacphicgglogaaLinkP
import Derived.Deep.LoopGhost
import Derived.BigRegion
namespace Go.Proofs.Ytgacphicgglogaa.linkCounts
set_option linter.unusedVariables false
open Go.RowKit Crc

/-- What has been written of the counts behind k ends. -/
def nowC (s : PS) (k : Nat) : List Value :=
  if k = 0 then cntC PS.new else if k = 1 then [.int .u64 (s.ends 0).last, .int .u64 (s.ends 0).told, .int .u64 (s.ends 0).came, .int .u64 (s.ends 0).taken, .int .u64 0, .int .u64 0, .int .u64 0, .int .u64 0] else cntC s

def cnt4 (l : LK) : List Value := [.int .u64 l.last, .int .u64 l.told, .int .u64 l.came, .int .u64 l.taken]
theorem two85 {w wr : World} {X t : Nat} {cs : Array Value} (hb : Below X w wr) (hB : Blk wr X t cs) (a b : List Value) :
    Below X w ((wr.alloc (.cells a.toArray 85)).alloc (.cells b.toArray 85)).drew ∧ Blk ((wr.alloc (.cells a.toArray 85)).alloc (.cells b.toArray 85)).drew X t cs ∧
    Blk ((wr.alloc (.cells a.toArray 85)).alloc (.cells b.toArray 85)).drew wr.heap.size 85 a.toArray ∧ Blk ((wr.alloc (.cells a.toArray 85)).alloc (.cells b.toArray 85)).drew (wr.heap.size + 1) 85 b.toArray := by
  have hlt := Blk.lt hB
  have h1 : Blk (wr.alloc (.cells a.toArray 85)) wr.heap.size 85 a.toArray := Blk.new _ _ _
  have h2 : Blk ((wr.alloc (.cells a.toArray 85)).alloc (.cells b.toArray 85)) (wr.heap.size + 1) 85 b.toArray := by
    have := Blk.new (wr.alloc (.cells a.toArray 85)) 85 b.toArray
    rw [World.size_alloc] at this
    exact this
  refine ⟨((hb.alloc (Nat.le_of_lt hlt) _).alloc (by rw [World.size_alloc]; omega) _).drew, ?_, ?_, h2⟩
  · exact Blk.alloc (Blk.alloc hB _) _
  · exact Blk.alloc h1 _
theorem two85' {w wr : World} {X t : Nat} {cs : Array Value} (hb : Below X w wr) (hB : Blk wr X t cs) (a b : List Value) :
    Below X w ((wr.alloc (.cells a.toArray 85)).alloc (.cells b.toArray 85)).drew ∧ Blk ((wr.alloc (.cells a.toArray 85)).alloc (.cells b.toArray 85)).drew X t cs ∧
    Blk ((wr.alloc (.cells a.toArray 85)).alloc (.cells b.toArray 85)).drew (wr.heap.size + 1) 85 b.toArray ∧ Blk ((wr.alloc (.cells a.toArray 85)).alloc (.cells b.toArray 85)).drew wr.heap.size 85 a.toArray :=
  have h := two85 hb hB a b
  ⟨h.1, h.2.1, h.2.2.2, h.2.2.1⟩
theorem cnt4_at (l : LK) {j : Nat} (hj : j < 4) : (cnt4 l)[j]? = some (.int .u64 ((l.cnt j : Nat) : Int)) := by
  match j, hj with
  | 0, _ => rfl
  | 1, _ => rfl
  | 2, _ => rfl
  | 3, _ => rfl
theorem cntC_at (s : PS) {k j : Nat} (hk : k < 2) (hj : j < 4) : (cntC s)[k * 4 + j]? = some (.int .u64 (((s.ends k).cnt j : Nat) : Int)) := by
  match k, hk, j, hj with
  | 0, _, 0, _ => rfl
  | 0, _, 1, _ => rfl
  | 0, _, 2, _ => rfl
  | 0, _, 3, _ => rfl
  | 1, _, 0, _ => rfl
  | 1, _, 1, _ => rfl
  | 1, _, 2, _ => rfl
  | 1, _, 3, _ => rfl
theorem set4 {w wr : World} {X t q i : Nat} {a b c d : Value} {cs : List Value} (hb : Below X w wr) (hB : Blk wr X t cs.toArray) :
    Below X w (((((wr.drewN q).setCell ⟨X, i, none⟩ a).setCell ⟨X, i + 1, none⟩ b).setCell ⟨X, i + 2, none⟩ c).setCell ⟨X, i + 3, none⟩ d) ∧
    Blk (((((wr.drewN q).setCell ⟨X, i, none⟩ a).setCell ⟨X, i + 1, none⟩ b).setCell ⟨X, i + 2, none⟩ c).setCell ⟨X, i + 3, none⟩ d) X t ((((cs.set i a).set (i + 1) b).set (i + 2) c).set (i + 3) d).toArray := by
  have hB0 : Blk (wr.drewN q) X t cs.toArray := hB
  have h1 := Blk.set_ (Blk.set_ (Blk.set_ (Blk.set_ hB0 i a) (i + 1) b) (i + 2) c) (i + 3) d
  simp only [List.setIfInBounds_toArray] at h1
  refine ⟨?_, h1⟩
  have hb0 : Below X w (wr.drewN q) := Tr_below_drewN hb q
  exact (((hb0.setCell (Nat.le_refl _) _).setCell (Nat.le_refl _) _).setCell (Nat.le_refl _) _).setCell (Nat.le_refl _) _

theorem set8 {wr : World} {X t : Nat} {a b c d e f g h a' b' c' d' e' f' g' h' : Value} (hB : Blk wr X t #[a, b, c, d, e, f, g, h]) :
    Touch (fun k => k = X) wr ((((((((wr.setCell ⟨X, 0, none⟩ a').setCell ⟨X, 1, none⟩ b').setCell ⟨X, 2, none⟩ c').setCell ⟨X, 3, none⟩ d').setCell ⟨X, 4, none⟩ e').setCell ⟨X, 5, none⟩ f').setCell ⟨X, 6, none⟩ g').setCell ⟨X, 7, none⟩ h') ∧
    Blk ((((((((wr.setCell ⟨X, 0, none⟩ a').setCell ⟨X, 1, none⟩ b').setCell ⟨X, 2, none⟩ c').setCell ⟨X, 3, none⟩ d').setCell ⟨X, 4, none⟩ e').setCell ⟨X, 5, none⟩ f').setCell ⟨X, 6, none⟩ g').setCell ⟨X, 7, none⟩ h') X t #[a', b', c', d', e', f', g', h'] := by
  have tr : ∀ {w1 : World} (i : Nat) (u : Value), Touch (fun k => k = X) wr w1 → Touch (fun k => k = X) wr (w1.setCell ⟨X, i, none⟩ u) := fun i u h => h.trans (Touch.of_set (S := fun k => k = X) _ _ rfl) (fun k hk => .inl hk)
  have h1 := Blk.set_ (Blk.set_ (Blk.set_ (Blk.set_ (Blk.set_ (Blk.set_ (Blk.set_ (Blk.set_ hB 0 a') 1 b') 2 c') 3 d') 4 e') 5 f') 6 g') 7 h'
  simp only [List.setIfInBounds_toArray, List.set_cons_zero, List.set_cons_succ] at h1
  exact ⟨tr _ _ (tr _ _ (tr _ _ (tr _ _ (tr _ _ (tr _ _ (tr _ _ (tr _ _ (Touch.refl _ _)))))))), h1⟩

set_option maxHeartbeats 8000000 in
set_option maxRecDepth 100000 in
theorem walk (v0 : Value) (w : World) {H : Type} {enc : TypeId × Value → H} {base : Nat} {d : DataW H} {pl : List MemPlace}
    (hv : Value.okWide Try.prog w .any base 78 v0) (h1 : DataW.Trod enc Try.prog w 0 (fun _ => true) true 78 v0 d pl) (_lt1 : ∀ x ∈ pl, x.block < w.heap.size) :
    Calls Try.prog 13 #[v0] w fun e w' => e = .returned (.bool true) ∧ Below w.heap.size w w' := by
  obtain ⟨A, n, c, steps, rfl, hnc, hcm, hAc⟩ := open_steps hv h1
  clear hv h1 _lt1
  unfold maxLen at hcm
  have hz86 : ∀ w, (zeroValue 86).run Try.prog w = .ok (.agg (cntC PS.new).toArray) w := fun _ => by kernel_rfl
  have hz85 : ∀ w, (zeroValue 85).run Try.prog w = .ok (.agg #[.int .u64 0, .int .u64 0, .int .u64 0, .int .u64 0]) w := fun _ => by kernel_rfl
  go_enter Try.func13, Try.ntmps13
  go_wp2_with fail
  refine (wakes18_any w).mono ?_
  rintro e w1 ⟨rfl, hb1⟩
  by_cases hn : 300 < n
  · have hz : (300 : Int) < (n : Int) := by omega
    go_wp2
    go_ret
    exact ⟨rfl, hb1⟩
  have hz : ¬ (300 : Int) < (n : Int) := by omega
  go_wp2_with fail
  refine (made_any w1).mono ?_
  rintro e w2 ⟨P, rfl, hP2, hb2⟩
  have hb12 := hb1.trans (hb2.mono hb1.size)
  have HLE := Lib.hid hb1.size
  clear hb1 hb2
  generalize hB : w.heap.size = B at *
  have HBB := Lib.hid hB
  have HS := Lib.hid (show ∀ x, Below B w x → B ≤ x.heap.size from fun x h => by have := h.size; rw [HBB.out] at this; exact this)
  clear hB
  generalize hB1 : w1.heap.size = B1 at *
  clear hB1
  have HP2 := Lib.hid (hP2.box 86 (cntC PS.new))
  have HB2 := Lib.hid (hb12.alloc (HS.out _ hb12) (.cells (cntC PS.new).toArray 86))
  clear hP2 hb12
  go_wp2_with fail
  generalize w2.heap.size = qw at *
  generalize w2.alloc (.cells (cntC PS.new).toArray 86) = w3 at *
  go_loopw [25] (fun v wr => ∃ (i : Nat) (s : PS), i ≤ n ∧ v = .int .i64 (i : Int) ∧ Below B w wr ∧ PairX wr B1 P s 6 (boxX (fun _ => rowTh B1 (.slice none 0 0) []) 5 qw 86 (cntC s)) ∧ InvP s i) (fun v _ => n - (intOf v).toNat)
  case atStart => exact ⟨0, PS.new, Nat.zero_le _, rfl, HB2.out, HP2.out, InvP.new⟩
  case round =>
    obtain ⟨i, s, hi, rfl, hb, hP, hI⟩ := hrel
    clear HB2 HP2
    have hBr := HS.out _ hb
    by_cases hin : i < n
    case neg =>
      obtain rfl : i = n := by omega
      have hiz : ¬ (i : Int) < (i : Int) := by omega
      clear hAc
      go_wp2
      go_ret
      exact ⟨rfl, by rw [HBB.out]; exact hb⟩
    have hiz : (i : Int) < (n : Int) := by omega
    obtain ⟨ad, a, rfl, hai, hawf, hc0, hc1, hc2, hc3, hc4⟩ := (hAc.below hb).at_ hin
    have HP := Lib.hid (hP.below ((Below.refl _ wr).alloc (Nat.le_refl _) (.cells a.cells.toArray 82)))
    have hXX : Blk (wr.alloc (.cells #[.int .i64 a.kind, .int .i64 a.who, .int .i64 a.i, .int .i64 a.bit, .string a.load] 82)) wr.heap.size 82 #[.int .i64 a.kind, .int .i64 a.who, .int .i64 a.i, .int .i64 a.bit, .string a.load] := Blk.new _ _ _
    have HBX := Lib.hid (hb.alloc hBr (.cells a.cells.toArray 82))
    have HI := Lib.hid hI
    have hls := hawf.2.2.2.2
    unfold maxLen at hls
    clear hP hI hai hawf
    by_cases htl : 1000 < a.load.size
    · have hz3 : (1000 : Int) < (a.load.size : Int) := by omega
      clear hXX
      go_wp2
      go_ret
      exact ⟨rfl, by rw [HBB.out]; exact HBX.out⟩
    have hz3 : ¬ (1000 : Int) < (a.load.size : Int) := by omega
    go_wp2_with fail
    refine (do_ps HP.out (HI.out.fit (by omega)) a).mono ?_
    rintro e w4 ⟨rfl, hP3, hb3⟩
    have HI3 := Lib.hid (HI.out.doS (by omega) a)
    have HMO := Lib.hid (fun j => doS_le s a j)
    obtain ⟨s', hs'⟩ : ∃ s', s.doS a = s' := ⟨_, rfl⟩
    rw [hs'] at HI3 hP3 HMO
    have HB3 := Lib.hid (HBX.out.trans (hb3.mono HLE.out))
    have hnew : Blk (w4.alloc (.cells (cntC PS.new).toArray 86)) w4.heap.size 86 (nowC s' 0).toArray := Blk.new _ _ _
    have hbel := (Below.refl w4.heap.size w4).alloc (Nat.le_refl _) (.cells (cntC PS.new).toArray 86)
    have HP3 := Lib.hid hP3
    clear hP3 hb3 hXX HP HBX hs' hc0 hc1 hc2 hc3 hc4 hls hz3 htl hBr hb
    go_wp2_with fail
    generalize hX : w4.heap.size = X at *
    generalize w4.alloc (.cells (cntC PS.new).toArray 86) = w5 at *
    have HX := Lib.hid hX
    clear hX
    go_loopw [36] (fun v wr => ∃ k : Nat, k ≤ 2 ∧ v = .int .i64 (k : Int) ∧ Below X w4 wr ∧ Blk wr X 86 (nowC s' k).toArray) (fun v _ => 2 - (intOf v).toNat)
    case atStart => exact ⟨0, by omega, rfl, hbel, hnew⟩
    case round =>
      obtain ⟨k, hk, rfl, hbk, hblk⟩ := hrel
      clear hbel hnew
      have hpk := HP3.out.below (by rw [HX.out]; exact hbk)
      by_cases hk2 : k < 2
      · have hkz : (k : Int) < 2 := by omega
        obtain ⟨vL, vG, hl, -⟩ := hpk.link hpk.hB k hk2
        obtain ⟨hpe, -⟩ := (hpk.pair hpk.hB).1 k hk2
        have hpl := (hpk.pair hpk.hB).2.1
        have HL := Lib.hid hl
        have HBK := Lib.hid hbk
        have HBL := Lib.hid hblk
        clear hl hpk hbk hblk
        go_wp2_with fail
        refine (state_any wr B1 (P.pe k) vL vG _ HL.out).mono ?_
        rintro e w6 ⟨rfl, q, rfl⟩
        have hlt := HBL.out.lt
        have hfz : ∀ i, wr.frozen? ⟨X, i, none⟩ = false := HBL.out.frozen
        have hcl : ∀ i, wr.cell? ⟨X, i, none⟩ = (nowC s' k)[i]? := fun i => by rw [HBL.out.cell, List.getElem?_toArray]
        have hk01 : k = 0 ∨ k = 1 := by omega
        rcases hk01 with rfl | rfl
        · have h0 := hcl 0
          have h1 := hcl 1
          have h2 := hcl 2
          have h3 := hcl 3
          change _ = some (Value.int .u64 0) at h0 h1 h2 h3
          clear hcl
          go_wp2_with fail
          go_roundw
          case rel => exact ⟨1, by omega, by go_num, set4 (i := 0) HBK.out HBL.out⟩
          case measure => simp [intOf]
        · have h4 := hcl 4
          have h5 := hcl 5
          have h6 := hcl 6
          have h7 := hcl 7
          change _ = some (Value.int .u64 0) at h4 h5 h6 h7
          clear hcl
          go_wp2_with fail
          go_roundw
          case rel => exact ⟨2, by omega, by go_num, set4 (i := 4) HBK.out HBL.out⟩
          case measure => simp [intOf]
      · obtain rfl : k = 2 := by omega
        have HBK := Lib.hid hbk
        have HBL := Lib.hid hblk
        clear hbk hblk hpk
        go_wp2_with fail
        go_loopw [59] (fun v wr => ∃ k : Nat, k ≤ 2 ∧ v = .int .i64 (k : Int) ∧ Below X w4 wr ∧ Blk wr X 86 (cntC s').toArray) (fun v _ => 2 - (intOf v).toNat)
        case atStart => exact ⟨0, by omega, rfl, HBK.out, HBL.out⟩
        case round =>
          obtain ⟨k, hk, rfl, hbk, hblk⟩ := hrel
          have HBK := Lib.hid hbk
          have HBL := Lib.hid hblk
          by_cases hk2 : k < 2
          · have hkz : (k : Int) < 2 := by omega
            have hcl : ∀ i, wr.cell? ⟨X, i, none⟩ = (cntC s')[i]? := fun i => by rw [HBL.out.cell, List.getElem?_toArray]
            clear hbk hblk
            have hk01 : k = 0 ∨ k = 1 := by omega
            rcases hk01 with rfl | rfl
            · have h0 := hcl 0
              have h1 := hcl 1
              have h2 := hcl 2
              have h3 := hcl 3
              have h4 := hcl 4
              have h5 := hcl 5
              have h6 := hcl 6
              have h7 := hcl 7
              change _ = some (Value.int .u64 _) at h0 h1 h2 h3 h4 h5 h6 h7
              clear hcl
              have hlt := HBL.out.lt
              have hx1 : ¬ X = wr.heap.size := Nat.ne_of_lt hlt
              have hx2 : ¬ X = wr.heap.size + 1 := by omega
              go_upto_region 23 with fail
              go_cut [14, 15] from 62 to 68 (fun v v2 wx => ∃ g h, v = .pointer (some ⟨g, 0, none⟩) ∧ v2 = .pointer (some ⟨h, 0, none⟩) ∧ Below X w4 wx ∧ Blk wx X 86 (cntC s').toArray ∧ Blk wx g 85 (cnt4 (s'.ends 0)).toArray ∧ Blk wx h 85 (cnt4 (s'.ends 1)).toArray)
              case first =>
                go_region
                · go_wp2
                  go_meet
                  case rel => exact ⟨_, _, rfl, rfl, two85 HBK.out HBL.out _ _⟩
                · go_wp2
                  go_meet
                  case rel => exact ⟨_, _, rfl, rfl, two85' HBK.out HBL.out _ _⟩
              case rest =>
                obtain ⟨g, h, rfl, rfl, hbc, hXc, hg, hh⟩ := hcut
                have hcnt : (s'.ends 0).told ≤ (s'.ends 1).came ∧ (s'.ends 1).came ≤ (s'.ends 0).last ∧ (s'.ends 0).taken ≤ (s'.ends 0).came ∧ (s'.ends 0).came - (s'.ends 0).taken ≤ 8 ∧ (s'.ends 0).told ≤ (s'.ends 0).last ∧ (s'.ends 0).last - (s'.ends 0).told ≤ 64 := HI3.out.counts (v := 0) (by omega)
                have hsm := HI3.out.small 0 (by omega)
                have HBX := Lib.hid (HP3.out.below (by rw [HX.out]; exact hbc)).boxAt
                have HG := Lib.hid hg
                have HXC := Lib.hid hXc
                have HBC := Lib.hid hbc
                have g0 := hg.cell 0
                have g1 := hg.cell 1
                have g2 := hg.cell 2
                have g3 := hg.cell 3
                have o2 := hh.cell 2
                change _ = some (Value.int .u64 _) at g0 g1 g2 g3 o2
                have c1 : ¬ (((s'.ends 1).came : Int) < ((s'.ends 0).told : Int)) := by omega
                have c2 : ¬ (((s'.ends 0).last : Int) < ((s'.ends 1).came : Int)) := by omega
                obtain ⟨d1, hd1, hd8⟩ : ∃ d1 : Int, IntKind.u64.wrap (((s'.ends 0).came : Int) - ((s'.ends 0).taken : Int)) = d1 ∧ ¬ (8 : Int) < d1 := ⟨_, IntWalk.u64_in _ (by omega), by omega⟩
                obtain ⟨d2, hd2, hd64⟩ : ∃ d2 : Int, IntKind.u64.wrap (((s'.ends 0).last : Int) - ((s'.ends 0).told : Int)) = d2 ∧ ¬ (64 : Int) < d2 := ⟨_, IntWalk.u64_in _ (by omega), by omega⟩
                clear h0 h1 h2 h3 h4 h5 h6 h7 hlt hx1 hx2 hbc hXc hg hh hcnt hsm
                go_wp2_with fail
                go_loopw [97] (fun v wr => ∃ j : Nat, j ≤ 4 ∧ v = .int .i64 (j : Int) ∧ ∃ q, wr = wc.drewN q) (fun v _ => 4 - (intOf v).toNat)
                case atStart => exact ⟨0, by omega, rfl, 0, rfl⟩
                case round =>
                  obtain ⟨j, hj, rfl, q, hq⟩ := hrel
                  have HQ := Lib.hid hq
                  clear g0 g1 g2 g3 o2 c1 c2 hd1 hd2
                  by_cases hj4 : j < 4
                  · have hjz : (j : Int) < 4 := by omega
                    have cg : wr.cell? ⟨g, j, none⟩ = some (.int .u64 (((s'.ends 0).cnt j : Nat) : Int)) := by rw [hq]; exact (HG.out.cell j).trans (by rw [List.getElem?_toArray]; exact cnt4_at _ hj4)
                    have cw : wr.cell? ⟨qw, j, none⟩ = some (.int .u64 (((s.ends 0).cnt j : Nat) : Int)) := by rw [hq]; exact ((HBX.out (by omega)).cell _).trans (by have hca := cntC_at s (k := 0) (j := j) (by omega) hj4; rw [show 0 * 4 + j = j by omega] at hca; exact hca)
                    have hle : ¬ ((((s'.ends 0).cnt j : Nat) : Int) < (((s.ends 0).cnt j : Nat) : Int)) := by
                      have := (HMO.out 0).cnt j
                      omega
                    clear hq
                    go_wp2_with fail
                    go_quiet (fail)
                    go_wp2
                    go_roundw
                    case rel => exact ⟨j + 1, by omega, by go_num, q + nq, by rw [HQ.out, World.drewN_drewN]⟩
                    case measure => simp [intOf]; omega
                  · obtain rfl : j = 4 := by omega
                    have hb9 : Below X w4 wr := by rw [hq]; exact Tr_below_drewN HBC.out q
                    have hx9 : Blk wr X 86 (cntC s').toArray := by rw [hq]; exact HXC.out
                    have HB9 := Lib.hid hb9
                    have HX9 := Lib.hid hx9
                    clear hq hb9 hx9
                    go_wp2_with fail
                    go_roundw
                    case rel => (repeat apply Exists.intro); exact ⟨⟨0 + 1, by omega, by go_num, HB9.out, HX9.out⟩, rfl⟩
                    case measure => simp [intOf]
            · have h0 := hcl 0
              have h1 := hcl 1
              have h2 := hcl 2
              have h3 := hcl 3
              have h4 := hcl 4
              have h5 := hcl 5
              have h6 := hcl 6
              have h7 := hcl 7
              change _ = some (Value.int .u64 _) at h0 h1 h2 h3 h4 h5 h6 h7
              clear hcl
              have hlt := HBL.out.lt
              have hx1 : ¬ X = wr.heap.size := Nat.ne_of_lt hlt
              have hx2 : ¬ X = wr.heap.size + 1 := by omega
              go_upto_region 23 with fail
              go_cut [14, 15] from 62 to 68 (fun v v2 wx => ∃ g h, v = .pointer (some ⟨g, 0, none⟩) ∧ v2 = .pointer (some ⟨h, 0, none⟩) ∧ Below X w4 wx ∧ Blk wx X 86 (cntC s').toArray ∧ Blk wx g 85 (cnt4 (s'.ends 1)).toArray ∧ Blk wx h 85 (cnt4 (s'.ends 0)).toArray)
              case first =>
                go_region
                · go_wp2
                  go_meet
                  case rel => exact ⟨_, _, rfl, rfl, two85 HBK.out HBL.out _ _⟩
                · go_wp2
                  go_meet
                  case rel => exact ⟨_, _, rfl, rfl, two85' HBK.out HBL.out _ _⟩
              case rest =>
                obtain ⟨g, h, rfl, rfl, hbc, hXc, hg, hh⟩ := hcut
                have hcnt : (s'.ends 1).told ≤ (s'.ends 0).came ∧ (s'.ends 0).came ≤ (s'.ends 1).last ∧ (s'.ends 1).taken ≤ (s'.ends 1).came ∧ (s'.ends 1).came - (s'.ends 1).taken ≤ 8 ∧ (s'.ends 1).told ≤ (s'.ends 1).last ∧ (s'.ends 1).last - (s'.ends 1).told ≤ 64 := HI3.out.counts (v := 1) (by omega)
                have hsm := HI3.out.small 1 (by omega)
                have HBX := Lib.hid (HP3.out.below (by rw [HX.out]; exact hbc)).boxAt
                have HG := Lib.hid hg
                have HXC := Lib.hid hXc
                have HBC := Lib.hid hbc
                have g0 := hg.cell 0
                have g1 := hg.cell 1
                have g2 := hg.cell 2
                have g3 := hg.cell 3
                have o2 := hh.cell 2
                change _ = some (Value.int .u64 _) at g0 g1 g2 g3 o2
                have c1 : ¬ (((s'.ends 0).came : Int) < ((s'.ends 1).told : Int)) := by omega
                have c2 : ¬ (((s'.ends 1).last : Int) < ((s'.ends 0).came : Int)) := by omega
                obtain ⟨d1, hd1, hd8⟩ : ∃ d1 : Int, IntKind.u64.wrap (((s'.ends 1).came : Int) - ((s'.ends 1).taken : Int)) = d1 ∧ ¬ (8 : Int) < d1 := ⟨_, IntWalk.u64_in _ (by omega), by omega⟩
                obtain ⟨d2, hd2, hd64⟩ : ∃ d2 : Int, IntKind.u64.wrap (((s'.ends 1).last : Int) - ((s'.ends 1).told : Int)) = d2 ∧ ¬ (64 : Int) < d2 := ⟨_, IntWalk.u64_in _ (by omega), by omega⟩
                clear h0 h1 h2 h3 h4 h5 h6 h7 hlt hx1 hx2 hbc hXc hg hh hcnt hsm
                go_wp2_with fail
                go_loopw [97] (fun v wr => ∃ j : Nat, j ≤ 4 ∧ v = .int .i64 (j : Int) ∧ ∃ q, wr = wc.drewN q) (fun v _ => 4 - (intOf v).toNat)
                case atStart => exact ⟨0, by omega, rfl, 0, rfl⟩
                case round =>
                  obtain ⟨j, hj, rfl, q, hq⟩ := hrel
                  have HQ := Lib.hid hq
                  clear g0 g1 g2 g3 o2 c1 c2 hd1 hd2
                  by_cases hj4 : j < 4
                  · have hjz : (j : Int) < 4 := by omega
                    have cg : wr.cell? ⟨g, j, none⟩ = some (.int .u64 (((s'.ends 1).cnt j : Nat) : Int)) := by rw [hq]; exact (HG.out.cell j).trans (by rw [List.getElem?_toArray]; exact cnt4_at _ hj4)
                    have cw : wr.cell? ⟨qw, 4 + j, none⟩ = some (.int .u64 (((s.ends 1).cnt j : Nat) : Int)) := by rw [hq]; exact ((HBX.out (by omega)).cell _).trans (by have hca := cntC_at s (k := 1) (j := j) (by omega) hj4; rw [show 1 * 4 + j = 4 + j by omega] at hca; exact hca)
                    have hle : ¬ ((((s'.ends 1).cnt j : Nat) : Int) < (((s.ends 1).cnt j : Nat) : Int)) := by
                      have := (HMO.out 1).cnt j
                      omega
                    clear hq
                    go_wp2_with fail
                    go_quiet (fail)
                    go_wp2
                    go_roundw
                    case rel => exact ⟨j + 1, by omega, by go_num, q + nq, by rw [HQ.out, World.drewN_drewN]⟩
                    case measure => simp [intOf]; omega
                  · obtain rfl : j = 4 := by omega
                    have hb9 : Below X w4 wr := by rw [hq]; exact Tr_below_drewN HBC.out q
                    have hx9 : Blk wr X 86 (cntC s').toArray := by rw [hq]; exact HXC.out
                    have HB9 := Lib.hid hb9
                    have HX9 := Lib.hid hx9
                    clear hq hb9 hx9
                    go_wp2_with fail
                    go_roundw
                    case rel => (repeat apply Exists.intro); exact ⟨⟨1 + 1, by omega, by go_num, HB9.out, HX9.out⟩, rfl⟩
                    case measure => simp [intOf]
          · obtain rfl : k = 2 := by omega
            have HBK9 := Lib.hid hbk
            have hpx := HP3.out.below (by rw [HX.out]; exact hbk)
            have hbox := hpx.boxAt (by omega)
            have HPX := Lib.hid hpx
            have x0 := hblk.cell 0
            have x1 := hblk.cell 1
            have x2 := hblk.cell 2
            have x3 := hblk.cell 3
            have x4 := hblk.cell 4
            have x5 := hblk.cell 5
            have x6 := hblk.cell 6
            have x7 := hblk.cell 7
            change _ = some (Value.int .u64 _) at x0 x1 x2 x3 x4 x5 x6 x7
            have z0 := hbox.cell 0
            have z1 := hbox.cell 1
            have z2 := hbox.cell 2
            have z3 := hbox.cell 3
            have z4 := hbox.cell 4
            have z5 := hbox.cell 5
            have z6 := hbox.cell 6
            have z7 := hbox.cell 7
            change _ = some (Value.int .u64 _) at z0 z1 z2 z3 z4 z5 z6 z7
            have hfz : ∀ i, wr.frozen? ⟨qw, i, none⟩ = false := hbox.frozen
            have HBO := Lib.hid hbox.blk
            have hql := hbox.blk.lt
            clear hbk hblk hpx hbox
            go_wp2_with fail
            go_roundw
            case rel => exact ⟨i + 1, s', by omega, by go_num, Below.trans HB3.out (Below.trans (HBK9.out.mono (by have := HS.out _ HB3.out; rw [HX.out] at this; exact this)) ((set8 HBO.out).1.below (Nat.le_trans HLE.out HPX.out.hB) (fun k hk => by rw [hk]; exact Nat.le_trans HLE.out (HPX.out.boxAt (by omega)).base))), HPX.out.boxSet (by omega) (set8 HBO.out).1 (set8 HBO.out).2, HI3.out⟩
            case measure => simp [intOf]; omega
end Go.Proofs.Ytgacphicgglogaa.linkCounts
