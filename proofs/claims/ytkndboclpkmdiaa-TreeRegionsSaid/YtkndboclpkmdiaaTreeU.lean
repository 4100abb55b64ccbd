/- The reference's Right and Has. -/
import Derived.Test.YtkndboclpkmdiaaTreeS
import Derived.Deep.CutRange
namespace Go.Proofs.Ytkndboclpkmdiaa
open Go.RowKit

set_option maxHeartbeats 8000000 in
set_option maxRecDepth 100000 in
theorem refRight_any (w : World) (A : Option Addr) (n c : Nat) (st : Sts) (h : Tree w w.heap.size A n st) (_hw : Tr.Wf st) :
    Calls Try.prog 12 #[.slice A n c] w fun e w' => e = .returned (.bool (decide (Tr.right st))) ∧ Below w.heap.size w w' := by
  have hl := h.1
  obtain ⟨b, hb0⟩ : ∃ b, decide (Tr.right st) = b := ⟨_, rfl⟩
  rw [hb0]
  have HB := Lib.hid hb0
  clear hb0
  have hno : ¬ Tr.right st → b = false := fun h => by rw [← HB.out]; exact decide_eq_false h
  go_enter Try.func12, Try.ntmps12
  by_cases h1 : n < 1
  · have hbf := hno fun hr => by have := hr.1.2.2.1; omega
    subst hbf
    have h1z : (n : Int) < 1 := by omega
    clear hno h1
    go_wp2
    go_ret
    exact ⟨rfl, Below.refl _ _⟩
  by_cases h2 : 40 < n
  · have hbf := hno fun hr => by have := hr.1.2.2.2; omega
    subst hbf
    have h1z : ¬ (n : Int) < 1 := by omega
    have h2z : (40 : Int) < (n : Int) := by omega
    clear hno h1 h2
    go_wp2
    go_ret
    exact ⟨rfl, Below.refl _ _⟩
  obtain ⟨ad, rfl, hab⟩ := h.addr (i := 0) (by omega)
  have hd0c := (h.at_ (i := 0) (by omega)).2
  rw [show ad.add (0 * 6) = ad from by unfold Addr.add; simp] at hd0c
  have h1z : ¬ (n : Int) < 1 := by omega
  have h2z : ¬ (40 : Int) < (n : Int) := by omega
  have h0n : 0 < n := by omega
  have h0nz : (0 : Int) < (n : Int) := by omega
  by_cases h3 : Tr.dp st 0 = 0
  · have HD := Lib.hid h3
    rw [h3] at hd0c
    clear h3
    go_wp2
    go_loopw [4, 3] (fun v r wr => ∃ i : Nat, i ≤ n ∧ v = .int .i64 (i : Int) ∧ r = .int .i64 (Tr.regs st i : Int) ∧ Below w.heap.size w wr ∧ (∀ j, j < i → ¬ Tr.bad st j)) (fun v _ _ => n - (intOf v).toNat)
    case atStart => exact ⟨0, by omega, rfl, rfl, Below.refl _ _, fun j hj => absurd hj (by omega)⟩
    case round =>
      obtain ⟨i, hi, rfl, rfl, hb, hall⟩ := hrel
      have ht := h.below hb
      have hrl := Tr.regs_le st i
      by_cases hin : i < n
      · obtain ⟨hk1, hk2⟩ := ht.at_ hin
        obtain ⟨s0, s3, a4, n4, c4, a5, n5, c5, hc0, hc3, hc4, hc5⟩ := ht.all hin
        have hiz : (i : Int) < (n : Int) := by omega
        have hbf2 : ∀ o, Below w.heap.size w (wr.alloc o) := fun o => hb.alloc hb.size o
        have hpa : i = 0 ∨ (0 < i ∧ 0 ≤ Tr.dp st (i - 1) ∧ Tr.dp st (i - 1) ≤ 5 ∧ ∀ o, (wr.alloc o).cell? { block := (ad.add ((i - 1) * 6)).block, off := (ad.add ((i - 1) * 6)).off + 2 } = some (.int .i64 (Tr.dp st (i - 1)))) := by
          rcases Nat.eq_zero_or_pos i with h0 | h0
          · exact .inl h0
          · refine .inr ⟨h0, ?_, ?_, fun o => (ht.alloc hb.size o |>.at_ (show i - 1 < n by omega)).2⟩
            · exact Int.not_lt.1 fun h => hall (i - 1) (by omega) (.inl h)
            · exact Int.not_lt.1 fun h => hall (i - 1) (by omega) (.inr (.inr (.inl (by omega))))
        have hd00 : i = 0 → Tr.dp st i = 0 := fun h => by rw [h]; exact HD.out
        have hbadr : Tr.bad st i ↔ (Tr.kd st i < 1 ∨ 6 < Tr.kd st i ∨ Tr.dp st i < 0 ∨ 5 < Tr.dp st i ∨ (0 < i ∧ Tr.dp st (i - 1) + 1 < Tr.dp st i)) ∨ (Tr.dp st i = 0 ∧ Tr.kd st i ≠ 2) := by
          unfold Tr.bad Tr.ahead
          rcases hpa with h0 | ⟨h0, hp0, hp5, _⟩
          · have := hd00 h0
            rw [if_pos h0]
            omega
          · rw [if_neg (by omega)]
            omega
        have hr2 : Tr.dp st i = 0 → Tr.regs st (i + 1) = Tr.regs st i + 1 := fun h => by rw [Tr.regs, if_pos h]
        have hr3 : Tr.dp st i ≠ 0 → Tr.regs st (i + 1) = Tr.regs st i := fun h => by rw [Tr.regs, if_neg h, Nat.add_zero]
        have HR2 := Lib.hid hr2
        have HR3 := Lib.hid hr3
        have HBAD := Lib.hid hbadr
        have HNO := Lib.hid hno
        have HALL := Lib.hid hall
        have hrw : IntKind.i64.wrap ((Tr.regs st i : Nat) + 1 : Int) = ((Tr.regs st i : Nat) + 1 : Int) := IntWalk.i64_in _ (by omega)
        clear hr2 hr3 hbadr hno hall hd00
        generalize Tr.regs st i = r at *
        obtain ⟨K, hK⟩ : ∃ K, Tr.kd st i = K := ⟨_, rfl⟩
        obtain ⟨D, hD⟩ : ∃ D, Tr.dp st i = D := ⟨_, rfl⟩
        obtain ⟨pa, hP⟩ : ∃ pa, Tr.dp st (i - 1) = pa := ⟨_, rfl⟩
        rw [hK] at hk1
        rw [hD] at hk2
        rw [hP] at hpa
        have HK := Lib.hid hK
        have HDD := Lib.hid hD
        have HP := Lib.hid hP
        clear hK hD hP
        go_wp2_with fail
        go_upto_region 8 with fail
        go_cut [69] from 26 to 82 (fun v wx => ∃ bb : Bool, v = .bool bb ∧ (bb = true ↔ (K < 1 ∨ 6 < K ∨ D < 0 ∨ 5 < D ∨ (0 < i ∧ pa + 1 < D))) ∧ ∃ q, wx = (wr.alloc (.cells #[.string s0, .int .i64 K, .int .i64 D, .string s3, .slice a4 n4 c4, .slice a5 n5 c5] 34)).drewN q)
        case first =>
          by_cases h1 : K < 1
          · go_quiet (fail)
            go_wp2
            go_meet
            case rel => exact ⟨true, rfl, ⟨fun _ => .inl h1, fun _ => rfl⟩, nq, rfl⟩
          have h1' : 1 ≤ K := by omega
          by_cases h2 : 6 < K
          · go_quiet (fail)
            go_wp2
            go_meet
            case rel => exact ⟨true, rfl, ⟨fun _ => .inr (.inl h2), fun _ => rfl⟩, nq, rfl⟩
          have h2' : K ≤ 6 := by omega
          by_cases h3 : D < 0
          · go_quiet (fail)
            go_wp2
            go_meet
            case rel => exact ⟨true, rfl, ⟨fun _ => .inr (.inr (.inl h3)), fun _ => rfl⟩, nq, rfl⟩
          have h3' : 0 ≤ D := by omega
          by_cases h4 : 5 < D
          · go_quiet (fail)
            go_wp2
            go_meet
            case rel => exact ⟨true, rfl, ⟨fun _ => .inr (.inr (.inr (.inl h4))), fun _ => rfl⟩, nq, rfl⟩
          have h4' : D ≤ 5 := by omega
          rcases hpa with h0 | ⟨h0, hp0, hp5, hpc⟩
          · have hnz : ¬ (0 : Int) < (i : Int) := by omega
            have hdz : decide (0 < i) = false := decide_eq_false (by omega)
            have hn : ¬ (K < 1 ∨ 6 < K ∨ D < 0 ∨ 5 < D ∨ (0 < i ∧ pa + 1 < D)) := by omega
            have HN := Lib.hid hn
            clear h0 hn
            go_quiet (fail)
            go_wp2
            go_meet
            case rel => exact ⟨false, rfl, ⟨fun h => (by cases h), fun h => absurd h HN.out⟩, nq, rfl⟩
          · have hiz0 : 0 < (i : Int) := by omega
            have hpn : i - 1 < n := by omega
            have hpn2 : (i : Int) - 1 < (n : Int) := by omega
            have hwi := IntWalk.i64_in ((i : Int) - 1) (by omega)
            have hwp := IntWalk.i64_in (pa + 1) (by omega)
            have hti : ((i : Int) - 1).toNat = i - 1 := by omega
            have hti0 : (0 : Int) ≤ (i : Int) - 1 := by omega
            by_cases h5 : pa + 1 < D
            · go_quiet (fail)
              go_wp2
              go_meet
              case rel => exact ⟨true, rfl, ⟨fun _ => .inr (.inr (.inr (.inr ⟨h0, h5⟩))), fun _ => rfl⟩, nq, rfl⟩
            · have h5' : D ≤ pa + 1 := by omega
              have hn : ¬ (K < 1 ∨ 6 < K ∨ D < 0 ∨ 5 < D ∨ (0 < i ∧ pa + 1 < D)) := by omega
              have HN := Lib.hid hn
              clear hn
              go_quiet (fail)
              go_wp2
              go_meet
              case rel => exact ⟨false, rfl, ⟨fun h => (by cases h), fun h => absurd h HN.out⟩, nq, rfl⟩
        case rest =>
          obtain ⟨bb, hv, hbb, q, rfl⟩ := hcut
          subst hv
          have hbf3 := Tr.below_drewN (hbf2 (.cells #[.string s0, .int .i64 K, .int .i64 D, .string s3, .slice a4 n4 c4, .slice a5 n5 c5] 34)) q
          have HBB := Lib.hid hbb
          clear hbb
          cases bb with
          | true =>
            have hbad := HBB.out.1 rfl
            have hbf := HNO.out fun hr => hr.1.1 i (by rw [hl]; exact hin) (HBAD.out.2 (.inl (by rw [HK.out, HDD.out, HP.out]; exact hbad)))
            subst hbf
            clear hbad
            go_wp2
            go_ret
            exact ⟨rfl, hbf3⟩
          | false =>
            by_cases hD0 : D = 0
            · subst hD0
              by_cases hK2 : K = 2
              · subst hK2
                have hnb : ¬ Tr.bad st i := fun h => by
                  have h1 := HBAD.out.1 h
                  rw [HK.out, HDD.out, HP.out] at h1
                  rcases h1 with h1 | h1
                  · have := HBB.out.2 h1; cases this
                  · exact h1.2 rfl
                have HR := Lib.hid (HR2.out HDD.out)
                have HALL2 := Lib.hid (show ∀ j, j < i + 1 → ¬ Tr.bad st j from fun j hj => by
                  by_cases h : j = i
                  · subst h; exact hnb
                  · exact HALL.out j (by omega))
                clear hnb
                go_wp2
                go_roundw
                case rel => exact ⟨i + 1, by omega, by go_num, by rw [HR.out]; go_num, hbf3, HALL2.out⟩
                case measure => simp [intOf]; omega
              · have hbf := HNO.out fun hr => hr.1.1 i (by rw [hl]; exact hin) (HBAD.out.2 (.inr ⟨HDD.out, by rw [HK.out]; exact hK2⟩))
                subst hbf
                go_wp2
                go_ret
                exact ⟨rfl, hbf3⟩
            · have hnb : ¬ Tr.bad st i := fun h => by
                have h1 := HBAD.out.1 h
                rw [HK.out, HDD.out, HP.out] at h1
                rcases h1 with h1 | h1
                · have := HBB.out.2 h1; cases this
                · exact hD0 h1.1
              have HR := Lib.hid (HR3.out (by rw [HDD.out]; exact hD0))
              have HALL2 := Lib.hid (show ∀ j, j < i + 1 → ¬ Tr.bad st j from fun j hj => by
                by_cases h : j = i
                · subst h; exact hnb
                · exact HALL.out j (by omega))
              clear hnb
              go_wp2
              go_roundw
              case rel => exact ⟨i + 1, by omega, by go_num, by rw [HR.out], hbf3, HALL2.out⟩
              case measure => simp [intOf]; omega
      · obtain rfl : i = n := by omega
        have nb : Tr.NB st := fun j hj => hall j (by rw [hl] at hj; exact hj)
        have hri := Tr.right_iff st nb (by omega) (by omega)
        rw [hl] at hri
        have hiz : ¬ (i : Int) < (i : Int) := by omega
        have HRI := Lib.hid hri
        have HNO := Lib.hid hno
        clear hall hri hno
        go_wp2
        go_loopw [6] (fun v wr => ∃ m : Nat, m ≤ i ∧ v = .int .i64 (m : Int) ∧ Below w.heap.size w wr ∧ (∀ j, j < m → Tr.nodeR st j)) (fun v _ => i - (intOf v).toNat)
        case atStart => exact ⟨0, by omega, rfl, hb, fun j hj => absurd hj (by omega)⟩
        case round =>
          obtain ⟨m, hm, rfl, hb, hall⟩ := hrel
          have htr := (h.below hb).more hb.size
          by_cases hmn : m < i
          · have hmz : (m : Int) < (i : Int) := by omega
            have hml : m < st.length := by rw [hl]; exact hmn
            have HALL := Lib.hid hall
            clear hall
            go_upto_region 18 with (go_at_call 22; refine (parent_any' wr (some ad) i c st htr (by unfold maxLen; omega) nb m hmn).mono ?_; rintro e w2 ⟨rfl, hb2⟩)
            obtain ⟨q, hq⟩ : ∃ q, Tr.up st m = q := ⟨_, rfl⟩
            rw [hq]
            have HQ := Lib.hid hq
            clear hq
            go_cut [6, 117] from 83 to 155 (fun v v2 wx => v = .int .i64 (m : Int) ∧ Below w.heap.size w wx ∧ ∃ bb : Bool, v2 = .bool bb ∧ (bb = false ↔ ∀ p : Nat, Tr.up st m = (p : Int) → Tr.kd st p = 2 ∨ (Tr.kd st p = 3 ∧ Tr.kd st m ≤ 3)))
            case first =>
              have hb2' := hb.trans (hb2.mono hb.size)
              have ht2 := (h.below hb2').more hb2'.size
              have hkm := (ht2.at_ hmn).1
              obtain ⟨Km, hKm⟩ : ∃ x, Tr.kd st m = x := ⟨_, rfl⟩
              rw [hKm] at hkm
              have HKM := Lib.hid hKm
              clear hKm
              by_cases hok : ∀ p : Nat, Tr.up st m = (p : Int) → Tr.kd st p = 2 ∨ (Tr.kd st p = 3 ∧ Tr.kd st m ≤ 3)
              · have hcs : q = -1 ∨ ∃ p : Nat, q = (p : Int) ∧ p < i ∧ (Tr.kd st p = 2 ∨ (Tr.kd st p = 3 ∧ Km ≤ 3)) := by
                  rw [← HQ.out]
                  rcases Tr.up_spec st m with ⟨h1, _⟩ | ⟨p, h1, h2, _⟩
                  · exact .inl h1
                  · refine .inr ⟨p, h1, by omega, ?_⟩
                    have := hok p h1
                    rw [HKM.out] at this
                    exact this
                have HOK := Lib.hid hok
                clear hok
                rcases hcs with rfl | ⟨p, rfl, hpn, h3⟩
                · go_wp2
                  go_meet
                  case rel => exact ⟨rfl, hb2', false, rfl, ⟨fun _ => HOK.out, fun _ => rfl⟩⟩
                · have hpz : (p : Int) < (i : Int) := by omega
                  have hp0 : (0 : Int) ≤ (p : Int) := by omega
                  have hkp := (ht2.at_ hpn).1
                  rcases h3 with h3 | ⟨h3, h4⟩
                  · rw [h3] at hkp
                    clear h3
                    go_wp2
                    go_meet
                    case rel => exact ⟨rfl, hb2', false, rfl, ⟨fun _ => HOK.out, fun _ => rfl⟩⟩
                  · rw [h3] at hkp
                    have h4b : decide (3 < Km) = false := decide_eq_false (by omega)
                    clear h3
                    go_wp2
                    go_meet
                    case rel => exact ⟨rfl, hb2', false, by first | rfl | rw [h4b], ⟨fun _ => HOK.out, fun _ => rfl⟩⟩
              · have hex : ∃ p : Nat, q = (p : Int) ∧ Tr.kd st p ≠ 2 ∧ (Tr.kd st p ≠ 3 ∨ 3 < Km) := by
                  refine Classical.byContradiction fun hne => hok fun p hp => ?_
                  refine Classical.byContradiction fun hne2 => hne ⟨p, HQ.out.symm.trans hp, ?_⟩
                  rw [HKM.out] at hne2
                  omega
                obtain ⟨p, hp, hp2, hp3⟩ := hex
                have hpm := ((Tr.up_eq st m p).1 (HQ.out.trans hp)).1
                have hpn : p < i := by omega
                have hpz : (p : Int) < (i : Int) := by omega
                have hp0 : (0 : Int) ≤ (p : Int) := by omega
                have hkp := (ht2.at_ hpn).1
                subst hp
                have HOK := Lib.hid hok
                clear hok
                generalize Tr.kd st p = Kp at *
                by_cases h3 : Kp = 3
                · have h4 : 3 < Km := by omega
                  subst h3
                  clear hp3 hp2
                  go_wp2
                  go_meet
                  case rel => exact ⟨rfl, hb2', true, rfl, ⟨fun h => (by cases h), fun h => absurd h HOK.out⟩⟩
                · have hp2b : (Kp != 2) = true := bne_iff_ne.2 hp2
                  have hp3b : (Kp != 3) = true := bne_iff_ne.2 h3
                  clear hp3
                  go_wp2
                  go_meet
                  case rel => exact ⟨rfl, hb2', true, by first | rfl | rw [hp2b],  ⟨fun h => (by cases h), fun h => absurd h HOK.out⟩⟩
            case rest =>
              obtain ⟨hv, hbc, bb, hv2, hbb⟩ := hcut
              subst hv hv2
              have HBB := Lib.hid hbb
              clear hbb
              cases bb with
              | true =>
                have hbf := HNO.out fun hr => by
                  have := HBB.out.2 ((HRI.out.1 hr).2 m hmn).1
                  cases this
                subst hbf
                go_wp2
                go_ret
                exact ⟨rfl, hbc⟩
              | false =>
              have hok := HBB.out.1 rfl
              have HOK := Lib.hid hok
              clear hok HBB
              have htc := (h.below hbc).more hbc.size
              have hkm := (htc.at_ hmn).1
              obtain ⟨Km, hKm⟩ : ∃ x, Tr.kd st m = x := ⟨_, rfl⟩
              rw [hKm] at hkm
              have HKM := Lib.hid hKm
              clear hKm
              by_cases hK : Km = 2 ∨ Km = 3
              · have hks := fun k (hk : k ∈ Tr.kids st m) => ((Tr.mem_kids st hml).1 hk).1
                have hkl := Tr.kids_len st hml
                rw [hl] at hkl hks
                have HNR := Lib.hid (show Tr.nodeR st m ↔ Tr.reals st (Tr.kids st m) ≠ 0 from ⟨fun hh => hh.2 (by rw [HKM.out]; exact hK), fun hh => ⟨HOK.out, fun _ => hh⟩⟩)
                have HKS := Lib.hid hks
                clear hks
                rcases hK with hK | hK
                all_goals
                  subst hK
                  go_wp2_with fail
                  refine (refKids_any _ (some ad) i c st htc (by omega) nb m hmn).mono ?_
                  rintro e w3 ⟨v3, rfl, hb3, hown⟩
                  obtain ⟨A3, c3, rfl⟩ := own_form hown
                  have hr3 := Reads.of_own hown
                  have hb3' := hbc.trans (hb3.mono hbc.size)
                  clear hown
                  obtain ⟨ks, hks⟩ : ∃ ks, Tr.kids st m = ks := ⟨_, rfl⟩
                  rw [hks] at hr3 hkl
                  rw [hks]
                  have HKSS := Lib.hid hks
                  clear hks
                  obtain ⟨nk, hnk⟩ : ∃ nk, ks.length = nk := ⟨_, rfl⟩
                  rw [hnk] at hr3 hkl
                  rw [hnk]
                  have HNK := Lib.hid hnk
                  clear hnk
                  go_wp2
                  go_loopw [10, 8] (fun v r wr => ∃ (k : Nat) (bb : Bool), k ≤ nk ∧ v = .int .i64 (k : Int) ∧ r = .bool bb ∧ Below w3.heap.size w3 wr ∧ (bb = true ↔ Tr.reals st (ks.take k) ≠ 0)) (fun v _ _ => nk - (intOf v).toNat)
                  case atStart => exact ⟨0, false, Nat.zero_le _, rfl, rfl, Below.refl _ _, by simp [Tr.reals]⟩
                  case round =>
                    obtain ⟨k, bb, hk, rfl, rfl, hbr, hbb⟩ := hrel
                    have HBB := Lib.hid hbb
                    clear hbb
                    by_cases hkn : k < nk
                    · have hkz : (k : Int) < (nk : Int) := by omega
                      have hkL : k < ks.length := by rw [HNK.out]; exact hkn
                      have hsn := Tr.reals_snoc st (ks.take k) ks[k]
                      rw [← List.take_succ_eq_append_getElem hkL] at hsn
                      cases bb with
                      | true =>
                        have hnz : Tr.reals st (ks.take (k + 1)) ≠ 0 := by
                          have := HBB.out.1 rfl
                          rw [hsn]; omega
                        have HNZ := Lib.hid hnz
                        clear hnz hsn
                        go_wp2
                        go_roundw
                        case rel => exact ⟨k + 1, true, by omega, by go_num, rfl, hbr, ⟨fun _ => HNZ.out, fun _ => rfl⟩⟩
                        case measure => simp [intOf]; omega
                      | false =>
                        have hz : Tr.reals st (ks.take k) = 0 := Classical.byContradiction fun hne => by have := HBB.out.2 hne; cases this
                        rw [hz, Nat.zero_add] at hsn
                        have HSN := Lib.hid hsn
                        obtain ⟨a1, u1, rfl, hb1, hu1, hc1⟩ := (hr3.below hbr).at_ hkn
                        have hkk : ks[k] < i := HKS.out ks[k] (by rw [HKSS.out]; exact List.getElem_mem hkL)
                        have e1 : u1 = .int .i64 (ks[k] : Int) := by simpa [ints, hkL] using hu1.symm
                        subst e1
                        have hkc := (((h.below (hb3'.trans (hbr.mono hb3'.size)))).at_ hkk).1
                        clear hz hsn hu1
                        obtain ⟨x, hx⟩ : ∃ x, ks[k] = x := ⟨_, rfl⟩
                        rw [hx] at hc1 hkk hkc HSN
                        clear hx
                        obtain ⟨Kx, hKx⟩ : ∃ y, Tr.kd st x = y := ⟨_, rfl⟩
                        rw [hKx] at hkc HSN
                        clear hKx
                        have hxz : (x : Int) < (i : Int) := by omega
                        go_wp2_with fail
                        refine (refPast_any _ Kx).mono ?_
                        rintro e w5 ⟨rfl, rfl⟩
                        go_wp2
                        go_roundw
                        case rel => exact ⟨k + 1, !Tr.pastB Kx, by omega, by go_num, rfl, hbr, by rw [HSN.out]; cases Tr.pastB Kx <;> simp⟩
                        case measure => simp [intOf]; omega
                    · obtain rfl : k = nk := by omega
                      have hkz : ¬ (k : Int) < (k : Int) := by omega
                      have hbb2 : bb = true ↔ Tr.reals st (Tr.kids st m) ≠ 0 := by
                        rw [HBB.out, HKSS.out, List.take_of_length_le (by rw [HNK.out]; omega)]
                      have hbr2 := hb3'.trans (hbr.mono hb3'.size)
                      cases bb with
                      | true =>
                        have HALL2 := Lib.hid (show ∀ j, j < m + 1 → Tr.nodeR st j from fun j hj => by
                          by_cases e : j = m
                          · subst e; exact HNR.out.2 (hbb2.1 rfl)
                          · exact HALL.out j (by omega))
                        clear hbb2
                        go_wp2
                        go_roundw
                        case rel => exact ⟨m + 1, by omega, by go_num, hbr2, HALL2.out⟩
                        case measure => simp [intOf]; omega
                      | false =>
                        have hbf := HNO.out fun hr => by
                          have := hbb2.2 (HNR.out.1 ((HRI.out.1 hr).2 m hmn))
                          cases this
                        subst hbf
                        clear hbb2
                        go_wp2
                        go_ret
                        exact ⟨rfl, hbr2⟩
              · have hK2 : ¬ Km = 2 := fun e => hK (.inl e)
                have hK3 : ¬ Km = 3 := fun e => hK (.inr e)
                have hK2b : (Km != 2) = true := bne_iff_ne.2 hK2
                have hK3b : (Km != 3) = true := bne_iff_ne.2 hK3
                have HALL2 := Lib.hid (show ∀ j, j < m + 1 → Tr.nodeR st j from fun j hj => by
                  by_cases e : j = m
                  · subst e; exact ⟨HOK.out, fun hh => absurd (by rw [← HKM.out]; exact hh) hK⟩
                  · exact HALL.out j (by omega))
                clear hK
                go_wp2
                go_roundw
                case rel => exact ⟨m + 1, by omega, by go_num, hbc, HALL2.out⟩
                case measure => simp [intOf]; omega
          · obtain rfl : m = i := by omega
            have hmz : ¬ (m : Int) < (m : Int) := by omega
            by_cases hr4 : Tr.regs st m ≤ 4
            · have hbt : b = true := by rw [← HB.out]; exact decide_eq_true (HRI.out.2 ⟨hr4, hall⟩)
              subst hbt
              have hr4z : (Tr.regs st m : Int) ≤ 4 := by omega
              generalize Tr.regs st m = r at *
              clear hall
              go_wp2
              go_ret
              exact ⟨rfl, hb⟩
            · have hbf := HNO.out fun hr => hr4 (HRI.out.1 hr).1
              subst hbf
              have hr4z : ¬ (Tr.regs st m : Int) ≤ 4 := by omega
              generalize Tr.regs st m = r at *
              clear hall
              go_wp2
              go_ret
              exact ⟨rfl, hb⟩
  · have hbf := hno fun hr => h3 (Tr.right_dp0 hr)
    subst hbf
    generalize Tr.dp st 0 = D at *
    clear hno
    go_wp2
    go_ret
    exact ⟨rfl, Below.refl _ _⟩

end Go.Proofs.Ytkndboclpkmdiaa
