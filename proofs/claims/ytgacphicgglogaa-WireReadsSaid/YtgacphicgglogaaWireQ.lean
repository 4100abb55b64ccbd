/- Package wire: 'read'. -/
import Derived.Test.YtgacphicgglogaaWireS
import Derived.Deep.RegionHeld3
namespace Go.Proofs.Ytgacphicgglogaa
open Go.RowKit Crc
set_option linter.unusedVariables false

theorem i64of_in' (n : Nat) (h : n < 18446744073709551616) : -9223372036854775808 ≤ i64of n ∧ i64of n ≤ 9223372036854775807 := by
  unfold i64of
  split <;> omega
set_option maxHeartbeats 8000000 in
set_option maxRecDepth 100000 in
theorem read_any (w : World) (s : ByteArray) (hs : s.size ≤ 800) : Calls Try.prog 55 #[.string s] w (RRead w s) := by
  obtain ⟨ji, hji0, hjx0, hjx1, hjx2⟩ := info_parts set_info
  obtain ⟨pi, hpi0, hpx0, hpx1, hpx2⟩ := info_parts past_info
  have hz54 : ∀ w, (zeroValue 54).run Try.prog w = .ok (.agg #[.int .i64 0, .int .u64 0, .string ⟨#[]⟩, .slice none 0 0, .slice none 0 0, .slice none 0 0, .slice none 0 0, .slice none 0 0, .slice none 0 0]) w := fun _ => by kernel_rfl
  obtain ⟨M, hM⟩ : ∃ M, w.heap.size = M := ⟨_, rfl⟩
  have hS0 : RdS w (((w.alloc (.cells #[.int .i64 0, .int .u64 0, .string ⟨#[]⟩, .slice none 0 0, .slice none 0 0, .slice none 0 0, .slice none 0 0, .slice none 0 0, .slice none 0 0] 54)).alloc (.cells #[.int .i64 0] 30)).alloc (.cells #[.string s] 143)) w.heap.size #[.int .i64 0, .int .u64 0, .string ⟨#[]⟩, .slice none 0 0, .slice none 0 0, .slice none 0 0, .slice none 0 0, .slice none 0 0, .slice none 0 0] s := by
    generalize (#[.int .i64 0, .int .u64 0, .string ⟨#[]⟩, .slice none 0 0, .slice none 0 0, .slice none 0 0, .slice none 0 0, .slice none 0 0, .slice none 0 0] : Array Value) = cs
    have e1 := (Blk.new w 54 cs)
    have e2 := Blk.new (w.alloc (.cells cs 54)) 30 #[.int .i64 0]
    have e3 := Blk.new ((w.alloc (.cells cs 54)).alloc (.cells #[.int .i64 0] 30)) 143 #[.string s]
    rw [World.size_alloc] at e2
    rw [World.size_alloc, World.size_alloc] at e3
    exact ⟨(e1.alloc _).alloc _, e2.alloc _, e3, (((Below.refl _ _).alloc (Nat.le_refl _) _).alloc (by rw [World.size_alloc]; omega) _).alloc (by rw [World.size_alloc, World.size_alloc]; omega) _, by rw [World.size_alloc, World.size_alloc, World.size_alloc]; omega, by omega⟩
  rw [hM] at hS0
  have HM := Lib.hid hM
  go_enter_defers Try.func55, Try.ntmps55
  go_wp2_with fail
  clear hM
  generalize ((w.alloc (.cells _ 54)).alloc (.cells _ 30)).alloc (.cells _ 143) = W0 at *
  -- the kind
  cases hr0 : smallR s 9 with
  | none =>
    refine (rs_small_none hS0 hr0).mono ?_
    rintro e W1 ⟨rfl, hF⟩
    exact read_bad HM.out (by unfold readR; rw [hr0]; rfl) hF _ rfl rfl
  | some q0 =>
  obtain ⟨kind, s1⟩ := q0
  have HR0 := Lib.hid (show readR s = if kind = 0 then none else rdStep ⟨kind, 0, ⟨#[]⟩, [], [], [], [], [], []⟩ s1 by unfold readR; rw [hr0]; rfl)
  obtain ⟨hc0, hk9⟩ := rs_small hS0 hr0
  refine hc0.mono ?_
  clear hc0 hr0 hS0
  rintro e W1 ⟨rfl, hS1, _⟩
  have hS2 : RdS w _ M #[.int .i64 (kind : Int), .int .u64 0, .string ⟨#[]⟩, .slice none 0 0, .slice none 0 0, .slice none 0 0, .slice none 0 0, .slice none 0 0, .slice none 0 0] s1 := hS1.put 0 (.int .i64 (kind : Int))
  have hc := hS1.box.cell 0
  have hz := hS1.box.frozen 0
  change W1.cell? ⟨M, 0, none⟩ = some (.int .i64 0) at hc
  have HS2 := Lib.hid hS2
  clear hS1 hS2
  go_wp2_with fail
  clear hc hz
  generalize W1.setCell ⟨M, 0, none⟩ (.int .i64 (kind : Int)) = W2 at *
  by_cases hk0 : kind = 0
  · rw [show decide ((1 : Int) ≤ (kind : Int)) = false from decide_eq_false (by omega)]
    refine (must_false _).mono ?_
    rintro e W3 ⟨rfl, rfl⟩
    exact read_bad HM.out (by rw [HR0.out, if_pos hk0]) (HS2.out.fail (Touch.refl _ _)) _ rfl rfl
  rw [show decide ((1 : Int) ≤ (kind : Int)) = true from decide_eq_true (by omega)]
  refine (must_true _).mono ?_
  rintro e W3 ⟨rfl, rfl⟩
  have HR1 := Lib.hid (show readR s = rdStep ⟨kind, 0, ⟨#[]⟩, [], [], [], [], [], []⟩ s1 by rw [HR0.out, if_neg hk0])
  clear HR0
  -- the step
  go_wp2_with fail
  cases hr1 : greatR s1 with
  | none =>
    refine (rs_great_none HS2.out hr1).mono ?_
    rintro e W4 ⟨rfl, hF⟩
    exact read_bad HM.out (by rw [HR1.out]; unfold rdStep; rw [hr1]; rfl) hF _ rfl rfl
  | some q1 =>
  obtain ⟨step, s2⟩ := q1
  have HR2 := Lib.hid (show readR s = rdEvent ⟨kind, step, ⟨#[]⟩, [], [], [], [], [], []⟩ s2 by rw [HR1.out]; unfold rdStep; rw [hr1]; rfl)
  have hstep := (greatR_lt hr1).1
  refine (rs_great HS2.out hr1).mono ?_
  clear HS2 hr1 HR1
  rintro e W4 ⟨rfl, hS4, _⟩
  have hS5 : RdS w _ M #[.int .i64 (kind : Int), .int .u64 (step : Int), .string ⟨#[]⟩, .slice none 0 0, .slice none 0 0, .slice none 0 0, .slice none 0 0, .slice none 0 0, .slice none 0 0] s2 := hS4.put 1 (.int .u64 (step : Int))
  have hc := hS4.box.cell 1
  have hz := hS4.box.frozen 1
  change W4.cell? ⟨M, 1, none⟩ = some (.int .u64 0) at hc
  have HS5 := Lib.hid hS5
  clear hS4 hS5
  -- the event
  go_wp2_with fail
  clear hc hz
  generalize W4.setCell ⟨M, 1, none⟩ (.int .u64 (step : Int)) = W5 at *
  cases hr2 : smallR s2 20 with
  | none =>
    refine (rs_small_none HS5.out hr2).mono ?_
    rintro e W6 ⟨rfl, hF⟩
    exact read_bad HM.out (by rw [HR2.out]; unfold rdEvent; rw [hr2]; rfl) hF _ rfl rfl
  | some q2 =>
  obtain ⟨en, s3⟩ := q2
  have HR3 := Lib.hid (show readR s = (bytesR s3 en).bind fun (ev, s2) => rdTrans ⟨kind, step, ev, [], [], [], [], [], []⟩ s2 by rw [HR2.out]; unfold rdEvent; rw [hr2]; rfl)
  obtain ⟨hc2, hen⟩ := rs_small HS5.out hr2
  refine hc2.mono ?_
  clear hc2 hr2 HR2 HS5
  rintro e W6 ⟨rfl, hS6, _⟩
  have HS6 := Lib.hid hS6
  clear hS6
  go_wp2_with fail
  cases hr3 : bytesR s3 en with
  | none =>
    refine (rs_bytes_none HS6.out hr3).mono ?_
    rintro e W7 ⟨rfl, hF⟩
    exact read_bad HM.out (by rw [HR3.out, hr3]; rfl) hF _ rfl rfl
  | some q3 =>
  obtain ⟨ev, s4⟩ := q3
  have HR4 := Lib.hid (show readR s = rdTrans ⟨kind, step, ev, [], [], [], [], [], []⟩ s4 by rw [HR3.out, hr3]; rfl)
  have hevs := bytesR_size hr3
  refine (rs_bytes HS6.out hr3).mono ?_
  clear hr3 HR3 HS6
  rintro e W7 ⟨rfl, hS7, _⟩
  have hS8 : RdS w _ M #[.int .i64 (kind : Int), .int .u64 (step : Int), .string ev, .slice none 0 0, .slice none 0 0, .slice none 0 0, .slice none 0 0, .slice none 0 0, .slice none 0 0] s4 := hS7.put 2 (.string ev)
  have hc := hS7.box.cell 2
  have hz := hS7.box.frozen 2
  change W7.cell? ⟨M, 2, none⟩ = some (.string ⟨#[]⟩) at hc
  have HS8 := Lib.hid hS8
  clear hS7 hS8
  go_wp2_with fail
  clear hc hz
  generalize W7.setCell ⟨M, 2, none⟩ (.string ev) = W8 at *
  have HK0 : True := trivial
  have hM0 := HS8.out.sz
  refine (rs_list HS8.out).mono ?_
  rintro e W9 (⟨l1, s5, v1, hr, rfl, ho, hS, ht⟩ | ⟨hr, rfl, hF⟩)
  case inr => exact read_bad HM.out (by rw [HR4.out]; unfold rdTrans; rw [hr]; rfl) hF _ rfl rfl
  have HR5 := Lib.hid (show readR s = rdStates ⟨kind, step, ev, l1, [], [], [], [], []⟩ s5 by rw [HR4.out]; unfold rdTrans; rw [hr]; rfl)
  have hk1 : KI W9 (M + 3) W9.heap.size v1 l1 := (KI.of_own ho).more hM0 (Nat.le_refl _)
  have HK1 := Lib.hid hk1
  have HS9 := Lib.hid hS
  obtain ⟨AA1, cc1, hv1⟩ := own_form ho
  subst hv1
  clear hr ho hS ht hM0 hk1
  go_wp2_with fail
  have hM1 := HS9.out.sz
  refine (rs_list HS9.out).mono ?_
  rintro e W10 (⟨l2, s6, v2, hr, rfl, ho, hS, ht⟩ | ⟨hr, rfl, hF⟩)
  case inr => exact read_bad HM.out (by rw [HR5.out]; unfold rdStates; rw [hr]; rfl) hF _ rfl rfl
  have HR6 := Lib.hid (show readR s = rdEnter ⟨kind, step, ev, l1, l2, [], [], [], []⟩ s6 by rw [HR5.out]; unfold rdStates; rw [hr]; rfl)
  have hk2 : KI W10 (M + 3) W10.heap.size v2 l2 := (KI.of_own ho).more hM1 (Nat.le_refl _)
  have hk1 : KI W10 (M + 3) W10.heap.size (.slice AA1 l1.length cc1) l1 := (HK1.out.touch ht (fun k hk => by omega)).more (Nat.le_refl _) ht.size
  have HK1 := Lib.hid hk1
  have HK2 := Lib.hid hk2
  have HS10 := Lib.hid hS
  obtain ⟨AA2, cc2, hv2⟩ := own_form ho
  subst hv2
  clear hr ho hS ht hM1 hk1 hk2
  go_wp2_with fail
  have hM2 := HS10.out.sz
  refine (rs_list HS10.out).mono ?_
  rintro e W11 (⟨l3, s7, v3, hr, rfl, ho, hS, ht⟩ | ⟨hr, rfl, hF⟩)
  case inr => exact read_bad HM.out (by rw [HR6.out]; unfold rdEnter; rw [hr]; rfl) hF _ rfl rfl
  have HR7 := Lib.hid (show readR s = rdVars ⟨kind, step, ev, l1, l2, l3, [], [], []⟩ s7 by rw [HR6.out]; unfold rdEnter; rw [hr]; rfl)
  have hk3 : KI W11 (M + 3) W11.heap.size v3 l3 := (KI.of_own ho).more hM2 (Nat.le_refl _)
  have hk1 : KI W11 (M + 3) W11.heap.size (.slice AA1 l1.length cc1) l1 := (HK1.out.touch ht (fun k hk => by omega)).more (Nat.le_refl _) ht.size
  have hk2 : KI W11 (M + 3) W11.heap.size (.slice AA2 l2.length cc2) l2 := (HK2.out.touch ht (fun k hk => by omega)).more (Nat.le_refl _) ht.size
  have HK1 := Lib.hid hk1
  have HK2 := Lib.hid hk2
  have HK3 := Lib.hid hk3
  have HS11 := Lib.hid hS
  obtain ⟨AA3, cc3, hv3⟩ := own_form ho
  subst hv3
  clear hr ho hS ht hM2 hk1 hk2 hk3
  go_wp2_with fail
  have hM3 := HS11.out.sz
  refine (rs_list HS11.out).mono ?_
  rintro e W12 (⟨l4, s8, v4, hr, rfl, ho, hS, ht⟩ | ⟨hr, rfl, hF⟩)
  case inr => exact read_bad HM.out (by rw [HR7.out]; unfold rdVars; rw [hr]; rfl) hF _ rfl rfl
  have HR8 := Lib.hid (show readR s = rdSets ⟨kind, step, ev, l1, l2, l3, l4, [], []⟩ s8 by rw [HR7.out]; unfold rdVars; rw [hr]; rfl)
  have hk4 : KI W12 (M + 3) W12.heap.size v4 l4 := (KI.of_own ho).more hM3 (Nat.le_refl _)
  have hk1 : KI W12 (M + 3) W12.heap.size (.slice AA1 l1.length cc1) l1 := (HK1.out.touch ht (fun k hk => by omega)).more (Nat.le_refl _) ht.size
  have hk2 : KI W12 (M + 3) W12.heap.size (.slice AA2 l2.length cc2) l2 := (HK2.out.touch ht (fun k hk => by omega)).more (Nat.le_refl _) ht.size
  have hk3 : KI W12 (M + 3) W12.heap.size (.slice AA3 l3.length cc3) l3 := (HK3.out.touch ht (fun k hk => by omega)).more (Nat.le_refl _) ht.size
  have HK1 := Lib.hid hk1
  have HK2 := Lib.hid hk2
  have HK3 := Lib.hid hk3
  have HK4 := Lib.hid hk4
  have HS12 := Lib.hid hS
  obtain ⟨AA4, cc4, hv4⟩ := own_form ho
  subst hv4
  clear hr ho hS ht hM3 hk1 hk2 hk3 hk4
  have hS := HS12.out
  have hs3 := hS.box.cell 3
  have hs4 := hS.box.cell 4
  have hs5 := hS.box.cell 5
  have hs6 := hS.box.cell 6
  change W12.cell? ⟨M, 3, none⟩ = some (.slice none 0 0) at hs3
  change W12.cell? ⟨M, 4, none⟩ = some (.slice none 0 0) at hs4
  change W12.cell? ⟨M, 5, none⟩ = some (.slice none 0 0) at hs5
  change W12.cell? ⟨M, 6, none⟩ = some (.slice none 0 0) at hs6
  have hz := fun i => hS.box.frozen i
  have hz3 := hz 3
  have hz4 := hz 4
  have hz5 := hz 5
  have hz6 := hz 6
  clear hS hz
  go_wp2_with fail
  have hS13 : RdS w _ M #[.int .i64 (kind : Int), .int .u64 (step : Int), .string ev, .slice AA1 l1.length cc1, .slice AA2 l2.length cc2, .slice AA3 l3.length cc3, .slice AA4 l4.length cc4, .slice none 0 0, .slice none 0 0] s8 := (((HS12.out.put 3 (.slice AA1 l1.length cc1)).put 4 (.slice AA2 l2.length cc2)).put 5 (.slice AA3 l3.length cc3)).put 6 (.slice AA4 l4.length cc4)
  have hT13 : ∀ a b c d : Value, Touch (fun k => k = M) W12 ((((W12.setCell ⟨M, 3, none⟩ a).setCell ⟨M, 4, none⟩ b).setCell ⟨M, 5, none⟩ c).setCell ⟨M, 6, none⟩ d) := fun a b c d =>
    (((Touch.of_set (S := fun k => k = M) _ _ rfl).trans (Touch.of_set (S := fun k => k = M) _ _ rfl) (fun k hk => .inl hk)).trans (Touch.of_set (S := fun k => k = M) _ _ rfl) (fun k hk => .inl hk)).trans (Touch.of_set (S := fun k => k = M) _ _ rfl) (fun k hk => .inl hk)
  have hT := hT13 (.slice AA1 l1.length cc1) (.slice AA2 l2.length cc2) (.slice AA3 l3.length cc3) (.slice AA4 l4.length cc4)
  clear hs3 hs4 hs5 hs6 hz3 hz4 hz5 hz6 hT13
  generalize (((W12.setCell ⟨M, 3, none⟩ (.slice AA1 l1.length cc1)).setCell ⟨M, 4, none⟩ (.slice AA2 l2.length cc2)).setCell ⟨M, 5, none⟩ (.slice AA3 l3.length cc3)).setCell ⟨M, 6, none⟩ (.slice AA4 l4.length cc4) = W13 at *
  have HS13 := Lib.hid hS13
  have HJ1 := Lib.hid ((HK1.out.touch hT (fun k hk => by omega)).more (Nat.le_refl _) hT.size)
  have HJ2 := Lib.hid ((HK2.out.touch hT (fun k hk => by omega)).more (Nat.le_refl _) hT.size)
  have HJ3 := Lib.hid ((HK3.out.touch hT (fun k hk => by omega)).more (Nat.le_refl _) hT.size)
  have HJ4 := Lib.hid ((HK4.out.touch hT (fun k hk => by omega)).more (Nat.le_refl _) hT.size)
  clear hS13 hT HK1 HK2 HK3 HK4 HS12
  -- the sets
  cases hr8 : smallR s8 8 with
  | none =>
    refine (rs_small_none HS13.out hr8).mono ?_
    rintro e W14 ⟨rfl, hF⟩
    exact read_bad HM.out (by rw [HR8.out]; unfold rdSets; rw [hr8]; rfl) hF _ rfl rfl
  | some q8 =>
  obtain ⟨ns, s9⟩ := q8
  have HR9 := Lib.hid (show readR s = (setsR ns s9 []).bind fun (sets, s2) => rdPasts ⟨kind, step, ev, l1, l2, l3, l4, sets, []⟩ s2 by rw [HR8.out]; unfold rdSets; rw [hr8]; rfl)
  obtain ⟨hc8, hns⟩ := rs_small HS13.out hr8
  refine hc8.mono ?_
  clear hc8 hr8 HR8 HS13
  rintro e W14 ⟨rfl, hS14, hT14⟩
  have HI1 := Lib.hid ((HJ1.out.touch hT14 (fun k hk => by omega)).more (Nat.le_refl _) hT14.size)
  have HI2 := Lib.hid ((HJ2.out.touch hT14 (fun k hk => by omega)).more (Nat.le_refl _) hT14.size)
  have HI3 := Lib.hid ((HJ3.out.touch hT14 (fun k hk => by omega)).more (Nat.le_refl _) hT14.size)
  have HI4 := Lib.hid ((HJ4.out.touch hT14 (fun k hk => by omega)).more (Nat.le_refl _) hT14.size)
  have HS14 := Lib.hid hS14
  have hsz14 := hS14.sz
  clear hS14 hT14 HJ1 HJ2 HJ3 HJ4
  go_wp2_with fail
  obtain ⟨H, hH⟩ : ∃ H, W14.heap.size = H := ⟨_, rfl⟩
  rw [hH] at HI1 HI2 HI3 HI4 hsz14
  have hH14 : H ≤ W14.heap.size := by omega
  clear hH
  go_loopw [38] (fun v wr => ∃ (k : Nat) (acc : List SetL) (t1 : ByteArray) (sv : Value), k ≤ ns ∧ v = .int .i64 (k : Int) ∧ RdS w wr M #[.int .i64 (kind : Int), .int .u64 (step : Int), .string ev, .slice AA1 l1.length cc1, .slice AA2 l2.length cc2, .slice AA3 l3.length cc3, .slice AA4 l4.length cc4, sv, .slice none 0 0] t1 ∧ wr.ownsRow H 111 4 sv acc.length (setsV acc) ∧ acc.length = k ∧ setsR (ns - k) t1 acc = setsR ns s9 [] ∧ (∀ x ∈ acc, x.wf) ∧ H ≤ wr.heap.size ∧
    KI wr (M + 3) H (.slice AA1 l1.length cc1) l1 ∧ KI wr (M + 3) H (.slice AA2 l2.length cc2) l2 ∧ KI wr (M + 3) H (.slice AA3 l3.length cc3) l3 ∧ KI wr (M + 3) H (.slice AA4 l4.length cc4) l4) (fun v _ => ns - (intOf v).toNat)
  case atStart => exact ⟨0, [], s9, .slice none 0 0, Nat.zero_le _, rfl, HS14.out, World.ownsRow_nil _ _ _ _, rfl, rfl, (fun x hx => by cases hx), hH14, HI1.out, HI2.out, HI3.out, HI4.out⟩
  case round =>
    obtain ⟨k, acc, t1, sv, hk, rfl, hS, hown, hacc, hset, hwf, hHw, j1, j2, j3, j4⟩ := hrel
    by_cases hkn : k < ns
    · have hkz : (k : Int) < (ns : Int) := by omega
      have hnk : ns - k = (ns - (k + 1)) + 1 := by omega
      rw [hnk, setsR] at hset
      have HSET := Lib.hid hset
      have HR := Lib.hid (show readR s = ((setR t1).bind fun (x, t) => setsR (ns - (k + 1)) t (acc ++ [x])).bind fun (sets, s2) => rdPasts ⟨kind, step, ev, l1, l2, l3, l4, sets, []⟩ s2 by rw [HR9.out, ← hset])
      clear hset
      have HSr := Lib.hid hS
      obtain ⟨As, cs', hsv⟩ := own_form hown
      subst hsv
      clear hS
      go_wp2_with fail
      cases hv : smallR t1 63 with
      | none =>
        refine (rs_small_none HSr.out hv).mono ?_
        rintro e Wa ⟨rfl, hF⟩
        exact read_bad HM.out (by rw [HR.out]; unfold setR; rw [hv]; rfl) hF _ rfl rfl
      | some qv =>
      obtain ⟨vv, t2⟩ := qv
      obtain ⟨hcv, hv63⟩ := rs_small HSr.out hv
      have HV := Lib.hid hv
      refine hcv.mono ?_
      clear hcv hv HSr
      rintro e Wa ⟨rfl, hSa, hTa⟩
      have hX0 := Blk.new Wa 111 #[.int .i64 (vv : Int), .int .i64 0, .int .i64 0, .int .i64 0]
      have hTX : Touch (fun _ => False) Wa (Wa.alloc (.cells #[.int .i64 (vv : Int), .int .i64 0, .int .i64 0, .int .i64 0] 111)) := Touch.of_below ((Below.refl _ _).alloc (Nat.le_refl _) _)
      have hSX := hSa.touch hTX (fun k h => h.elim)
      have hT1 : Touch (fun k => k = M + 2) wr (Wa.alloc (.cells #[.int .i64 (vv : Int), .int .i64 0, .int .i64 0, .int .i64 0] 111)) := hTa.trans hTX (fun k h => h.elim)
      have hXM : M + 3 ≤ Wa.heap.size := hSa.sz
      have hXH : H ≤ Wa.heap.size := Nat.le_trans hHw hTa.size
      have hXw : wr.heap.size ≤ Wa.heap.size := hTa.size
      have HSX := Lib.hid hSX
      have HT1 := Lib.hid hT1
      have HX0 := Lib.hid hX0
      clear hSa hTa hTX hSX hT1 hX0
      go_wp2_with fail
      generalize Wa.alloc (.cells #[.int .i64 (vv : Int), .int .i64 0, .int .i64 0, .int .i64 0] 111) = WX at *
      generalize Wa.heap.size = X at *
      cases hk2 : smallR t2 3 with
      | none =>
        refine (rs_small_none HSX.out hk2).mono ?_
        rintro e Wb ⟨rfl, hF⟩
        exact read_bad HM.out (by rw [HR.out]; unfold setR; rw [HV.out]; show (Option.bind (Option.bind (smallR t2 3) _) _).bind _ = none; rw [hk2]; rfl) hF _ rfl rfl
      | some qk =>
      obtain ⟨kk, t3⟩ := qk
      obtain ⟨hck, hk3⟩ := rs_small HSX.out hk2
      have HK := Lib.hid hk2
      refine hck.mono ?_
      clear hck hk2
      rintro e WY ⟨rfl, hSY, hTY⟩
      have hBY := hTY.blk HX0.out (by omega)
      have hT2 : Touch (fun k => k = M + 2 ∨ k = X) wr WY := (HT1.out.more (fun k h => .inl h)).trans hTY (fun k h => .inl (.inl h))
      have hTS := Touch.of_set (w := WY) (S := fun k => k = X) ⟨X, 1, none⟩ (.int .i64 (kk : Int)) rfl
      have hSZ := hSY.touch hTS (fun k h => by omega)
      have hBZ := hBY.set_ 1 (.int .i64 (kk : Int))
      have hTZ : Touch (fun k => k = M + 2 ∨ k = X) wr _ := hT2.trans hTS (fun k h => .inl (.inr h))
      have hc := hBY.cell 1
      have hz := hBY.frozen 1
      have HSZ := Lib.hid hSZ
      have HBZ := Lib.hid hBZ
      have HTZ := Lib.hid hTZ
      change WY.cell? ⟨X, 1, none⟩ = some (.int .i64 0) at hc
      clear hSY hTY hBY hT2 hTS hSZ hBZ hTZ HSX HX0 HT1
      go_wp2_with fail
      clear hc hz
      generalize WY.setCell ⟨X, 1, none⟩ (.int .i64 (kk : Int)) = WZ at *
      by_cases hkk : kk = 0
      · rw [show decide ((1 : Int) ≤ (kk : Int)) = false from decide_eq_false (by omega)]
        refine (must_false _).mono ?_
        rintro e Wc ⟨rfl, rfl⟩
        exact read_bad HM.out (by rw [HR.out]; unfold setR; rw [HV.out]; show (Option.bind (Option.bind (smallR t2 3) _) _).bind _ = none; rw [HK.out]; show (Option.bind (if kk = 0 then none else _) _).bind _ = none; rw [if_pos hkk]; rfl) (HSZ.out.fail (Touch.refl _ _)) _ rfl rfl
      rw [show decide ((1 : Int) ≤ (kk : Int)) = true from decide_eq_true (by omega)]
      refine (must_true _).mono ?_
      rintro e Wc ⟨rfl, rfl⟩
      have HR' := Lib.hid (show readR s = (((greatR t3).bind fun (a, s3) => (greatR s3).bind fun (b, s4) => some ((⟨vv, kk, i64of a, i64of b⟩ : SetL), s4)).bind fun (x, t) => setsR (ns - (k + 1)) t (acc ++ [x])).bind fun (sets, s2) => rdPasts ⟨kind, step, ev, l1, l2, l3, l4, sets, []⟩ s2 by
        rw [HR.out]; unfold setR; rw [HV.out]; show (Option.bind (Option.bind (smallR t2 3) _) _).bind _ = _; rw [HK.out]; show (Option.bind (if kk = 0 then none else _) _).bind _ = _; rw [if_neg hkk])
      have HSET' := Lib.hid (show (((greatR t3).bind fun (a, s3) => (greatR s3).bind fun (b, s4) => some ((⟨vv, kk, i64of a, i64of b⟩ : SetL), s4)).bind fun (x, t) => setsR (ns - (k + 1)) t (acc ++ [x])) = setsR ns s9 [] by
        rw [← HSET.out]; unfold setR; rw [HV.out]; show _ = Option.bind (Option.bind (smallR t2 3) _) _; rw [HK.out]; show _ = Option.bind (if kk = 0 then none else _) _; rw [if_neg hkk])
      clear HR HSET HV HK
      go_wp2_with fail
      -- the two great ones
      cases hga : greatR t3 with
      | none =>
        refine (rs_great_none HSZ.out hga).mono ?_
        rintro e Wd ⟨rfl, hF⟩
        exact read_bad HM.out (by rw [HR'.out, hga]; rfl) hF _ rfl rfl
      | some qa =>
      obtain ⟨ga, t4⟩ := qa
      have hgal := (greatR_lt hga).1
      refine (rs_great HSZ.out hga).mono ?_
      rintro e Wd ⟨rfl, hSd, hTd⟩
      have HBd := Lib.hid (hTd.blk HBZ.out (by omega))
      have HTd := Lib.hid (HTZ.out.trans hTd (fun k h => .inl (.inl h)))
      have HSd := Lib.hid hSd
      have HGA := Lib.hid hga
      have hwa := i64of_wrap ga hgal
      clear hSd hTd HSZ HBZ HTZ hga
      go_wp2_with fail
      cases hgb : greatR t4 with
      | none =>
        refine (rs_great_none HSd.out hgb).mono ?_
        rintro e We ⟨rfl, hF⟩
        exact read_bad HM.out (by rw [HR'.out, HGA.out]; show (Option.bind (Option.bind (greatR t4) _) _).bind _ = none; rw [hgb]; rfl) hF _ rfl rfl
      | some qb =>
      obtain ⟨gb, t5⟩ := qb
      have hgbl := (greatR_lt hgb).1
      refine (rs_great HSd.out hgb).mono ?_
      rintro e We ⟨rfl, hSe, hTe⟩
      have hBe := hTe.blk HBd.out (by omega)
      have hT3 := HTd.out.trans hTe (fun k h => .inl (.inl h))
      have HSETE := Lib.hid (show setsR (ns - (k + 1)) t5 (acc ++ [⟨vv, kk, i64of ga, i64of gb⟩]) = setsR ns s9 [] by rw [← HSET'.out, HGA.out]; show _ = Option.bind (Option.bind (greatR t4) _) _; rw [hgb]; rfl)
      have hwb := i64of_wrap gb hgbl
      have hc0 := hBe.cell 0
      have hc1 := hBe.cell 1
      have hc2 := hBe.cell 2
      have hc3 := hBe.cell 3
      have hz2 := hBe.frozen 2
      have hz3 := hBe.frozen 3
      change We.cell? ⟨X, 0, none⟩ = some (.int .i64 (vv : Int)) at hc0
      change We.cell? ⟨X, 1, none⟩ = some (.int .i64 (kk : Int)) at hc1
      change We.cell? ⟨X, 2, none⟩ = some (.int .i64 0) at hc2
      change We.cell? ⟨X, 3, none⟩ = some (.int .i64 0) at hc3
      have hm7 := hSe.box.cell 7
      have hmz7 := hSe.box.frozen 7
      change We.cell? ⟨M, 7, none⟩ = some (.slice As acc.length cs') at hm7
      have hn1 : X ≠ M := by omega
      have hn2 : M ≠ X := by omega
      have HSe := Lib.hid hSe
      have HT3 := Lib.hid hT3
      have HBe := Lib.hid hBe
      have HOWN := Lib.hid hown
      clear HR4 HR5 HR6 HR7 HS8 HS9 HS10 HS11
      have HJ := Lib.hid (And.intro j1 (And.intro j2 (And.intro j3 j4)))
      have HF1 := Lib.hid (Touch.of_set (w := We) (S := fun k => k = X) ⟨X, 2, none⟩ (.int .i64 (i64of ga)) rfl)
      have HF2 := Lib.hid (Touch.of_set (w := We.setCell ⟨X, 2, none⟩ (.int .i64 (i64of ga))) (S := fun k => k = X) ⟨X, 3, none⟩ (.int .i64 (i64of gb)) rfl)
      have HTF := Lib.hid ((hT3.trans HF1.out (fun k h => .inl (.inr h))).trans HF2.out (fun k h => .inl (.inr h)))
      have hownF := HTF.out.own hown (fun j hj => by
        have h1 := (hown.lt j hj).1
        have h2 := (hown.lt j hj).2
        show ¬ (j = M + 2 ∨ j = X)
        omega)
      have hszF : ((We.setCell ⟨X, 2, none⟩ (.int .i64 (i64of ga))).setCell ⟨X, 3, none⟩ (.int .i64 (i64of gb))).heap.size = We.heap.size := by rw [World.size_setCell, World.size_setCell]
      have hrx : Reads (((We.setCell ⟨X, 2, none⟩ (.int .i64 (i64of ga))).setCell ⟨X, 3, none⟩ (.int .i64 (i64of gb))).alloc (.cells #[.int .i64 (vv : Int), .int .i64 (kk : Int), .int .i64 (i64of ga), .int .i64 (i64of gb)] 111)) (We.heap.size + 1) 4 (some ⟨We.heap.size, 0, none⟩) 1 (setV ⟨(vv : Int), (kk : Int), i64of ga, i64of gb⟩) :=
        ⟨rfl, fun _ => ⟨_, rfl, Nat.lt_succ_self _, fun j u hu => cells_new_at _ _ hszF [.int .i64 (vv : Int), .int .i64 (kk : Int), .int .i64 (i64of ga), .int .i64 (i64of gb)] _ j u hu⟩⟩
      have hone : ∀ u ∈ setV ⟨(vv : Int), (kk : Int), i64of ga, i64of gb⟩, u.oneCell' = true := fun u hu => by
        simp only [setV, List.mem_cons, List.not_mem_nil, or_false] at hu
        rcases hu with rfl | rfl | rfl | rfl <;> rfl
      have hHWe : H ≤ We.heap.size := by
        have := hT3.size
        omega
      rw [hacc] at hownF hm7
      have HNUM := Lib.hid (And.intro hnk (And.intro hXH hXw))
      clear j1 j2 j3 j4 hown hBe hT3 hSe hTe HSd HBd HTd HGA HR' HSET' hszF
      go_wp2_with (at_builtin; refine wpList_append_any _ rfl _ _ 51 rfl H 111 ji _ 4 32 Try.underlying51 hji0 hjx0 hjx1 hjx2 rfl (by decide) _ _ _ rfl (hownF.alloc _) _ (some ⟨We.heap.size, 0, none⟩) 1 1 _ rfl hrx hone ?c3 ?c4 ?c5 ?_)
      case c3 => unfold maxLen; omega
      case c4 => omega
      case c5 => simp; omega
      intro v' Wg hown3 hg3 hbl
      obtain ⟨ht3, hbl3⟩ := touch_app hg3 (by rw [World.size_setCell, World.size_setCell]; exact hbl)
      have hlow : ∀ j, (Value.slice As k cs').ownBlock = some j → H ≤ j := fun j hj => (hownF.lt j hj).1
      have hTall : Touch (fun j => j = M + 2 ∨ j = X ∨ (Value.slice As k cs').ownBlock = some j) wr Wg := (HTF.out.more (fun j h => h.elim .inl (fun h => .inr (.inl h)))).trans ht3 (fun j h => .inl (.inr (.inr h)))
      have hSe' := HSe.out
      rw [hacc] at hSe'
      have hSg := ((hSe'.touch HF1.out (fun j h => by omega)).touch HF2.out (fun j h => by omega)).touch ht3 (fun j h => by have := hlow j h; omega)
      have hc7 := hSg.box.cell 7
      have hz7 := hSg.box.frozen 7
      change Wg.cell? ⟨M, 7, none⟩ = some (.slice As k cs') at hc7
      have hTs := Touch.of_set (w := Wg) (S := fun k => k = M) ⟨M, 7, none⟩ v' rfl
      have HSh := Lib.hid (show RdS w (Wg.setCell ⟨M, 7, none⟩ v') M #[.int .i64 (kind : Int), .int .u64 (step : Int), .string ev, .slice AA1 l1.length cc1, .slice AA2 l2.length cc2, .slice AA3 l3.length cc3, .slice AA4 l4.length cc4, v', .slice none 0 0] t5 from hSg.put 7 v')
      have HOWH := Lib.hid (show (Wg.setCell ⟨M, 7, none⟩ v').ownsRow H 111 4 v' (acc ++ [(⟨(vv : Int), (kk : Int), i64of ga, i64of gb⟩ : SetL)]).length (setsV (acc ++ [(⟨(vv : Int), (kk : Int), i64of ga, i64of gb⟩ : SetL)])) by
        have := hTs.own hown3 (fun j hj e => by have := (hown3.lt j hj).1; omega)
        rw [List.length_append, hacc]
        simpa [setsV] using this)
      have HJJ := Lib.hid (show KI (Wg.setCell ⟨M, 7, none⟩ v') (M + 3) H (.slice AA1 l1.length cc1) l1 ∧ KI (Wg.setCell ⟨M, 7, none⟩ v') (M + 3) H (.slice AA2 l2.length cc2) l2 ∧ KI (Wg.setCell ⟨M, 7, none⟩ v') (M + 3) H (.slice AA3 l3.length cc3) l3 ∧ KI (Wg.setCell ⟨M, 7, none⟩ v') (M + 3) H (.slice AA4 l4.length cc4) l4 by
        have t1 : ∀ j, (j = M + 2 ∨ j = X ∨ (Value.slice As k cs').ownBlock = some j) → j < M + 3 ∨ H ≤ j := fun j h => by
          rcases h with h | h | h
          · omega
          · omega
          · exact .inr (hlow j h)
        have t2 : ∀ j, j = M → j < M + 3 ∨ H ≤ j := fun j h => by omega
        obtain ⟨j1, j2, j3, j4⟩ := HJ.out
        exact ⟨(j1.touch hTall t1).touch hTs t2, (j2.touch hTall t1).touch hTs t2, (j3.touch hTall t1).touch hTs t2, (j4.touch hTall t1).touch hTs t2⟩)
      have HSZ2 := Lib.hid (show H ≤ (Wg.setCell ⟨M, 7, none⟩ v').heap.size by
        have h1 := hTall.size
        rw [World.size_setCell]
        omega)
      have HWF := Lib.hid (show ∀ x ∈ acc ++ [(⟨(vv : Int), (kk : Int), i64of ga, i64of gb⟩ : SetL)], x.wf from fun x hx => by
        rcases List.mem_append.1 hx with hx | hx
        · exact hwf x hx
        · obtain rfl := List.mem_singleton.1 hx
          exact ⟨i64of_in' ga hgal, i64of_in' gb hgbl⟩)
      have HACC := Lib.hid hacc
      obtain ⟨A', c', hA'⟩ := own_form hown3
      subst hA'
      clear hown3 hg3 hbl ht3 hbl3 hrx hone hownF hlow hTall hSe' hSg hTs hacc hc0 hc1 hc2 hc3 hz2 hz3 hm7 hmz7
      go_wp2
      go_roundw
      case rel => exact ⟨k + 1, acc ++ [(⟨(vv : Int), (kk : Int), i64of ga, i64of gb⟩ : SetL)], t5, _, by omega, by go_num, HSh.out, HOWH.out, by rw [List.length_append, HACC.out]; rfl, HSETE.out, HWF.out, HSZ2.out, HJJ.out⟩
      case measure => simp [intOf]; omega
    · obtain rfl : k = ns := by omega
      have hkz : ¬ (k : Int) < (k : Int) := by omega
      have HR10 := Lib.hid (show readR s = rdPasts ⟨kind, step, ev, l1, l2, l3, l4, acc, []⟩ t1 by rw [HR9.out, ← hset, Nat.sub_self, setsR]; rfl)
      have HWF := Lib.hid hwf
      have HSr := Lib.hid hS
      have HOWN := Lib.hid hown
      have HJ := Lib.hid (And.intro j1 (And.intro j2 (And.intro j3 j4)))
      obtain ⟨As, cs', hsv⟩ := own_form hown
      subst hsv
      have HACC := Lib.hid hacc
      clear hacc hset hwf hS hown j1 j2 j3 j4 HR9 HR4 HR5 HR6 HR7 HS8 HS9 HS10 HS11 HI1 HI2 HI3 HI4 HS14
      go_wp2_with fail
      cases hp : smallR t1 40 with
      | none =>
        refine (rs_small_none HSr.out hp).mono ?_
        rintro e Wa ⟨rfl, hF⟩
        exact read_bad HM.out (by rw [HR10.out]; unfold rdPasts; rw [hp]; rfl) hF _ rfl rfl
      | some qp =>
      obtain ⟨np, t2⟩ := qp
      have HR11 := Lib.hid (show readR s = (pastsR np t2 []).bind fun (pasts, s2) => rdEnd ⟨kind, step, ev, l1, l2, l3, l4, acc, pasts⟩ s2 by rw [HR10.out]; unfold rdPasts; rw [hp]; rfl)
      obtain ⟨hcp, hnp⟩ := rs_small HSr.out hp
      refine hcp.mono ?_
      clear hcp hp HSr HR10
      rintro e W15 ⟨rfl, hS15, hT15⟩
      have HS15 := Lib.hid hS15
      have HJ15 := Lib.hid (show KI W15 (M + 3) H (.slice AA1 l1.length cc1) l1 ∧ KI W15 (M + 3) H (.slice AA2 l2.length cc2) l2 ∧ KI W15 (M + 3) H (.slice AA3 l3.length cc3) l3 ∧ KI W15 (M + 3) H (.slice AA4 l4.length cc4) l4 by
        have t1 : ∀ j, j = M + 2 → j < M + 3 ∨ H ≤ j := fun j h => by omega
        obtain ⟨j1, j2, j3, j4⟩ := HJ.out
        exact ⟨j1.touch hT15 t1, j2.touch hT15 t1, j3.touch hT15 t1, j4.touch hT15 t1⟩)
      have HOWN15 := Lib.hid (hT15.own HOWN.out (fun j hj e => by have := (HOWN.out.lt j hj).1; omega))
      have HSVL := Lib.hid (show ∀ j, (Value.slice As acc.length cs').ownBlock = some j → H ≤ j ∧ j < W15.heap.size from fun j hj => ⟨(HOWN15.out.lt j hj).1, (HOWN15.out.lt j hj).2⟩)
      have HH15 := Lib.hid (show H ≤ W15.heap.size by have := hT15.size; omega)
      clear hS15 hT15 HJ HOWN hH14 hHw
      go_wp2_with fail
      obtain ⟨H2, hH2⟩ : ∃ H2, W15.heap.size = H2 := ⟨_, rfl⟩
      rw [hH2] at HSVL HH15
      have hHH := HH15.out
      have hH15 : H2 ≤ W15.heap.size := by omega
      clear hH2 HH15
      go_loopw [71] (fun v wr => ∃ (k2 : Nat) (ps : List (PastL × Value)) (t1 : ByteArray) (pv : Value), k2 ≤ np ∧ v = .int .i64 (k2 : Int) ∧ RdS w wr M #[.int .i64 (kind : Int), .int .u64 (step : Int), .string ev, .slice AA1 l1.length cc1, .slice AA2 l2.length cc2, .slice AA3 l3.length cc3, .slice AA4 l4.length cc4, .slice As acc.length cs', pv] t1 ∧ wr.ownsRow H2 113 2 pv ps.length (pastsV ps) ∧ ps.length = k2 ∧ pastsR (np - k2) t1 (ps.map (·.1)) = pastsR np t2 [] ∧ H2 ≤ wr.heap.size ∧ (∀ x ∈ ps, KI wr H2 wr.heap.size x.2 x.1.set) ∧ wr.ownsRow H 111 4 (.slice As acc.length cs') acc.length (setsV acc) ∧
        KI wr (M + 3) H (.slice AA1 l1.length cc1) l1 ∧ KI wr (M + 3) H (.slice AA2 l2.length cc2) l2 ∧ KI wr (M + 3) H (.slice AA3 l3.length cc3) l3 ∧ KI wr (M + 3) H (.slice AA4 l4.length cc4) l4) (fun v _ => np - (intOf v).toNat)
      case atStart => exact ⟨0, [], t2, .slice none 0 0, Nat.zero_le _, rfl, HS15.out, World.ownsRow_nil _ _ _ _, rfl, rfl, hH15, (fun x hx => by cases hx), HOWN15.out, HJ15.out⟩
      case round =>
        obtain ⟨k2, ps, u1, pv, hk2, rfl, hS, hown, hps, hpast, hHw2, hin, hso, j1, j2, j3, j4⟩ := hrel
        by_cases hkn2 : k2 < np
        · have hkz2 : (k2 : Int) < (np : Int) := by omega
          have hnk : np - k2 = (np - (k2 + 1)) + 1 := by omega
          rw [hnk, pastsR] at hpast
          have HSr := Lib.hid hS
          have HPAST := Lib.hid hpast
          have HR := Lib.hid (show readR s = ((pastR u1).bind fun (x, t) => pastsR (np - (k2 + 1)) t (ps.map (·.1) ++ [x])).bind fun (pasts, s2) => rdEnd ⟨kind, step, ev, l1, l2, l3, l4, acc, pasts⟩ s2 by rw [HR11.out, ← hpast])
          have HJ := Lib.hid (And.intro hso (And.intro j1 (And.intro j2 (And.intro j3 j4))))
          have HIN := Lib.hid hin
          have HOWN := Lib.hid hown
          have hpvB : ∀ j, pv.ownBlock = some j → H2 ≤ j ∧ j < wr.heap.size := fun j hj => hown.lt j hj
          have hMB : M + 2 < wr.heap.size := by have := hS.sz; omega
          have hcell : ∀ w3, Touch (SP M pv) wr w3 → w3.cell? ⟨M, 8, none⟩ = some pv := fun w3 ht => by
            have := (ht.blk hS.box (fun e => by
              rcases e with e | e
              · omega
              · have := (hpvB _ e).1; omega)).cell 8
            exact this
          clear hS hpast hso j1 j2 j3 j4 hin hown
          go_wp2
          refine RegP.wp_chain 10 [(3, PR3 u1), (5, PR5 u1 wr.heap.size), (7, PR7 u1 wr.heap.size), (8, PR8 w wr M H2 k2 #[.int .i64 (kind : Int), .int .u64 (step : Int), .string ev, .slice AA1 l1.length cc1, .slice AA2 l2.length cc2, .slice AA3 l3.length cc3, .slice AA4 l4.length cc4, .slice As acc.length cs', pv] u1 (pastsV ps))] [3, 5, 7, 8] (fun w' => Touch (SP M pv) wr w')
            (PPre w wr M #[.int .i64 (kind : Int), .int .u64 (step : Int), .string ev, .slice AA1 l1.length cc1, .slice AA2 l2.length cc2, .slice AA3 l3.length cc3, .slice AA4 l4.length cc4, .slice As acc.length cs', pv] u1) (PPan w M #[.int .i64 (kind : Int), .int .u64 (step : Int), .string ev, .slice AA1 l1.length cc1, .slice AA2 l2.length cc2, .slice AA3 l3.length cc3, .slice AA4 l4.length cc4, .slice As acc.length cs', pv] s) (PStep M pv)
            (by kernel_rfl) (by kernel_rfl) (by kernel_rfl) rfl (by kernel_rfl) (by kernel_rfl) ?hPan ⟨rfl, rfl, rfl, Nat.le_refl _, fun _ _ _ => rfl⟩ ?hpre (by decide) ?_
          case hPan =>
            rintro c ⟨tmps, defers⟩ w' hd ht ⟨rfl, hF, hno⟩
            have h2 := ht 2 (dst_free (by kernel_rfl))
            have h3 := ht 3 (dst_free (by kernel_rfl))
            dsimp only at hd
            subst hd
            obtain ⟨Av, kv, hpv⟩ := own_form HOWN.out
            rw [hpv] at hF
            exact read_bad HM.out hno hF _ h2 h3
          case hpre =>
            intro i hi
            have hi' : i = 3 := by simpa using hi.symm
            subst hi'
            exact ⟨rfl, rfl, rfl, Nat.le_refl _, fun _ _ _ => rfl⟩
          simp only [List.take_succ_cons, List.take_zero]
          repeat (refine RegP.chain_plain rfl rfl ?_ ?_ ?_; rotate_left; (focus (intro w3 hI _; have hcx := hcell _ hI; clear hI; go_simp; rfl)))
          simp only [Act.put, List.setIfInBounds_toArray, List.set_cons_succ, List.set_cons_zero]
          refine RegP.chain_eff rfl rfl (fun _ _ _ _ _ _ _ h => h) (fun w3 hI hP _ KK hKK => ?_) (fun v3 => ?_)
          · have hP' : Touch (fun _ => False) wr w3 := hP
            have hS3 := HSr.out.touch hP' (fun _ h => h.elim)
            clear hP hcell
            go_simp
            cases hv : smallR u1 63 with
            | none =>
              refine (rs_small_none hS3 hv).mono ?_
              rintro e w4 ⟨rfl, hF⟩
              exact ⟨rfl, hF, by rw [HR.out]; unfold pastR; rw [hv]; rfl⟩
            | some qv =>
              obtain ⟨n, t⟩ := qv
              refine (rs_small hS3 hv).1.mono ?_
              rintro e w4 ⟨rfl, hS4, hT4⟩
              have hT5 : Touch (SP M pv) w3 w4 := hT4.more (fun _ h => .inl h)
              exact hKK (.int .i64 (n : Int)) _ _ (by go_simp) ⟨n, t, hv, rfl⟩ (hI.trans hT5 (fun _ h => .inl h)) hT5 ⟨n, t, hv, hS4, (hP'.more (fun _ h => h.elim)).trans hT4 (fun _ h => .inl h)⟩
          repeat (refine RegP.chain_plain rfl rfl ?_ ?_ ?_; rotate_left; (focus (intro w3 hI _; have hcx := hcell _ hI; clear hI; go_simp; rfl)))
          simp only [Act.put, List.setIfInBounds_toArray, List.set_cons_succ, List.set_cons_zero]
          refine RegP.chain_eff rfl rfl (fun j v wa wb _ _ hs h => PR5.keep h hs hMB (fun k hk => (hpvB k hk).2)) (fun w3 hI hP _ KK hKK => ?_) (fun v5 => ?_)
          · obtain ⟨n, t, hv, hS3, hT3⟩ := hP
            clear hcell
            go_simp
            refine (rs_list hS3).mono ?_
            rintro e w4 (⟨l, t2', v, hl, rfl, ho, hS4, hT4⟩ | ⟨hl, rfl, hF⟩)
            case inr => exact ⟨rfl, hF, by rw [HR.out]; unfold pastR; rw [hv]; simp only [Option.bind_some]; rw [hl]; rfl⟩
            obtain ⟨A, c, rfl⟩ := own_form ho
            have hT5 : Touch (SP M pv) w3 w4 := hT4.more (fun _ h => .inl h)
            exact hKK _ _ _ (by go_simp) ⟨n, l, t2', A, c, ⟨t, hv, hl⟩, rfl, (KI.of_own ho).more hT3.size (Nat.le_refl _)⟩ (hI.trans hT5 (fun _ h => .inl h)) hT5 ⟨n, l, t2', ⟨t, hv, hl⟩, hS4, hT3.trans hT4 (fun _ h => .inl h)⟩
          repeat (refine RegP.chain_plain rfl rfl ?_ ?_ ?_; rotate_left; (focus (intro w3 hI _; have hcx := hcell _ hI; clear hI; go_simp; rfl)))
          simp only [Act.put, List.setIfInBounds_toArray, List.set_cons_succ, List.set_cons_zero]
          refine RegP.chain_plain rfl rfl (.agg #[v3, v5]) (fun w3 hI hF => ?_) ?_
          · have f5 := hF _ (List.mem_cons_self ..) (by kernel_rfl)
            have f3 := hF _ (List.mem_cons_of_mem _ (List.mem_cons_self ..)) (by kernel_rfl)
            dsimp only at f5 f3
            obtain ⟨n, t, _, rfl⟩ := f3
            obtain ⟨n', l, t2', A, c, _, rfl, _⟩ := f5
            clear hI hcell hF
            go_simp
            try rfl
          simp only [Act.put, List.setIfInBounds_toArray, List.set_cons_succ, List.set_cons_zero]
          refine RegP.chain_eff rfl rfl (fun j v wa wb _ _ hs h => PR7.keep h hs hMB (fun k hk => (hpvB k hk).2)) (fun w3 hI hP hF KK hKK => ?_) (fun v7 => ?_)
          · obtain ⟨n0, l0, t0, hpr0, hS3, hT3⟩ := hP
            have f5 := hF _ (List.mem_cons_self ..) (by kernel_rfl)
            have f3 := hF _ (List.mem_cons_of_mem _ (List.mem_cons_self ..)) (by kernel_rfl)
            dsimp only at f5 f3
            obtain ⟨n, t, hv, rfl⟩ := f3
            obtain ⟨n', l, t2', A, c, hpr, rfl, hki⟩ := f5
            obtain rfl : n = n' := by
              obtain ⟨t', hv', _⟩ := hpr
              rw [hv] at hv'
              injection hv' with hv'
              injection hv'
            have hb := (Below.refl w3.heap.size w3).alloc (Nat.le_refl _) (.cells #[.int .i64 (n : Int), .slice A l.length c] 113)
            have HKI := Lib.hid (show PR7 u1 wr.heap.size (.slice (some ⟨w3.heap.size, 0, none⟩) 1 1) (w3.alloc (.cells #[.int .i64 (n : Int), .slice A l.length c] 113)) from ⟨_, n, l, t2', A, c, hpr, rfl, hI.size, Blk.new _ _ _, (hki.touch (Touch.of_below (S := fun _ => False) hb) (fun _ h => h.elim)).more (Nat.le_refl _) hb.size⟩)
            have HPP := Lib.hid (show PPre w wr M #[.int .i64 (kind : Int), .int .u64 (step : Int), .string ev, .slice AA1 l1.length cc1, .slice AA2 l2.length cc2, .slice AA3 l3.length cc3, .slice AA4 l4.length cc4, .slice As acc.length cs', pv] u1 8 (w3.alloc (.cells #[.int .i64 (n : Int), .slice A l.length c] 113)) from ⟨n0, l0, t0, hpr0, hS3.touch (Touch.of_below (S := fun _ => False) hb) (fun _ h => h.elim), hT3.trans (Touch.of_below (S := fun _ => False) hb) (fun _ h => h.elim)⟩)
            clear hcell hF hpr hki hv hpr0 hS3 hT3
            go_simp
            exact hKK _ _ _ (by go_simp) HKI.out (hI.trans (Touch.of_below (S := fun _ => False) hb) (fun _ h => h.elim)) (Touch.of_below hb) HPP.out
          repeat (refine RegP.chain_plain rfl rfl ?_ ?_ ?_; rotate_left; (focus (intro w3 hI _; have hcx := hcell _ hI; clear hI; go_simp; rfl)))
          simp only [Act.put, List.setIfInBounds_toArray, List.set_cons_succ, List.set_cons_zero]
          refine RegP.chain_eff rfl rfl (fun j v wa wb hj hne _ _ => (hne (by simp only [Reg.Rof]; rw [if_neg (by omega), if_neg (by omega), if_neg (by omega), if_neg (by omega)])).elim) (fun w3 hI hP hF KK hKK => ?_) (fun v8 => ?_)
          · obtain ⟨n0, l0, t0, hpr0, hS3, hT3⟩ := hP
            have f7 := hF _ (List.mem_cons_self ..) (by kernel_rfl)
            dsimp only at f7
            obtain ⟨g, n, l, t2', A, c, hpr, rfl, hg, hbg, hki⟩ := f7
            obtain ⟨rfl, rfl, rfl⟩ := hpr0.inj hpr
            have hown3 := hT3.own HOWN.out (fun j hj e => by have := (hpvB j hj).1; omega)
            rw [hps] at hown3
            have hrx : Reads w3 (g + 1) 2 (some ⟨g, 0, none⟩) 1 [.int .i64 (n0 : Int), .slice A l0.length c] := ⟨rfl, fun _ => ⟨_, rfl, Nat.lt_succ_self _, fun j u hu => by
              rw [show (⟨g, 0, none⟩ : Addr).add j = ⟨g, j, none⟩ by unfold Addr.add; split <;> simp_all, hbg.cell j]
              simpa using hu⟩⟩
            have hszz : H2 ≤ w3.heap.size := Nat.le_trans hHw2 hT3.size
            clear hcell hF
            refine wp_append_any _ _ _ _ rfl H2 113 pi _ 2 32 Try.underlying52 hpi0 hpx0 hpx1 hpx2 rfl (by decide) _ _ _ (by go_simp) hown3 _ (some ⟨g, 0, none⟩) 1 1 _ (by go_simp) hrx (fun u hu => by
              simp only [List.mem_cons, List.not_mem_nil, or_false] at hu
              rcases hu with rfl | rfl <;> rfl) ?c3 ?c4 ?c5 ?_
            case c3 => unfold maxLen; omega
            case c4 => omega
            case c5 => omega
            intro v' w4 hown4 hg4 hbl
            have hT5 : Touch (SP M pv) w3 w4 := Touch.of_grown hg4 (fun k h => .inr h)
            have hki4 : KI w4 wr.heap.size w4.heap.size (.slice A l0.length c) l0 := (hki.touch hT5 (fun k hk => .inl (by rcases hk with hk | hk; omega; exact (hpvB k hk).2))).more (Nat.le_refl _) hT5.size
            exact hKK _ _ _ (by go_simp) ⟨n0, l0, t0, A, c, hpr, hki4, hown4, hS3.touch (Touch.of_grown hg4 (fun k h => h)) (fun k h => by have := (hpvB k h).1; omega)⟩ (hI.trans hT5 (fun k h => .inl h)) hT5 trivial
          repeat (refine RegP.chain_plain rfl rfl ?_ ?_ ?_; rotate_left; (focus (intro w3 hI _; have hcx := hcell _ hI; clear hI; go_simp; rfl)))
          simp only [Act.put, List.setIfInBounds_toArray, List.set_cons_succ, List.set_cons_zero]
          refine RegP.chain_end (fun w3 hI hF => ?_)
          have f8 := hF _ (List.mem_cons_self ..)
          dsimp only at f8
          obtain ⟨n, l, t2', A, c, hpr, hki, hown3, hS3⟩ := f8
          clear hF hcell
          simp only [List.drop_succ_cons, List.drop_zero]
          obtain ⟨A8, c8, rfl⟩ := own_form hown3
          have hc8 := hS3.box.cell 8
          have hz8 := hS3.box.frozen 8
          change w3.cell? ⟨M, 8, none⟩ = some pv at hc8
          have hTs := Touch.of_set (w := w3) (S := fun k => k = M) ⟨M, 8, none⟩ (.slice A8 (k2 + 1) c8) rfl
          have HSET2 := Lib.hid (show pastsR (np - (k2 + 1)) t2' ((ps ++ [((⟨(n : Int), l⟩ : PastL), Value.slice A l.length c)]).map (·.1)) = pastsR np t2 [] by
            rw [← HPAST.out, hpr.pastR, List.map_append]
            rfl)
          have HSh := Lib.hid (show RdS w (w3.setCell ⟨M, 8, none⟩ (.slice A8 (k2 + 1) c8)) M #[.int .i64 (kind : Int), .int .u64 (step : Int), .string ev, .slice AA1 l1.length cc1, .slice AA2 l2.length cc2, .slice AA3 l3.length cc3, .slice AA4 l4.length cc4, .slice As acc.length cs', (.slice A8 (k2 + 1) c8)] t2' from hS3.put 8 _)
          have HOW := Lib.hid (show (w3.setCell ⟨M, 8, none⟩ (.slice A8 (k2 + 1) c8)).ownsRow H2 113 2 (.slice A8 (k2 + 1) c8) (ps ++ [((⟨(n : Int), l⟩ : PastL), Value.slice A l.length c)]).length (pastsV (ps ++ [((⟨(n : Int), l⟩ : PastL), Value.slice A l.length c)])) by
            have := hTs.own hown3 (fun j hj e => by have := (hown3.lt j hj).1; omega)
            rw [List.length_append, hps]
            simpa [pastsV] using this)
          have HIN2 := Lib.hid (show ∀ x ∈ ps ++ [((⟨(n : Int), l⟩ : PastL), Value.slice A l.length c)], KI (w3.setCell ⟨M, 8, none⟩ (.slice A8 (k2 + 1) c8)) H2 (w3.setCell ⟨M, 8, none⟩ (.slice A8 (k2 + 1) c8)).heap.size x.2 x.1.set from fun x hx => by
            rcases List.mem_append.1 hx with hx | hx
            · have h := HIN.out x hx
              refine ⟨hTs.own (hI.own h.1 (fun j hj e => ?_)) (fun j hj e => by have := (h.1.lt j hj).1; omega), fun j hj => by have h1 := h.2 j hj; have h2 := hI.size; rw [World.size_setCell]; omega⟩
              rcases e with e | e
              · have := (h.1.lt j hj).1
                omega
              · exact own_own_ne HOWN.out h.1 (by decide) j e hj
            · obtain rfl := List.mem_singleton.1 hx
              exact (hki.touch hTs (fun j hj => .inl (by omega))).more hHw2 (Nat.le_of_eq (World.size_setCell ..).symm))
          have HJ2 := Lib.hid (show (w3.setCell ⟨M, 8, none⟩ (.slice A8 (k2 + 1) c8)).ownsRow H 111 4 (.slice As acc.length cs') acc.length (setsV acc) ∧ KI (w3.setCell ⟨M, 8, none⟩ (.slice A8 (k2 + 1) c8)) (M + 3) H (.slice AA1 l1.length cc1) l1 ∧ KI (w3.setCell ⟨M, 8, none⟩ (.slice A8 (k2 + 1) c8)) (M + 3) H (.slice AA2 l2.length cc2) l2 ∧ KI (w3.setCell ⟨M, 8, none⟩ (.slice A8 (k2 + 1) c8)) (M + 3) H (.slice AA3 l3.length cc3) l3 ∧ KI (w3.setCell ⟨M, 8, none⟩ (.slice A8 (k2 + 1) c8)) (M + 3) H (.slice AA4 l4.length cc4) l4 by
            have t1 : ∀ j, SP M pv j → j < M + 3 ∨ H ≤ j := fun j h => by
              rcases h with h | h
              · omega
              · have := (hpvB j h).1
                omega
            have t2 : ∀ j, j = M → j < M + 3 ∨ H ≤ j := fun j h => by omega
            obtain ⟨hso, j1, j2, j3, j4⟩ := HJ.out
            exact ⟨hTs.own (hI.own hso (fun j hj e => by
              have h1 := HSVL.out j hj
              rcases e with e | e
              · omega
              · have := (hpvB j e).1
                omega)) (fun j hj e => by have h1 := HSVL.out j hj; omega), (j1.touch hI t1).touch hTs t2, (j2.touch hI t1).touch hTs t2, (j3.touch hI t1).touch hTs t2, (j4.touch hI t1).touch hTs t2⟩)
          have HSZ := Lib.hid (show H2 ≤ (w3.setCell ⟨M, 8, none⟩ (.slice A8 (k2 + 1) c8)).heap.size by
            have h1 := hI.size
            rw [World.size_setCell]
            omega)
          have HPS := Lib.hid hps
          clear hI hS3 hki hown3 hTs hps hpr HJ HIN HOWN HPAST HR HSr hpvB
          go_wp2
          refine RegP.Held.normal ?_
          go_wp2
          go_roundw
          case rel => exact ⟨k2 + 1, ps ++ [((⟨(n : Int), l⟩ : PastL), Value.slice A l.length c)], t2', _, by omega, by go_num, HSh.out, HOW.out, by rw [List.length_append, HPS.out]; rfl, HSET2.out, HSZ.out, HIN2.out, HJ2.out⟩
          case measure => simp [intOf]; omega
        · obtain rfl : k2 = np := by omega
          have hkz2 : ¬ (k2 : Int) < (k2 : Int) := by omega
          have HRE := Lib.hid (show readR s = rdEnd ⟨kind, step, ev, l1, l2, l3, l4, acc, ps.map (·.1)⟩ u1 by rw [HR11.out, ← hpast, Nat.sub_self, pastsR]; rfl)
          have HSr := Lib.hid hS
          have HJ := Lib.hid (And.intro hso (And.intro j1 (And.intro j2 (And.intro j3 j4))))
          have HIN := Lib.hid hin
          have HOWN := Lib.hid hown
          have hcr : wr.cell? ⟨M + 1 + 1, 0, none⟩ = some (.string u1) := hS.rd.cell 0
          clear hpast hS hso j1 j2 j3 j4 hin hown HR11
          by_cases h0 : u1.size = 0
          · obtain rfl : u1 = ⟨#[]⟩ := ByteArray.ext (Array.eq_empty_of_size_eq_zero h0)
            go_wp2_with fail
            refine (must_true _).mono ?_
            rintro e Wf ⟨rfl, rfl⟩
            have hfin : readR s = some ⟨kind, step, ev, l1, l2, l3, l4, acc, ps.map (·.1)⟩ := HRE.out
            have HFIN := Lib.hid hfin
            obtain ⟨Ap, cp, hpv⟩ := own_form HOWN.out
            subst hpv
            obtain ⟨m0, m1, m2, m3, m4, m5, m6, m7, m8⟩ := msg_cells HSr.out.box
            have f0 := HSr.out.box.frozen 0
            have f1 := HSr.out.box.frozen 1
            have f2 := HSr.out.box.frozen 2
            have f3 := HSr.out.box.frozen 3
            have f4 := HSr.out.box.frozen 4
            have f5 := HSr.out.box.frozen 5
            have f6 := HSr.out.box.frozen 6
            have f7 := HSr.out.box.frozen 7
            have f8 := HSr.out.box.frozen 8
            have ec := HSr.out.ec.cell 0
            have ef := HSr.out.ec.frozen 0
            change Wf.cell? ⟨M + 1, 0, none⟩ = some (.int .i64 0) at ec
            clear hfin hcr
            have HPS := Lib.hid hps
            clear hps
            go_wp2
            obtain ⟨hbox, hec, hbel, hT⟩ := read_last HSr.out
            obtain ⟨hso, j1, j2, j3, j4⟩ := HJ.out
            have t1 : ∀ j, (j = M ∨ j = M + 1) → j < M + 3 ∨ H ≤ j := fun j h => by omega
            have hso' := hT.own hso (fun j hj e => by have h1 := (HSVL.out j hj).1; omega)
            have hpo' := hT.own HOWN.out (fun j hj e => by have h1 := (HOWN.out.lt j hj).1; omega)
            have hin' := fun x hx => ((HIN.out x hx).touch hT (fun j h => .inl (by omega)))
            refine read_done _ _ M _ _ _ _ _ _ _ _ _ (.int .i64 0) _ rfl rfl hbox hec (.inl ⟨_, _, HFIN.out, rfl, fun WW hsz hag => ?_, ?_⟩)
            · have hag2 : ∀ lo, M ≤ lo → ∀ k, lo ≤ k → _ → WW.heap[k]? = _ := fun lo hlo k h1 h2 => hag k (by rw [HM.out]; omega) h2
              refine ⟨⟨_, _, _, _, _, _, rfl, ((j1.touch hT t1).agree (hag2 _ (by omega))).ints, ((j2.touch hT t1).agree (hag2 _ (by omega))).ints, ((j3.touch hT t1).agree (hag2 _ (by omega))).ints, ((j4.touch hT t1).agree (hag2 _ (by omega))).ints, setsAt_of_own (own_agree hso' (hag2 _ (by omega))), pastsAt_of_own (own_agree hpo' (hag2 _ (by omega))) (fun x hx => ((hin' x hx).agree (hag2 _ (by omega))).ints)⟩, hstep, ?_, HWF.out⟩
              show ev.size ≤ maxLen
              unfold maxLen
              omega
            · rw [HM.out]
              exact hbel
          · have h0n : ¬ u1 = ⟨#[]⟩ := fun e => h0 (by rw [e]; rfl)
            go_wp2_with fail
            rw [not_empty (s := u1) h0n]
            refine (must_false _).mono ?_
            rintro e Wf ⟨rfl, rfl⟩
            have hFr := HSr.out.fail (Touch.refl _ _)
            obtain ⟨Av, kv, hpv⟩ := own_form HOWN.out
            rw [hpv] at hFr
            exact read_bad HM.out (by rw [HRE.out]; unfold rdEnd; rw [if_neg h0]) hFr _ rfl rfl
end Go.Proofs.Ytgacphicgglogaa
