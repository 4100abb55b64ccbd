/- The walk of LinkActs. -/
import Derived.Test.YtgacphicgglogaaLinkRE
import Derived.Test.YtgacphicgglogaaLinkTwiceWalk
import Derived.Test.YtgacphicgglogaaRegO
namespace Go.Proofs.Ytgacphicgglogaa.linkActs
set_option linter.unusedVariables false
open Go.RowKit Crc

theorem get_le (l : LK) (s : ByteArray) : (l.get s).1.last = l.last ∧ (l.get s).1.taken = l.taken := by
  unfold LK.get
  split
  · exact ⟨rfl, rfl⟩
  split
  · have h : ∀ n x, (l.arrive n x).last = l.last ∧ (l.arrive n x).taken = l.taken := fun n x => by
      unfold LK.arrive
      split
      · have h1 := LK.comeF_keep ((l.slotIn n x).taken + 8 - (l.slotIn n x).came) (l.slotIn n x)
        have h2 : (l.slotIn n x).last = l.last ∧ (l.slotIn n x).taken = l.taken := by unfold LK.slotIn; split <;> exact ⟨rfl, rfl⟩
        exact ⟨h1.1.trans h2.1, h1.2.2.2.1.trans h2.2⟩
      · exact ⟨rfl, rfl⟩
    exact h _ _
  split
  · exact ⟨rfl, rfl⟩
  split
  · have h := LK.on_keep { l with loads := l.loads.drop ((unpackRes s).2.1 - l.told), told := (unpackRes s).2.1 }
    exact ⟨h.1, h.2.2.2.1⟩
  · exact ⟨rfl, rfl⟩

/-- What the counts' comparison meets. -/
theorem counts {w : World} {B p q : Nat} {l : LK} {r : RL} {G : Nat → Prop} (hD : Duo w B p q l r G) (hS : Sim l r) (h1 : l.last ≤ 1099511627776) (h2 : l.taken ≤ 1099511627776) :
    ∃ (a b c d : Nat), a ≤ 1099511627776 ∧ (Calls Try.prog 29 #[.pointer (some ⟨p, 0, none⟩)] w fun e w' => e = .returned (.tuple #[.int .u64 a, .int .u64 b, .int .u64 c, .int .u64 d]) ∧ ∃ n, w' = w.drewN n) ∧
      ∀ n, (∃ A k, (w.drewN n).cell? ⟨q, 0, none⟩ = some (.slice A a k) ∧ (w.drewN n).cell? ⟨q, 1, none⟩ = some (.int .u64 b) ∧ (w.drewN n).cell? ⟨q, 5, none⟩ = some (.int .u64 d)) ∧
        Calls Try.prog 30 #[.pointer (some ⟨q, 0, none⟩)] (w.drewN n) fun e w' => e = .returned (.int .u64 (c : Int)) ∧ w' = w.drewN n := by
  refine ⟨r.loads.length, r.told, r.came, r.taken, by rw [← hS.1.last]; exact h1, ?_, fun n => ⟨?_, duo_came (hD.drewN n) (sim_rok hS.1 h1 h2)⟩⟩
  · have := duo_state hD
    rw [hS.1.last, hS.1.told, hS.2, hS.1.taken] at this
    exact this
  · obtain ⟨A, c, h3, h4, h5⟩ := duo_cells (hD.drewN n)
    exact ⟨A, c, h3, h4, h5⟩

set_option maxHeartbeats 8000000 in
set_option maxRecDepth 100000 in
theorem walk (v0 : Value) (w : World) {H : Type} {enc : TypeId × Value → H} {base : Nat} {d : DataW H} {pl : List MemPlace}
    (hv : Value.okWide Try.prog w .any base 22 v0) (h1 : DataW.Trod enc Try.prog w 0 (fun _ => true) true 22 v0 d pl) (_lt1 : ∀ x ∈ pl, x.block < w.heap.size) :
    Calls Try.prog 4 #[v0] w fun e w' => e = .returned (.bool true) ∧ Below w.heap.size w w' := by
  obtain ⟨A, n, c, acts, rfl, hnc, hcm, hAc⟩ := open_acts hv h1
  clear hv h1 _lt1
  unfold maxLen at hcm
  have hz42 : ∀ w, (zeroValue 42).run Try.prog w = .ok (.agg (RL.new.cells ⟨.slice none 0 0, .slice none 0 0, .slice none 0 0, .slice none 0 0⟩).toArray) w := fun _ => by kernel_rfl
  go_enter Try.func4, Try.ntmps4
  go_wp2_with fail
  refine (wakes18_any w).mono ?_
  rintro e w1 ⟨rfl, hb1⟩
  by_cases hn : 200 < n
  · have hz : (200 : Int) < (n : Int) := by omega
    go_wp2
    go_ret
    exact ⟨rfl, hb1⟩
  have hz : ¬ (200 : Int) < (n : Int) := by omega
  go_wp2_with fail
  refine (new_any w1 w.heap.size hb1.size).mono ?_
  rintro e w2 ⟨rfl, hA2, hb2⟩
  have hb12 := hb1.trans (hb2.mono hb1.size)
  have hP3 := Duo.new hA2 hb12.size
  have hb13 := hb12.alloc hb12.size (.cells (RL.new.cells ⟨.slice none 0 0, .slice none 0 0, .slice none 0 0, .slice none 0 0⟩).toArray 42)
  clear hA2 hb2 hb12 hb1
  go_wp2_with fail
  generalize hB : w.heap.size = B at *
  have HBB := Lib.hid hB
  have HS := Lib.hid (show ∀ x, Below B w x → B ≤ x.heap.size from fun x h => by have := h.size; rw [HBB.out] at this; exact this)
  clear hB
  generalize w1.heap.size = p at *
  generalize w2.heap.size = q at *
  go_loopw [26] (fun v wr => ∃ (i : Nat) (l : LK) (r : RL), i ≤ n ∧ v = .int .i64 (i : Int) ∧ Below B w wr ∧ Duo wr B p q l r (fun _ => False) ∧ Sim l r ∧ l.last ≤ i ∧ l.taken ≤ i) (fun v _ => n - (intOf v).toNat)
  case atStart => exact ⟨0, LK.new, RL.new, Nat.zero_le _, rfl, hb13, hP3, sim_new, Nat.le_refl _, Nat.le_refl _⟩
  case round =>
    obtain ⟨i, l, r, hi, rfl, hb, hP, hsim, hlast, htaken⟩ := hrel
    clear hb13 hP3
    have hBr := HS.out _ hb
    by_cases hin : i < n
    case neg =>
      obtain rfl : i = n := by omega
      have hiz : ¬ (i : Int) < (i : Int) := by omega
      clear hAc
      go_wp2
      go_ret
      exact ⟨rfl, by rw [HBB.out]; exact hb⟩
    have hiz : (i : Int) < (n : Int) := by omega
    obtain ⟨ad, a, rfl, hai, hawf, hc0, hc1, hc2, hc3⟩ := (hAc.below hb).at_ hin
    have hPX := hP.alloc (.cells #[.int .i64 a.kind, .string a.text, .int .i64 a.data, .int .u64 (a.number : Int)] 28)
    have hXX : Blk (wr.alloc (.cells #[.int .i64 a.kind, .string a.text, .int .i64 a.data, .int .u64 (a.number : Int)] 28)) wr.heap.size 28 #[.int .i64 a.kind, .string a.text, .int .i64 a.data, .int .u64 (a.number : Int)] := Blk.new _ _ _
    have hbX := hb.alloc hBr (.cells #[.int .i64 a.kind, .string a.text, .int .i64 a.data, .int .u64 (a.number : Int)] 28)
    have hD := hPX.less (G' := fun k => k = wr.heap.size) (fun k hk => .inr hk)
    by_cases htl : 1000 < a.text.size
    · have hz3 : (1000 : Int) < (a.text.size : Int) := by omega
      clear hPX hD hXX
      go_wp2
      go_ret
      exact ⟨rfl, by rw [HBB.out]; exact hbX⟩
    have hz3 : ¬ (1000 : Int) < (a.text.size : Int) := by omega
    have okl := hsim.1.ok
    have okr := sim_rok hsim.1 (by omega) (by omega)
    have hnum := hawf.2.2.1
    clear hPX hP hai hawf
    have HDATA := Lib.hid (show i < n ∧ l.last ≤ i ∧ l.taken ≤ i ∧ i ≤ 200 by omega)
    obtain ⟨K, hK⟩ : ∃ K, a.kind = K := ⟨_, rfl⟩
    obtain ⟨t, ht⟩ : ∃ t, a.text = t := ⟨_, rfl⟩
    obtain ⟨dt, hdt⟩ : ∃ dt, a.data = dt := ⟨_, rfl⟩
    obtain ⟨num, hnu⟩ : ∃ num, a.number = num := ⟨_, rfl⟩
    rw [hK, ht, hdt, hnu] at hXX hbX hD
    rw [hK] at hc0
    rw [ht] at hc1 hz3 htl
    rw [hdt] at hc2
    rw [hnu] at hc3 hnum
    clear hK ht hdt hnu
    have hBX := HS.out _ hbX
    by_cases hk0 : K = 0
    · subst hk0
      have hsd := sim_send hsim t
      have hle := linkTwice.send_le l t
      have HSD := Lib.hid hsd.2
      have hS2 := hsd.1
      obtain ⟨cd0, hcd⟩ : ∃ cd0, (r.send t).2 = cd0 := ⟨_, rfl⟩
      have HCD := Lib.hid hcd
      go_wp2
      clear hc0 hc1 hc2 hc3
      generalize hW : wr.alloc (.cells #[.int .i64 0, .string t, .int .i64 dt, .int .u64 (num : Int)] 28) = W at *
      generalize wr.heap.size = X at *
      clear hW
      refine RegO.wp_once 7 3 (fun v w' => v = .int .i64 cd0 ∧ Duo w' B p q (l.send t).1 r (fun k => k = X) ∧ Below B w w') (fun w' => Blk w' X 28 #[.int .i64 0, .string t, .int .i64 dt, .int .u64 (num : Int)]) (fun w' => w' = W.drew) (fun wa wb => (Duo wa B p q (l.send t).1 r (fun k => k = X) → Duo wb B p q (l.send t).1 r (fun k => k = X)) ∧ (Below B w wa → Below B w wb)) (by kernel_rfl) (by kernel_rfl) (by kernel_rfl) (by kernel_rfl) (fun _ _ d _ _ h => by cases d <;> exact h) hXX.drew rfl ?_
      simp only [List.take_succ_cons, List.take_zero]
      repeat (refine RegO.chain_plain rfl rfl ?_ ?_ ?_; rotate_left; (focus (intro w3 hI _; have hcx := hI.cell 1; change _ = some (Value.string t) at hcx; clear hI; go_simp; rfl)))
      simp only [Act.put, List.setIfInBounds_toArray, List.set_cons_succ, List.set_cons_zero]
      refine RegO.chain_eff rfl rfl (fun v wa wb hs ho => ⟨ho.1, hs.1 ho.2.1, hs.2 ho.2.2⟩) (fun w3 hI hPre _ KK hKK => ?_) (fun v => ?_)
      · subst hPre
        go_simp
        refine (duo_send hD.drew hBX okl (by omega) t).mono ?_
        rintro e w4 ⟨rfl, hD4, hb4, hk4⟩
        have hb5 : Below B w w4 := hbX.drew.trans hb4
        exact hKK (.int .i64 (l.send t).2) _ _ (by go_simp) ⟨by rw [HSD.out, HCD.out], hD4, hb5⟩ (hk4.blk hI rfl) ⟨fun _ => hD4, fun _ => hb5⟩
      repeat (refine RegO.chain_plain rfl rfl ?_ ?_ ?_; rotate_left; (focus (intro w3 hI _; have hcx := hI.cell 1; change _ = some (Value.string t) at hcx; clear hI; go_simp; rfl)))
      simp only [Act.put, List.setIfInBounds_toArray, List.set_cons_succ, List.set_cons_zero]
      refine RegO.chain_end (fun w3 hI hF => ?_)
      have hf3 := hF _ (List.mem_singleton.2 rfl)
      dsimp only at hf3
      obtain ⟨rfl, hD3, hb3⟩ := hf3
      clear hF
      simp only [List.drop_succ_cons, List.drop_zero]
      have hB3 := HS.out _ hb3
      have hX0 := hI.cell 0
      change _ = some (Value.int .i64 0) at hX0
      clear hD hXX hbX hBX
      go_wp2_with fail
      refine (duo_rsend hD3 hB3 okr (by have := okr.few; rw [← hsim.1.last]; omega) t).mono ?_
      rintro e w4 ⟨rfl, hD4, hb4, hk4⟩
      have hb5 := hb3.trans hb4
      rw [HCD.out]
      clear hD3 hb3 hX0 hI hB3 hb4 hk4 hcd hsd
      obtain ⟨ca, cb, cc, cd, hca, hcst, hcrd⟩ := counts hD4 hS2 (by omega) (by omega)
      have HCST := Lib.hid hcst
      have HCRD := Lib.hid hcrd
      have HD9 := Lib.hid hD4
      have HS9 := Lib.hid hS2
      have HB9 := Lib.hid hb5
      have HLE := Lib.hid (show (l.send t).1.last ≤ i + 1 ∧ (l.send t).1.taken ≤ i + 1 by omega)
      have hwca : IntKind.u64.wrap (ca : Int) = (ca : Int) := IntWalk.u64_in _ (by omega)
      clear hcst hcrd hD4 hb5 hS2
      go_wp2_with fail
      refine HCST.out.mono ?_
      rintro e w8 ⟨rfl, ns, rfl⟩
      obtain ⟨⟨A0, k0, d0, d1, d5⟩, hcame⟩ := HCRD.out ns
      have HC9 := Lib.hid hcame
      clear hcame HCRD HCST
      go_wp2_with fail
      refine HC9.out.mono ?_
      rintro e w9 ⟨rfl, rfl⟩
      go_wp2
      go_roundw
      case rel => exact ⟨i + 1, _, _, by omega, by go_num, Tr_below_drewN HB9.out _, (HD9.out.drewN _).less (fun k hk => hk.elim), HS9.out, HLE.out.1, HLE.out.2⟩
      case measure => simp [intOf]; omega
    by_cases hk1 : K = 1
    · subst hk1
      go_wp2_with fail
      clear hc0 hc1 hc2 hc3
      generalize hW : wr.alloc (.cells #[.int .i64 1, .string t, .int .i64 dt, .int .u64 (num : Int)] 28) = W at *
      generalize wr.heap.size = X at *
      clear hW
      refine (refPack_any dt num t W hnum (by unfold maxLen; omega)).mono ?_
      rintro e w3 ⟨rfl, hb3'⟩
      have hs0 : (packRes dt num t).1.size ≤ 140737488351232 := by have := packRes_size dt num t; omega
      obtain ⟨s0, hs0e⟩ : ∃ s0, (packRes dt num t).1 = s0 := ⟨_, rfl⟩
      rw [hs0e] at hs0
      rw [hs0e]
      have hD3 := hD.below hb3'
      have hb3 := hbX.trans (hb3'.mono hBX)
      have hB3 := HS.out _ hb3
      clear hs0e hb3' hD hXX hbX hBX
      have hsg := sim_get hsim s0
      have hgl := get_le l s0
      have HSG := Lib.hid hsg.2
      have hS2 := hsg.1
      obtain ⟨cd0, hcd⟩ : ∃ cd0, (r.get s0).2 = cd0 := ⟨_, rfl⟩
      have HCD := Lib.hid hcd
      have hget1 := duo_get hD3 hB3 okl (by omega) (by omega) s0 hs0
      rw [HSG.out, HCD.out] at hget1
      have HG1 := Lib.hid hget1
      clear hget1 hcd hsg
      go_wp2_with fail
      refine HG1.out.mono ?_
      rintro e w4 ⟨rfl, hD4, hb4, hk4⟩
      have hb5 := hb3.trans hb4
      have hB5 := HS.out _ hb5
      have hget2 := duo_rget hD4 hB5 okr s0 hs0
      rw [HCD.out] at hget2
      have HG2 := Lib.hid hget2
      clear hget2 hb4 hk4 HG1 hD3 hb3 hB3
      go_wp2_with fail
      refine HG2.out.mono ?_
      rintro e w5 ⟨rfl, hD5, hb6, hk5⟩
      have hb7 := hb5.trans hb6
      clear hb6 hk5 HG2 hD4 hb5 hB5
      obtain ⟨ca, cb, cc, cd, hca, hcst, hcrd⟩ := counts hD5 hS2 (by omega) (by omega)
      have HCST := Lib.hid hcst
      have HCRD := Lib.hid hcrd
      have HD9 := Lib.hid hD5
      have HS9 := Lib.hid hS2
      have HB9 := Lib.hid hb7
      have HLE := Lib.hid (show (l.get s0).1.last ≤ i + 1 ∧ (l.get s0).1.taken ≤ i + 1 by omega)
      have hwca : IntKind.u64.wrap (ca : Int) = (ca : Int) := IntWalk.u64_in _ (by omega)
      clear hcst hcrd hD5 hb7 hS2
      go_wp2_with fail
      refine HCST.out.mono ?_
      rintro e w8 ⟨rfl, ns, rfl⟩
      obtain ⟨⟨A0, k0, d0, d1, d5⟩, hcame⟩ := HCRD.out ns
      have HC9 := Lib.hid hcame
      clear hcame HCRD HCST
      go_wp2_with fail
      refine HC9.out.mono ?_
      rintro e w9 ⟨rfl, rfl⟩
      go_wp2
      go_roundw
      case rel => exact ⟨i + 1, _, _, by omega, by go_num, Tr_below_drewN HB9.out _, (HD9.out.drewN _).less (fun k hk => hk.elim), HS9.out, HLE.out.1, HLE.out.2⟩
      case measure => simp [intOf]; omega
    by_cases hk2 : K = 2
    · subst hk2
      have hX0 := hXX.cell 0
      have hX1 := hXX.cell 1
      change _ = some (Value.int .i64 2) at hX0
      change _ = some (Value.string t) at hX1
      have hs0 : t.size ≤ 140737488351232 := by omega
      have hD3 := hD
      have hb3 := hbX
      have hB3 := hBX
      clear hD hbX hBX hXX
      generalize hst : t = s0 at *
      clear hst
      have hsg := sim_get hsim s0
      have hgl := get_le l s0
      have HSG := Lib.hid hsg.2
      have hS2 := hsg.1
      obtain ⟨cd0, hcd⟩ : ∃ cd0, (r.get s0).2 = cd0 := ⟨_, rfl⟩
      have HCD := Lib.hid hcd
      have hget1 := duo_get hD3 hB3 okl (by omega) (by omega) s0 hs0
      rw [HSG.out, HCD.out] at hget1
      have HG1 := Lib.hid hget1
      clear hget1 hcd hsg
      go_wp2_with fail
      refine HG1.out.mono ?_
      rintro e w4 ⟨rfl, hD4, hb4, hk4⟩
      have hb5 := hb3.trans hb4
      have hB5 := HS.out _ hb5
      have hget2 := duo_rget hD4 hB5 okr s0 hs0
      rw [HCD.out] at hget2
      have HG2 := Lib.hid hget2
      clear hget2 hb4 hk4 HG1 hD3 hb3 hB3
      go_wp2_with fail
      refine HG2.out.mono ?_
      rintro e w5 ⟨rfl, hD5, hb6, hk5⟩
      have hb7 := hb5.trans hb6
      clear hb6 hk5 HG2 hD4 hb5 hB5
      obtain ⟨ca, cb, cc, cd, hca, hcst, hcrd⟩ := counts hD5 hS2 (by omega) (by omega)
      have HCST := Lib.hid hcst
      have HCRD := Lib.hid hcrd
      have HD9 := Lib.hid hD5
      have HS9 := Lib.hid hS2
      have HB9 := Lib.hid hb7
      have HLE := Lib.hid (show (l.get s0).1.last ≤ i + 1 ∧ (l.get s0).1.taken ≤ i + 1 by omega)
      have hwca : IntKind.u64.wrap (ca : Int) = (ca : Int) := IntWalk.u64_in _ (by omega)
      clear hcst hcrd hD5 hb7 hS2
      go_wp2_with fail
      refine HCST.out.mono ?_
      rintro e w8 ⟨rfl, ns, rfl⟩
      obtain ⟨⟨A0, k0, d0, d1, d5⟩, hcame⟩ := HCRD.out ns
      have HC9 := Lib.hid hcame
      clear hcame HCRD HCST
      go_wp2_with fail
      refine HC9.out.mono ?_
      rintro e w9 ⟨rfl, rfl⟩
      go_wp2
      go_roundw
      case rel => exact ⟨i + 1, _, _, by omega, by go_num, Tr_below_drewN HB9.out _, (HD9.out.drewN _).less (fun k hk => hk.elim), HS9.out, HLE.out.1, HLE.out.2⟩
      case measure => simp [intOf]; omega
    by_cases hk3 : K = 3
    · subst hk3
      have htl2 := linkTwice.tick_le l
      have hS2 := sim_tick hsim
      go_wp2_with fail
      clear hc0 hc1 hc2 hc3
      generalize hW : wr.alloc (.cells #[.int .i64 3, .string t, .int .i64 dt, .int .u64 (num : Int)] 28) = W at *
      generalize wr.heap.size = X at *
      clear hW
      refine (duo_tick hD hBX okl (by omega)).mono ?_
      rintro e w4 ⟨rfl, hD4, hb4, hk4⟩
      have hb5 := hbX.trans hb4
      have hB5 := HS.out _ hb5
      clear hD hbX hBX hXX hb4 hk4
      go_wp2_with fail
      refine (duo_rtick hD4 hB5 okr).mono ?_
      rintro e w5 ⟨rfl, hD5, hb6, hk5⟩
      have hb7 := hb5.trans hb6
      clear hb6 hk5 hD4 hb5 hB5
      obtain ⟨ca, cb, cc, cd, hca, hcst, hcrd⟩ := counts hD5 hS2 (by omega) (by omega)
      have HCST := Lib.hid hcst
      have HCRD := Lib.hid hcrd
      have HD9 := Lib.hid hD5
      have HS9 := Lib.hid hS2
      have HB9 := Lib.hid hb7
      have HLE := Lib.hid (show l.tick.last ≤ i + 1 ∧ l.tick.taken ≤ i + 1 by omega)
      have hwca : IntKind.u64.wrap (ca : Int) = (ca : Int) := IntWalk.u64_in _ (by omega)
      clear hcst hcrd hD5 hb7 hS2
      go_wp2_with fail
      refine HCST.out.mono ?_
      rintro e w8 ⟨rfl, ns, rfl⟩
      obtain ⟨⟨A0, k0, d0, d1, d5⟩, hcame⟩ := HCRD.out ns
      have HC9 := Lib.hid hcame
      clear hcame HCRD HCST
      go_wp2_with fail
      refine HC9.out.mono ?_
      rintro e w9 ⟨rfl, rfl⟩
      go_wp2
      go_roundw
      case rel => exact ⟨i + 1, _, _, by omega, by go_num, Tr_below_drewN HB9.out _, (HD9.out.drewN _).less (fun k hk => hk.elim), HS9.out, HLE.out.1, HLE.out.2⟩
      case measure => simp [intOf]; omega
    by_cases hk4 : K = 4
    · subst hk4
      have hS2 := sim_out hsim
      go_wp2_with fail
      clear hc0 hc1 hc2 hc3
      generalize hW : wr.alloc (.cells #[.int .i64 4, .string t, .int .i64 dt, .int .u64 (num : Int)] 28) = W at *
      generalize wr.heap.size = X at *
      clear hW
      refine (duo_out hD hBX).mono ?_
      rintro e w4 ⟨v4, rfl, hD4, hb4, hk4, ho4⟩
      have hb5 := hbX.trans hb4
      have hB5 := HS.out _ hb5
      obtain ⟨A4, c4, hv4⟩ := own_form ho4
      subst hv4
      clear hD hbX hBX hXX hb4 hk4
      go_wp2_with fail
      refine (duo_rout hD4 hB5).mono ?_
      rintro e w5 ⟨v5, rfl, hD5, hb6, hk5, ho5⟩
      have hb7 := hb5.trans hb6
      have ho4' := Keep.own hk5 ho4 (fun k hk => .inr hk)
      obtain ⟨A5, c5, hv5⟩ := own_form ho5
      subst hv5
      have hge := hsim.1.goes
      have hsm := sameStr_any w5 A4 A5 l.goes.length r.goes.length c4 c5 l.goes r.goes rfl rfl (Reads.of_own ho4') (Reads.of_own ho5) (by have := okl.goes; unfold maxLen; omega)
      rw [show decide (l.goes = r.goes) = true from decide_eq_true hge] at hsm
      have HSM := Lib.hid hsm
      have hD6 : ∀ m, Duo (w5.drewN m) B p q { l with goes := [] } { r with goes := [] } (fun k => k = X) := fun m => (hD5.drewN m).less (fun k hk => .inl hk)
      have hb8 : ∀ m, Below B w (w5.drewN m) := fun m => Tr_below_drewN hb7 m
      have HD6 := Lib.hid hD6
      have HB8 := Lib.hid hb8
      clear hb6 hk5 hD4 hb5 hB5 ho4 ho4' ho5 hsm hD5 hD6 hb8 hb7
      generalize l.goes.length = lg at *
      generalize r.goes.length = rg at *
      go_wp2_with fail
      refine HSM.out.mono ?_
      rintro e w6 ⟨rfl, ms, rfl⟩
      have hD7 := HD6.out ms
      have hb9 := HB8.out ms
      have hlo : ({ l with goes := [] } : LK).last = l.last ∧ ({ l with goes := [] } : LK).taken = l.taken := ⟨rfl, rfl⟩
      clear HD6 HB8 HSM
      generalize w5.drewN ms = W6 at *
      obtain ⟨ca, cb, cc, cd, hca, hcst, hcrd⟩ := counts hD7 hS2 (by omega) (by omega)
      have HCST := Lib.hid hcst
      have HCRD := Lib.hid hcrd
      have HD9 := Lib.hid hD7
      have HS9 := Lib.hid hS2
      have HB9 := Lib.hid hb9
      have HLE := Lib.hid (show ({ l with goes := [] } : LK).last ≤ i + 1 ∧ ({ l with goes := [] } : LK).taken ≤ i + 1 by omega)
      have hwca : IntKind.u64.wrap (ca : Int) = (ca : Int) := IntWalk.u64_in _ (by omega)
      clear hcst hcrd hD7 hb9 hS2 hlo
      go_wp2_with fail
      refine HCST.out.mono ?_
      rintro e w8 ⟨rfl, ns, rfl⟩
      obtain ⟨⟨A0, k0, d0, d1, d5⟩, hcame⟩ := HCRD.out ns
      have HC9 := Lib.hid hcame
      clear hcame HCRD HCST
      go_wp2_with fail
      refine HC9.out.mono ?_
      rintro e w9 ⟨rfl, rfl⟩
      go_wp2
      go_roundw
      case rel => exact ⟨i + 1, _, _, by omega, by go_num, Tr_below_drewN HB9.out _, (HD9.out.drewN _).less (fun k hk => hk.elim), HS9.out, HLE.out.1, HLE.out.2⟩
      case measure => simp [intOf]; omega
    by_cases hk5 : K = 5
    · subst hk5
      have hsr := sim_recv hsim
      have hrl := linkTwice.recv_le l
      have hS2 := hsr.1
      go_wp2_with fail
      clear hc0 hc1 hc2 hc3
      generalize hW : wr.alloc (.cells #[.int .i64 5, .string t, .int .i64 dt, .int .u64 (num : Int)] 28) = W at *
      generalize wr.heap.size = X at *
      clear hW
      have hq1 := duo_recv hD hBX okl (by omega)
      rw [hsr.2] at hq1
      obtain ⟨x0, hx0⟩ : ∃ x0 : ByteArray, r.recv.2.1 = x0 := ⟨_, rfl⟩
      obtain ⟨b0, hb0⟩ : ∃ b0 : Bool, r.recv.2.2 = b0 := ⟨_, rfl⟩
      rw [hx0, hb0] at hq1
      refine hq1.mono ?_
      rintro e w4 ⟨rfl, hD4, hb4, hk4⟩
      have hb5 := hbX.trans hb4
      have hB5 := HS.out _ hb5
      have hq2 := duo_rrecv hD4 hB5 okr
      rw [hx0, hb0] at hq2
      have HC2 := Lib.hid hq2
      clear hD hbX hBX hXX hb4 hk4 hx0 hb0 hq1 hq2 hsr
      go_wp2_with fail
      refine HC2.out.mono ?_
      rintro e w5 ⟨rfl, hD5, hb6, hk5'⟩
      have hb7 := hb5.trans hb6
      clear hb6 hk5' hD4 hb5 hB5 HC2
      obtain ⟨ca, cb, cc, cd, hca, hcst, hcrd⟩ := counts hD5 hS2 (by omega) (by omega)
      have HCST := Lib.hid hcst
      have HCRD := Lib.hid hcrd
      have HD9 := Lib.hid hD5
      have HS9 := Lib.hid hS2
      have HB9 := Lib.hid hb7
      have HLE := Lib.hid (show l.recv.1.last ≤ i + 1 ∧ l.recv.1.taken ≤ i + 1 by omega)
      have hwca : IntKind.u64.wrap (ca : Int) = (ca : Int) := IntWalk.u64_in _ (by omega)
      clear hcst hcrd hD5 hb7 hS2
      go_wp2_with fail
      refine HCST.out.mono ?_
      rintro e w8 ⟨rfl, ns, rfl⟩
      obtain ⟨⟨A0, k0, d0, d1, d5⟩, hcame⟩ := HCRD.out ns
      have HC9 := Lib.hid hcame
      clear hcame HCRD HCST
      go_wp2_with fail
      refine HC9.out.mono ?_
      rintro e w9 ⟨rfl, rfl⟩
      go_wp2
      go_roundw
      case rel => exact ⟨i + 1, _, _, by omega, by go_num, Tr_below_drewN HB9.out _, (HD9.out.drewN _).less (fun k hk => hk.elim), HS9.out, HLE.out.1, HLE.out.2⟩
      case measure => simp [intOf]; omega
    have hk0b : (K == 0) = false := beq_eq_false_iff_ne.2 hk0
    have hk1b : (K == 1) = false := beq_eq_false_iff_ne.2 hk1
    have hk2b : (K == 2) = false := beq_eq_false_iff_ne.2 hk2
    have hk3b : (K == 3) = false := beq_eq_false_iff_ne.2 hk3
    have hk4b : (K == 4) = false := beq_eq_false_iff_ne.2 hk4
    have hk5b : (K == 5) = false := beq_eq_false_iff_ne.2 hk5
    clear hk0 hk1 hk2 hk3 hk4 hk5
    obtain ⟨ca, cb, cc, cd, hca, hcst, hcrd⟩ := counts hD hsim (by omega) (by omega)
    have HCST := Lib.hid hcst
    have HCRD := Lib.hid hcrd
    have HD9 := Lib.hid hD
    have HS9 := Lib.hid hsim
    have HB9 := Lib.hid hbX
    have HLE := Lib.hid (show l.last ≤ i + 1 ∧ l.taken ≤ i + 1 by omega)
    have hwca : IntKind.u64.wrap (ca : Int) = (ca : Int) := IntWalk.u64_in _ (by omega)
    clear hcst hcrd hD hbX
    go_wp2_with fail
    refine HCST.out.mono ?_
    rintro e w8 ⟨rfl, ns, rfl⟩
    obtain ⟨⟨A0, k0, d0, d1, d5⟩, hcame⟩ := HCRD.out ns
    have HC9 := Lib.hid hcame
    clear hcame HCRD HCST
    go_wp2_with fail
    refine HC9.out.mono ?_
    rintro e w9 ⟨rfl, rfl⟩
    go_wp2
    go_roundw
    case rel => exact ⟨i + 1, _, _, by omega, by go_num, Tr_below_drewN HB9.out _, (HD9.out.drewN _).less (fun k hk => hk.elim), HS9.out, HLE.out.1, HLE.out.2⟩
    case measure => simp [intOf]; omega

end Go.Proofs.Ytgacphicgglogaa.linkActs
