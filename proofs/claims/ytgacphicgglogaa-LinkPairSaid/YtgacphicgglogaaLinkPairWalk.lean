/- The walk of LinkPair. -/
import Derived.Test.YtgacphicgglogaaSteps
import Derived.Test.YtgacphicgglogaaLinkX
import Derived.Test.YtgacphicgglogaaLinkS
import Derived.Test.YtgacphicgglogaaLinkP
import Derived.Deep.LoopGhost
namespace Go.Proofs.Ytgacphicgglogaa.linkPair
set_option linter.unusedVariables false
open Go.RowKit Crc

set_option maxHeartbeats 8000000 in
set_option maxRecDepth 100000 in
theorem walk (v0 : Value) (w : World) {H : Type} {enc : TypeId × Value → H} {base : Nat} {d : DataW H} {pl : List MemPlace}
    (hv : Value.okWide Try.prog w .any base 78 v0) (h1 : DataW.Trod enc Try.prog w 0 (fun _ => true) true 78 v0 d pl) (_lt1 : ∀ x ∈ pl, x.block < w.heap.size) :
    Calls Try.prog 12 #[v0] w fun e w' => e = .returned (.bool true) ∧ Below w.heap.size w w' := by
  obtain ⟨A, n, c, steps, rfl, hnc, hcm, hAc⟩ := open_steps hv h1
  clear hv h1 _lt1
  unfold maxLen at hcm
  go_enter Try.func12, Try.ntmps12
  go_wp2_with fail
  refine (wakes18_any w).mono ?_
  rintro e w1 ⟨rfl, hb1⟩
  by_cases hn : 300 < n
  · have hz : (300 : Int) < (n : Int) := by omega
    go_wp2
    go_ret
    exact ⟨rfl, hb1⟩
  have hz : ¬ (300 : Int) < (n : Int) := by omega
  go_wp2_with fail
  refine (made_any w1).mono ?_
  rintro e w2 ⟨P, rfl, hP2, hb2⟩
  have hb12 := hb1.trans (hb2.mono hb1.size)
  have HLE := Lib.hid hb1.size
  clear hb1 hb2
  generalize hB : w.heap.size = B at *
  have HBB := Lib.hid hB
  have HS := Lib.hid (show ∀ x, Below B w x → B ≤ x.heap.size from fun x h => by have := h.size; rw [HBB.out] at this; exact this)
  clear hB
  generalize hB1 : w1.heap.size = B1 at *
  clear hB1
  have HB1 := Lib.hid hP2.hB
  go_wp2_with fail
  go_loopw [14] (fun v wr => ∃ (i : Nat) (s : PS), i ≤ n ∧ v = .int .i64 (i : Int) ∧ Below B w wr ∧ PairX wr B1 P s 5 (fun _ => rowTh B1 (.slice none 0 0) []) ∧ InvP s i) (fun v _ => n - (intOf v).toNat)
  case atStart => exact ⟨0, PS.new, Nat.zero_le _, rfl, hb12, hP2, InvP.new⟩
  case round =>
    obtain ⟨i, s, hi, rfl, hb, hP, hI⟩ := hrel
    clear hb12 hP2
    have hBr := HS.out _ hb
    by_cases hin : i < n
    case neg =>
      obtain rfl : i = n := by omega
      have hiz : ¬ (i : Int) < (i : Int) := by omega
      clear hAc
      go_wp2
      go_ret
      exact ⟨rfl, by rw [HBB.out]; exact hb⟩
    have hiz : (i : Int) < (n : Int) := by omega
    obtain ⟨ad, a, rfl, hai, hawf, hc0, hc1, hc2, hc3, hc4⟩ := (hAc.below hb).at_ hin
    have HP := Lib.hid (hP.below ((Below.refl _ wr).alloc (Nat.le_refl _) (.cells a.cells.toArray 82)))
    have hXX : Blk (wr.alloc (.cells #[.int .i64 a.kind, .int .i64 a.who, .int .i64 a.i, .int .i64 a.bit, .string a.load] 82)) wr.heap.size 82 #[.int .i64 a.kind, .int .i64 a.who, .int .i64 a.i, .int .i64 a.bit, .string a.load] := Blk.new _ _ _
    have HBX := Lib.hid (hb.alloc hBr (.cells a.cells.toArray 82))
    have HI := Lib.hid hI
    have hls := hawf.2.2.2.2
    unfold maxLen at hls
    clear hP hI hai hawf
    by_cases htl : 1000 < a.load.size
    · have hz3 : (1000 : Int) < (a.load.size : Int) := by omega
      clear hXX
      go_wp2
      go_ret
      exact ⟨rfl, by rw [HBB.out]; exact HBX.out⟩
    have hz3 : ¬ (1000 : Int) < (a.load.size : Int) := by omega
    go_wp2_with fail
    refine (do_ps HP.out (HI.out.fit (by omega)) a).mono ?_
    rintro e w3 ⟨rfl, hP3, hb3⟩
    have HI3 := Lib.hid (HI.out.doS (by omega) a)
    have HP3 := Lib.hid hP3
    have HB3 := Lib.hid hb3
    clear hP3 hb3 hXX
    go_wp2_with fail
    refine (right_ps HP3.out HI3.out.right (fun j hj => Nat.le_trans (HI3.out.few j hj) (by omega))).mono ?_
    rintro e w4 ⟨rfl, q, rfl⟩
    go_wp2
    go_roundw
    case rel => exact ⟨i + 1, _, by omega, by go_num, Tr_below_drewN (HBX.out.trans (HB3.out.mono HLE.out)) _, HP3.out.drewN _, HI3.out⟩
    case measure => simp [intOf]; omega

end Go.Proofs.Ytgacphicgglogaa.linkPair
