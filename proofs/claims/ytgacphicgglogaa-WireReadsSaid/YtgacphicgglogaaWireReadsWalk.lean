/- The walk of WireReads. -/
import Derived.Test.YtgacphicgglogaaWireRD
import Derived.Test.YtgacphicgglogaaWireU
namespace Go.Proofs.Ytgacphicgglogaa.wireReads
open Go.RowKit Crc
set_option linter.unusedVariables false

theorem enc_dec (s : ByteArray) (h : (decRes s).2 = 0) : encRes (decRes s).1 = (s, 0) := by
  unfold decRes at h ⊢
  by_cases h8 : 800 < s.size
  · rw [if_pos h8] at h
    cases h
  · rw [if_neg h8] at h ⊢
    cases hr : readR s with
    | none =>
      rw [hr] at h
      cases h
    | some m =>
      rw [bs_self s] at hr
      obtain ⟨hok, _, _, hs⟩ := readR_inv hr
      show encRes m = (s, 0)
      have hlen : (msgB m).length = s.size := by rw [← hs]; simp
      rw [encRes_eq m hok (by omega), ← hs, ← bs_self s]

set_option maxHeartbeats 4000000 in
set_option maxRecDepth 100000 in
theorem core (w : World) (s : ByteArray) :
    Calls Try.prog 7 #[.string s] w fun e w' => e = .returned (.bool true) ∧ Below w.heap.size w w' := by
  have hz54 : ∀ w, (zeroValue 54).run Try.prog w = .ok (.agg #[.int .i64 0, .int .u64 0, .string ⟨#[]⟩, .slice none 0 0, .slice none 0 0, .slice none 0 0, .slice none 0 0, .slice none 0 0, .slice none 0 0]) w := fun _ => by kernel_rfl
  have HLAW := Lib.hid (enc_dec s)
  go_enter Try.func7, Try.ntmps7
  go_wp2_with fail
  refine (decode_any w s).mono ?_
  have hrd := fun w => refDecode_any w s
  obtain ⟨md, hmd⟩ : ∃ md, (decRes s).1 = md := ⟨_, rfl⟩
  obtain ⟨cd, hcd⟩ : ∃ cd, (decRes s).2 = cd := ⟨_, rfl⟩
  rw [hmd, hcd] at HLAW hrd ⊢
  have HRD := Lib.hid hrd
  clear hrd hmd hcd
  rintro e w1 ⟨v1, rfl, hm1, hb1⟩
  have hma := hm1.at_
  obtain ⟨A3, n3, k3, A4, n4, k4, A5, n5, k5, A6, n6, k6, A7, n7, k7, A8, n8, k8, rfl⟩ := hma.form
  have hal := (Below.refl w1.heap.size w1).alloc (Nat.le_refl _) (.cells #[.int .i64 md.kind, .int .u64 (md.step : Int), .string md.event, .slice A3 n3 k3, .slice A4 n4 k4, .slice A5 n5 k5, .slice A6 n6 k6, .slice A7 n7 k7, .slice A8 n8 k8] 54)
  have HX1 := Lib.hid (Blk.new w1 54 #[.int .i64 md.kind, .int .u64 (md.step : Int), .string md.event, .slice A3 n3 k3, .slice A4 n4 k4, .slice A5 n5 k5, .slice A6 n6 k6, .slice A7 n7 k7, .slice A8 n8 k8])
  have HB2 := Lib.hid (hb1.trans (hal.mono hb1.size))
  have HM2 := Lib.hid ((hma.below hal).more hal.size)
  have hXl : w1.heap.size < (w1.alloc (.cells #[.int .i64 md.kind, .int .u64 (md.step : Int), .string md.event, .slice A3 n3 k3, .slice A4 n4 k4, .slice A5 n5 k5, .slice A6 n6 k6, .slice A7 n7 k7, .slice A8 n8 k8] 54)).heap.size := by rw [World.size_alloc]; omega
  have HXL := Lib.hid hXl
  clear hma hm1 hb1 hal hXl
  go_wp2_with fail
  generalize w1.alloc (.cells #[.int .i64 md.kind, .int .u64 (md.step : Int), .string md.event, .slice A3 n3 k3, .slice A4 n4 k4, .slice A5 n5 k5, .slice A6 n6 k6, .slice A7 n7 k7, .slice A8 n8 k8] 54) = W2 at *
  generalize w1.heap.size = X at *
  refine (HRD.out W2).mono ?_
  rintro e w3 ⟨v2, rfl, hm3, hb3⟩
  have hma := hm3.at_
  obtain ⟨C3, p3, q3, C4, p4, q4, C5, p5, q5, C6, p6, q6, C7, p7, q7, C8, p8, q8, rfl⟩ := hma.form
  have hal := (Below.refl w3.heap.size w3).alloc (Nat.le_refl _) (.cells #[.int .i64 md.kind, .int .u64 (md.step : Int), .string md.event, .slice C3 p3 q3, .slice C4 p4 q4, .slice C5 p5 q5, .slice C6 p6 q6, .slice C7 p7 q7, .slice C8 p8 q8] 54)
  have hb24 := hb3.trans (hal.mono hb3.size)
  have HY1 := Lib.hid (Blk.new w3 54 #[.int .i64 md.kind, .int .u64 (md.step : Int), .string md.event, .slice C3 p3 q3, .slice C4 p4 q4, .slice C5 p5 q5, .slice C6 p6 q6, .slice C7 p7 q7, .slice C8 p8 q8])
  have HX4 := Lib.hid (HX1.out.below hb24 HXL.out)
  have HB4 := Lib.hid (HB2.out.trans (hb24.mono HB2.out.size))
  have HM4 := Lib.hid ((HM2.out.below hb24).more hb24.size)
  have HN4 := Lib.hid ((hma.below hal).more hal.size)
  clear hma hm3 hb3 hal hb24 HX1 HB2 HM2 HRD HXL
  go_wp2_with fail
  generalize w3.alloc (.cells #[.int .i64 md.kind, .int .u64 (md.step : Int), .string md.event, .slice C3 p3 q3, .slice C4 p4 q4, .slice C5 p5 q5, .slice C6 p6 q6, .slice C7 p7 q7, .slice C8 p8 q8] 54) = W4 at *
  generalize w3.heap.size = Y at *
  refine (wakes16_any W4).mono ?_
  rintro e w5 ⟨rfl, hb5⟩
  have HX5 := Lib.hid (HX4.out.below hb5 HX4.out.lt)
  have hy5 := HY1.out.below hb5 HY1.out.lt
  have HB5 := Lib.hid (HB4.out.trans (hb5.mono HB4.out.size))
  have HM5 := Lib.hid ((HM4.out.below hb5).more hb5.size)
  have HN5 := Lib.hid ((HN4.out.below hb5).more hb5.size)
  obtain ⟨c0, c1, c2, c3, c4, c5, c6, c7, c8⟩ := msg_cells HX5.out
  obtain ⟨d0, d1, d2, d3, d4, d5, d6, d7, d8⟩ := msg_cells hy5
  clear hb5 hy5 HX4 HY1 HB4 HM4 HN4
  go_wp2_with fail
  clear c0 c1 c2 c3 c4 c5 c6 c7 c8 d0 d1 d2 d3 d4 d5 d6 d7 d8
  refine (sameMsg_eq w5 _ _ md HM5.out HN5.out).mono ?_
  rintro e w6 ⟨rfl, hb6⟩
  have HX6 := Lib.hid (HX5.out.below hb6 HX5.out.lt)
  have HB6 := Lib.hid (HB5.out.trans (hb6.mono HB5.out.size))
  have HM6 := Lib.hid ((HM5.out.below hb6).more hb6.size)
  obtain ⟨c0, c1, c2, c3, c4, c5, c6, c7, c8⟩ := msg_cells HX6.out
  clear hb6 HX5 HB5 HM5 HN5
  go_wp2_with fail
  refine (encode_any w6 _ md HM6.out).mono ?_
  rintro e w7 ⟨rfl, hb7⟩
  have HB7 := Lib.hid (HB6.out.trans (hb7.mono HB6.out.size))
  clear c0 c1 c2 c3 c4 c5 c6 c7 c8 hb7 HX6 HB6 HM6
  by_cases h0 : cd = 0
  · rw [HLAW.out h0]
    subst h0
    go_wp2
    go_ret
    exact ⟨rfl, HB7.out⟩
  · have hcb : (cd != 0) = true := by simpa using h0
    obtain ⟨t, ht⟩ : ∃ t, (encRes md).1 = t := ⟨_, rfl⟩
    obtain ⟨c, hc⟩ : ∃ c, (encRes md).2 = c := ⟨_, rfl⟩
    rw [ht, hc]
    clear ht hc
    go_wp2
    go_ret
    exact ⟨rfl, HB7.out⟩

theorem walk (a0 : ByteArray) (w : World) (w0 : a0.size ≤ maxLen) :
    Calls Try.prog 7 #[.string a0] w fun e w' => e = .returned (.bool true) ∧ Below w.heap.size w w' := core w a0
end Go.Proofs.Ytgacphicgglogaa.wireReads
