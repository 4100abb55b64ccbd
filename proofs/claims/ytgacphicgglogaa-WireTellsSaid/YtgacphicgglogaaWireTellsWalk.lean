/- The walk of WireTells. -/
import Derived.Test.YtgacphicgglogaaWireW
import Derived.Test.YtgacphicgglogaaWireY
import Derived.Test.YtgacphicgglogaaMsgO
namespace Go.Proofs.Ytgacphicgglogaa.wireTells
open Go.RowKit Crc
set_option linter.unusedVariables false

set_option maxHeartbeats 4000000 in
set_option maxRecDepth 100000 in
theorem core (w : World) (v : Value) (m : MsgL) (h : MsgAt w w.heap.size v m) (hf : Fits m) :
    Calls Try.prog 6 #[v] w fun e w' => e = .returned (.bool true) ∧ Below w.heap.size w w' := by
  have hw := h.sets
  have hst := h.step
  have H := Lib.hid h
  have HF := Lib.hid hf
  obtain ⟨A3, n3, k3, A4, n4, k4, A5, n5, k5, A6, n6, k6, A7, n7, k7, A8, n8, k8, rfl⟩ := h.form
  clear h hf
  go_enter Try.func6, Try.ntmps6
  go_wp2_with fail
  have hb0 : Below w.heap.size w (w.alloc (.cells #[.int .i64 m.kind, .int .u64 (m.step : Int), .string m.event, .slice A3 n3 k3, .slice A4 n4 k4, .slice A5 n5 k5, .slice A6 n6 k6, .slice A7 n7 k7, .slice A8 n8 k8] 54)) := (Below.refl _ _).alloc (Nat.le_refl _) _
  have hbx := Blk.new w 54 #[.int .i64 m.kind, .int .u64 (m.step : Int), .string m.event, .slice A3 n3 k3, .slice A4 n4 k4, .slice A5 n5 k5, .slice A6 n6 k6, .slice A7 n7 k7, .slice A8 n8 k8]
  generalize w.alloc (.cells #[.int .i64 m.kind, .int .u64 (m.step : Int), .string m.event, .slice A3 n3 k3, .slice A4 n4 k4, .slice A5 n5 k5, .slice A6 n6 k6, .slice A7 n7 k7, .slice A8 n8 k8] 54) = W0 at *
  refine (copied16_any W0 _ m ((H.out.below hb0).more hb0.size) HF.out).mono ?_
  rintro e w1 ⟨v', rfl, hm1, hb1⟩
  have hb01 := hb0.trans (hb1.mono hb0.size)
  have HB01 := Lib.hid hb01
  have HM1 := Lib.hid hm1
  have HBX1 := Lib.hid (hbx.below hb1 hbx.lt)
  clear hb0 hb1 hb01 hm1 HF hbx
  go_wp2_with fail
  refine (encode_any w1 _ m HM1.out).mono ?_
  rintro e w2 ⟨rfl, hb2⟩
  have hb02 := HB01.out.trans (hb2.mono HB01.out.size)
  have HB02 := Lib.hid hb02
  have hbx2 := HBX1.out.below hb2 HBX1.out.lt
  have HBX2 := Lib.hid hbx2
  obtain ⟨c0, c1, c2, c3, c4, c5, c6, c7, c8⟩ := msg_cells hbx2
  clear hb2 hb02 HB01 HM1 HBX1 hbx2
  obtain ⟨s, hs⟩ : ∃ s, (encRes m).1 = s := ⟨_, rfl⟩
  obtain ⟨c, hc⟩ : ∃ c, (encRes m).2 = c := ⟨_, rfl⟩
  have hen := refEncode_any w2 _ m ((H.out.below HB02.out).more HB02.out.size)
  rw [hs, hc] at hen ⊢
  have HEN := Lib.hid hen
  have HSE := Lib.hid hs
  have HCE := Lib.hid hc
  clear hs hc hen
  go_wp2_with fail
  refine HEN.out.mono ?_
  rintro e w3 ⟨rfl, hb3⟩
  have hb03 := HB02.out.trans (hb3.mono HB02.out.size)
  have HB03 := Lib.hid hb03
  have HBX3 := Lib.hid (HBX2.out.below hb3 HBX2.out.lt)
  clear c0 c1 c2 c3 c4 c5 c6 c7 c8 hb3 hb03 HB02 HBX2 HEN
  go_wp2_with fail
  refine (wakes16_any w3).mono ?_
  rintro e w4 ⟨rfl, hb4⟩
  have hb04 := HB03.out.trans (hb4.mono HB03.out.size)
  have HB04 := Lib.hid hb04
  have HBX4 := Lib.hid (HBX3.out.below hb4 HBX3.out.lt)
  clear hb4 hb04 HB03 HBX3
  go_wp2_with fail
  refine (decode_any w4 s).mono ?_
  rintro e w5 ⟨v5, rfl, hm5, hb5⟩
  have hma := hm5.at_
  by_cases hc0 : c = 0
  · subst hc0
    obtain ⟨hok, hl8, hs⟩ := encRes_ok HCE.out
    have hde := dec_enc m hok hw hst hl8
    rw [← hs, HSE.out] at hde
    rw [hde] at hma ⊢
    obtain ⟨C3, x3, y3, C4, x4, y4, C5, x5, y5, C6, x6, y6, C7, x7, y7, C8, x8, y8, rfl⟩ := hma.form
    have hb05 := HB04.out.trans (hb5.mono HB04.out.size)
    have hb8 := (Below.refl w5.heap.size w5).alloc (Nat.le_refl _) (.cells #[.int .i64 m.kind, .int .u64 (m.step : Int), .string m.event, .slice C3 x3 y3, .slice C4 x4 y4, .slice C5 x5 y5, .slice C6 x6 y6, .slice C7 x7 y7, .slice C8 x8 y8] 54)
    have hb06 := hb05.trans (hb8.mono hb05.size)
    have HB06 := Lib.hid hb06
    have HM8 := Lib.hid ((hma.below hb8).more hb8.size)
    have HMA := Lib.hid ((H.out.below hb06).more hb06.size)
    have hbx5 := HBX4.out.below hb5 HBX4.out.lt
    have hlt5 := hbx5.lt
    obtain ⟨c0, c1, c2, c3, c4, c5, c6, c7, c8⟩ := msg_cells hbx5
    clear hb05 hb8 hb06 hma hm5 hb5 hbx5 hok hl8 hs hde HSE HCE HB04 HBX4
    go_wp2_with fail
    refine (sameMsg_eq _ _ _ m HMA.out HM8.out).mono ?_
    rintro e w9 ⟨rfl, hb9⟩
    go_wp2
    go_ret
    exact ⟨rfl, HB06.out.trans (hb9.mono HB06.out.size)⟩
  · have hcb : (c != 0) = true := by simpa using hc0
    obtain ⟨md, hmd⟩ : ∃ md, (decRes s).1 = md := ⟨_, rfl⟩
    obtain ⟨cd, hcd⟩ : ∃ cd, (decRes s).2 = cd := ⟨_, rfl⟩
    rw [hmd] at hma
    rw [hcd]
    obtain ⟨C3, x3, y3, C4, x4, y4, C5, x5, y5, C6, x6, y6, C7, x7, y7, C8, x8, y8, rfl⟩ := hma.form
    have hb05 := HB04.out.trans (hb5.mono HB04.out.size)
    have HB06 := Lib.hid (hb05.alloc hb05.size (.cells #[.int .i64 md.kind, .int .u64 (md.step : Int), .string md.event, .slice C3 x3 y3, .slice C4 x4 y4, .slice C5 x5 y5, .slice C6 x6 y6, .slice C7 x7 y7, .slice C8 x8 y8] 54))
    clear hb05 hma hm5 hb5 hmd hcd HSE HCE HB04 HBX4 H
    go_wp2
    go_ret
    exact ⟨rfl, HB06.out⟩

set_option maxRecDepth 100000 in
theorem walk (v0 : Value) (w : World) {H : Type} {enc : TypeId × Value → H} {base : Nat} {d : DataW H} {p : List MemPlace}
    (hv : Value.okWide Try.prog w .any base 54 v0) (h : DataW.Trod enc Try.prog w 0 (fun _ => true) true 54 v0 d p) (_lt1 : ∀ x ∈ p, x.block < w.heap.size) (hz : ∀ n ∈ d.weights Try.prog 54, n ≤ reachBytes) :
    Calls Try.prog 6 #[v0] w fun e w' => e = .returned (.bool true) ∧ Below w.heap.size w w' := by
  obtain ⟨m, hm, hf⟩ := open_msg hv h hz
  exact core w v0 m hm hf
end Go.Proofs.Ytgacphicgglogaa.wireTells
