/- The walk of WireCut. -/
import Derived.Test.YtgacphicgglogaaWireW
import Derived.Test.YtgacphicgglogaaMsgO
namespace Go.Proofs.Ytgacphicgglogaa.wireCut
open Go.RowKit Crc
set_option linter.unusedVariables false

theorem dec_cut {m : MsgL} {k : Nat} (h : m.Ok) (hw : ∀ s ∈ m.sets, s.wf) (hst : m.step < 18446744073709551616) (hl : (msgB m).length ≤ 800) (hk : k < (msgB m).length) : decRes ((bs (msgB m)).extract 0 k) = (.zero, 1) := by
  rw [(bs_cut (msgB m) k (Nat.le_of_lt hk)).1]
  unfold decRes
  rw [if_neg (by rw [bs_size, List.length_take]; omega), readR_cut h hw hst hk]
theorem dec_more {m : MsgL} {b : UInt8} (h : m.Ok) (hw : ∀ s ∈ m.sets, s.wf) (hst : m.step < 18446744073709551616) (hl : (msgB m).length ≤ 800) :
    ∃ g, decRes (bs (msgB m) ++ ⟨#[b]⟩) = (.zero, g) ∧ (g = 1 ∨ g = 4 ∧ (msgB m).length = 800) := by
  have he : bs (msgB m) ++ ⟨#[b]⟩ = bs (msgB m ++ [b]) := bs_ext (by rw [bs_list]; simp [bs])
  rw [he]
  unfold decRes
  rw [bs_size, List.length_append]
  by_cases h8 : (msgB m).length = 800
  · exact ⟨4, by rw [if_pos (by simp; omega)], .inr ⟨rfl, h8⟩⟩
  · exact ⟨1, by rw [if_neg (by simp; omega), readR_more h hw hst (by simp)], .inl rfl⟩
theorem msgB_pos (m : MsgL) : 0 < (msgB m).length := by
  unfold msgB msgHead
  simp

set_option maxHeartbeats 4000000 in
set_option maxRecDepth 100000 in
theorem core (w : World) (v : Value) (m : MsgL) (at_ : Nat) (b : UInt8) (h : MsgAt w w.heap.size v m) (hf : Fits m) (hat : at_ < 65536) :
    Calls Try.prog 11 #[v, .int .u16 (at_ : Int), .int .u8 (b.toNat : Int)] w fun e w' => e = .returned (.bool true) ∧ Below w.heap.size w w' := by
  have hz54 : ∀ w, (zeroValue 54).run Try.prog w = .ok (.agg #[.int .i64 0, .int .u64 0, .string ⟨#[]⟩, .slice none 0 0, .slice none 0 0, .slice none 0 0, .slice none 0 0, .slice none 0 0, .slice none 0 0]) w := fun _ => by kernel_rfl
  have hw := h.sets
  have hst := h.step
  have H := Lib.hid h
  have HF := Lib.hid hf
  obtain ⟨A3, n3, k3, A4, n4, k4, A5, n5, k5, A6, n6, k6, A7, n7, k7, A8, n8, k8, rfl⟩ := h.form
  clear h hf
  go_enter Try.func11, Try.ntmps11
  go_wp2_with fail
  have hb0 : Below w.heap.size w (w.alloc (.cells #[.int .i64 m.kind, .int .u64 (m.step : Int), .string m.event, .slice A3 n3 k3, .slice A4 n4 k4, .slice A5 n5 k5, .slice A6 n6 k6, .slice A7 n7 k7, .slice A8 n8 k8] 54)) := (Below.refl _ _).alloc (Nat.le_refl _) _
  generalize w.alloc (.cells #[.int .i64 m.kind, .int .u64 (m.step : Int), .string m.event, .slice A3 n3 k3, .slice A4 n4 k4, .slice A5 n5 k5, .slice A6 n6 k6, .slice A7 n7 k7, .slice A8 n8 k8] 54) = W0 at *
  refine (copied16_any W0 _ m ((H.out.below hb0).more hb0.size) HF.out).mono ?_
  rintro e w1 ⟨v', rfl, hm1, hb1⟩
  have hb01 := hb0.trans (hb1.mono hb0.size)
  have HB01 := Lib.hid hb01
  have HM1 := Lib.hid hm1
  clear hb0 hb1 hb01 hm1 H HF
  go_wp2_with fail
  refine (encode_any w1 _ m HM1.out).mono ?_
  rintro e w2 ⟨rfl, hb2⟩
  have hb02 := HB01.out.trans (hb2.mono HB01.out.size)
  have HB02 := Lib.hid hb02
  clear hb2 hb02 HB01 HM1
  by_cases hc : (encRes m).2 = 0
  case neg =>
    rw [encRes_bad hc]
    generalize (encRes m).2 = c at *
    have hcb : (c != 0) = true := by simpa using hc
    go_wp2_with fail
    refine (wakes16_any w2).mono ?_
    rintro e w3 ⟨rfl, hb3⟩
    go_wp2
    go_ret
    exact ⟨rfl, HB02.out.trans (hb3.mono HB02.out.size)⟩
  obtain ⟨hok, hl8, hs⟩ := encRes_ok hc
  rw [hs, hc]
  have hd1 := fun k hk => dec_cut (k := k) hok hw hst hl8 hk
  have hd2 := dec_more (b := b) hok hw hst hl8
  have hpos := msgB_pos m
  obtain ⟨s, hse⟩ : ∃ s, bs (msgB m) = s := ⟨_, rfl⟩
  have hsz : s.size = (msgB m).length := by rw [← hse, bs_size]
  rw [hse] at hd1 hd2 ⊢
  obtain ⟨L, hL⟩ : ∃ L, (msgB m).length = L := ⟨_, rfl⟩
  rw [hL] at hd1 hd2 hsz hpos hl8
  obtain ⟨k, hk⟩ : ∃ k, at_ % L = k := ⟨_, rfl⟩
  have hkL : k < L := by rw [← hk]; exact Nat.mod_lt _ hpos
  have HD1 := Lib.hid (hd1 k hkL)
  obtain ⟨g, hg, hgc⟩ := hd2
  obtain ⟨t1, ht1⟩ : ∃ t1 : ByteArray, (⟨#[b]⟩ : ByteArray) = t1 := ⟨_, rfl⟩
  have ht1s : t1.size = 1 := by rw [← ht1]; rfl
  rw [ht1] at hg
  have HT1 := Lib.hid ht1
  have HD2 := Lib.hid hg
  have HGC := Lib.hid hgc
  have hkm : (at_ : Int) % (s.size : Int) = (k : Int) := by rw [hsz, ← hk, Int.natCast_emod]
  have hwat : IntKind.i64.wrap (at_ : Int) = (at_ : Int) := IntWalk.i64_in _ (by omega)
  have hss : s.size ≤ 800 := by omega
  have hks : k < s.size := by omega
  have HLS := Lib.hid hsz
  clear ht1 hd1 hg hgc hse hs hc hok hw hst hL hk hkL hsz hpos hl8
  go_wp2_with fail
  refine (wakes16_any w2).mono ?_
  rintro e w3 ⟨rfl, hb3⟩
  have hb03 := HB02.out.trans (hb3.mono HB02.out.size)
  have HB03 := Lib.hid hb03
  clear hb3 hb03 HB02
  go_wp2_with fail
  refine (decode_any w3 _).mono ?_
  rintro e w4 ⟨v4, rfl, hm4, hb4⟩
  rw [HD1.out] at hm4 ⊢
  obtain ⟨B3, p3, q3, B4, p4, q4, B5, p5, q5, B6, p6, q6, B7, p7, q7, B8, p8, q8, rfl⟩ := hm4.at_.form
  rw [show MsgL.zero.kind = 0 from rfl, show ((MsgL.zero.step : Nat) : Int) = 0 from rfl, show MsgL.zero.event = ⟨#[]⟩ from rfl]
  have hb04 := HB03.out.trans (hb4.mono HB03.out.size)
  have hb05 := (hb04.alloc hb04.size (.cells #[.int .i64 0, .int .u64 0, .string ⟨#[]⟩, .slice B3 p3 q3, .slice B4 p4 q4, .slice B5 p5 q5, .slice B6 p6 q6, .slice B7 p7 q7, .slice B8 p8 q8] 54))
  have hb06 := hb05.alloc hb05.size (.cells #[.int .u8 (b.toNat : Int)] 5)
  have HB06 := Lib.hid hb06
  have hrow := Row.of_blk (Blk.new (w4.alloc (.cells #[.int .i64 0, .int .u64 0, .string ⟨#[]⟩, .slice B3 p3 q3, .slice B4 p4 q4, .slice B5 p5 q5, .slice B6 p6 q6, .slice B7 p7 q7, .slice B8 p8 q8] 54)) 5 #[.int .u8 (b.toNat : Int)])
  rw [World.size_alloc] at hrow
  have hrow2 : Row _ (w4.heap.size + 1) 5 (byteVals [b]) := hrow
  have HROW := Lib.hid hrow2
  clear hrow2
  clear hrow hb06 hb05 hb04 hm4 hb4 HB03 HD1
  go_wp2_with (refine wpList_unbytes rfl (.tmp 39) 75 9 5 rfl Try.underlying75 Try.underlying5 Try.underlying9 (w4.heap.size + 1) 1 1 [b] rfl rfl HROW.out ?_; rw [show (⟨[b].toArray⟩ : ByteArray) = t1 from HT1.out]; generalize (w4.alloc _).alloc (.cells #[.int .u8 (b.toNat : Int)] 5) = W6 at *)
  refine (decode_any W6 _).mono ?_
  rintro e w7 ⟨v7, rfl, hm7, hb7⟩
  rw [HD2.out] at hm7 ⊢
  have hma := hm7.at_
  obtain ⟨C3, x3, y3, C4, x4, y4, C5, x5, y5, C6, x6, y6, C7, x7, y7, C8, x8, y8, rfl⟩ := hma.form
  rw [show MsgL.zero.kind = 0 from rfl, show ((MsgL.zero.step : Nat) : Int) = 0 from rfl, show MsgL.zero.event = ⟨#[]⟩ from rfl] at hma
  rw [show MsgL.zero.kind = 0 from rfl, show ((MsgL.zero.step : Nat) : Int) = 0 from rfl, show MsgL.zero.event = ⟨#[]⟩ from rfl]
  have hb07 := HB06.out.trans (hb7.mono HB06.out.size)
  have hb8 := (Below.refl w7.heap.size w7).alloc (Nat.le_refl _) (.cells #[.int .i64 0, .int .u64 0, .string ⟨#[]⟩, .slice C3 x3 y3, .slice C4 x4 y4, .slice C5 x5 y5, .slice C6 x6 y6, .slice C7 x7 y7, .slice C8 x8 y8] 54)
  have HB08 := Lib.hid (hb07.trans (hb8.mono hb07.size))
  have HM8 := Lib.hid ((hma.below hb8).more hb8.size)
  clear hb07 hb7 hb8 hm7 hma HB06 HD2
  have hsz := HLS.out
  rcases HGC.out with hg1 | ⟨hg4, h800⟩
  · rw [hg1]
    clear hg1 HGC HLS hsz hkm hwat hks ht1s hat
    go_wp2_with fail
    refine (sameMsg_eq _ _ _ .zero HM8.out (msgAt_zero _)).mono ?_
    rintro e w9 ⟨rfl, hb9⟩
    go_wp2
    go_ret
    exact ⟨rfl, HB08.out.trans (hb9.mono HB08.out.size)⟩
  · have hs8 : s.size = 800 := by omega
    rw [hg4]
    clear hg4 HGC HLS hsz hkm hwat hks ht1s hat h800
    go_wp2_with fail
    refine (sameMsg_eq _ _ _ .zero HM8.out (msgAt_zero _)).mono ?_
    rintro e w9 ⟨rfl, hb9⟩
    go_wp2
    go_ret
    exact ⟨rfl, HB08.out.trans (hb9.mono HB08.out.size)⟩

set_option maxRecDepth 100000 in
theorem walk (v0 : Value) (a1 a2 : Int) (w : World) {H : Type} {enc : TypeId × Value → H} {base : Nat} {d : DataW H} {p : List MemPlace}
    (hv : Value.okWide Try.prog w .any base 54 v0) (h : DataW.Trod enc Try.prog w 0 (fun _ => true) true 54 v0 d p) (_lt1 : ∀ x ∈ p, x.block < w.heap.size) (hz : ∀ n ∈ d.weights Try.prog 54, n ≤ reachBytes)
    (w1 : (Lit.int .u16 a1).wf = true) (w2 : (Lit.int .u8 a2).wf = true) :
    Calls Try.prog 11 #[v0, .int .u16 a1, .int .u8 a2] w fun e w' => e = .returned (.bool true) ∧ Below w.heap.size w w' := by
  obtain ⟨m, hm, hf⟩ := open_msg hv h hz
  have e1 := bounds_u16 w1
  have e2 := bounds_u8 w2
  obtain ⟨n1, rfl⟩ : ∃ n : Nat, a1 = (n : Int) := ⟨a1.toNat, by omega⟩
  obtain ⟨n2, rfl⟩ : ∃ n : Nat, a2 = (n : Int) := ⟨a2.toNat, by omega⟩
  have hb : n2 = (UInt8.ofNat n2).toNat := by
    rw [UInt8.toNat_ofNat']
    omega
  rw [hb]
  exact core w v0 m n1 (UInt8.ofNat n2) hm hf (by omega)
end Go.Proofs.Ytgacphicgglogaa.wireCut
