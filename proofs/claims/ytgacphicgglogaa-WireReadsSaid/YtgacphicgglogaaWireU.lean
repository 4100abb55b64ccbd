/- Package wire: the example of its laws. -/
import Derived.Test.YtgacphicgglogaaWireT
import Derived.Test.YtgacphicgglogaaWireR
import Derived.Test.YtgacphicgglogaaWirePk
namespace Go.Proofs.Ytgacphicgglogaa
open Go.RowKit Crc
set_option linter.unusedVariables false

def m0 : MsgL := ⟨1, 5, ⟨#[103, 111]⟩, [1], [], [], [], [], []⟩
theorem m0_ok : m0.Ok := by decide
theorem encRes_eq (m : MsgL) (h : m.Ok) (hl : (msgB m).length ≤ 800) : encRes m = (bs (msgB m), 0) := by
  unfold encRes
  rw [if_pos h, if_neg (by omega)]
  rfl
theorem encRes_ok {m : MsgL} (h : (encRes m).2 = 0) : m.Ok ∧ (msgB m).length ≤ 800 ∧ (encRes m).1 = bs (msgB m) := by
  unfold encRes at h ⊢
  split at h
  · split at h
    · cases h
    · rename_i h1 h2
      rw [if_pos h1, if_neg h2]
      exact ⟨h1, by omega, rfl⟩
  · cases h
theorem encRes_bad {m : MsgL} (h : ¬ (encRes m).2 = 0) : (encRes m).1 = ⟨#[]⟩ := by
  unfold encRes at h ⊢
  split at h
  · rename_i h1
    rw [if_pos h1]
    split at h
    · rename_i h2
      rw [if_pos h2]
    · exact absurd rfl h
  · rename_i h1
    rw [if_neg h1]
/-- What was told is read. -/
theorem dec_enc (m : MsgL) (h : m.Ok) (hw : ∀ s ∈ m.sets, s.wf) (hst : m.step < 18446744073709551616) (hl : (msgB m).length ≤ 800) : decRes (bs (msgB m)) = (m, 0) := by
  unfold decRes
  rw [if_neg (by rw [bs_size]; omega), readR_msgB m h hw hst]

theorem MsgAt.form {w : World} {B : Nat} {v : Value} {m : MsgL} (h : MsgAt w B v m) : ∃ (A3 : Option Addr) (n3 k3 : Nat) (A4 : Option Addr) (n4 k4 : Nat) (A5 : Option Addr) (n5 k5 : Nat) (A6 : Option Addr) (n6 k6 : Nat) (A7 : Option Addr) (n7 k7 : Nat) (A8 : Option Addr) (n8 k8 : Nat),
    v = .agg #[.int .i64 m.kind, .int .u64 (m.step : Int), .string m.event, .slice A3 n3 k3, .slice A4 n4 k4, .slice A5 n5 k5, .slice A6 n6 k6, .slice A7 n7 k7, .slice A8 n8 k8] := by
  obtain ⟨v1, v2, v3, v4, v5, v6, rfl, a1, a2, a3, a4, a5, a6⟩ := h.ex
  obtain ⟨A1, n1, k1, rfl, _⟩ := a1
  obtain ⟨A2, n2, k2, rfl, _⟩ := a2
  obtain ⟨A3, n3, k3, rfl, _⟩ := a3
  obtain ⟨A4, n4, k4, rfl, _⟩ := a4
  obtain ⟨A5, n5, k5, rfl, _⟩ := a5
  obtain ⟨A6, n6, k6, rfl, _⟩ := a6
  exact ⟨_, _, _, _, _, _, _, _, _, _, _, _, _, _, _, _, _, _, rfl⟩
set_option maxHeartbeats 2000000 in
set_option maxRecDepth 100000 in
theorem wakes16_any (w : World) : Calls Try.prog 34 #[] w fun e w' => e = .returned (.bool true) ∧ Below w.heap.size w w' := by
  have hz54 : ∀ w, (zeroValue 54).run Try.prog w = .ok (.agg #[.int .i64 0, .int .u64 0, .string ⟨#[]⟩, .slice none 0 0, .slice none 0 0, .slice none 0 0, .slice none 0 0, .slice none 0 0, .slice none 0 0]) w := fun _ => by kernel_rfl
  go_enter Try.func34, Try.ntmps34
  go_wp2_with fail
  have hb0 : Below w.heap.size w ((w.alloc (.cells #[.int .i64 1] 3)).alloc (.cells #[.int .i64 1, .int .u64 5, .string ⟨#[103, 111]⟩, .slice (some ⟨w.heap.size, 0, none⟩) 1 1, .slice none 0 0, .slice none 0 0, .slice none 0 0, .slice none 0 0, .slice none 0 0] 54)) := ((Below.refl _ _).alloc (Nat.le_refl _) _).alloc (by rw [World.size_alloc]; omega) _
  have hbx : Blk ((w.alloc (.cells #[.int .i64 1] 3)).alloc (.cells #[.int .i64 1, .int .u64 5, .string ⟨#[103, 111]⟩, .slice (some ⟨w.heap.size, 0, none⟩) 1 1, .slice none 0 0, .slice none 0 0, .slice none 0 0, .slice none 0 0, .slice none 0 0] 54)) (w.heap.size + 1) 54 #[.int .i64 1, .int .u64 5, .string ⟨#[103, 111]⟩, .slice (some ⟨w.heap.size, 0, none⟩) 1 1, .slice none 0 0, .slice none 0 0, .slice none 0 0, .slice none 0 0, .slice none 0 0] := by
    have := Blk.new (w.alloc (.cells #[.int .i64 1] 3)) 54 #[.int .i64 1, .int .u64 5, .string ⟨#[103, 111]⟩, .slice (some ⟨w.heap.size, 0, none⟩) 1 1, .slice none 0 0, .slice none 0 0, .slice none 0 0, .slice none 0 0, .slice none 0 0]
    rw [World.size_alloc] at this
    exact this
  have hi : ∀ W : World, IntsAt W W.heap.size (.slice none 0 0) [] := fun W => ⟨none, 0, 0, rfl, rfl, by omega, Reads.none_⟩
  have hm0 : MsgAt ((w.alloc (.cells #[.int .i64 1] 3)).alloc (.cells #[.int .i64 1, .int .u64 5, .string ⟨#[103, 111]⟩, .slice (some ⟨w.heap.size, 0, none⟩) 1 1, .slice none 0 0, .slice none 0 0, .slice none 0 0, .slice none 0 0, .slice none 0 0] 54)) (w.heap.size + 1) (.agg #[.int .i64 1, .int .u64 5, .string ⟨#[103, 111]⟩, .slice (some ⟨w.heap.size, 0, none⟩) 1 1, .slice none 0 0, .slice none 0 0, .slice none 0 0, .slice none 0 0, .slice none 0 0]) m0 := by
    refine ⟨⟨_, _, _, _, _, _, rfl, ⟨_, 1, 1, rfl, rfl, by omega, rfl, fun _ => ⟨⟨w.heap.size, 0, none⟩, rfl, by simp, fun j u hu => ?_⟩⟩, ⟨none, 0, 0, rfl, rfl, by omega, Reads.none_⟩, ⟨none, 0, 0, rfl, rfl, by omega, Reads.none_⟩, ⟨none, 0, 0, rfl, rfl, by omega, Reads.none_⟩, ⟨none, 0, 0, rfl, rfl, by omega, fun i h => absurd h (by simp [m0])⟩, ⟨none, 0, 0, rfl, rfl, by omega, fun i h => absurd h (by simp [m0])⟩⟩, by decide, by decide, fun s hs => by cases hs⟩
    rw [World.cell?_alloc_lt _ _ _ (by rw [block_of_add, World.size_alloc]; exact Nat.lt_succ_self _)]
    exact cells_new w [.int .i64 1] _ j u hu
  have henc := encode_any ((w.alloc (.cells #[.int .i64 1] 3)).alloc (.cells #[.int .i64 1, .int .u64 5, .string ⟨#[103, 111]⟩, .slice (some ⟨w.heap.size, 0, none⟩) 1 1, .slice none 0 0, .slice none 0 0, .slice none 0 0, .slice none 0 0, .slice none 0 0] 54)) _ m0 (hm0.more (by rw [World.size_alloc, World.size_alloc]; omega))
  rw [encRes_eq m0 m0_ok (by decide)] at henc
  have HENC := Lib.hid henc
  have HM0 := Lib.hid hm0
  clear henc hi hm0
  generalize ((w.alloc (.cells #[.int .i64 1] 3)).alloc (.cells #[.int .i64 1, .int .u64 5, .string ⟨#[103, 111]⟩, .slice (some ⟨w.heap.size, 0, none⟩) 1 1, .slice none 0 0, .slice none 0 0, .slice none 0 0, .slice none 0 0, .slice none 0 0] 54)) = W0 at *
  have hsz0 := hbx.lt
  have HBX := Lib.hid hbx
  have HB0 := Lib.hid hb0
  clear hbx hb0
  have HE := Lib.hid HENC.out
  refine HENC.out.mono ?_
  rintro e W1 ⟨rfl, hb1⟩
  have HB1 := Lib.hid hb1
  clear hb1 HENC
  go_wp2_with fail
  refine (decode_any W1 (bs (msgB m0))).mono ?_
  rintro e W2 ⟨v2, rfl, hm2, hb2⟩
  rw [dec_enc m0 m0_ok (fun s hs => by cases hs) (by decide) (by decide)] at hm2 ⊢
  have HM2 := Lib.hid hm2
  obtain ⟨A3, n3, k3, A4, n4, k4, A5, n5, k5, A6, n6, k6, A7, n7, k7, A8, n8, k8, rfl⟩ := hm2.at_.form
  have HB2 := Lib.hid hb2
  clear hm2 hb2
  have hkind : m0.kind = 1 := rfl
  have hstep : (m0.step : Int) = 5 := rfl
  have hev : m0.event = ⟨#[103, 111]⟩ := rfl
  rw [hkind, hstep, hev] at HM2
  rw [hkind, hstep, hev]
  clear hkind hstep hev
  generalize bs (msgB m0) = sm at *
  go_wp2_with fail
  have hpk := pack_any 2 5 ByteArray.empty (W2.alloc (.cells #[.int .i64 1, .int .u64 5, .string ⟨#[103, 111]⟩, .slice A3 n3 k3, .slice A4 n4 k4, .slice A5 n5 k5, .slice A6 n6 k6, .slice A7 n7 k7, .slice A8 n8 k8] 54)) (by decide) (by decide)
  rw [show (2 : Int) = ((2 : Nat) : Int) from rfl, packRes_ok 2 5 ByteArray.empty (.inr ⟨rfl, rfl⟩) (by decide)] at hpk
  have hb2 := Blk.new W2 54 #[.int .i64 1, .int .u64 5, .string ⟨#[103, 111]⟩, .slice A3 n3 k3, .slice A4 n4 k4, .slice A5 n5 k5, .slice A6 n6 k6, .slice A7 n7 k7, .slice A8 n8 k8]
  have hb3 := (Below.refl W2.heap.size W2).alloc (Nat.le_refl _) (.cells #[.int .i64 1, .int .u64 5, .string ⟨#[103, 111]⟩, .slice A3 n3 k3, .slice A4 n4 k4, .slice A5 n5 k5, .slice A6 n6 k6, .slice A7 n7 k7, .slice A8 n8 k8] 54)
  generalize W2.alloc (.cells #[.int .i64 1, .int .u64 5, .string ⟨#[103, 111]⟩, .slice A3 n3 k3, .slice A4 n4 k4, .slice A5 n5 k5, .slice A6 n6 k6, .slice A7 n7 k7, .slice A8 n8 k8] 54) = W3 at *
  refine hpk.mono ?_
  rintro e W4 ⟨rfl, hb4⟩
  clear hpk
  have hup := unpack_any (packB 2 5 ByteArray.empty) W4 (by rw [packB_size]; decide)
  rw [unpack_pack 2 5 ByteArray.empty (.inr ⟨rfl, rfl⟩) (by decide) (by decide)] at hup
  have HUP := Lib.hid hup
  have hps : (packB 2 5 ByteArray.empty).size = 13 := packB_size _ _ _
  clear hup
  generalize packB 2 5 ByteArray.empty = pk at *
  have hblt := hb2.lt
  have HBB2 := Lib.hid (hb2.below hb4 hblt)
  have HB3 := Lib.hid (hb3.trans (hb4.mono hb3.size))
  clear hb2 hb3 hb4
  go_wp2_with fail
  refine HUP.out.mono ?_
  rintro e W5 ⟨rfl, hb5⟩
  have hb35 := HB3.out.trans (hb5.mono HB3.out.size)
  have hbb2 := HBB2.out.below hb5 (by have := HBB2.out.lt; exact this)
  have hb15 := HB1.out.trans ((HB2.out.trans (hb35.mono HB2.out.size)).mono HB1.out.size)
  have hbx1 := HBX.out.below hb15 hsz0
  have hma := (HM0.out.below (hb15.mono (Nat.le_of_lt hsz0))).more (show w.heap.size + 1 ≤ W5.heap.size from Nat.le_trans (Nat.le_of_lt hsz0) hb15.size)
  have hmb : MsgAt W5 W5.heap.size _ m0 := (HM2.out.at_.below hb35).more hb35.size
  have HSM := Lib.hid (sameMsg_eq W5 _ _ m0 hma hmb)
  have HBF := Lib.hid (HB0.out.trans (hb15.mono HB0.out.size))
  obtain ⟨c0, c1, c2, c3, c4, c5, c6, c7, c8⟩ := msg_cells hbx1
  obtain ⟨d0, d1, d2, d3, d4, d5, d6, d7, d8⟩ := msg_cells hbb2
  clear hma hmb hbx1 hbb2 hb15 hb35 hb5 HB3 HBB2 HM2 HM0 HBX HB0 HUP HE HB1 HB2
  go_wp2_with fail
  refine HSM.out.mono ?_
  rintro e W6 ⟨rfl, hb6⟩
  go_wp2
  go_ret
  exact ⟨rfl, HBF.out.trans (hb6.mono HBF.out.size)⟩
end Go.Proofs.Ytgacphicgglogaa
