/- Law 'copied': the walk. Printed by mk_copied.py. -/
import Derived.Test.YtgacphicgglogaaWireV
namespace Go.Proofs.Ytgacphicgglogaa
open Go.RowKit Crc
set_option linter.unusedVariables false

set_option maxHeartbeats 8000000 in
set_option maxRecDepth 100000 in
theorem copied16_any (w : World) (v : Value) (m : MsgL) (h : MsgAt w w.heap.size v m) (hf : Fits m) :
    Calls Try.prog 32 #[v] w fun e w' => ∃ v', e = .returned v' ∧ MsgAt w' w'.heap.size v' m ∧ Below w.heap.size w w' := by
  have hz54 : ∀ w, (zeroValue 54).run Try.prog w = .ok (.agg #[.int .i64 0, .int .u64 0, .string ⟨#[]⟩, .slice none 0 0, .slice none 0 0, .slice none 0 0, .slice none 0 0, .slice none 0 0, .slice none 0 0]) w := fun _ => by kernel_rfl
  obtain ⟨ii, hii0, hix0, hix1, hix2⟩ := info_parts i64_info
  obtain ⟨si, hsi0, hsx0, hsx1, hsx2⟩ := info_parts set_info
  obtain ⟨pi, hpi0, hpx0, hpx1, hpx2⟩ := info_parts past_info
  have HMS := Lib.hid (And.intro h.step (And.intro h.event h.sets))
  obtain ⟨v3, v4, v5, v6, v7, v8, rfl, a3, a4, a5, a6, a7, a8⟩ := h.ex
  obtain ⟨A3, c3, rfl, r3⟩ := a3.reads
  obtain ⟨A4, c4, rfl, r4⟩ := a4.reads
  obtain ⟨A5, c5, rfl, r5⟩ := a5.reads
  obtain ⟨A6, c6, rfl, r6⟩ := a6.reads
  obtain ⟨A7, c7, rfl, r7⟩ := a7.reads
  obtain ⟨A8, c8, ps, rfl, hps, r8, hin⟩ := a8.reads
  have o3 := intV_one m.trans
  have o4 := intV_one m.states
  have o5 := intV_one m.enter
  have o6 := intV_one m.vars
  have o7 := setsV_one m.sets
  have o8 := pastsV_one hin
  have HRD := Lib.hid (And.intro r3 (And.intro r4 (And.intro r5 (And.intro r6 (And.intro r7 r8)))))
  have HIN := Lib.hid hin
  have HPS := Lib.hid hps
  have HF := Lib.hid hf
  clear h a3 a4 a5 a6 a7 a8 r3 r4 r5 r6 r7 r8 hin hps hf
  obtain ⟨B, hB⟩ : ∃ B, w.heap.size = B := ⟨_, rfl⟩
  have HBE := Lib.hid hB
  go_enter Try.func32, Try.ntmps32

  have hcp2 : Cp w ((w.alloc (.cells #[.int .i64 m.kind, .int .u64 (m.step : Int), .string m.event, .slice A3 m.trans.length c3, .slice A4 m.states.length c4, .slice A5 m.enter.length c5, .slice A6 m.vars.length c6, .slice A7 m.sets.length c7, .slice A8 m.pasts.length c8] 54)).alloc (.cells #[.int .i64 0, .int .u64 0, .string ⟨#[]⟩, .slice none 0 0, .slice none 0 0, .slice none 0 0, .slice none 0 0, .slice none 0 0, .slice none 0 0] 54)) B #[.int .i64 m.kind, .int .u64 (m.step : Int), .string m.event, .slice A3 m.trans.length c3, .slice A4 m.states.length c4, .slice A5 m.enter.length c5, .slice A6 m.vars.length c6, .slice A7 m.sets.length c7, .slice A8 m.pasts.length c8] := Cp.new w B HBE.out _
  have hH2 : ((w.alloc (.cells #[.int .i64 m.kind, .int .u64 (m.step : Int), .string m.event, .slice A3 m.trans.length c3, .slice A4 m.states.length c4, .slice A5 m.enter.length c5, .slice A6 m.vars.length c6, .slice A7 m.sets.length c7, .slice A8 m.pasts.length c8] 54)).alloc (.cells #[.int .i64 0, .int .u64 0, .string ⟨#[]⟩, .slice none 0 0, .slice none 0 0, .slice none 0 0, .slice none 0 0, .slice none 0 0, .slice none 0 0] 54)).heap.size = B + 1 + 1 := by simp only [World.size_alloc, hB]
  have hr := HRD.out
  rw [hB] at hr
  have HR := Lib.hid hr
  have HC2 := Lib.hid hcp2
  have HH2 := Lib.hid hH2
  clear hr hcp2 hH2

  -- trans
  have hqa3 := ((HR.out.1.below HC2.out.bel).more (show B ≤ _ from Nat.le_trans (Nat.le_add_right B 2) HC2.out.sz)).alloc (Nat.le_refl _) (.cells #[] 3)
  have hown3 := World.ownsRow_made ((w.alloc (.cells #[.int .i64 m.kind, .int .u64 (m.step : Int), .string m.event, .slice A3 m.trans.length c3, .slice A4 m.states.length c4, .slice A5 m.enter.length c5, .slice A6 m.vars.length c6, .slice A7 m.sets.length c7, .slice A8 m.pasts.length c8] 54)).alloc (.cells #[.int .i64 0, .int .u64 0, .string ⟨#[]⟩, .slice none 0 0, .slice none 0 0, .slice none 0 0, .slice none 0 0, .slice none 0 0, .slice none 0 0] 54)) #[] 0 (Nat.le_refl _) (Nat.zero_le _) rfl (e := 3) (size := 1)
  rw [HH2.out] at hqa3 hown3
  have hl3 := HF.out.trans
  obtain ⟨x0, x1, x2, x3, x4, x5, x6, x7, x8⟩ := msg_cells HC2.out.box
  have hlt := HC2.out.box.lt
  have hsz := HC2.out.sz
  rw [HH2.out] at hlt hsz
  go_wp2_with (at_builtin; refine wpList_append_any _ rfl _ _ 50 rfl _ 3 ii _ 1 8 Try.underlying50 hii0 hix0 hix1 hix2 rfl (by decide) _ 0 [] rfl hown3 _ A3 m.trans.length c3 (intV m.trans) rfl hqa3 o3 ?d3 ?d4 ?d5 ?_)
  case d3 => unfold maxLen; omega
  case d4 => omega
  case d5 => simp only [World.size_alloc, World.size_setCell, hB]; omega
  intro u3 w3 hw3 hg3 _
  obtain ⟨B3, e3, rfl⟩ := own_form hw3
  obtain ⟨_, hb3, hres3⟩ := HC2.out.grow HH2.out hg3 hw3

  obtain ⟨hcp, hkeep, htt⟩ := HC2.out.step HH2.out hg3 hw3 3
  have HC3 : Hid (Cp w (w3.setCell ⟨B, 3, none⟩ (.slice B3 m.trans.length e3)) B #[.int .i64 m.kind, .int .u64 (m.step : Int), .string m.event, .slice B3 m.trans.length e3, .slice A4 m.states.length c4, .slice A5 m.enter.length c5, .slice A6 m.vars.length c6, .slice A7 m.sets.length c7, .slice A8 m.pasts.length c8]) := Lib.hid hcp
  have HK3 := Lib.hid hkeep
  have HT3 := Lib.hid htt
  have HH3 := Lib.hid (show (w3.setCell ⟨B, 3, none⟩ (.slice B3 m.trans.length e3)).heap.size = w3.heap.size from World.size_setCell _ _ _)
  clear hcp hkeep htt hqa3 hown3 hl3 x0 x1 x2 x3 x4 x5 x6 x7 x8 hw3 hg3 hlt hsz
  have hfz := hb3.frozen 3
  have hlw3 := hb3.lt
  obtain ⟨_, _, _, y3, y4, y5, y6, y7, y8⟩ := msg_cells hb3

  -- states
  have hqa4 := ((HR.out.2.1.below HC3.out.bel).more (show B ≤ _ from Nat.le_trans (Nat.le_add_right B 2) HC3.out.sz)).alloc (Nat.le_refl _) (.cells #[] 3)
  have hown4 := World.ownsRow_made (w3.setCell ⟨B, 3, none⟩ (.slice B3 m.trans.length e3)) #[] 0 (Nat.le_refl _) (Nat.zero_le _) rfl (e := 3) (size := 1)
  rw [HH3.out] at hqa4 hown4
  have hl4 := HF.out.states
  obtain ⟨x0, x1, x2, x3, x4, x5, x6, x7, x8⟩ := msg_cells HC3.out.box
  have hlt := HC3.out.box.lt
  have hsz := HC3.out.sz
  rw [HH3.out] at hlt hsz
  go_wp2_with (at_builtin; refine wpList_append_any _ rfl _ _ 50 rfl _ 3 ii _ 1 8 Try.underlying50 hii0 hix0 hix1 hix2 rfl (by decide) _ 0 [] rfl hown4 _ A4 m.states.length c4 (intV m.states) rfl hqa4 o4 ?d3 ?d4 ?d5 ?_)
  case d3 => unfold maxLen; omega
  case d4 => omega
  case d5 => simp only [World.size_alloc, World.size_setCell, hB]; omega
  intro u4 w4 hw4 hg4 _
  obtain ⟨B4, e4, rfl⟩ := own_form hw4
  obtain ⟨_, hb4, hres4⟩ := HC3.out.grow HH3.out hg4 hw4

  obtain ⟨hcp, hkeep, htt⟩ := HC3.out.step HH3.out hg4 hw4 4
  have HC4 : Hid (Cp w (w4.setCell ⟨B, 4, none⟩ (.slice B4 m.states.length e4)) B #[.int .i64 m.kind, .int .u64 (m.step : Int), .string m.event, .slice B3 m.trans.length e3, .slice B4 m.states.length e4, .slice A5 m.enter.length c5, .slice A6 m.vars.length c6, .slice A7 m.sets.length c7, .slice A8 m.pasts.length c8]) := Lib.hid hcp
  have HK4 := Lib.hid hkeep
  have HT4 := Lib.hid htt
  have HH4 := Lib.hid (show (w4.setCell ⟨B, 4, none⟩ (.slice B4 m.states.length e4)).heap.size = w4.heap.size from World.size_setCell _ _ _)
  clear hcp hkeep htt hqa4 hown4 hl4 x0 x1 x2 x3 x4 x5 x6 x7 x8 hw4 hg4 hlt hsz
  have hfz := hb4.frozen 4
  have hlw4 := hb4.lt
  obtain ⟨_, _, _, y3, y4, y5, y6, y7, y8⟩ := msg_cells hb4

  -- enter
  have hqa5 := ((HR.out.2.2.1.below HC4.out.bel).more (show B ≤ _ from Nat.le_trans (Nat.le_add_right B 2) HC4.out.sz)).alloc (Nat.le_refl _) (.cells #[] 3)
  have hown5 := World.ownsRow_made (w4.setCell ⟨B, 4, none⟩ (.slice B4 m.states.length e4)) #[] 0 (Nat.le_refl _) (Nat.zero_le _) rfl (e := 3) (size := 1)
  rw [HH4.out] at hqa5 hown5
  have hl5 := HF.out.enter
  obtain ⟨x0, x1, x2, x3, x4, x5, x6, x7, x8⟩ := msg_cells HC4.out.box
  have hlt := HC4.out.box.lt
  have hsz := HC4.out.sz
  rw [HH4.out] at hlt hsz
  go_wp2_with (at_builtin; refine wpList_append_any _ rfl _ _ 50 rfl _ 3 ii _ 1 8 Try.underlying50 hii0 hix0 hix1 hix2 rfl (by decide) _ 0 [] rfl hown5 _ A5 m.enter.length c5 (intV m.enter) rfl hqa5 o5 ?d3 ?d4 ?d5 ?_)
  case d3 => unfold maxLen; omega
  case d4 => omega
  case d5 => simp only [World.size_alloc, World.size_setCell, hB]; omega
  intro u5 w5 hw5 hg5 _
  obtain ⟨B5, e5, rfl⟩ := own_form hw5
  obtain ⟨_, hb5, hres5⟩ := HC4.out.grow HH4.out hg5 hw5

  obtain ⟨hcp, hkeep, htt⟩ := HC4.out.step HH4.out hg5 hw5 5
  have HC5 : Hid (Cp w (w5.setCell ⟨B, 5, none⟩ (.slice B5 m.enter.length e5)) B #[.int .i64 m.kind, .int .u64 (m.step : Int), .string m.event, .slice B3 m.trans.length e3, .slice B4 m.states.length e4, .slice B5 m.enter.length e5, .slice A6 m.vars.length c6, .slice A7 m.sets.length c7, .slice A8 m.pasts.length c8]) := Lib.hid hcp
  have HK5 := Lib.hid hkeep
  have HT5 := Lib.hid htt
  have HH5 := Lib.hid (show (w5.setCell ⟨B, 5, none⟩ (.slice B5 m.enter.length e5)).heap.size = w5.heap.size from World.size_setCell _ _ _)
  clear hcp hkeep htt hqa5 hown5 hl5 x0 x1 x2 x3 x4 x5 x6 x7 x8 hw5 hg5 hlt hsz
  have hfz := hb5.frozen 5
  have hlw5 := hb5.lt
  obtain ⟨_, _, _, y3, y4, y5, y6, y7, y8⟩ := msg_cells hb5

  -- vars
  have hqa6 := ((HR.out.2.2.2.1.below HC5.out.bel).more (show B ≤ _ from Nat.le_trans (Nat.le_add_right B 2) HC5.out.sz)).alloc (Nat.le_refl _) (.cells #[] 3)
  have hown6 := World.ownsRow_made (w5.setCell ⟨B, 5, none⟩ (.slice B5 m.enter.length e5)) #[] 0 (Nat.le_refl _) (Nat.zero_le _) rfl (e := 3) (size := 1)
  rw [HH5.out] at hqa6 hown6
  have hl6 := HF.out.vars
  obtain ⟨x0, x1, x2, x3, x4, x5, x6, x7, x8⟩ := msg_cells HC5.out.box
  have hlt := HC5.out.box.lt
  have hsz := HC5.out.sz
  rw [HH5.out] at hlt hsz
  go_wp2_with (at_builtin; refine wpList_append_any _ rfl _ _ 50 rfl _ 3 ii _ 1 8 Try.underlying50 hii0 hix0 hix1 hix2 rfl (by decide) _ 0 [] rfl hown6 _ A6 m.vars.length c6 (intV m.vars) rfl hqa6 o6 ?d3 ?d4 ?d5 ?_)
  case d3 => unfold maxLen; omega
  case d4 => omega
  case d5 => simp only [World.size_alloc, World.size_setCell, hB]; omega
  intro u6 w6 hw6 hg6 _
  obtain ⟨B6, e6, rfl⟩ := own_form hw6
  obtain ⟨_, hb6, hres6⟩ := HC5.out.grow HH5.out hg6 hw6

  obtain ⟨hcp, hkeep, htt⟩ := HC5.out.step HH5.out hg6 hw6 6
  have HC6 : Hid (Cp w (w6.setCell ⟨B, 6, none⟩ (.slice B6 m.vars.length e6)) B #[.int .i64 m.kind, .int .u64 (m.step : Int), .string m.event, .slice B3 m.trans.length e3, .slice B4 m.states.length e4, .slice B5 m.enter.length e5, .slice B6 m.vars.length e6, .slice A7 m.sets.length c7, .slice A8 m.pasts.length c8]) := Lib.hid hcp
  have HK6 := Lib.hid hkeep
  have HT6 := Lib.hid htt
  have HH6 := Lib.hid (show (w6.setCell ⟨B, 6, none⟩ (.slice B6 m.vars.length e6)).heap.size = w6.heap.size from World.size_setCell _ _ _)
  clear hcp hkeep htt hqa6 hown6 hl6 x0 x1 x2 x3 x4 x5 x6 x7 x8 hw6 hg6 hlt hsz
  have hfz := hb6.frozen 6
  have hlw6 := hb6.lt
  obtain ⟨_, _, _, y3, y4, y5, y6, y7, y8⟩ := msg_cells hb6

  -- sets
  have hqa7 := ((HR.out.2.2.2.2.1.below HC6.out.bel).more (show B ≤ _ from Nat.le_trans (Nat.le_add_right B 2) HC6.out.sz)).alloc (Nat.le_refl _) (.cells #[] 111)
  have hown7 := World.ownsRow_made (w6.setCell ⟨B, 6, none⟩ (.slice B6 m.vars.length e6)) #[] 0 (Nat.le_refl _) (Nat.zero_le _) rfl (e := 111) (size := 4)
  rw [HH6.out] at hqa7 hown7
  have hl7 := HF.out.sets
  obtain ⟨x0, x1, x2, x3, x4, x5, x6, x7, x8⟩ := msg_cells HC6.out.box
  have hlt := HC6.out.box.lt
  have hsz := HC6.out.sz
  rw [HH6.out] at hlt hsz
  go_wp2_with (at_builtin; refine wpList_append_any _ rfl _ _ 51 rfl _ 111 si _ 4 32 Try.underlying51 hsi0 hsx0 hsx1 hsx2 rfl (by decide) _ 0 [] rfl hown7 _ A7 m.sets.length c7 (setsV m.sets) rfl hqa7 o7 ?d3 ?d4 ?d5 ?_)
  case d3 => unfold maxLen; omega
  case d4 => omega
  case d5 => simp only [World.size_alloc, World.size_setCell, hB]; omega
  intro u7 w7 hw7 hg7 _
  obtain ⟨B7, e7, rfl⟩ := own_form hw7
  obtain ⟨_, hb7, hres7⟩ := HC6.out.grow HH6.out hg7 hw7

  obtain ⟨hcp, hkeep, htt⟩ := HC6.out.step HH6.out hg7 hw7 7
  have HC7 : Hid (Cp w (w7.setCell ⟨B, 7, none⟩ (.slice B7 m.sets.length e7)) B #[.int .i64 m.kind, .int .u64 (m.step : Int), .string m.event, .slice B3 m.trans.length e3, .slice B4 m.states.length e4, .slice B5 m.enter.length e5, .slice B6 m.vars.length e6, .slice B7 m.sets.length e7, .slice A8 m.pasts.length c8]) := Lib.hid hcp
  have HK7 := Lib.hid hkeep
  have HT7 := Lib.hid htt
  have HH7 := Lib.hid (show (w7.setCell ⟨B, 7, none⟩ (.slice B7 m.sets.length e7)).heap.size = w7.heap.size from World.size_setCell _ _ _)
  clear hcp hkeep htt hqa7 hown7 hl7 x0 x1 x2 x3 x4 x5 x6 x7 x8 hw7 hg7 hlt hsz
  have hfz := hb7.frozen 7
  have hlw7 := hb7.lt
  obtain ⟨_, _, _, y3, y4, y5, y6, y7, y8⟩ := msg_cells hb7

  -- pasts
  have hqa8 := ((HR.out.2.2.2.2.2.below HC7.out.bel).more (show B ≤ _ from Nat.le_trans (Nat.le_add_right B 2) HC7.out.sz)).alloc (Nat.le_refl _) (.cells #[] 113)
  have hown8 := World.ownsRow_made (w7.setCell ⟨B, 7, none⟩ (.slice B7 m.sets.length e7)) #[] 0 (Nat.le_refl _) (Nat.zero_le _) rfl (e := 113) (size := 2)
  rw [HH7.out] at hqa8 hown8
  have hl8 := HF.out.pasts
  obtain ⟨x0, x1, x2, x3, x4, x5, x6, x7, x8⟩ := msg_cells HC7.out.box
  have hlt := HC7.out.box.lt
  have hsz := HC7.out.sz
  rw [HH7.out] at hlt hsz
  go_wp2_with (at_builtin; refine wpList_append_any _ rfl _ _ 52 rfl _ 113 pi _ 2 32 Try.underlying52 hpi0 hpx0 hpx1 hpx2 rfl (by decide) _ 0 [] rfl hown8 _ A8 m.pasts.length c8 (pastsV ps) rfl hqa8 o8 ?d3 ?d4 ?d5 ?_)
  case d3 => unfold maxLen; omega
  case d4 => omega
  case d5 => simp only [World.size_alloc, World.size_setCell, hB]; omega
  intro u8 w8 hw8 hg8 _
  obtain ⟨B8, e8, rfl⟩ := own_form hw8
  obtain ⟨_, hb8, hres8⟩ := HC7.out.grow HH7.out hg8 hw8

  obtain ⟨hcp, hkeep, htt⟩ := HC7.out.step HH7.out hg8 hw8 8
  have HC8 : Hid (Cp w (w8.setCell ⟨B, 8, none⟩ (.slice B8 m.pasts.length e8)) B #[.int .i64 m.kind, .int .u64 (m.step : Int), .string m.event, .slice B3 m.trans.length e3, .slice B4 m.states.length e4, .slice B5 m.enter.length e5, .slice B6 m.vars.length e6, .slice B7 m.sets.length e7, .slice B8 m.pasts.length e8]) := Lib.hid hcp
  have HK8 := Lib.hid hkeep
  have HT8 := Lib.hid htt
  have HH8 := Lib.hid (show (w8.setCell ⟨B, 8, none⟩ (.slice B8 m.pasts.length e8)).heap.size = w8.heap.size from World.size_setCell _ _ _)
  clear hcp hkeep htt hqa8 hown8 hl8 x0 x1 x2 x3 x4 x5 x6 x7 x8 hw8 hg8 hlt hsz
  have hfz := hb8.frozen 8
  have hlw8 := hb8.lt
  obtain ⟨_, _, _, y3, y4, y5, y6, y7, y8⟩ := msg_cells hb8

  obtain ⟨y0, y1, y2, _, _, _, _, _, _⟩ := msg_cells hb8
  have f0 := hres8.frozen 0
  have f1 := hres8.frozen 1
  have f2 := hres8.frozen 2
  have f3 := hres8.frozen 3
  have f4 := hres8.frozen 4
  have f5 := hres8.frozen 5
  have f6 := hres8.frozen 6
  have f7 := hres8.frozen 7
  have f8 := hres8.frozen 8
  have hlr := hres8.lt
  obtain ⟨r0, r1, r2, r3, r4, r5, r6, r7, r8⟩ := msg_cells hres8
  clear hb8 hres8
  go_wp2
  obtain ⟨fin, hfe, hN, hT⟩ := nine_ex (.int .i64 m.kind) (.int .u64 (m.step : Int)) (.string m.event) (.slice B3 m.trans.length e3) (.slice B4 m.states.length e4) (.slice B5 m.enter.length e5) (.slice B6 m.vars.length e6) (.slice B7 m.sets.length e7) (.slice B8 m.pasts.length e8) HC8.out.res
  rw [← hfe]
  have HFE := Lib.hid hfe
  clear hfe
  refine bodyPost_ret (results_msg1 rfl _ _ (B + 1) _ _ _ _ _ _ _ _ _ rfl hN) rfl ?_
  have hfin := hT.size
  rw [HBE.out]
  refine ⟨_, rfl, ?_, HC8.out.bel.trans (hT.below (by have := HC8.out.sz; omega) (fun k h => by omega))⟩
  have t8 := hT.more (S1 := fun k => k = B ∨ k = B + 1) (fun k h => .inr h)

  have t7 := (HT8.out.more (S1 := fun k => k = B ∨ k = B + 1) (fun k h => .inl h)).trans t8 (fun k hk => .inl hk)
  have t6 := (HT7.out.more (S1 := fun k => k = B ∨ k = B + 1) (fun k h => .inl h)).trans t7 (fun k hk => .inl hk)
  have t5 := (HT6.out.more (S1 := fun k => k = B ∨ k = B + 1) (fun k h => .inl h)).trans t6 (fun k hk => .inl hk)
  have t4 := (HT5.out.more (S1 := fun k => k = B ∨ k = B + 1) (fun k h => .inl h)).trans t5 (fun k hk => .inl hk)
  have t3 := (HT4.out.more (S1 := fun k => k = B ∨ k = B + 1) (fun k h => .inl h)).trans t4 (fun k hk => .inl hk)
  have q3 := t3.own HK3.out (fun k hk => by have h0 := (HK3.out.lt k hk).1; omega)
  have q4 := t4.own HK4.out (fun k hk => by have h0 := (HK4.out.lt k hk).1; have h1 := HC3.out.sz; rw [HH3.out] at h1; omega)
  have q5 := t5.own HK5.out (fun k hk => by have h0 := (HK5.out.lt k hk).1; have h1 := HC4.out.sz; rw [HH4.out] at h1; omega)
  have q6 := t6.own HK6.out (fun k hk => by have h0 := (HK6.out.lt k hk).1; have h1 := HC5.out.sz; rw [HH5.out] at h1; omega)
  have q7 := t7.own HK7.out (fun k hk => by have h0 := (HK7.out.lt k hk).1; have h1 := HC6.out.sz; rw [HH6.out] at h1; omega)
  have q8 := t8.own HK8.out (fun k hk => by have h0 := (HK8.out.lt k hk).1; have h1 := HC7.out.sz; rw [HH7.out] at h1; omega)
  have hpl : m.pasts.length = ps.length := by rw [← HPS.out, List.length_map]
  rw [hpl] at q8
  have hbel := HC8.out.bel.trans (hT.below (by have := HC8.out.sz; omega) (fun k h => by omega))
  have hfs : B ≤ fin.heap.size := by have := HC8.out.sz; omega
  have hin : ∀ x ∈ ps, IntsAt fin fin.heap.size x.2 x.1.set := fun x hx => by
    have h0 := HIN.out x hx
    rw [HBE.out] at h0
    exact (h0.below hbel).more hfs
  have z8 := pastsAt_of_own q8 hin
  rw [HPS.out, ← hpl] at z8
  exact ⟨⟨_, _, _, _, _, _, rfl, (KI.of_own q3).ints, (KI.of_own q4).ints, (KI.of_own q5).ints, (KI.of_own q6).ints, setsAt_of_own q7, z8⟩, HMS.out.1, HMS.out.2.1, HMS.out.2.2⟩

end Go.Proofs.Ytgacphicgglogaa
