/- Package wire: 'Decode'. -/
import Derived.Test.YtgacphicgglogaaWireQ
import Derived.Test.YtgacphicgglogaaWireM
namespace Go.Proofs.Ytgacphicgglogaa
open Go.RowKit Crc
set_option linter.unusedVariables false

def MsgL.zero : MsgL := ⟨0, 0, ⟨#[]⟩, [], [], [], [], [], []⟩
/-- The message of bytes; or why there is none. -/
def decRes (s : ByteArray) : MsgL × Int := if 800 < s.size then (.zero, 4) else match readR s with
  | none => (.zero, 1)
  | some m => (m, 0)
theorem msgAt_zero (w : World) : MsgAt w w.heap.size (.agg #[.int .i64 0, .int .u64 0, .string ⟨#[]⟩, .slice none 0 0, .slice none 0 0, .slice none 0 0, .slice none 0 0, .slice none 0 0, .slice none 0 0]) .zero :=
  have hi : IntsAt w w.heap.size (.slice none 0 0) [] := ⟨none, 0, 0, rfl, rfl, by omega, Reads.none_⟩
  ⟨⟨_, _, _, _, _, _, rfl, hi, hi, hi, hi, ⟨none, 0, 0, rfl, rfl, by omega, fun i h => absurd h (by simp [MsgL.zero])⟩, ⟨none, 0, 0, rfl, rfl, by omega, fun i h => absurd h (by simp [MsgL.zero])⟩⟩, by show 0 < _; omega, by show 0 ≤ maxLen; omega, fun s hs => by cases hs⟩

/-- Nine cells are written, all of a block. -/
theorem nine {w : World} {B t : Nat} {y0 y1 y2 y3 y4 y5 y6 y7 y8 : Value} (x0 x1 x2 x3 x4 x5 x6 x7 x8 : Value) (h : Blk w B t #[y0, y1, y2, y3, y4, y5, y6, y7, y8]) :
    Blk (((((((((w.setCell ⟨B, 0, none⟩ x0).setCell ⟨B, 1, none⟩ x1).setCell ⟨B, 2, none⟩ x2).setCell ⟨B, 3, none⟩ x3).setCell ⟨B, 4, none⟩ x4).setCell ⟨B, 5, none⟩ x5).setCell ⟨B, 6, none⟩ x6).setCell ⟨B, 7, none⟩ x7).setCell ⟨B, 8, none⟩ x8) B t #[x0, x1, x2, x3, x4, x5, x6, x7, x8] ∧ Touch (fun k => k = B) w (((((((((w.setCell ⟨B, 0, none⟩ x0).setCell ⟨B, 1, none⟩ x1).setCell ⟨B, 2, none⟩ x2).setCell ⟨B, 3, none⟩ x3).setCell ⟨B, 4, none⟩ x4).setCell ⟨B, 5, none⟩ x5).setCell ⟨B, 6, none⟩ x6).setCell ⟨B, 7, none⟩ x7).setCell ⟨B, 8, none⟩ x8) := by
  have h0 : Blk (w.setCell ⟨B, 0, none⟩ x0) B t #[x0, y1, y2, y3, y4, y5, y6, y7, y8] := h.set_ 0 x0
  have h1 : Blk ((w.setCell ⟨B, 0, none⟩ x0).setCell ⟨B, 1, none⟩ x1) B t #[x0, x1, y2, y3, y4, y5, y6, y7, y8] := h0.set_ 1 x1
  have h2 : Blk (((w.setCell ⟨B, 0, none⟩ x0).setCell ⟨B, 1, none⟩ x1).setCell ⟨B, 2, none⟩ x2) B t #[x0, x1, x2, y3, y4, y5, y6, y7, y8] := h1.set_ 2 x2
  have h3 : Blk ((((w.setCell ⟨B, 0, none⟩ x0).setCell ⟨B, 1, none⟩ x1).setCell ⟨B, 2, none⟩ x2).setCell ⟨B, 3, none⟩ x3) B t #[x0, x1, x2, x3, y4, y5, y6, y7, y8] := h2.set_ 3 x3
  have h4 : Blk (((((w.setCell ⟨B, 0, none⟩ x0).setCell ⟨B, 1, none⟩ x1).setCell ⟨B, 2, none⟩ x2).setCell ⟨B, 3, none⟩ x3).setCell ⟨B, 4, none⟩ x4) B t #[x0, x1, x2, x3, x4, y5, y6, y7, y8] := h3.set_ 4 x4
  have h5 : Blk ((((((w.setCell ⟨B, 0, none⟩ x0).setCell ⟨B, 1, none⟩ x1).setCell ⟨B, 2, none⟩ x2).setCell ⟨B, 3, none⟩ x3).setCell ⟨B, 4, none⟩ x4).setCell ⟨B, 5, none⟩ x5) B t #[x0, x1, x2, x3, x4, x5, y6, y7, y8] := h4.set_ 5 x5
  have h6 : Blk (((((((w.setCell ⟨B, 0, none⟩ x0).setCell ⟨B, 1, none⟩ x1).setCell ⟨B, 2, none⟩ x2).setCell ⟨B, 3, none⟩ x3).setCell ⟨B, 4, none⟩ x4).setCell ⟨B, 5, none⟩ x5).setCell ⟨B, 6, none⟩ x6) B t #[x0, x1, x2, x3, x4, x5, x6, y7, y8] := h5.set_ 6 x6
  have h7 : Blk ((((((((w.setCell ⟨B, 0, none⟩ x0).setCell ⟨B, 1, none⟩ x1).setCell ⟨B, 2, none⟩ x2).setCell ⟨B, 3, none⟩ x3).setCell ⟨B, 4, none⟩ x4).setCell ⟨B, 5, none⟩ x5).setCell ⟨B, 6, none⟩ x6).setCell ⟨B, 7, none⟩ x7) B t #[x0, x1, x2, x3, x4, x5, x6, x7, y8] := h6.set_ 7 x7
  have h8 : Blk (((((((((w.setCell ⟨B, 0, none⟩ x0).setCell ⟨B, 1, none⟩ x1).setCell ⟨B, 2, none⟩ x2).setCell ⟨B, 3, none⟩ x3).setCell ⟨B, 4, none⟩ x4).setCell ⟨B, 5, none⟩ x5).setCell ⟨B, 6, none⟩ x6).setCell ⟨B, 7, none⟩ x7).setCell ⟨B, 8, none⟩ x8) B t #[x0, x1, x2, x3, x4, x5, x6, x7, x8] := h7.set_ 8 x8
  exact ⟨h8, ((((((((((Touch.refl (fun k => k = B) w).set1 ⟨B, 0, none⟩ x0 rfl).set1 ⟨B, 1, none⟩ x1 rfl).set1 ⟨B, 2, none⟩ x2 rfl).set1 ⟨B, 3, none⟩ x3 rfl).set1 ⟨B, 4, none⟩ x4 rfl).set1 ⟨B, 5, none⟩ x5 rfl).set1 ⟨B, 6, none⟩ x6 rfl).set1 ⟨B, 7, none⟩ x7 rfl).set1 ⟨B, 8, none⟩ x8 rfl)⟩
set_option maxRecDepth 100000 in
theorem results_msg2 {fn : Func} {t u : Tmp} (h : fn.results = #[.cell t 54, .tmp u]) (tmps : Array Value) (w : World) (M : Nat) (x0 x1 x2 x3 x4 x5 x6 x7 x8 : Value) (ht : tmps[t]? = some (.pointer (some ⟨M, 0, none⟩))) (hb : Blk w M 54 #[x0, x1, x2, x3, x4, x5, x6, x7, x8]) :
    (results fn tmps).run Try.prog w = .ok (.tuple #[.agg #[x0, x1, x2, x3, x4, x5, x6, x7, x8], tmps.getD u undef]) w := by
  obtain ⟨c0, c1, c2, c3, c4, c5, c6, c7, c8⟩ := msg_cells hb
  simp [results, h, go_sem, ht, c0, c1, c2, c3, c4, c5, c6, c7, c8]
set_option maxRecDepth 100000 in
theorem results_msg1 {fn : Func} {t : Tmp} (h : fn.results = #[.cell t 54]) (tmps : Array Value) (w : World) (M : Nat) (x0 x1 x2 x3 x4 x5 x6 x7 x8 : Value) (ht : tmps[t]? = some (.pointer (some ⟨M, 0, none⟩))) (hb : Blk w M 54 #[x0, x1, x2, x3, x4, x5, x6, x7, x8]) :
    (results fn tmps).run Try.prog w = .ok (.agg #[x0, x1, x2, x3, x4, x5, x6, x7, x8]) w := by
  obtain ⟨c0, c1, c2, c3, c4, c5, c6, c7, c8⟩ := msg_cells hb
  simp [results, h, go_sem, ht, c0, c1, c2, c3, c4, c5, c6, c7, c8]
set_option maxHeartbeats 2000000 in
set_option maxRecDepth 100000 in
theorem decode_any (w : World) (s : ByteArray) : Calls Try.prog 35 #[.string s] w fun e w' => ∃ v, e = .returned (.tuple #[v, .int .i64 (decRes s).2]) ∧ MsgOwn w' w.heap.size v (decRes s).1 ∧ Below w.heap.size w w' := by
  have hz54 : ∀ w, (zeroValue 54).run Try.prog w = .ok (.agg #[.int .i64 0, .int .u64 0, .string ⟨#[]⟩, .slice none 0 0, .slice none 0 0, .slice none 0 0, .slice none 0 0, .slice none 0 0, .slice none 0 0]) w := fun _ => by kernel_rfl
  by_cases hlong : 800 < s.size
  · have hz : (800 : Int) < (s.size : Int) := by omega
    have HD := Lib.hid (show decRes s = (.zero, 4) by unfold decRes; rw [if_pos hlong])
    go_enter Try.func35, Try.ntmps35
    go_wp2
    refine bodyPost_ret (results_msg2 rfl _ _ w.heap.size _ _ _ _ _ _ _ _ _ rfl (Blk.new w _ _)) rfl ?_
    rw [HD.out]
    exact ⟨_, rfl, fun W _ _ => msgAt_zero W, (Below.refl _ _).alloc (Nat.le_refl _) _⟩
  · have hz : ¬ (800 : Int) < (s.size : Int) := by omega
    have hb0 : ∀ cs : Array Value, Below w.heap.size w (w.alloc (.cells cs 54)) := fun cs => (Below.refl _ _).alloc (Nat.le_refl _) _
    have HB0 := Lib.hid hb0
    have HS := Lib.hid (show s.size ≤ 800 by omega)
    clear hlong hb0
    go_enter Try.func35, Try.ntmps35
    go_wp2_with fail
    refine (read_any _ s HS.out).mono ?_
    have hm0 := Blk.new w 54 #[.int .i64 0, .int .u64 0, .string ⟨#[]⟩, .slice none 0 0, .slice none 0 0, .slice none 0 0, .slice none 0 0, .slice none 0 0, .slice none 0 0]
    have hb1 := HB0.out #[.int .i64 0, .int .u64 0, .string ⟨#[]⟩, .slice none 0 0, .slice none 0 0, .slice none 0 0, .slice none 0 0, .slice none 0 0, .slice none 0 0]
    rintro e w1 (⟨m, v, hr, rfl, hm, hb⟩ | ⟨hr, x, hx, rfl, hb⟩)
    · have HD := Lib.hid (show decRes s = (m, 0) by unfold decRes; rw [if_neg (by have := HS.out; omega), hr])
      have hm1 := hm0.below hb (by rw [World.size_alloc]; omega)
      have hb2 := hb1.trans (hb.mono hb1.size)
      have HM := Lib.hid (show MsgOwn w1 (w.heap.size + 1) v m by rw [World.size_alloc] at hm; exact hm)
      have hma := hm.at_
      obtain ⟨v1, v2, v3, v4, v5, v6, rfl, a1, a2, a3, a4, a5, a6⟩ := hma.ex
      obtain ⟨A1, k1, e1, _⟩ := a1.cellAt
      obtain ⟨A2, k2, e2, _⟩ := a2.cellAt
      obtain ⟨A3, k3, e3, _⟩ := a3.cellAt
      obtain ⟨A4, k4, e4, _⟩ := a4.cellAt
      obtain ⟨A5, n5, k5, e5, _, _, _⟩ := a5
      obtain ⟨A6, n6, k6, e6, _, _, _⟩ := a6
      subst e1 e2 e3 e4 e5 e6
      have HB2 := Lib.hid hb2
      have hlt := hm1.lt
      have HM1 := Lib.hid hm1
      obtain ⟨c0, c1, c2, c3, c4, c5, c6, c7, c8⟩ := msg_cells hm1
      have f0 := hm1.frozen 0
      have f1 := hm1.frozen 1
      have f2 := hm1.frozen 2
      have f3 := hm1.frozen 3
      have f4 := hm1.frozen 4
      have f5 := hm1.frozen 5
      have f6 := hm1.frozen 6
      have f7 := hm1.frozen 7
      have f8 := hm1.frozen 8
      clear hm hma hb a1 a2 a3 a4 hm1 hb2 hr hm0 hb1
      generalize hB : w.heap.size = B at *
      have HBE := Lib.hid hB
      clear hB
      go_wp2
      obtain ⟨hN, hT⟩ := nine (.int .i64 m.kind) (.int .u64 (m.step : Int)) (.string m.event) (.slice A1 m.trans.length k1) (.slice A2 m.states.length k2) (.slice A3 m.enter.length k3) (.slice A4 m.vars.length k4) (.slice A5 n5 k5) (.slice A6 n6 k6) HM1.out
      have hT2 := hT.trans (Touch.of_below (S := fun _ => False) ((Below.refl _ _).alloc (Nat.le_refl _) (.cells #[.int .i64 m.kind, .int .u64 (m.step : Int), .string m.event, .slice A1 m.trans.length k1, .slice A2 m.states.length k2, .slice A3 m.enter.length k3, .slice A4 m.vars.length k4, .slice A5 n5 k5, .slice A6 n6 k6] 54))) (fun k h => h.elim)
      refine bodyPost_ret (results_msg2 rfl _ _ B _ _ _ _ _ _ _ _ _ rfl (hN.alloc _)) rfl ?_
      rw [HD.out, HBE.out]
      exact ⟨_, rfl, (HM.out.touch hT2 (fun k h => .inl (by omega))).more (by omega), HB2.out.trans (hT2.below (by omega) (fun k h => by omega))⟩
    · have HD := Lib.hid (show decRes s = (.zero, 1) by unfold decRes; rw [if_neg (by have := HS.out; omega), hr])
      have hm1 := hm0.below hb (by rw [World.size_alloc]; omega)
      have hb2 := hb1.trans (hb.mono hb1.size)
      obtain ⟨xa, xb, xc, A3, n3, k3, A4, n4, k4, A5, n5, k5, A6, n6, k6, A7, n7, k7, A8, n8, k8, rfl⟩ := hx
      have HM1 := Lib.hid hm1
      have HB2 := Lib.hid hb2
      have hlt := hm1.lt
      obtain ⟨c0, c1, c2, c3, c4, c5, c6, c7, c8⟩ := msg_cells hm1
      have f0 := hm1.frozen 0
      have f1 := hm1.frozen 1
      have f2 := hm1.frozen 2
      have f3 := hm1.frozen 3
      have f4 := hm1.frozen 4
      have f5 := hm1.frozen 5
      have f6 := hm1.frozen 6
      have f7 := hm1.frozen 7
      have f8 := hm1.frozen 8
      clear hb hm1 hb2 hr hm0 hb1
      generalize hB : w.heap.size = B at *
      have HBE := Lib.hid hB
      clear hB
      go_wp2
      obtain ⟨hN, hT⟩ := nine (.int .i64 0) (.int .u64 0) (.string ⟨#[]⟩) (.slice none 0 0) (.slice none 0 0) (.slice none 0 0) (.slice none 0 0) (.slice none 0 0) (.slice none 0 0) HM1.out
      have hT2 := hT.trans (Touch.of_below (S := fun _ => False) ((Below.refl _ _).alloc (Nat.le_refl _) (.cells #[.int .i64 xa, .int .u64 xb, .string xc, .slice A3 n3 k3, .slice A4 n4 k4, .slice A5 n5 k5, .slice A6 n6 k6, .slice A7 n7 k7, .slice A8 n8 k8] 54))) (fun k h => h.elim)
      refine bodyPost_ret (results_msg2 rfl _ _ B _ _ _ _ _ _ _ _ _ rfl (hN.alloc _)) rfl ?_
      rw [HD.out, HBE.out]
      exact ⟨_, rfl, fun W _ _ => msgAt_zero W, HB2.out.trans (hT2.below (by omega) (fun k h => by omega))⟩
end Go.Proofs.Ytgacphicgglogaa
