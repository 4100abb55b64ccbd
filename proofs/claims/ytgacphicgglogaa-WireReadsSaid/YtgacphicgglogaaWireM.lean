/- The reference's 'Same' of two messages that are alike. -/
import Derived.Test.YtgacphicgglogaaWireL
namespace Go.Proofs.Ytgacphicgglogaa
open Go.RowKit Crc
set_option linter.unusedVariables false

set_option maxHeartbeats 4000000 in
set_option maxRecDepth 100000 in
theorem sameMsg_eq (w : World) (v1 v2 : Value) (m : MsgL) (h1 : MsgAt w w.heap.size v1 m) (h2 : MsgAt w w.heap.size v2 m) :
    Calls Try.prog 36 #[v1, v2] w fun e w' => e = .returned (.bool true) ∧ Below w.heap.size w w' := by
  obtain ⟨⟨p1, p2, p3, p4, p5, p6, rfl, a1, a2, a3, a4, a5, a6⟩, _, hev, _⟩ := h1
  obtain ⟨⟨q1, q2, q3, q4, q5, q6, rfl, b1, b2, b3, b4, b5, b6⟩, _, _, _⟩ := h2
  obtain ⟨W, hW⟩ : ∃ W, (w.alloc (.cells #[.int .i64 m.kind, .int .u64 (m.step : Int), .string m.event, p1, p2, p3, p4, p5, p6] 54)).alloc (.cells #[.int .i64 m.kind, .int .u64 (m.step : Int), .string m.event, q1, q2, q3, q4, q5, q6] 54) = W := ⟨_, rfl⟩
  have hb : Below w.heap.size w W := by
    rw [← hW]
    exact ((Below.refl _ _).alloc (Nat.le_refl _) _).alloc (by rw [World.size_alloc]; omega) _
  have hm1 : Blk W w.heap.size 54 #[.int .i64 m.kind, .int .u64 (m.step : Int), .string m.event, p1, p2, p3, p4, p5, p6] := by
    rw [← hW]
    exact (Blk.new w _ _).alloc _
  have hm2 : Blk W (w.heap.size + 1) 54 #[.int .i64 m.kind, .int .u64 (m.step : Int), .string m.event, q1, q2, q3, q4, q5, q6] := by
    rw [← hW]
    have := Blk.new (w.alloc (.cells #[.int .i64 m.kind, .int .u64 (m.step : Int), .string m.event, p1, p2, p3, p4, p5, p6] 54)) 54 #[.int .i64 m.kind, .int .u64 (m.step : Int), .string m.event, q1, q2, q3, q4, q5, q6]
    rw [World.size_alloc] at this
    exact this
  have hS1 := fun (a c : Value) (l : List Int) (x : IntsAt w w.heap.size a l) (y : IntsAt w w.heap.size c l) (j : Nat) => sameInts_eq (W.drewN j) w.heap.size a c l ((x.below hb).below (Tr_below_drewN (Below.refl _ _) j)) ((y.below hb).below (Tr_below_drewN (Below.refl _ _) j))
  have hT := hS1 _ _ _ a1 b1
  have hU := hS1 _ _ _ a2 b2
  have hX := hS1 _ _ _ a3 b3
  have hY := hS1 _ _ _ a4 b4
  have hZ := fun j => samePasts_eq (W.drewN j) w.heap.size _ _ _ ((a6.below hb).below (Tr_below_drewN (Below.refl _ _) j)) ((b6.below hb).below (Tr_below_drewN (Below.refl _ _) j))
  have HALL := Lib.hid (And.intro hT (And.intro hU (And.intro hX (And.intro hY hZ))))
  have HB := Lib.hid hb
  obtain ⟨A5, n5, k5, rfl, hl5, hn5, g5⟩ := a5.below hb
  obtain ⟨B5, n6, k6, rfl, hl6, hn6, g6⟩ := b5.below hb
  obtain rfl : n6 = n5 := by omega
  have HG5 := Lib.hid g5
  have HG6 := Lib.hid g6
  have HL5 := Lib.hid hl5
  obtain ⟨A1, c1, e1, _⟩ := a1.cellAt
  obtain ⟨A2, c2, e2, _⟩ := a2.cellAt
  obtain ⟨A3, c3, e3, _⟩ := a3.cellAt
  obtain ⟨A4, c4, e4, _⟩ := a4.cellAt
  obtain ⟨B1, f1, x1, _⟩ := b1.cellAt
  obtain ⟨B2, f2, x2, _⟩ := b2.cellAt
  obtain ⟨B3, f3, x3, _⟩ := b3.cellAt
  obtain ⟨B4, f4, x4, _⟩ := b4.cellAt
  subst e1 e2 e3 e4 x1 x2 x3 x4
  obtain ⟨A6, n7, c6, rfl, _, _, _⟩ := a6
  obtain ⟨B6, n8, f6, rfl, _, _, _⟩ := b6
  obtain ⟨r0, r1, r2, r3, r4, r5, r6, r7, r8⟩ := msg_cells hm1
  obtain ⟨s0, s1, s2, s3, s4, s5, s6, s7, s8⟩ := msg_cells hm2
  clear hS1 hT hU hX hY hZ hb hm1 hm2 g5 g6 hl5 hl6 a1 a2 a3 a4 a5 b1 b2 b3 b4 b5
  subst hW
  go_enter Try.func36, Try.ntmps36
  go_wp2
  generalize (w.alloc (.cells _ 54)).alloc (.cells _ 54) = W at *
  go_loopw [5] (fun v wr => ∃ k j : Nat, v = .int .i64 (k : Int) ∧ k ≤ n6 ∧ wr = W.drewN j) (fun v _ => n6 - (intOf v).toNat)
  case atStart => exact ⟨0, 0, rfl, Nat.zero_le _, rfl⟩
  case round =>
    obtain ⟨k, j, rfl, hk, rfl⟩ := hrel
    by_cases hkn : k < n6
    · have hkz : (k : Int) < (n6 : Int) := by omega
      have hk0 : (0 : Int) ≤ (k : Int) := by omega
      obtain ⟨d1, rfl, _, y0, y1, y2, y3⟩ := HG5.out k (by rw [HL5.out]; exact hkn)
      obtain ⟨d2, rfl, _, z0, z1, z2, z3⟩ := HG6.out k (by rw [HL5.out]; exact hkn)
      obtain ⟨x, hx⟩ : ∃ x, m.sets[k]'(by rw [HL5.out]; exact hkn) = x := ⟨_, rfl⟩
      rw [hx] at y0 y1 y2 y3 z0 z1 z2 z3
      clear hx
      go_wp2
      go_quiet (fail)
      go_wp2
      go_roundw
      case rel => exact ⟨k + 1, j + nq, by go_num, by omega, rfl⟩
      case measure => simp [intOf]; omega
    · obtain rfl : k = n6 := by omega
      have hkz : ¬ (k : Int) < (k : Int) := by omega
      go_wp2_with fail
      refine (HALL.out.1 _).mono ?_
      rintro e w1 ⟨rfl, j1, hw⟩
      rw [World.drewN_drewN] at hw
      subst hw
      go_wp2_with fail
      refine (HALL.out.2.1 _).mono ?_
      rintro e w1 ⟨rfl, j1, hw⟩
      rw [World.drewN_drewN] at hw
      subst hw
      go_wp2_with fail
      refine (HALL.out.2.2.1 _).mono ?_
      rintro e w1 ⟨rfl, j1, hw⟩
      rw [World.drewN_drewN] at hw
      subst hw
      go_wp2_with fail
      refine (HALL.out.2.2.2.1 _).mono ?_
      rintro e w1 ⟨rfl, j1, hw⟩
      rw [World.drewN_drewN] at hw
      subst hw
      go_wp2_with fail
      refine (HALL.out.2.2.2.2 _).mono ?_
      rintro e w1 ⟨rfl, j1, hw⟩
      rw [World.drewN_drewN] at hw
      subst hw
      go_wp2
      go_ret
      exact ⟨rfl, Tr_below_drewN HB.out _⟩
end Go.Proofs.Ytgacphicgglogaa
