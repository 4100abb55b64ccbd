/- Package wire: 'tell'. -/
import Derived.Test.YtgacphicgglogaaWireG
import Derived.Deep.RegionHeld3
namespace Go.Proofs.Ytgacphicgglogaa
open Go.RowKit Crc
set_option linter.unusedVariables false

/-- A teller, and blocks that stay. -/
structure TellS (w wr : World) (M p : Nat) (out : List UInt8) (bs : List (Nat × TypeId × Array Value)) : Prop where
  tg : TellG wr M p out (fun k => ∃ b ∈ bs, b.1 = k)
  blk : ∀ b ∈ bs, Blk wr b.1 b.2.1 b.2.2
  bel : Below M w wr
  base : M ≤ wr.heap.size

section
variable {w wr w' : World} {M p : Nat} {out : List UInt8} {bs : List (Nat × TypeId × Array Value)}
theorem TellS.to (h : TellS w wr M p out bs) {out' : List UInt8} (h1 : TellG w' M p out' (fun k => ∃ b ∈ bs, b.1 = k)) (h2 : Below M wr w') (h3 : KeepG (fun k => ∃ b ∈ bs, b.1 = k) wr w') : TellS w w' M p out' bs :=
  ⟨h1, fun b hb => (h3 b.1 ⟨b, hb, rfl⟩).trans (h.blk b hb), h.bel.trans h2, Nat.le_trans h.base h2.size⟩
theorem TellS.alloc (h : TellS w wr M p out bs) (t : TypeId) (cs : Array Value) : TellS w (wr.alloc (.cells cs t)) M p out ((wr.heap.size, t, cs) :: bs) := by
  refine ⟨(h.tg.alloc (.cells cs t)).less fun k hk => ?_, fun b hb => ?_, h.bel.alloc h.base _, by rw [World.size_alloc]; exact Nat.le_succ_of_le h.base⟩
  · obtain ⟨b, hb, rfl⟩ := hk
    rcases List.mem_cons.1 hb with rfl | hb
    · exact .inr rfl
    · exact .inl ⟨b, hb, rfl⟩
  · rcases List.mem_cons.1 hb with rfl | hb
    · exact Blk.new _ _ _
    · exact (h.blk b hb).alloc _
theorem TellS.tail {b : Nat × TypeId × Array Value} (h : TellS w wr M p out (b :: bs)) : TellS w wr M p out bs :=
  ⟨h.tg.less fun k ⟨x, hx, e⟩ => ⟨x, List.mem_cons_of_mem _ hx, e⟩, fun x hx => h.blk x (List.mem_cons_of_mem _ hx), h.bel, h.base⟩
theorem TellS.drewN (h : TellS w wr M p out bs) (n : Nat) : TellS w (wr.drewN n) M p out bs := ⟨h.tg.drewN n, fun b hb => (h.blk b hb).drewN n, Tr_below_drewN h.bel n, h.base⟩
theorem TellS.open_ (h : TellS w wr M p out bs) : ∃ A c, wr.cell? ⟨p, 0, none⟩ = some (.slice A out.length c) ∧ wr.ownsRow M 5 1 (.slice A out.length c) out.length (byteVals out) ∧
    ∀ (w2 : World) (v' : Value) (new : List UInt8), w2.ownsRow M 5 1 v' (out.length + new.length) (byteVals out ++ byteVals new) → wr.grownBy w2 (Value.slice A out.length c).ownBlock → (v'.ownBlock = (Value.slice A out.length c).ownBlock ∨ v'.ownBlock = some wr.heap.size) →
      TellS w (w2.setCell ⟨p, 0, none⟩ v') M p (out ++ new) bs ∧ w2.cell? ⟨p, 0, none⟩ = some (.slice A out.length c) ∧ w2.frozen? ⟨p, 0, none⟩ = false := by
  obtain ⟨v, g1, g2, g3⟩ := h.tg
  have hrow := g1.rows ⟨5, v, byteVals out⟩ (List.mem_singleton.2 rfl)
  dsimp only at hrow
  rw [byteVals_len] at hrow
  obtain ⟨A, c, rfl⟩ := own_form hrow
  refine ⟨A, c, g1.cell 0, hrow, fun w2 v' new ho hg hbl => ?_⟩
  obtain ⟨q1, q2, q3, q4, q5⟩ := TellAt.grown g1 h.base g2 g3 v' new ho (Touch.of_grown hg (fun k hk => hk)) (fun k hk => by
    rcases hbl with h | h
    · exact .inl (h ▸ hk)
    · rw [h] at hk
      injection hk with hk
      exact .inr (by omega))
  exact ⟨h.to q1 q2 q3, q4, q5⟩
theorem st_small (h : TellS w wr M p out bs) (n most : Int) (h0 : 0 ≤ n) (h1 : n ≤ most) (h255 : most ≤ 255) (ho : out.length ≤ 100000) :
    Calls Try.prog 79 #[.pointer (some ⟨p, 0, none⟩), .int .i64 n, .int .i64 most] wr fun e w' => e = .returned (.tuple #[]) ∧ TellS w w' M p (out ++ [smallB n]) bs :=
  (small_ok h.tg h.base n most h0 h1 h255 ho).mono fun e w' ⟨he, h2, h3, h4⟩ => ⟨he, h.to h2 h3 h4⟩
theorem st_great (h : TellS w wr M p out bs) (n : Nat) (hn : n < 18446744073709551616) (ho : out.length ≤ 100000) :
    Calls Try.prog 80 #[.pointer (some ⟨p, 0, none⟩), .int .u64 (n : Int)] wr fun e w' => e = .returned (.tuple #[]) ∧ TellS w w' M p (out ++ le8 n) bs :=
  (great_any h.tg h.base n hn ho).mono fun e w' ⟨he, h2, h3, h4⟩ => ⟨he, h.to h2 h3 h4⟩
theorem st_list_ok (h : TellS w wr M p out bs) (A : Option Addr) (n c : Nat) (l : List Int) (hl : l.length = n) (hr : Reads wr M 1 A n (intV l)) (hn : n ≤ 9223372036854775807) (ho : out.length ≤ 90000) (hok : listOk l) :
    Calls Try.prog 81 #[.pointer (some ⟨p, 0, none⟩), .slice A n c] wr fun e w' => e = .returned (.tuple #[]) ∧ TellS w w' M p (out ++ listB l) bs :=
  (list_any h.tg h.base A n c l hl hr hn ho).mono fun e w' h1 => by
    rw [if_pos hok] at h1
    exact ⟨h1.1, h.to h1.2.1 h1.2.2.1 h1.2.2.2⟩
theorem st_list_bad (h : TellS w wr M p out bs) (A : Option Addr) (n c : Nat) (l : List Int) (hl : l.length = n) (hr : Reads wr M 1 A n (intV l)) (hn : n ≤ 9223372036854775807) (ho : out.length ≤ 90000) (hok : ¬ listOk l) :
    Calls Try.prog 81 #[.pointer (some ⟨p, 0, none⟩), .slice A n c] wr fun e w' => e = .panicked stops ∧ Below M w w' ∧ ∀ b ∈ bs, Blk w' b.1 b.2.1 b.2.2 :=
  (list_any h.tg h.base A n c l hl hr hn ho).mono fun e w' h1 => by
    rw [if_neg hok] at h1
    exact ⟨h1.1, h.bel.trans h1.2.1, fun b hb => (h1.2.2 b.1 ⟨b, hb, rfl⟩).trans (h.blk b hb)⟩
end

/-- What 'tell' leaves. -/
def RTell (w : World) (m : MsgL) : Ending → World → Prop := fun e w' => (m.Ok ∧ ∃ v', e = .returned (.tuple #[v', .int .i64 0]) ∧ w'.ownsRow w.heap.size 5 1 v' (msgB m).length (byteVals (msgB m)) ∧ Below w.heap.size w w') ∨ (¬ m.Ok ∧ e = .returned (.tuple #[.slice none 0 0, .int .i64 1]) ∧ Below w.heap.size w w')

theorem tell_bad {w w1 : World} {M : Nat} (hM : w.heap.size = M) {m : MsgL} (hno : ¬ m.Ok) (hE : Blk w1 (M + 1) 30 #[.int .i64 0]) (hb : Below M w w1) (tmps : Array Value) (h2 : tmps[2]? = some (.slice none 0 0)) (h3 : tmps[3]? = some (.pointer (some ⟨M + 1, 0, none⟩))) :
    bodyPostD Try.prog Try.f53 (RTell w m) (.panic stops) { tmps := tmps, defers := [{ target := .fn (.func 77) #[], args := #[.pointer (some ⟨M + 1, 0, none⟩)] }] } w1 := by
  have hsz := hb.size
  refine tell_fail _ tmps (M + 1) (.int .i64 0) w1 h2 h3 (hE.cell 0) (hE.frozen 0) hE.lt (fun o => .inr ⟨hno, rfl, ?_⟩)
  rw [hM]
  have hMw : M ≤ w1.heap.size := by have := hE.lt; omega
  exact (hb.alloc hMw o).setCell (by show M ≤ M + 1; omega) _
theorem tell_good {w w1 : World} {M : Nat} (hM : w.heap.size = M) {m : MsgL} (hok : m.Ok) (hE : Blk w1 (M + 1) 30 #[.int .i64 0]) (hb : Below M w w1) (y : Value) (ho : w1.ownsRow M 5 1 y (msgB m).length (byteVals (msgB m))) (tmps : Array Value) (h2 : tmps[2]? = some y) (h3 : tmps[3]? = some (.pointer (some ⟨M + 1, 0, none⟩))) :
    bodyPostD Try.prog Try.f53 (RTell w m) .ret { tmps := tmps, defers := [{ target := .fn (.func 77) #[], args := #[.pointer (some ⟨M + 1, 0, none⟩)] }] } w1 :=
  tell_done _ tmps (M + 1) y (.int .i64 0) w1 h2 h3 (hE.cell 0) rfl (.inl ⟨hok, y, rfl, by rw [hM]; exact ho, by rw [hM]; exact hb⟩)
theorem msg_cells {w : World} {M : Nat} {x0 x1 x2 x3 x4 x5 x6 x7 x8 : Value} (h : Blk w M 54 #[x0, x1, x2, x3, x4, x5, x6, x7, x8]) : w.cell? ⟨M, 0, none⟩ = some x0 ∧ w.cell? ⟨M, 1, none⟩ = some x1 ∧ w.cell? ⟨M, 2, none⟩ = some x2 ∧ w.cell? ⟨M, 3, none⟩ = some x3 ∧ w.cell? ⟨M, 4, none⟩ = some x4 ∧ w.cell? ⟨M, 5, none⟩ = some x5 ∧ w.cell? ⟨M, 6, none⟩ = some x6 ∧ w.cell? ⟨M, 7, none⟩ = some x7 ∧ w.cell? ⟨M, 8, none⟩ = some x8 :=
  ⟨h.cell 0, h.cell 1, h.cell 2, h.cell 3, h.cell 4, h.cell 5, h.cell 6, h.cell 7, h.cell 8⟩

set_option maxHeartbeats 8000000 in
set_option maxRecDepth 100000 in
theorem tell_any (w : World) (v : Value) (m : MsgL) (h : MsgAt w w.heap.size v m) : Calls Try.prog 53 #[v] w (RTell w m) := by
  obtain ⟨i0, hi0, hx0, hx1, hx2⟩ := info_parts byte_info
  obtain ⟨⟨v1, v2, v3, v4, v5, v6, rfl, l1, l2, l3, l4, l5, l6⟩, hst, hev, hss⟩ := h
  unfold maxLen at hev
  obtain ⟨M, hM⟩ : ∃ M, w.heap.size = M := ⟨_, rfl⟩
  rw [hM] at l1 l2 l3 l4 l5 l6
  obtain ⟨A1, n1, k1, rfl, a1, b1, r1⟩ := l1
  obtain ⟨A2, n2, k2, rfl, a2, b2, r2⟩ := l2
  obtain ⟨A3, n3, k3, rfl, a3, b3, r3⟩ := l3
  obtain ⟨A4, n4, k4, rfl, a4, b4, r4⟩ := l4
  obtain ⟨A5, n5, k5, rfl, a5, b5, r5⟩ := l5
  obtain ⟨A6, n6, k6, rfl, a6, b6, r6⟩ := l6
  have HL1 := Lib.hid (And.intro a1 (And.intro b1 r1))
  have HL2 := Lib.hid (And.intro a2 (And.intro b2 r2))
  have HL3 := Lib.hid (And.intro a3 (And.intro b3 r3))
  have HL4 := Lib.hid (And.intro a4 (And.intro b4 r4))
  have HL5 := Lib.hid (And.intro a5 (And.intro b5 r5))
  have HL6 := Lib.hid (And.intro a6 (And.intro b6 r6))
  clear a1 b1 r1 a2 b2 r2 a3 b3 r3 a4 b4 r4 a5 b5 r5 a6 b6 r6
  obtain ⟨cs, hcs⟩ : ∃ cs : Array Value, cs = #[.int .i64 m.kind, .int .u64 (m.step : Int), .string m.event, .slice A1 n1 k1, .slice A2 n2 k2, .slice A3 n3 k3, .slice A4 n4 k4, .slice A5 n5 k5, .slice A6 n6 k6] := ⟨_, rfl⟩
  have hS0 : TellS w (((w.alloc (.cells cs 54)).alloc (.cells #[.int .i64 0] 30)).alloc (.cells #[.slice none 0 0] 137)) w.heap.size ((w.alloc (.cells cs 54)).alloc (.cells #[.int .i64 0] 30)).heap.size [] [(w.heap.size + 1, 30, #[.int .i64 0]), (w.heap.size, 54, cs)] := by
    have hbel : Below w.heap.size w ((w.alloc (.cells cs 54)).alloc (.cells #[.int .i64 0] 30)) := ((Below.refl _ _).alloc (Nat.le_refl _) _).alloc (by rw [World.size_alloc]; omega) _
    refine ⟨TellG.new _ (by rw [World.size_alloc, World.size_alloc]; omega) (fun k hk => ?_), fun b hb => ?_, hbel.alloc (by rw [World.size_alloc, World.size_alloc]; omega) _, by rw [World.size_alloc, World.size_alloc, World.size_alloc]; omega⟩
    · obtain ⟨b, hb, rfl⟩ := hk
      rw [World.size_alloc, World.size_alloc]
      simp only [List.mem_cons, List.not_mem_nil, or_false] at hb
      rcases hb with rfl | rfl
      · show w.heap.size + 1 < _; omega
      · show w.heap.size < _; omega
    · simp only [List.mem_cons, List.not_mem_nil, or_false] at hb
      rcases hb with rfl | rfl
      · have := Blk.new (w.alloc (.cells cs 54)) 30 #[.int .i64 0]
        rw [World.size_alloc] at this
        exact this.alloc _
      · exact ((Blk.new w 54 cs).alloc _).alloc _
  subst hcs
  rw [World.size_alloc, World.size_alloc, hM] at hS0
  have HM := Lib.hid hM
  go_enter_defers Try.func53, Try.ntmps53
  go_wp2_with fail
  clear hM
  generalize ((w.alloc (.cells #[.int .i64 m.kind, .int .u64 (m.step : Int), .string m.event, .slice A1 n1 k1, .slice A2 n2 k2, .slice A3 n3 k3, .slice A4 n4 k4, .slice A5 n5 k5, .slice A6 n6 k6] 54)).alloc (.cells #[.int .i64 0] 30)).alloc (.cells #[.slice none 0 0] 137) = W0 at *
  -- the kind
  by_cases hk1 : 1 ≤ m.kind
  case neg =>
    have hk1b : decide (1 ≤ m.kind) = false := decide_eq_false hk1
    rw [hk1b]
    refine (must_false _).mono ?_
    rintro e W1 ⟨rfl, rfl⟩
    exact tell_bad HM.out (fun h => hk1 h.kind1) (hS0.blk _ (.head _)) hS0.bel _ rfl rfl
  rw [decide_eq_true hk1]
  refine (must_true _).mono ?_
  rintro e W1 ⟨rfl, rfl⟩
  obtain ⟨c0, c1, c2, c3, c4, c5, c6, c7, c8⟩ := msg_cells (hS0.blk _ (.tail _ (.head _)))
  have HS := Lib.hid hS0
  go_wp2_with fail
  clear c0 c1 c2 c3 c4 c5 c6 c7 c8 hS0
  by_cases hk9 : 0 ≤ m.kind ∧ m.kind ≤ 9
  case neg =>
    refine (small_bad _ _ _ _ hk9).mono ?_
    rintro e W2 ⟨rfl, rfl⟩
    exact tell_bad HM.out (fun h => hk9 ⟨by omega, h.kind9⟩) (HS.out.blk _ (.head _)) HS.out.bel _ rfl rfl
  refine (st_small HS.out m.kind 9 hk9.1 hk9.2 (by omega) (by simp)).mono ?_
  clear HS
  rintro e W2 ⟨rfl, hS⟩
  -- the step
  obtain ⟨c0, c1, c2, c3, c4, c5, c6, c7, c8⟩ := msg_cells (hS.blk _ (.tail _ (.head _)))
  have HS := Lib.hid hS
  go_wp2_with fail
  clear c0 c1 c2 c3 c4 c5 c6 c7 c8 hS
  refine (st_great HS.out m.step hst (by simp)).mono ?_
  clear HS
  rintro e W3 ⟨rfl, hS⟩
  -- the event's length
  obtain ⟨c0, c1, c2, c3, c4, c5, c6, c7, c8⟩ := msg_cells (hS.blk _ (.tail _ (.head _)))
  have HS := Lib.hid hS
  go_wp2_with fail
  clear c0 c1 c2 c3 c4 c5 c6 c7 c8 hS
  by_cases he20 : 0 ≤ (m.event.size : Int) ∧ (m.event.size : Int) ≤ 20
  case neg =>
    refine (small_bad _ _ _ _ he20).mono ?_
    rintro e W4 ⟨rfl, rfl⟩
    exact tell_bad HM.out (fun h => he20 ⟨by omega, by have := h.event; omega⟩) (HS.out.blk _ (.head _)) HS.out.bel _ rfl rfl
  refine (st_small HS.out (m.event.size : Int) 20 he20.1 he20.2 (by omega) (by simp [le8_len])).mono ?_
  clear HS
  rintro e W4 ⟨rfl, hS⟩
  obtain ⟨c0, c1, c2, c3, c4, c5, c6, c7, c8⟩ := msg_cells (hS.blk _ (.tail _ (.head _)))
  have HS := Lib.hid hS
  go_wp2_with fail
  obtain ⟨A, c, d0, hrow, hgr⟩ := (hS.drewN 1).open_
  have HGR := Lib.hid hgr
  clear hgr hS
  obtain ⟨o4, ho4⟩ : ∃ o4, [] ++ [smallB m.kind] ++ le8 m.step ++ [smallB (m.event.size : Int)] = o4 := ⟨_, rfl⟩
  have hlen4 : o4.length = 10 := by rw [← ho4]; simp [le8_len]
  rw [ho4] at HS HGR d0 hrow
  rw [hlen4] at HGR d0 hrow
  have HO4 := Lib.hid ho4
  have hdr := HS.out.drewN 1
  have c2' : W4.drew.cell? ⟨M, 2, none⟩ = some (.string m.event) := c2
  have d0' : W4.drew.cell? ⟨M + 1 + 1, 0, none⟩ = some (.slice A 10 c) := d0
  clear c0 c1 c2 c3 c4 c5 c6 c7 c8 ho4 d0 hdr
  refine wp_region_noPanic ?_
  refine Reg.wp_chain 7 [] (fun w' => w' = W4.drew) (fun _ _ => True) (by kernel_rfl) (by kernel_rfl) (by kernel_rfl) (by kernel_rfl) (fun _ _ d _ _ h => h) rfl ?_
  simp only [List.take_succ_cons, List.take_zero]
  repeat (refine Reg.chain_plain rfl rfl ?_ ?_ ?_; rotate_left; (focus (rintro w3 rfl _; go_simp; rfl)))
  simp only [Act.put, List.setIfInBounds_toArray, List.set_cons_succ, List.set_cons_zero]
  refine Reg.chain_end (fun w3 hw3 _ => ?_)
  subst hw3
  simp only [List.drop_succ_cons, List.drop_zero]
  have hrow' : W4.drew.ownsRow M 5 1 (.slice A 10 c) 10 (byteVals o4) := hrow
  have hev2 : m.event.size ≤ 20 := by omega
  go_wp2_with (at_builtin; refine wpList_append_str _ rfl _ _ 75 9 rfl M 5 i0 Try.underlying75 Try.underlying9 hi0 hx0 hx1 hx2 _ _ _ rfl hrow' m.event rfl ?c3 ?c4 ?c5 ?_)
  case c3 => unfold maxLen; omega
  case c4 => omega
  case c5 => exact HS.out.base
  intro v' w2 hown2 hg2 hbl
  obtain ⟨q1, q4, q5⟩ := HGR.out w2 v' m.event.data.toList (by rw [byteVals_str] at hown2; exact hown2) hg2 hbl
  obtain ⟨A', c', hA'⟩ := own_form hown2
  subst hA'
  have HQ := Lib.hid q1
  clear q1 hown2 hg2 hbl hrow hrow' HGR HS c2' d0'
  go_wp2_with fail
  clear q4 q5
  generalize w2.setCell ⟨M + 1 + 1, 0, none⟩ (.slice A' (10 + m.event.size) c') = W5 at *
  refine NoPanic.normal ?_
  obtain ⟨o5, ho5⟩ : ∃ o5, o4 ++ m.event.data.toList = o5 := ⟨_, rfl⟩
  have hlen5 : o5.length = 10 + m.event.size := by rw [← ho5, List.length_append, hlen4]; rfl
  have HO5 := Lib.hid ho5
  rw [ho5] at HQ
  clear ho5
  have hS := HQ.out
  obtain ⟨c0, c1, c2, c3, c4, c5, c6, c7, c8⟩ := msg_cells (hS.blk _ (.tail _ (.head _)))
  have hidx : ∀ k : Nat, k < 4 → ∃ (A : Option Addr) (n c : Nat) (lk : List Int), (∀ w, (Instr.index 107 (.agg #[.slice A1 n1 k1, .slice A2 n2 k2, .slice A3 n3 k3, .slice A4 n4 k4]) (.int .i64 (k : Int))).run Try.prog w = .ok (.slice A n c) w) ∧ lk.length = n ∧ n ≤ 9223372036854775807 ∧ Reads w M 1 A n (intV lk) ∧ [m.trans, m.states, m.enter, m.vars][k]? = some lk := fun k hk => by
    match k, hk with
    | 0, _ => exact ⟨A1, n1, k1, m.trans, fun _ => by kernel_rfl, HL1.out.1, HL1.out.2.1, HL1.out.2.2, rfl⟩
    | 1, _ => exact ⟨A2, n2, k2, m.states, fun _ => by kernel_rfl, HL2.out.1, HL2.out.2.1, HL2.out.2.2, rfl⟩
    | 2, _ => exact ⟨A3, n3, k3, m.enter, fun _ => by kernel_rfl, HL3.out.1, HL3.out.2.1, HL3.out.2.2, rfl⟩
    | 3, _ => exact ⟨A4, n4, k4, m.vars, fun _ => by kernel_rfl, HL4.out.1, HL4.out.2.1, HL4.out.2.2, rfl⟩
  have HIDX := Lib.hid hidx
  clear hidx hS
  obtain ⟨ls, hls⟩ : ∃ ls, [m.trans, m.states, m.enter, m.vars] = ls := ⟨_, rfl⟩
  have HLS := Lib.hid hls
  rw [hls] at HIDX
  have hlsl : ls.length = 4 := by rw [← hls]; rfl
  clear hls
  go_wp2_with fail
  clear c0 c1 c2 c3 c4 c5 c6 c7 c8
  go_loopw [49] (fun v wr => ∃ k : Nat, k ≤ 4 ∧ v = .int .i64 (k : Int) ∧ TellS w wr M (M + 1 + 1) (o5 ++ (ls.take k).flatMap listB) [(M + 1, 30, #[.int .i64 0]), (M, 54, #[.int .i64 m.kind, .int .u64 (m.step : Int), .string m.event, .slice A1 n1 k1, .slice A2 n2 k2, .slice A3 n3 k3, .slice A4 n4 k4, .slice A5 n5 k5, .slice A6 n6 k6])] ∧ (∀ x ∈ ls.take k, listOk x) ∧ ((ls.take k).flatMap listB).length ≤ 49 * k) (fun v _ => 4 - (intOf v).toNat)
  case atStart => exact ⟨0, by omega, rfl, by simpa using HQ.out, fun x hx => by simp at hx, by simp⟩
  case round =>
    obtain ⟨k, hk4, rfl, hSk, hall, hlk⟩ := hrel
    by_cases hk : k < 4
    · have hkz : (k : Int) < 4 := by omega
      obtain ⟨AA, nn, cc, lk, hix, ha, hb, hrd, hget⟩ := HIDX.out k hk
      have htake : ls.take (k + 1) = ls.take k ++ [lk] := by rw [List.take_add_one, hget]; rfl
      have HT := Lib.hid htake
      have hrd2 := hrd.below hSk.bel
      have hol : (o5 ++ (ls.take k).flatMap listB).length ≤ 90000 := by rw [List.length_append]; omega
      by_cases hok : listOk lk
      · have hcon := st_list_ok hSk AA nn cc lk ha hrd2 hb hol hok
        have HC := Lib.hid hcon
        have HALL := Lib.hid hall
        have HOK := Lib.hid hok
        have HLK := Lib.hid (show (listB lk).length ≤ 49 by rw [listB_len]; have := hok.1; omega)
        clear hcon htake hall hrd hrd2 hget hok hol
        go_wp2_with fail
        refine HC.out.mono ?_
        rintro e w6 ⟨rfl, hS6⟩
        have HS6 := Lib.hid hS6
        clear hS6 HC
        go_wp2
        go_roundw
        case rel => exact ⟨k + 1, by omega, by go_num, by rw [HT.out, List.flatMap_append, ← List.append_assoc]; simpa using HS6.out, fun y hy => by
          rw [HT.out] at hy
          rcases List.mem_append.1 hy with hy | hy
          · exact HALL.out y hy
          · rw [List.mem_singleton.1 hy]; exact HOK.out, by
          rw [HT.out, List.flatMap_append, List.length_append]
          have := HLK.out
          simp only [List.flatMap_cons, List.flatMap_nil, List.append_nil]
          omega⟩
        case measure => simp [intOf]; omega
      · have hcon := st_list_bad hSk AA nn cc lk ha hrd2 hb hol hok
        have HC := Lib.hid hcon
        have hno : ¬ m.Ok := fun h => hok (by
          have hm := List.mem_of_getElem? hget
          rw [← HLS.out] at hm
          simp only [List.mem_cons, List.not_mem_nil, or_false] at hm
          rcases hm with rfl | rfl | rfl | rfl
          · exact h.trans
          · exact h.states
          · exact h.enter
          · exact h.vars)
        have HN := Lib.hid hno
        clear hcon htake hall hrd hrd2 hget hok hol hno
        go_wp2_with fail
        refine HC.out.mono ?_
        rintro e w6 ⟨rfl, hb6, hk6⟩
        exact tell_bad HM.out HN.out (hk6 _ (.head _)) hb6 _ rfl rfl
    · obtain rfl : k = 4 := by omega
      have hkz : ¬ (4 : Int) < 4 := by omega
      rw [List.take_of_length_le (by omega)] at hSk hall hlk
      have hlok : listOk m.trans ∧ listOk m.states ∧ listOk m.enter ∧ listOk m.vars := by
        rw [← HLS.out] at hall
        exact ⟨hall _ (by simp), hall _ (by simp), hall _ (by simp), hall _ (by simp)⟩
      have HLOK := Lib.hid hlok
      have hfl : ls.flatMap listB = msgLists m := by rw [← HLS.out]; simp [msgLists]
      rw [hfl] at hSk hlk
      obtain ⟨o6, ho6⟩ : ∃ o6, o5 ++ msgLists m = o6 := ⟨_, rfl⟩
      have hlen6 : o6.length ≤ 300 := by rw [← ho6, List.length_append]; omega
      rw [ho6] at hSk
      have HO6 := Lib.hid ho6
      clear hall hlk hlok hfl ho6 HIDX HQ
      obtain ⟨c0, c1, c2, c3, c4, c5, c6, c7, c8⟩ := msg_cells (hSk.blk _ (.tail _ (.head _)))
      have hn5 := HL5.out.1
      have hn6 := HL6.out.1
      have HSK := Lib.hid hSk
      clear hSk
      go_wp2_with fail
      clear c0 c1 c2 c3 c4 c5 c6 c7 c8
      by_cases hs8 : 0 ≤ (n5 : Int) ∧ (n5 : Int) ≤ 8
      case neg =>
        refine (small_bad _ _ _ _ hs8).mono ?_
        rintro e W7 ⟨rfl, rfl⟩
        exact tell_bad HM.out (fun h => hs8 ⟨by omega, by have := h.setsN; omega⟩) (HSK.out.blk _ (.head _)) HSK.out.bel _ rfl rfl
      refine (st_small HSK.out (n5 : Int) 8 hs8.1 hs8.2 (by omega) (by omega)).mono ?_
      clear HSK
      rintro e W7 ⟨rfl, hS7⟩
      obtain ⟨o7, ho7⟩ : ∃ o7, o6 ++ [smallB (n5 : Int)] = o7 := ⟨_, rfl⟩
      have hlen7 : o7.length ≤ 301 := by rw [← ho7, List.length_append]; simp; omega
      rw [ho7] at hS7
      have HO7 := Lib.hid ho7
      clear ho7
      obtain ⟨c0, c1, c2, c3, c4, c5, c6, c7, c8⟩ := msg_cells (hS7.blk _ (.tail _ (.head _)))
      have HS7 := Lib.hid hS7
      clear hS7
      go_wp2_with fail
      clear c0 c1 c2 c3 c4 c5 c6 c7 c8
      go_loopw [64] (fun v wr => ∃ k : Nat, k ≤ n5 ∧ v = .int .i64 (k : Int) ∧ TellS w wr M (M + 1 + 1) (o7 ++ (m.sets.take k).flatMap setB) [(M + 1, 30, #[.int .i64 0]), (M, 54, #[.int .i64 m.kind, .int .u64 (m.step : Int), .string m.event, .slice A1 n1 k1, .slice A2 n2 k2, .slice A3 n3 k3, .slice A4 n4 k4, .slice A5 n5 k5, .slice A6 n6 k6])] ∧ (∀ x ∈ m.sets.take k, setOk x) ∧ ((m.sets.take k).flatMap setB).length = 18 * k) (fun v _ => n5 - (intOf v).toNat)
      case atStart => exact ⟨0, by omega, rfl, by simpa using HS7.out, fun x hx => by simp at hx, by simp⟩
      case round =>
        obtain ⟨k, hk5, rfl, hSk, hall, hlk⟩ := hrel
        by_cases hk : k < n5
        · have hkz : (k : Int) < (n5 : Int) := by omega
          have hkl : k < m.sets.length := by omega
          obtain ⟨ad, rfl, hadM, e0, e1, e2, e3⟩ := HL5.out.2.2 k hkl
          obtain ⟨x, hx⟩ : ∃ x, m.sets[k] = x := ⟨_, rfl⟩
          rw [hx] at e0 e1 e2 e3
          have hxw := hss x (by rw [← hx]; exact List.getElem_mem hkl)
          have hbl : (ad.add (k * 4)).block < M := by rw [block_of_add]; exact hadM
          have hcl : ∀ o, wr.cell? { block := (ad.add (k * 4)).block, off := o } = w.cell? { block := (ad.add (k * 4)).block, off := o } := fun o => hSk.bel.cell (p := { block := (ad.add (k * 4)).block, off := o }) hbl
          have f0 := (hSk.bel.cell hbl).trans e0
          have f1 := (hcl _).trans e1
          have f2 := (hcl _).trans e2
          have f3 := (hcl _).trans e3
          have htake : m.sets.take (k + 1) = m.sets.take k ++ [x] := by rw [List.take_succ_eq_append_getElem hkl, hx]
          have HT := Lib.hid htake
          have hol : (o7 ++ (m.sets.take k).flatMap setB).length ≤ 1000 := by rw [List.length_append]; omega
          obtain ⟨o8, ho8⟩ : ∃ o8, o7 ++ (m.sets.take k).flatMap setB = o8 := ⟨_, rfl⟩
          have HO8 := Lib.hid ho8
          rw [ho8] at hSk hol
          have hmem : x ∈ m.sets := by rw [← hx]; exact List.getElem_mem hkl
          have hSX := hSk.alloc 111 #[.int .i64 x.var, .int .i64 x.kind, .int .i64 x.a, .int .i64 x.b]
          have HX := Lib.hid hSX
          have HALL := Lib.hid hall
          have HMEM := Lib.hid hmem
          have HLK := Lib.hid hlk
          clear e0 e1 e2 e3 hcl hbl hx htake ho8 hmem hSX hall hlk hSk
          go_wp2_with fail
          clear f0 f1 f2 f3
          generalize wr.alloc (.cells #[.int .i64 x.var, .int .i64 x.kind, .int .i64 x.a, .int .i64 x.b] 111) = WX at *
          generalize wr.heap.size = X at *
          by_cases hv : 0 ≤ x.var ∧ x.var ≤ 63
          case neg =>
            refine (small_bad _ _ _ _ hv).mono ?_
            rintro e W8 ⟨rfl, rfl⟩
            exact tell_bad HM.out (fun h => hv (h.sets x HMEM.out).1) (HX.out.blk _ (.tail _ (.head _))) HX.out.bel _ rfl rfl
          refine (st_small HX.out x.var 63 hv.1 hv.2 (by omega) (by omega)).mono ?_
          clear HX
          rintro e W8 ⟨rfl, hS8⟩
          have y1 := (hS8.blk _ (.head _)).cell 1
          change W8.cell? ⟨X, 1, none⟩ = some (.int .i64 x.kind) at y1
          have HS8 := Lib.hid hS8
          clear hS8
          go_wp2_with fail
          by_cases hk1 : 1 ≤ x.kind
          case neg =>
            rw [decide_eq_false hk1]
            refine (must_false _).mono ?_
            rintro e W9 ⟨rfl, rfl⟩
            exact tell_bad HM.out (fun h => hk1 (h.sets x HMEM.out).2.1) (HS8.out.blk _ (.tail _ (.head _))) HS8.out.bel _ rfl rfl
          rw [decide_eq_true hk1]
          refine (must_true _).mono ?_
          rintro e W9 ⟨rfl, rfl⟩
          go_wp2_with fail
          clear y1
          by_cases hk3 : 0 ≤ x.kind ∧ x.kind ≤ 3
          case neg =>
            refine (small_bad _ _ _ _ hk3).mono ?_
            rintro e W10 ⟨rfl, rfl⟩
            exact tell_bad HM.out (fun h => hk3 ⟨by omega, (h.sets x HMEM.out).2.2⟩) (HS8.out.blk _ (.tail _ (.head _))) HS8.out.bel _ rfl rfl
          refine (st_small HS8.out x.kind 3 hk3.1 hk3.2 (by omega) (by rw [List.length_append]; simp; omega)).mono ?_
          clear HS8
          rintro e W10 ⟨rfl, hS10⟩
          have y2 := (hS10.blk _ (.head _)).cell 2
          change W10.cell? ⟨X, 2, none⟩ = some (.int .i64 x.a) at y2
          have hwa := u64of_wrap x.a
          have hwb := u64of_wrap x.b
          have HS10 := Lib.hid hS10
          clear hS10
          go_wp2_with fail
          clear y2
          refine (st_great HS10.out (u64of x.a) (u64of_lt _) (by simp; omega)).mono ?_
          clear HS10
          rintro e W11 ⟨rfl, hS11⟩
          have y3 := (hS11.blk _ (.head _)).cell 3
          change W11.cell? ⟨X, 3, none⟩ = some (.int .i64 x.b) at y3
          have HS11 := Lib.hid hS11
          clear hS11
          go_wp2_with fail
          clear y3
          refine (st_great HS11.out (u64of x.b) (u64of_lt _) (by simp [le8_len]; omega)).mono ?_
          clear HS11
          rintro e W12 ⟨rfl, hS12⟩
          have HS12 := Lib.hid hS12.tail
          clear hS12 hwa hwb
          have HB := Lib.hid (show (setB x).length = 18 ∧ setOk x from ⟨by simp [setB, le8_len], hv, hk1, hk3.2⟩)
          go_wp2
          go_roundw
          case rel => exact ⟨k + 1, by omega, by go_num, by
            have h12 := HS12.out
            rw [HT.out, List.flatMap_append, ← List.append_assoc, HO8.out]
            simp only [List.append_assoc, List.flatMap_cons, List.flatMap_nil, List.append_nil, setB, List.cons_append, List.nil_append] at h12 ⊢
            exact h12, fun y hy => by
            rw [HT.out] at hy
            rcases List.mem_append.1 hy with hy | hy
            · exact HALL.out y hy
            · rw [List.mem_singleton.1 hy]; exact HB.out.2, by
            have h1 := HLK.out
            have h2 := HB.out.1
            rw [HT.out, List.flatMap_append, List.length_append, h1]
            simp only [List.flatMap_cons, List.flatMap_nil, List.append_nil, h2]
            omega⟩
          case measure => simp [intOf]; omega
        · obtain rfl : k = n5 := by omega
          have hkz : ¬ (k : Int) < (k : Int) := by omega
          rw [List.take_of_length_le (by omega)] at hSk hall hlk
          obtain ⟨o8, ho8⟩ : ∃ o8, o7 ++ m.sets.flatMap setB = o8 := ⟨_, rfl⟩
          have HO8 := Lib.hid ho8
          have hlen8 : o8.length ≤ 500 := by rw [← ho8, List.length_append]; omega
          rw [ho8] at hSk
          have HALL := Lib.hid hall
          obtain ⟨c0, c1, c2, c3, c4, c5, c6, c7, c8⟩ := msg_cells (hSk.blk _ (.tail _ (.head _)))
          have HSK := Lib.hid hSk
          clear hSk hall hlk ho8 HS7
          go_wp2_with fail
          clear c0 c1 c2 c3 c4 c5 c6 c7 c8
          by_cases hp40 : 0 ≤ (n6 : Int) ∧ (n6 : Int) ≤ 40
          case neg =>
            refine (small_bad _ _ _ _ hp40).mono ?_
            rintro e W13 ⟨rfl, rfl⟩
            exact tell_bad HM.out (fun h => hp40 ⟨by omega, by have := h.pastsN; omega⟩) (HSK.out.blk _ (.head _)) HSK.out.bel _ rfl rfl
          refine (st_small HSK.out (n6 : Int) 40 hp40.1 hp40.2 (by omega) (by omega)).mono ?_
          clear HSK
          rintro e W13 ⟨rfl, hS13⟩
          obtain ⟨o9, ho9⟩ : ∃ o9, o8 ++ [smallB (n6 : Int)] = o9 := ⟨_, rfl⟩
          have hlen9 : o9.length ≤ 501 := by rw [← ho9, List.length_append]; simp; omega
          rw [ho9] at hS13
          have HO9 := Lib.hid ho9
          clear ho9
          obtain ⟨c0, c1, c2, c3, c4, c5, c6, c7, c8⟩ := msg_cells (hS13.blk _ (.tail _ (.head _)))
          have HS13 := Lib.hid hS13
          clear hS13
          go_wp2_with fail
          clear c0 c1 c2 c3 c4 c5 c6 c7 c8
          go_loopw [103] (fun v wr => ∃ j : Nat, j ≤ n6 ∧ v = .int .i64 (j : Int) ∧ TellS w wr M (M + 1 + 1) (o9 ++ (m.pasts.take j).flatMap pastB) [(M + 1, 30, #[.int .i64 0]), (M, 54, #[.int .i64 m.kind, .int .u64 (m.step : Int), .string m.event, .slice A1 n1 k1, .slice A2 n2 k2, .slice A3 n3 k3, .slice A4 n4 k4, .slice A5 k k5, .slice A6 n6 k6])] ∧ (∀ x ∈ m.pasts.take j, pastOk x) ∧ ((m.pasts.take j).flatMap pastB).length ≤ 50 * j) (fun v _ => n6 - (intOf v).toNat)
          case atStart => exact ⟨0, by omega, rfl, by simpa using HS13.out, fun x hx => by simp at hx, by simp⟩
          case round =>
            obtain ⟨j, hj6, rfl, hSj, hallj, hlj⟩ := hrel
            by_cases hj : j < n6
            · have hjz : (j : Int) < (n6 : Int) := by omega
              have hjl : j < m.pasts.length := by omega
              obtain ⟨ad, u, rfl, hadM, e0, e1, e2⟩ := HL6.out.2.2 j hjl
              obtain ⟨x, hx⟩ : ∃ x, m.pasts[j] = x := ⟨_, rfl⟩
              rw [hx] at e0 e2
              obtain ⟨AA, nn, cc, rfl, hal, hbl2, hrd⟩ := e2
              have hbl : (ad.add (j * 2)).block < M := by rw [block_of_add]; exact hadM
              have hcl : ∀ o, wr.cell? { block := (ad.add (j * 2)).block, off := o } = w.cell? { block := (ad.add (j * 2)).block, off := o } := fun o => hSj.bel.cell (p := { block := (ad.add (j * 2)).block, off := o }) hbl
              have f0 := (hSj.bel.cell hbl).trans e0
              have f1 := (hcl _).trans e1
              have htake : m.pasts.take (j + 1) = m.pasts.take j ++ [x] := by rw [List.take_succ_eq_append_getElem hjl, hx]
              have HT := Lib.hid htake
              have hol : (o9 ++ (m.pasts.take j).flatMap pastB).length ≤ 10000 := by rw [List.length_append]; omega
              obtain ⟨o10, ho10⟩ : ∃ o10, o9 ++ (m.pasts.take j).flatMap pastB = o10 := ⟨_, rfl⟩
              have HO10 := Lib.hid ho10
              rw [ho10] at hSj hol
              have hmem : x ∈ m.pasts := by rw [← hx]; exact List.getElem_mem hjl
              have hSX := hSj.alloc 113 #[.int .i64 x.state, .slice AA nn cc]
              have HX := Lib.hid hSX
              have HALLJ := Lib.hid hallj
              have HMEM := Lib.hid hmem
              have HLJ := Lib.hid hlj
              have HRD := Lib.hid hrd
              clear e0 e1 hcl hbl hx htake ho10 hmem hSX hallj hlj hSj hrd
              go_wp2_with fail
              clear f0 f1
              generalize wr.alloc (.cells #[.int .i64 x.state, .slice AA nn cc] 113) = WX at *
              generalize wr.heap.size = X at *
              by_cases hv : 0 ≤ x.state ∧ x.state ≤ 63
              case neg =>
                refine (small_bad _ _ _ _ hv).mono ?_
                rintro e W14 ⟨rfl, rfl⟩
                exact tell_bad HM.out (fun h => hv (h.pasts x HMEM.out).1) (HX.out.blk _ (.tail _ (.head _))) HX.out.bel _ rfl rfl
              refine (st_small HX.out x.state 63 hv.1 hv.2 (by omega) (by omega)).mono ?_
              clear HX
              rintro e W14 ⟨rfl, hS14⟩
              have y1 := (hS14.blk _ (.head _)).cell 1
              change W14.cell? ⟨X, 1, none⟩ = some (.slice AA nn cc) at y1
              have HS14 := Lib.hid hS14
              clear hS14
              go_wp2_with fail
              clear y1
              have hol2 : (o10 ++ [smallB x.state]).length ≤ 90000 := by rw [List.length_append]; simp; omega
              by_cases hok : listOk x.set
              case neg =>
                refine (st_list_bad HS14.out AA nn cc x.set hal (HRD.out.below HS14.out.bel) hbl2 hol2 hok).mono ?_
                rintro e W15 ⟨rfl, hb15, hk15⟩
                exact tell_bad HM.out (fun h => hok (h.pasts x HMEM.out).2) (hk15 _ (.tail _ (.head _))) hb15 _ rfl rfl
              refine (st_list_ok HS14.out AA nn cc x.set hal (HRD.out.below HS14.out.bel) hbl2 hol2 hok).mono ?_
              clear HS14
              rintro e W15 ⟨rfl, hS15⟩
              have HS15 := Lib.hid hS15.tail
              clear hS15
              have HB := Lib.hid (show (pastB x).length ≤ 50 ∧ pastOk x from ⟨by unfold pastB; rw [List.length_cons, listB_len]; have := hok.1; omega, hv, hok⟩)
              go_wp2
              go_roundw
              case rel => exact ⟨j + 1, by omega, by go_num, by
                have h15 := HS15.out
                rw [HT.out, List.flatMap_append, ← List.append_assoc, HO10.out]
                simp only [List.append_assoc, List.flatMap_cons, List.flatMap_nil, List.append_nil, pastB, List.cons_append, List.nil_append] at h15 ⊢
                exact h15, fun y hy => by
                rw [HT.out] at hy
                rcases List.mem_append.1 hy with hy | hy
                · exact HALLJ.out y hy
                · rw [List.mem_singleton.1 hy]; exact HB.out.2, by
                have h1 := HLJ.out
                have h2 := HB.out.1
                rw [HT.out, List.flatMap_append, List.length_append]
                simp only [List.flatMap_cons, List.flatMap_nil, List.append_nil]
                omega⟩
              case measure => simp [intOf]; omega
            · obtain rfl : j = n6 := by omega
              have hjz : ¬ (j : Int) < (j : Int) := by omega
              rw [List.take_of_length_le (by omega)] at hSj hallj
              have hok : m.Ok := ⟨hk1, hk9.2, by omega, HLOK.out.1, HLOK.out.2.1, HLOK.out.2.2.1, HLOK.out.2.2.2, by omega, HALL.out, by omega, hallj⟩
              have hout : o9 ++ m.pasts.flatMap pastB = msgB m := by
                rw [← HO9.out, ← HO8.out, ← HO7.out, ← HO6.out, ← HO5.out, ← HO4.out]
                unfold msgB msgHead
                rw [hn5, hn6]
                simp only [List.append_assoc, List.cons_append, List.nil_append]
              rw [hout] at hSj
              obtain ⟨A, c, d0, hrow, _⟩ := hSj.open_
              have hE := hSj.blk _ (.head _)
              have hE0 := hE.cell 0
              have hEz := hE.frozen 0
              change wr.cell? ⟨M + 1, 0, none⟩ = some (.int .i64 0) at hE0
              have hne : (Value.slice A (msgB m).length c).ownBlock ≠ some (M + 1) := by
                obtain ⟨v, t1, t2, t3⟩ := hSj.tg
                have hv : v = .slice A (msgB m).length c := by
                  have := ObjAt.cell t1 0
                  rw [d0] at this
                  injection this with this
                  exact this.symm
                rw [← hv]
                exact (t2 (M + 1) ⟨_, .head _, rfl⟩).2
              have HFIN := Lib.hid (show Blk (wr.setCell ⟨M + 1, 0, none⟩ (.int .i64 0)) (M + 1) 30 #[.int .i64 0] ∧ Below M w (wr.setCell ⟨M + 1, 0, none⟩ (.int .i64 0)) ∧ (wr.setCell ⟨M + 1, 0, none⟩ (.int .i64 0)).ownsRow M 5 1 (.slice A (msgB m).length c) (msgB m).length (byteVals (msgB m)) from
                ⟨hE.set_ 0 _, hSj.bel.setCell (by show M ≤ M + 1; omega) _, (Touch.of_set (S := fun k => k = M + 1) _ _ rfl).own hrow (fun k hk e => hne (e ▸ hk))⟩)
              have HOK := Lib.hid hok
              clear hSj hallj hout hrow hE hne hok
              obtain ⟨L, hL⟩ : ∃ L, (msgB m).length = L := ⟨_, rfl⟩
              rw [hL] at d0
              have HL := Lib.hid hL
              clear hL
              go_wp2_with fail
              have ho := HFIN.out.2.2
              rw [HL.out] at ho
              exact tell_good HM.out HOK.out HFIN.out.1 HFIN.out.2.1 (.slice A L c) (by rw [HL.out]; exact ho) _ rfl rfl
end Go.Proofs.Ytgacphicgglogaa
