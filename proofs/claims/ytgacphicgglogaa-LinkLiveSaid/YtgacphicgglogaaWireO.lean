/- Package wire: the ways out of 'read'. -/
import Derived.Test.YtgacphicgglogaaWireN
namespace Go.Proofs.Ytgacphicgglogaa
open Go.RowKit Crc
set_option linter.unusedVariables false

set_option maxRecDepth 100000 in
theorem read_fail (R : Ending → World → Prop) (tmps : Array Value) (M : Nat) (x0 x1 x2 x3 x4 x5 x6 x7 x8 x : Value) (w1 : World) (h2 : tmps[2]? = some (.pointer (some ⟨M, 0, none⟩))) (h3 : tmps[3]? = some (.pointer (some ⟨M + 1, 0, none⟩)))
    (hb : Blk w1 M 54 #[x0, x1, x2, x3, x4, x5, x6, x7, x8]) (hE : Blk w1 (M + 1) 30 #[x])
    (hR : ∀ o, R (.returned (.tuple #[.agg #[x0, x1, x2, x3, x4, x5, x6, x7, x8], .int .i64 1])) ((w1.alloc o).setCell ⟨M + 1, 0, none⟩ (.int .i64 1))) :
    bodyPostD Try.prog Try.f55 R (.panic stops) { tmps := tmps, defers := [{ target := .fn (.func 77) #[], args := #[.pointer (some ⟨M + 1, 0, none⟩)] }] } w1 := by
  refine leaves_cons (f := 77) (args := #[.pointer (some ⟨M + 1, 0, none⟩)]) (by simp) (by simp [go_sem]) ?_
  refine (caught_panicking ⟨M + 1, 0, none⟩ x [] w1 hE.lt (hE.cell 0) (hE.frozen 0)).mono ?_
  rintro e u' w'' ⟨rfl, rfl, o, rfl⟩
  have hb2 : Blk ((w1.alloc o).setCell ⟨M + 1, 0, none⟩ (.int .i64 1)) M 54 #[x0, x1, x2, x3, x4, x5, x6, x7, x8] := (hb.alloc o).far (by show M ≠ M + 1; omega) _
  have hE2 : Blk ((w1.alloc o).setCell ⟨M + 1, 0, none⟩ (.int .i64 1)) (M + 1) 30 #[.int .i64 1] := (hE.alloc o).set_ 0 _
  obtain ⟨c0, c1, c2, c3, c4, c5, c6, c7, c8⟩ := msg_cells hb2
  have d0 := hE2.cell 0
  change _ = some (Value.int .i64 1) at d0
  generalize hW : (w1.alloc o).setCell ⟨M + 1, 0, none⟩ (.int .i64 1) = W at *
  have HRW := Lib.hid (hW ▸ hR o)
  clear hR hW hb2 hE2
  simp [Leaves, settle, results, Try.results55, go_sem, h2, h3, c0, c1, c2, c3, c4, c5, c6, c7, c8, d0]
  exact HRW.out
set_option maxRecDepth 100000 in
theorem read_done (R : Ending → World → Prop) (tmps : Array Value) (M : Nat) (x0 x1 x2 x3 x4 x5 x6 x7 x8 x : Value) (w1 : World) (h2 : tmps[2]? = some (.pointer (some ⟨M, 0, none⟩))) (h3 : tmps[3]? = some (.pointer (some ⟨M + 1, 0, none⟩)))
    (hb : Blk w1 M 54 #[x0, x1, x2, x3, x4, x5, x6, x7, x8]) (hE : Blk w1 (M + 1) 30 #[x])
    (hR : R (.returned (.tuple #[.agg #[x0, x1, x2, x3, x4, x5, x6, x7, x8], x])) w1) :
    bodyPostD Try.prog Try.f55 R .ret { tmps := tmps, defers := [{ target := .fn (.func 77) #[], args := #[.pointer (some ⟨M + 1, 0, none⟩)] }] } w1 := by
  refine leaves_cons (f := 77) (args := #[.pointer (some ⟨M + 1, 0, none⟩)]) (by simp) (by simp [go_sem]) ?_
  refine (caught_idle ⟨M + 1, 0, none⟩ w1).mono ?_
  rintro e u' w'' ⟨rfl, rfl, rfl⟩
  obtain ⟨c0, c1, c2, c3, c4, c5, c6, c7, c8⟩ := msg_cells hb
  have d0 := hE.cell 0
  change _ = some x at d0
  have HRW := Lib.hid hR
  clear hR hb hE
  simp [Leaves, settle, results, Try.results55, go_sem, h2, h3, c0, c1, c2, c3, c4, c5, c6, c7, c8, d0]
  exact HRW.out

/-- The state of a reading: the message's cells, the error's cell, the reader. -/
structure RdS (w wr : World) (M : Nat) (cs : Array Value) (s : ByteArray) : Prop where
  box : Blk wr M 54 cs
  ec : Blk wr (M + 1) 30 #[.int .i64 0]
  rd : RdAt wr (M + 2) s
  bel : Below M w wr
  sz : M + 3 ≤ wr.heap.size
  small : s.size ≤ 9223372036854775807

section
variable {w wr w' : World} {M : Nat} {cs : Array Value} {s t : ByteArray}
theorem RdS.put (h : RdS w wr M cs s) (i : Nat) (u : Value) : RdS w (wr.setCell ⟨M, i, none⟩ u) M (cs.setIfInBounds i u) s :=
  ⟨h.box.set_ i u, h.ec.far (by show M + 1 ≠ M; omega) _, Blk.far h.rd (by show M + 2 ≠ M; omega) _, h.bel.setCell (Nat.le_refl M) _, by rw [World.size_setCell]; exact h.sz, h.small⟩
theorem RdS.read (h : RdS w wr M cs s) (ht : t.size ≤ s.size) : RdS w (wr.setCell ⟨M + 2, 0, none⟩ (.string t)) M cs t :=
  ⟨h.box.far (by show M ≠ M + 2; omega) _, h.ec.far (by show M + 1 ≠ M + 2; omega) _, h.rd.set t, h.bel.setCell (by show M ≤ M + 2; omega) _, by rw [World.size_setCell]; exact h.sz, Nat.le_trans ht h.small⟩
theorem RdS.touch {S : Nat → Prop} (h : RdS w wr M cs s) (ht : Touch S wr w') (hS : ∀ k, S k → M + 3 ≤ k) : RdS w w' M cs s :=
  ⟨ht.blk h.box (fun e => by have := hS _ e; omega), ht.blk h.ec (fun e => by have := hS _ e; omega), ht.blk h.rd (fun e => by have := hS _ e; omega), h.bel.trans (ht.below (by have := h.sz; omega) (fun k hk => by have := hS k hk; omega)), Nat.le_trans h.sz ht.size, h.small⟩
theorem rs_small (h : RdS w wr M cs s) {most n : Nat} (hr : smallR s most = some (n, t)) :
    (Calls Try.prog 82 #[.pointer (some ⟨M + 2, 0, none⟩), .int .i64 (most : Int)] wr fun e w' => e = .returned (.int .i64 (n : Int)) ∧ RdS w w' M cs t ∧ Touch (fun k => k = M + 2) wr w') ∧ n ≤ most := by
  obtain ⟨hc, hts, hn⟩ := rsmall_some h.rd h.small hr
  refine ⟨hc.mono fun e w' ⟨he, hw⟩ => ⟨he, ?_, ?_⟩, hn⟩
  · rw [hw]; exact h.read hts
  · rw [hw]; exact Touch.of_set _ _ rfl
/-- What is left where a reading ends early. -/
def RdF (w w' : World) (M : Nat) (cs : Array Value) : Prop := Blk w' M 54 cs ∧ Blk w' (M + 1) 30 #[.int .i64 0] ∧ Below M w w'
theorem RdS.fail (h : RdS w wr M cs s) (ht : Touch (fun k => k = M + 2) wr w') : RdF w w' M cs :=
  ⟨ht.blk h.box (by omega), ht.blk h.ec (by omega), h.bel.trans (ht.below (by have := h.sz; omega) (fun k hk => by omega))⟩
theorem rs_small_none (h : RdS w wr M cs s) {most : Nat} (hr : smallR s most = none) :
    Calls Try.prog 82 #[.pointer (some ⟨M + 2, 0, none⟩), .int .i64 (most : Int)] wr fun e w' => e = .panicked stops ∧ RdF w w' M cs :=
  (rsmall_none h.rd h.small hr).mono fun e w' ⟨he, ht⟩ => ⟨he, h.fail ht⟩
theorem rs_great (h : RdS w wr M cs s) {n : Nat} (hr : greatR s = some (n, t)) :
    Calls Try.prog 83 #[.pointer (some ⟨M + 2, 0, none⟩)] wr fun e w' => e = .returned (.int .u64 (n : Int)) ∧ RdS w w' M cs t ∧ Touch (fun k => k = M + 2) wr w' := by
  have hts := (greatR_lt hr).2
  unfold greatR at hr
  split at hr
  · rename_i h8
    injection hr with hr
    injection hr with e1 e2
    subst e1 e2
    refine (rgreat_ok wr (M + 2) s h.rd h8 h.small).mono fun e w' ⟨he, hw⟩ => ⟨he, ?_, ?_⟩
    · rw [hw]; exact h.read hts
    · rw [hw]; exact Touch.of_set _ _ rfl
  · cases hr
theorem rs_great_none (h : RdS w wr M cs s) (hr : greatR s = none) :
    Calls Try.prog 83 #[.pointer (some ⟨M + 2, 0, none⟩)] wr fun e w' => e = .panicked stops ∧ RdF w w' M cs := by
  unfold greatR at hr
  split at hr
  · cases hr
  · rename_i h8
    exact (rgreat_bad wr (M + 2) s h.rd h8).mono fun e w' ⟨he, hw⟩ => ⟨he, by rw [hw]; exact h.fail (Touch.refl _ _)⟩
theorem rs_bytes (h : RdS w wr M cs s) {n : Nat} {x : ByteArray} (hr : bytesR s n = some (x, t)) :
    Calls Try.prog 84 #[.pointer (some ⟨M + 2, 0, none⟩), .int .i64 (n : Int)] wr fun e w' => e = .returned (.string x) ∧ RdS w w' M cs t ∧ Touch (fun k => k = M + 2) wr w' := by
  unfold bytesR at hr
  split at hr
  · rename_i hn
    injection hr with hr
    injection hr with e1 e2
    subst e1 e2
    refine (bytes_ok wr (M + 2) s h.rd n hn h.small).mono fun e w' ⟨he, hw⟩ => ⟨he, ?_, ?_⟩
    · rw [hw]; exact h.read (by rw [ByteArray.size_extract]; omega)
    · rw [hw]; exact Touch.of_set _ _ rfl
  · cases hr
theorem rs_bytes_none (h : RdS w wr M cs s) {n : Nat} (hr : bytesR s n = none) :
    Calls Try.prog 84 #[.pointer (some ⟨M + 2, 0, none⟩), .int .i64 (n : Int)] wr fun e w' => e = .panicked stops ∧ RdF w w' M cs := by
  unfold bytesR at hr
  split at hr
  · cases hr
  · rename_i hn
    exact (bytes_bad wr (M + 2) s h.rd n hn).mono fun e w' ⟨he, hw⟩ => ⟨he, by rw [hw]; exact h.fail (Touch.refl _ _)⟩
theorem rs_list (h : RdS w wr M cs s) : Calls Try.prog 85 #[.pointer (some ⟨M + 2, 0, none⟩)] wr fun e w' =>
    (∃ l t v, listR s = some (l, t) ∧ e = .returned v ∧ w'.ownsRow wr.heap.size 3 1 v l.length (intV l) ∧ RdS w w' M cs t ∧ Touch (fun k => k = M + 2) wr w') ∨ (listR s = none ∧ e = .panicked stops ∧ RdF w w' M cs) := by
  refine (rlist_any wr (M + 2) s h.rd h.small).mono fun e w' ⟨ht, hh⟩ => ?_
  rcases hh with ⟨l, t, v, h1, h2, h3, h4, h5⟩ | ⟨h1, h2⟩
  · have hf := h.fail ht
    exact .inl ⟨l, t, v, h1, h2, h3, ⟨hf.1, hf.2.1, h4, hf.2.2, Nat.le_trans h.sz ht.size, Nat.le_trans h5 h.small⟩, ht⟩
  · exact .inr ⟨h1, h2, h.fail ht⟩
end
end Go.Proofs.Ytgacphicgglogaa
