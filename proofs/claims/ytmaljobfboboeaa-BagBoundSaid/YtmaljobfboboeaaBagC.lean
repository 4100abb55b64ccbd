/- The contract of Twice. -/
import Derived.Test.YtmaljobfboboeaaBagB
import Derived.Test.YtmaljobfboboeaaRegB
namespace Go.Proofs.Ytmaljobfboboeaa
open Go.RowKit

theorem twice_nil (w : World) (i : Int) :
    Calls Try.prog 16 #[.pointer none, .int .i64 i] w fun e w' => e = .returned (.int .i64 15) ∧ w = w' := by
  go_enter Try.func16, Try.ntmps16
  go_wp2_with (go_at_call 29; refine (wrong_nil _ _).mono ?_; rintro e w' ⟨rfl, rfl⟩)
  go_ret
  exact ⟨rfl, rfl⟩

theorem twice_out (w : World) (B p : Nat) (v : Value) (l : List Item) (h : BagAt w B p v l) (i : Int) (hi : i < 0 ∨ (l.length : Int) ≤ i) :
    Calls Try.prog 16 #[.pointer (some ⟨p, 0, none⟩), .int .i64 i] w fun e w' => e = .returned (.int .i64 5) ∧ w = w' := by
  go_enter Try.func16, Try.ntmps16
  go_wp2_with (go_at_call 29; refine (wrong_out w B p v l h i hi).mono ?_; rintro e w' ⟨rfl, rfl⟩)
  go_ret
  exact ⟨rfl, rfl⟩

theorem twice_full (w : World) (B p : Nat) (v : Value) (l : List Item) (h : BagAt w B p v l) (hl : l.length = 16) (i : Int) (h0 : 0 ≤ i) (h1 : i < l.length) :
    Calls Try.prog 16 #[.pointer (some ⟨p, 0, none⟩), .int .i64 i] w fun e w' => e = .returned (.int .i64 10) ∧ w = w' := by
  have hc := bag_cell h
  obtain ⟨A, c, rfl⟩ := bag_form h
  have hq : ((l.length : Int) == 16) = true := by simp; omega
  clear hl
  go_enter Try.func16, Try.ntmps16
  go_wp2_with (go_at_call 29; refine (wrong_in w B p _ l h i h0 h1).mono ?_; rintro e w' ⟨rfl, rfl⟩)
  go_ret
  exact ⟨rfl, rfl⟩

theorem itemCells_at (l : List Item) (i : Nat) (h : i < l.length) : (itemCells l)[i * 2]? = some (.string l[i].1) ∧ (itemCells l)[i * 2 + 1]? = some (.bool l[i].2) := by
  induction l generalizing i with
  | nil => simp at h
  | cons a l ih =>
    cases i with
    | zero => simp [itemCells, Item.cells]
    | succ i =>
      have := ih i (by simpa using h)
      have e1 : (i + 1) * 2 = i * 2 + 1 + 1 := by omega
      simpa [itemCells, Item.cells, List.flatMap_cons, e1] using this

/-- Where there is an item, the slice's address and the item's two cells. -/
theorem bag_item {w : World} {B p : Nat} {v : Value} {l : List Item} (h : BagAt w B p v l) (i : Nat) (hi : i < l.length) :
    ∃ g c, v = .slice (some ⟨g, 0, none⟩) l.length c ∧ B ≤ g ∧ g < w.heap.size ∧ g ≠ p ∧ l.length ≤ c ∧ c ≤ maxLen ∧
      w.cell? ⟨g, i * 2, none⟩ = some (.string l[i].1) ∧ w.cell? ⟨g, i * 2 + 1, none⟩ = some (.bool l[i].2) ∧ (∀ o, w.frozen? ⟨g, o, none⟩ = false) := by
  have hne := own_blk_ne h.2.2 h.2.1 (by decide)
  have hcell := h.2.2
  rcases h.2.2.2 with ⟨_, h0⟩ | ⟨g, cap, cur, rfl, hb, hg, hn, hm, _⟩
  · omega
  · obtain ⟨e1, e2⟩ := itemCells_at l i hi
    have k1 := h.2.2.cells (g := g) rfl _ _ e1
    have k2 := h.2.2.cells (g := g) rfl _ _ e2
    have ha : ∀ j, (⟨g, 0, none⟩ : Addr).add j = ⟨g, j, none⟩ := by intro j; unfold Addr.add; split <;> simp_all
    rw [ha] at k1 k2
    refine ⟨g, cap, rfl, hb, Blk.lt hg, ?_, hn, hm, k1, k2, fun o => Blk.frozen hg o⟩
    intro e; subst e; exact hne rfl

set_option maxHeartbeats 400000 in
theorem twice_room (w : World) (B p : Nat) (v : Value) (l : List Item) (h : BagAt w B p v l) (hl : l.length < 16) (i : Nat) (h1 : i < l.length) (hB : B ≤ w.heap.size) :
    Calls Try.prog 16 #[.pointer (some ⟨p, 0, none⟩), .int .i64 i] w fun e w' => e = .returned (.int .i64 0) ∧ Below B w w' ∧ ∃ v', BagAt w' B p v' (l ++ [l[i]]) := by
  obtain ⟨i0, hi, hz0, hz1, hz2⟩ := info_parts item_info
  have hc := bag_cell h
  have hlt : p < w.heap.size := Blk.lt h.2.1
  obtain ⟨g, c, rfl, hBg, hgl, hgp, hlc, hcm, hx1, hx2, hfr⟩ := bag_item h i h1
  have hown := h.2.2
  have hq : ((l.length : Int) == 16) = false := by simp; omega
  have hbp := h.1
  have hi1 : (i : Int) < (l.length : Int) := by omega
  go_enter Try.func16, Try.ntmps16
  go_wp2_with (go_at_call 29; refine (wrong_in w B p _ l h i (by omega) (by omega)).mono ?_; rintro e w' ⟨rfl, rfl⟩)
  refine Reg.wp_chain 13 [(12, fun v w' => ∃ n, v = .slice (some ⟨n, 0, none⟩) 1 1 ∧ Blk w' n 55 #[.string l[i].1, .bool l[i].2])] (fun w' => Below w.heap.size w w') (fun w w' => Below w.heap.size w w') (by kernel_rfl) (by kernel_rfl) (by kernel_rfl) (by kernel_rfl) (fun _ _ d _ _ h => by cases d <;> exact h) (Below.refl _ _).drew ?_
  simp only [List.take_succ_cons, List.take_zero]
  repeat (refine Reg.chain_plain rfl rfl ?_ ?_ ?_; rotate_left; (focus (intro w1 hI _; obtain ⟨hk, _⟩ := bcell hI; go_simp; rfl)))
  refine Reg.chain_eff rfl rfl (fun v w1 w2 hs ⟨n, e, hn⟩ => ⟨n, e, hn.below hs hn.lt⟩) (fun w1 hI _ K hK => ?_) (fun v => ?_)
  · obtain ⟨hk, _⟩ := bcell hI
    go_simp
    refine hK (.slice (some ⟨w1.heap.size, 0, none⟩) 1 1) _ _ (by go_simp) ⟨w1.heap.size, rfl, Blk.new _ _ _⟩ (hI.alloc hI.size _) ((Below.refl _ _).alloc (Nat.le_refl _) _)
  simp only [Act.put, List.setIfInBounds_toArray, List.set_cons_succ, List.set_cons_zero]
  refine Reg.chain_end (fun w1 hI hF => ?_)
  obtain ⟨n, rfl, hn⟩ := hF _ (List.mem_singleton.2 rfl)
  obtain ⟨hk, hfz⟩ := bcell hI
  clear hF
  have hown1 : w1.ownsRow B 55 2 (.slice (some ⟨g, 0, none⟩) l.length c) l.length (itemCells l) := ownsRow_below hown hI
  simp only [List.drop_succ_cons, List.drop_zero]
  go_wp2_with (at_builtin; refine wpList_append_own _ rfl _ _ 51 rfl B 55 i0 _ 2 24 Try.underlying51 hi hz0 hz1 hz2 rfl (by decide) _ _ _ rfl hown1 ⟨n, 0, none⟩ 1 1 [.string l[i].1, .bool l[i].2] rfl rfl ?c1 ?c2 ?c3 ?c4 ?c5 ?_)
  case c1 => have ha : ∀ j, (⟨n, 0, none⟩ : Addr).add j = ⟨n, j, none⟩ := (by intro j; unfold Addr.add; split <;> simp_all)
             intro j u hu; rw [ha, hn.cell]; simpa using hu
  case c2 => intro u hu; simp at hu; rcases hu with rfl | rfl <;> rfl
  case c3 => unfold maxLen; omega
  case c4 => omega
  case c5 => have := hI.size; omega
  intro v' w2 hown2 hg _
  obtain ⟨A', c', rfl⟩ := own_form hown2
  have hblk : Blk w2 p 53 #[.slice (some ⟨g, 0, none⟩) l.length c] := (Blk.below h.2.1 hI hlt).grown hg (by simp [Value.ownBlock]; omega)
  have hc2 := hblk.cell 0
  have hf2 := hblk.frozen 0
  simp at hc2
  go_wp2
  go_ret
  have hb2 : Below B w w2 := (hI.mono hB).trans (below_of_grown hg (by have := hI.size; omega) (fun k hk => (hown1.lt k hk).1))
  exact ⟨rfl, hb2.setCell hbp _, .slice A' (l.length + 1) c', bag_close hbp hblk hown2⟩

end Go.Proofs.Ytmaljobfboboeaa
