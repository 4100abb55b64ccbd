/- The bag: contracts of all its functions, for any state. -/
import Derived.Test.YtgacphicgglogaaObj
import Derived.Test.YtgacphicgglogaaRegB
import Derived.StillTailTactics
import Derived.Laws.CopyRow

/-! ## Contracts of the bag's functions: wrong, New, Len. -/
namespace Go.Proofs.Ytgacphicgglogaa.Bag
open Go.RowKit
set_option linter.unusedVariables false

abbrev Item := ByteArray × Bool
def Item.cells (x : Item) : List Value := [.string x.1, .bool x.2]
def itemCells (l : List Item) : List Value := l.flatMap Item.cells
theorem itemCells_length (l : List Item) : (itemCells l).length = l.length * 2 := by
  induction l with
  | nil => rfl
  | cons a l ih => simp [itemCells, Item.cells, List.flatMap_cons] at ih ⊢; omega

/-- A bag in memory: one block with its slice, and the slice's own row. -/
def BagAt (w : World) (B p : Nat) (v : Value) (items : List Item) : Prop :=
  B ≤ p ∧ w.heap[p]? = some (.cells #[v] 148 (0, 0)) ∧ w.ownsRow B 150 2 v items.length (itemCells items)

/-- The blocks of a bag. -/
def BF (p : Nat) (v : Value) (k : Nat) : Prop := k = p ∨ v.ownBlock = some k
/-- A bag's call is through: the items are l; nothing but the bag's own blocks was touched. -/
def BagEnd (w : World) (B p : Nat) (v : Value) (l : List Item) (w' : World) : Prop := ∃ v', BagAt w' B p v' l ∧ Touch (BF p v) w w' ∧ ∀ k, v'.ownBlock = some k → v.ownBlock = some k ∨ w.heap.size ≤ k
theorem BagEnd.refl {w : World} {B p : Nat} {v : Value} {l : List Item} (h : BagAt w B p v l) : BagEnd w B p v l w := ⟨v, h, Touch.refl _ _, fun _ hk => .inl hk⟩

theorem new_any (w : World) (B : Nat) (hB : B ≤ w.heap.size) :
    Calls Try.prog 67 #[] w fun e w' => e = .returned (.pointer (some ⟨w.heap.size, 0, none⟩)) ∧ BagAt w' B w.heap.size (.slice none 0 0) [] ∧ Below w.heap.size w w' := by
  go_enter Try.func67, Try.ntmps67
  go_wp2
  go_ret
  refine ⟨rfl, ⟨hB, ?_, World.ownsRow_nil _ _ _ _⟩, (Below.refl _ _).alloc (Nat.le_refl _) _⟩
  exact heap_alloc_new w _

theorem bag_cell {w : World} {B p : Nat} {v : Value} {l : List Item} (h : BagAt w B p v l) : w.cell? ⟨p, 0, none⟩ = some v := by
  simp [World.cell?, h.2.1]

theorem bag_form {w : World} {B p : Nat} {v : Value} {l : List Item} (h : BagAt w B p v l) : ∃ A c, v = .slice A l.length c := by
  rcases h.2.2.2 with ⟨rfl, h0⟩ | ⟨g, cap, cur, rfl, _⟩
  · exact ⟨none, 0, by rw [h0]⟩
  · exact ⟨_, _, rfl⟩

theorem len_any (w : World) (B p : Nat) (v : Value) (l : List Item) (h : BagAt w B p v l) :
    Calls Try.prog 74 #[.pointer (some ⟨p, 0, none⟩)] w fun e w' => e = .returned (.int .i64 l.length) ∧ w = w' := by
  have hc := bag_cell h
  obtain ⟨A, c, rfl⟩ := bag_form h
  go_enter Try.func74, Try.ntmps74
  go_wp2
  go_ret
  exact ⟨rfl, rfl⟩

theorem len_nil (w : World) :
    Calls Try.prog 74 #[.pointer none] w fun e w' => e = .returned (.int .i64 0) ∧ w = w' := by
  go_enter Try.func74, Try.ntmps74
  go_wp2
  go_ret
  exact ⟨rfl, rfl⟩

theorem wrong_nil (w : World) (i : Int) :
    Calls Try.prog 88 #[.pointer none, .int .i64 i] w fun e w' => e = .returned (.int .i64 15) ∧ w = w' := by
  go_enter Try.func88, Try.ntmps88
  go_wp2
  go_ret
  exact ⟨rfl, rfl⟩

theorem wrong_out (w : World) (B p : Nat) (v : Value) (l : List Item) (h : BagAt w B p v l) (i : Int) (hi : i < 0 ∨ (l.length : Int) ≤ i) :
    Calls Try.prog 88 #[.pointer (some ⟨p, 0, none⟩), .int .i64 i] w fun e w' => e = .returned (.int .i64 5) ∧ w = w' := by
  have hc := bag_cell h
  obtain ⟨A, c, rfl⟩ := bag_form h
  by_cases h0 : i < 0
  · go_enter Try.func88, Try.ntmps88
    go_wp2
    go_ret
    exact ⟨rfl, rfl⟩
  · have h1 : (l.length : Int) ≤ i := by omega
    go_enter Try.func88, Try.ntmps88
    go_wp2
    go_ret
    exact ⟨rfl, rfl⟩

theorem wrong_in (w : World) (B p : Nat) (v : Value) (l : List Item) (h : BagAt w B p v l) (i : Int) (h0 : 0 ≤ i) (h1 : i < l.length) :
    Calls Try.prog 88 #[.pointer (some ⟨p, 0, none⟩), .int .i64 i] w fun e w' => e = .returned (.int .i64 0) ∧ w = w' := by
  have hc := bag_cell h
  obtain ⟨A, c, rfl⟩ := bag_form h
  go_enter Try.func88, Try.ntmps88
  go_wp2
  go_ret
  exact ⟨rfl, rfl⟩

end Go.Proofs.Ytgacphicgglogaa.Bag

/-! ## The contract of Put. -/
namespace Go.Proofs.Ytgacphicgglogaa.Bag
open Go.RowKit
set_option linter.unusedVariables false

theorem item_info : (Try.prog.info? 150).map (fun i => (i.zero, i.size, i.bytes)) = some (some (.agg #[.string ByteArray.empty, .bool false]), 2, 24) := by kernel_rfl

/-- Behind an append and the store of what it gave. -/
theorem bag_close {w : World} {B p : Nat} {v v' : Value} {l : List Item} {x : Item} (hbp : B ≤ p) (hblk : Blk w p 148 #[v]) (hown : w.ownsRow B 150 2 v' (l.length + 1) (itemCells l ++ Item.cells x)) :
    BagAt (w.setCell ⟨p, 0, none⟩ v') B p v' (l ++ [x]) := by
  refine ⟨hbp, hblk.set_ 0 _, ?_⟩
  have e : itemCells l ++ Item.cells x = itemCells (l ++ [x]) := by simp [itemCells, Item.cells]
  rw [e] at hown
  have := own_blk_ne hown hblk (by decide)
  rw [List.length_append]
  exact ownsRow_setCell_other hown this _

theorem put_nil (w : World) (s : ByteArray) :
    Calls Try.prog 89 #[.pointer none, .string s] w fun e w' => e = .returned (.bool false) ∧ w = w' := by
  go_enter Try.func89, Try.ntmps89
  go_wp2
  go_ret
  exact ⟨rfl, rfl⟩

theorem put_full (w : World) (B p : Nat) (v : Value) (l : List Item) (h : BagAt w B p v l) (hl : l.length = 16) (s : ByteArray) :
    Calls Try.prog 89 #[.pointer (some ⟨p, 0, none⟩), .string s] w fun e w' => e = .returned (.bool false) ∧ w = w' := by
  have hc := bag_cell h
  obtain ⟨A, c, rfl⟩ := bag_form h
  have hq : ((l.length : Int) == 16) = true := by simp; omega
  clear hl
  go_enter Try.func89, Try.ntmps89
  go_wp2
  go_ret
  exact ⟨rfl, rfl⟩

theorem put_room (w : World) (B p : Nat) (v : Value) (l : List Item) (h : BagAt w B p v l) (hl : l.length < 16) (s : ByteArray) (hB : B ≤ w.heap.size) :
    Calls Try.prog 89 #[.pointer (some ⟨p, 0, none⟩), .string s] w fun e w' => e = .returned (.bool true) ∧ BagEnd w B p v (l ++ [(s, false)]) w' := by
  obtain ⟨i0, hi, hz0, hz1, hz2⟩ := info_parts item_info
  have hc := bag_cell h
  have hlt : p < w.heap.size := Blk.lt h.2.1
  obtain ⟨A, c, rfl⟩ := bag_form h
  have hown := h.2.2
  have hq : ((l.length : Int) == 16) = false := by simp; omega
  have hbp := h.1
  go_enter Try.func89, Try.ntmps89
  have hrx : Reads (w.alloc (.cells #[.string s, .bool false] 150)) (w.heap.size + 1) 2 (some ⟨w.heap.size, 0, none⟩) 1 [.string s, .bool false] := ⟨rfl, fun _ => ⟨_, rfl, Nat.lt_succ_self _, fun j u hu => cells_new w [.string s, .bool false] _ j u hu⟩⟩
  have hone : ∀ u ∈ [Value.string s, .bool false], u.oneCell' = true := fun u hu => by simp at hu; rcases hu with rfl | rfl <;> rfl
  go_wp2_with (at_builtin; refine wpList_append_any _ rfl _ _ 146 rfl B 150 i0 _ 2 24 Try.underlying146 hi hz0 hz1 hz2 rfl (by decide) _ _ _ rfl (hown.alloc _) _ (some ⟨w.heap.size, 0, none⟩) 1 1 _ rfl hrx hone ?c3 ?c4 ?c5 ?_)
  case c3 => unfold maxLen; omega
  case c4 => omega
  case c5 => simp; omega
  intro v' w1 hown1 hg hbl
  obtain ⟨ht1, hbl1⟩ := touch_app hg hbl
  have HT := Lib.hid ht1
  have HBL := Lib.hid hbl1
  clear ht1 hbl1 hbl hrx hone
  obtain ⟨A', c', rfl⟩ := own_form hown1
  have hne : (Value.slice A l.length c).ownBlock ≠ some p := own_blk_ne hown h.2.1 (by decide)
  have hblk : Blk w1 p 148 #[.slice A l.length c] := (Blk.alloc h.2.1 _).grown hg (fun e => hne e.symm)
  have hc1 := hblk.cell 0
  have hf1 := hblk.frozen 0
  simp at hc1
  go_wp2
  go_ret
  exact ⟨rfl, .slice A' (l.length + 1) c', bag_close hbp hblk hown1, (HT.out.more (fun k hk => .inr hk)).trans (Touch.of_set (S := fun k => k = p) _ _ rfl) (fun k hk => .inl (.inl hk)), HBL.out⟩

end Go.Proofs.Ytgacphicgglogaa.Bag

/-! ## The contract of Twice. -/
namespace Go.Proofs.Ytgacphicgglogaa.Bag
open Go.RowKit
set_option linter.unusedVariables false

theorem twice_nil (w : World) (i : Int) :
    Calls Try.prog 70 #[.pointer none, .int .i64 i] w fun e w' => e = .returned (.int .i64 15) ∧ w = w' := by
  go_enter Try.func70, Try.ntmps70
  go_wp2_with (go_at_call 88; refine (wrong_nil _ _).mono ?_; rintro e w' ⟨rfl, rfl⟩)
  go_ret
  exact ⟨rfl, rfl⟩

theorem twice_out (w : World) (B p : Nat) (v : Value) (l : List Item) (h : BagAt w B p v l) (i : Int) (hi : i < 0 ∨ (l.length : Int) ≤ i) :
    Calls Try.prog 70 #[.pointer (some ⟨p, 0, none⟩), .int .i64 i] w fun e w' => e = .returned (.int .i64 5) ∧ w = w' := by
  go_enter Try.func70, Try.ntmps70
  go_wp2_with (go_at_call 88; refine (wrong_out w B p v l h i hi).mono ?_; rintro e w' ⟨rfl, rfl⟩)
  go_ret
  exact ⟨rfl, rfl⟩

theorem twice_full (w : World) (B p : Nat) (v : Value) (l : List Item) (h : BagAt w B p v l) (hl : l.length = 16) (i : Int) (h0 : 0 ≤ i) (h1 : i < l.length) :
    Calls Try.prog 70 #[.pointer (some ⟨p, 0, none⟩), .int .i64 i] w fun e w' => e = .returned (.int .i64 10) ∧ w = w' := by
  have hc := bag_cell h
  obtain ⟨A, c, rfl⟩ := bag_form h
  have hq : ((l.length : Int) == 16) = true := by simp; omega
  clear hl
  go_enter Try.func70, Try.ntmps70
  go_wp2_with (go_at_call 88; refine (wrong_in w B p _ l h i h0 h1).mono ?_; rintro e w' ⟨rfl, rfl⟩)
  go_ret
  exact ⟨rfl, rfl⟩

theorem itemCells_at (l : List Item) (i : Nat) (h : i < l.length) : (itemCells l)[i * 2]? = some (.string l[i].1) ∧ (itemCells l)[i * 2 + 1]? = some (.bool l[i].2) := by
  induction l generalizing i with
  | nil => simp at h
  | cons a l ih =>
    cases i with
    | zero => simp [itemCells, Item.cells]
    | succ i =>
      have := ih i (by simpa using h)
      have e1 : (i + 1) * 2 = i * 2 + 1 + 1 := by omega
      simpa [itemCells, Item.cells, List.flatMap_cons, e1] using this

/-- Where there is an item, the slice's address and the item's two cells. -/
theorem bag_item {w : World} {B p : Nat} {v : Value} {l : List Item} (h : BagAt w B p v l) (i : Nat) (hi : i < l.length) :
    ∃ g c, v = .slice (some ⟨g, 0, none⟩) l.length c ∧ B ≤ g ∧ g < w.heap.size ∧ g ≠ p ∧ l.length ≤ c ∧ c ≤ maxLen ∧
      w.cell? ⟨g, i * 2, none⟩ = some (.string l[i].1) ∧ w.cell? ⟨g, i * 2 + 1, none⟩ = some (.bool l[i].2) ∧ (∀ o, w.frozen? ⟨g, o, none⟩ = false) := by
  have hne := own_blk_ne h.2.2 h.2.1 (by decide)
  have hcell := h.2.2
  rcases h.2.2.2 with ⟨_, h0⟩ | ⟨g, cap, cur, rfl, hb, hg, hn, hm, _⟩
  · omega
  · obtain ⟨e1, e2⟩ := itemCells_at l i hi
    have k1 := h.2.2.cells (g := g) rfl _ _ e1
    have k2 := h.2.2.cells (g := g) rfl _ _ e2
    have ha : ∀ j, (⟨g, 0, none⟩ : Addr).add j = ⟨g, j, none⟩ := by intro j; unfold Addr.add; split <;> simp_all
    rw [ha] at k1 k2
    refine ⟨g, cap, rfl, hb, Blk.lt hg, ?_, hn, hm, k1, k2, fun o => Blk.frozen hg o⟩
    intro e; subst e; exact hne rfl

set_option maxHeartbeats 1000000 in
set_option maxRecDepth 100000 in
theorem twice_room (w : World) (B p : Nat) (v : Value) (l : List Item) (h : BagAt w B p v l) (hl : l.length < 16) (i : Nat) (h1 : i < l.length) (hB : B ≤ w.heap.size) :
    Calls Try.prog 70 #[.pointer (some ⟨p, 0, none⟩), .int .i64 i] w fun e w' => e = .returned (.int .i64 0) ∧ BagEnd w B p v (l ++ [l[i]]) w' := by
  obtain ⟨i0, hi, hz0, hz1, hz2⟩ := info_parts item_info
  have hc := bag_cell h
  have hlt : p < w.heap.size := Blk.lt h.2.1
  obtain ⟨g, c, rfl, hBg, hgl, hgp, hlc, hcm, hx1, hx2, hfr⟩ := bag_item h i h1
  have hown := h.2.2
  have hq : ((l.length : Int) == 16) = false := by simp; omega
  have hbp := h.1
  have hi1 : (i : Int) < (l.length : Int) := by omega
  go_enter Try.func70, Try.ntmps70
  go_wp2_with (go_at_call 88; refine (wrong_in w B p _ l h i (by omega) (by omega)).mono ?_; rintro e w' ⟨rfl, rfl⟩)
  refine Reg.wp_chain 13 [(12, fun v w' => ∃ n, v = .slice (some ⟨n, 0, none⟩) 1 1 ∧ Blk w' n 150 #[.string l[i].1, .bool l[i].2])] (fun w' => Below w.heap.size w w') (fun w w' => Below w.heap.size w w') (by kernel_rfl) (by kernel_rfl) (by kernel_rfl) (by kernel_rfl) (fun _ _ d _ _ h => by cases d <;> exact h) (Below.refl _ _).drew ?_
  simp only [List.take_succ_cons, List.take_zero]
  repeat (refine Reg.chain_plain rfl rfl ?_ ?_ ?_; rotate_left; (focus (intro w1 hI _; obtain ⟨hk, _⟩ := bcell hI; go_simp; rfl)))
  refine Reg.chain_eff rfl rfl (fun v w1 w2 hs ⟨n, e, hn⟩ => ⟨n, e, hn.below hs hn.lt⟩) (fun w1 hI _ K hK => ?_) (fun v => ?_)
  · obtain ⟨hk, _⟩ := bcell hI
    go_simp
    refine hK (.slice (some ⟨w1.heap.size, 0, none⟩) 1 1) _ _ (by go_simp) ⟨w1.heap.size, rfl, Blk.new _ _ _⟩ (hI.alloc hI.size _) ((Below.refl _ _).alloc (Nat.le_refl _) _)
  simp only [Act.put, List.setIfInBounds_toArray, List.set_cons_succ, List.set_cons_zero]
  refine Reg.chain_end (fun w1 hI hF => ?_)
  obtain ⟨n, rfl, hn⟩ := hF _ (List.mem_singleton.2 rfl)
  obtain ⟨hk, hfz⟩ := bcell hI
  clear hF
  have hown1 : w1.ownsRow B 150 2 (.slice (some ⟨g, 0, none⟩) l.length c) l.length (itemCells l) := ownsRow_below hown hI
  simp only [List.drop_succ_cons, List.drop_zero]
  have hrx : Reads w1 (n + 1) 2 (some ⟨n, 0, none⟩) 1 [.string l[i].1, .bool l[i].2] := ⟨rfl, fun _ => ⟨_, rfl, Nat.lt_succ_self _, fun j u hu => by
    have ha : (⟨n, 0, none⟩ : Addr).add j = ⟨n, j, none⟩ := by unfold Addr.add; split <;> simp_all
    rw [ha, hn.cell]
    simpa using hu⟩⟩
  have hone : ∀ u ∈ [Value.string l[i].1, .bool l[i].2], u.oneCell' = true := fun u hu => by simp at hu; rcases hu with rfl | rfl <;> rfl
  go_wp2_with (at_builtin; refine wpList_append_any _ rfl _ _ 146 rfl B 150 i0 _ 2 24 Try.underlying146 hi hz0 hz1 hz2 rfl (by decide) _ _ _ rfl hown1 _ (some ⟨n, 0, none⟩) 1 1 _ rfl hrx hone ?c3 ?c4 ?c5 ?_)
  case c3 => unfold maxLen; omega
  case c4 => omega
  case c5 => have := hI.size; omega
  intro v' w2 hown2 hg hbl
  have HT := Lib.hid (show Touch (fun k => (Value.slice (some ⟨g, 0, none⟩) l.length c).ownBlock = some k) w w2 from (Touch.of_below hI).trans (Touch.of_grown (S := fun k => (Value.slice (some ⟨g, 0, none⟩) l.length c).ownBlock = some k) hg (fun k hk => hk)) (fun k hk => .inl hk))
  have HBL := Lib.hid (show ∀ k, v'.ownBlock = some k → (Value.slice (some ⟨g, 0, none⟩) l.length c).ownBlock = some k ∨ w.heap.size ≤ k from fun k hk => by
    rcases hbl with h | h
    · exact .inl (h ▸ hk)
    · rw [h] at hk
      injection hk with hk
      have := hI.size
      exact .inr (by omega))
  clear hbl hrx hone
  obtain ⟨A', c', rfl⟩ := own_form hown2
  have hblk : Blk w2 p 148 #[.slice (some ⟨g, 0, none⟩) l.length c] := (Blk.below h.2.1 hI hlt).grown hg (by simp [Value.ownBlock]; omega)
  have hc2 := hblk.cell 0
  have hf2 := hblk.frozen 0
  simp at hc2
  go_wp2
  go_ret
  exact ⟨rfl, .slice A' (l.length + 1) c', bag_close hbp hblk hown2, (HT.out.more (fun k hk => .inr hk)).trans (Touch.of_set (S := fun k => k = p) _ _ rfl) (fun k hk => .inl (.inl hk)), HBL.out⟩

end Go.Proofs.Ytgacphicgglogaa.Bag

/-! ## The contract of Turn. -/
namespace Go.Proofs.Ytgacphicgglogaa.Bag
open Go.RowKit
set_option linter.unusedVariables false

theorem turn_nil (w : World) (i bit : Int) :
    Calls Try.prog 71 #[.pointer none, .int .i64 i, .int .i64 bit] w fun e w' => e = .returned (.int .i64 15) ∧ w = w' := by
  go_enter Try.func71, Try.ntmps71
  go_wp2_with (go_at_call 88; refine (wrong_nil _ _).mono ?_; rintro e w' ⟨rfl, rfl⟩)
  go_ret
  exact ⟨rfl, rfl⟩

theorem turn_out (w : World) (B p : Nat) (v : Value) (l : List Item) (h : BagAt w B p v l) (i bit : Int) (hi : i < 0 ∨ (l.length : Int) ≤ i) :
    Calls Try.prog 71 #[.pointer (some ⟨p, 0, none⟩), .int .i64 i, .int .i64 bit] w fun e w' => e = .returned (.int .i64 5) ∧ w = w' := by
  go_enter Try.func71, Try.ntmps71
  go_wp2_with (go_at_call 88; refine (wrong_out w B p v l h i hi).mono ?_; rintro e w' ⟨rfl, rfl⟩)
  go_ret
  exact ⟨rfl, rfl⟩

theorem itemCells_set (l : List Item) (i : Nat) (x : Item) (h : i < l.length) : ((itemCells l).set (i * 2) (.string x.1)).set (i * 2 + 1) (.bool x.2) = itemCells (l.set i x) := by
  induction l generalizing i with
  | nil => simp at h
  | cons a l ih =>
    cases i with
    | zero => simp [itemCells, Item.cells]
    | succ i =>
      have := ih i (by simpa using h)
      have e1 : (i + 1) * 2 = i * 2 + 1 + 1 := by omega
      simpa [itemCells, Item.cells, List.flatMap_cons, e1] using this

theorem notEmpty {s : ByteArray} (h : 0 < s.size) : s.toList.isEmpty = false := by
  rw [ByteArray.toList_eq]
  rcases hl : s.data.toList with _ | ⟨x, r⟩
  · have : s.data.toList.length = s.size := by simp
    rw [hl] at this; simp at this; omega
  · rfl
theorem isEmpty_of {s : ByteArray} (h : s.size = 0) : s.toList.isEmpty = true := by
  rw [ByteArray.toList_eq]
  have : s.data.toList = [] := List.eq_nil_of_length_eq_zero (by simpa using h)
  rw [this]; rfl

/-- A text with one bit of it turned. -/
def bitOf (r : Nat) : UInt8 := UInt8.ofNat (2 ^ r)
def turnBytes (l : List UInt8) (n : Nat) : List UInt8 := l.set (n / 8) ((l[n / 8]?.getD 0) ^^^ bitOf (n % 8))

theorem turn_val (b : UInt8) (r : Nat) (h : r < 8) : bits .xor .u8 (b.toNat : Int) (2 ^ min r 8 % 256) = ((b ^^^ bitOf r).toNat : Int) := by
  have key : ∀ k : Nat, k < 256 → bits .xor .u8 (b.toNat : Int) (k : Int) = ((b.toNat ^^^ k : Nat) : Int) := fun k hk => u8_xor_nat _ _ (UInt8.toNat_lt b) hk
  have hr : ∀ r, r < 8 → ((2 : Int) ^ min r 8 % 256) = ((2 ^ r : Nat) : Int) ∧ (bitOf r).toNat = 2 ^ r ∧ 2 ^ r < 256 := by decide
  obtain ⟨h1, h2, h3⟩ := hr r h
  rw [h1, key _ h3, UInt8.toNat_xor, h2]

theorem turnBytes_vals (l : List UInt8) (n : Nat) (h : n / 8 < l.length) : (byteVals l).set (n / 8) (.int .u8 ((l[n / 8] ^^^ bitOf (n % 8)).toNat : Int)) = byteVals (turnBytes l n) := by
  simp [byteVals, turnBytes, List.map_set, h]

theorem turnBytes_length (l : List UInt8) (n : Nat) : (turnBytes l n).length = l.length := by simp [turnBytes]

set_option maxHeartbeats 1000000 in
set_option maxRecDepth 100000 in
theorem turn_in (w : World) (B p : Nat) (v : Value) (l : List Item) (h : BagAt w B p v l) (i : Nat) (h1 : i < l.length) (bit : Nat) (hB : B ≤ w.heap.size) (hs0 : 0 < l[i].1.size) (ht : l[i].2 = false) (hsz : l[i].1.size ≤ 2000) :
    Calls Try.prog 71 #[.pointer (some ⟨p, 0, none⟩), .int .i64 i, .int .i64 bit] w fun e w' => e = .returned (.int .i64 0) ∧ BagEnd w B p v (l.set i (⟨(turnBytes l[i].1.data.toList (bit % (8 * l[i].1.size))).toArray⟩, true)) w' := by
  have hc := bag_cell h
  have hlt : p < w.heap.size := Blk.lt h.2.1
  obtain ⟨g, c, rfl, hBg, hgl, hgp, hlc, hcm, hx1, hx2, hfr⟩ := bag_item h i h1
  have hown := h.2.2
  have hbp := h.1
  have hi1 : (i : Int) < (l.length : Int) := by omega
  generalize l[i] = it at *
  obtain ⟨s, t⟩ := it
  simp only at hs0 ht hx1 hx2 hsz
  subst ht
  have hs := notEmpty hs0
  have hne : ¬ (8 * (s.size : Int) = 0) := by omega
  go_enter Try.func71, Try.ntmps71
  go_wp2_with (first | (go_at_call 88; refine (wrong_in w B p _ l h i (by omega) (by omega)).mono ?_; rintro e w' ⟨rfl, rfl⟩) | (refine wpList_bytes rfl (.tmp 47) 9 75 5 rfl Try.underlying9 Try.underlying75 Try.underlying5 s rfl ?_; intro w1 cap hcap hb1 hz1 hrow))
  have hn0 : 8 * s.size ≠ 0 := by omega
  have hnl : bit % (8 * s.size) < 8 * s.size := Nat.mod_lt _ (by omega)
  rw [show ((bit : Int) % (8 * (s.size : Int))) = ((bit % (8 * s.size) : Nat) : Int) from by simp]
  obtain ⟨n, hn⟩ : ∃ n, bit % (8 * s.size) = n := ⟨_, rfl⟩
  rw [hn] at hnl ⊢
  have HN := Lib.hid hn
  clear hn
  have hk : n / 8 < s.size := by omega
  have hb := hrow.cell (j := n / 8) (u := .int .u8 (s.data[n / 8].toNat : Int)) (by simp only [byteVals, List.getElem?_map, Array.getElem?_toList, Array.getElem?_eq_getElem hk, Option.map_some])
  have hf := hrow.frozen (j := n / 8) (by simpa [byteVals] using hk)
  have hrow2 : Row (w1.setCell ⟨w.heap.size, n / 8, none⟩ (.int .u8 (bits .xor .u8 (s.data[n / 8].toNat : Int) (2 ^ min (n % 8) 8 % 256)))).drew w.heap.size 5 (byteVals (turnBytes s.data.toList n)) := by
    rw [turn_val _ _ (by omega)]
    have h1 := (hrow.set_ (n / 8) (.int .u8 ((s.data[n / 8] ^^^ bitOf (n % 8)).toNat : Int))).drew
    have h2 := turnBytes_vals s.data.toList n (by simpa using hk)
    simp only [Array.getElem_toList] at h2
    rw [h2] at h1
    exact h1
  have hk1 : (n : Int) / 8 < (s.size : Int) := by omega
  have hk2 : 0 ≤ (n : Int) / 8 := by omega
  have hk3 : ((n : Int) / 8).toNat = n / 8 := by omega
  have hk4 : 0 ≤ (n : Int) % 8 := by omega
  have hk5 : IntKind.i64.wrap ((n : Int) / 8) = (n : Int) / 8 := IntWalk.i64_in _ (by omega)
  have hk6 : IntKind.i64.wrap ((n : Int) % 8) = (n : Int) % 8 := IntWalk.i64_in _ (by omega)
  refine Reg.wp_chain 10 [] (fun w' => w' = w1.drew) (fun _ _ => True) (by kernel_rfl) (by kernel_rfl) (by kernel_rfl) (by kernel_rfl) (fun _ _ d _ _ h => by cases d <;> exact h) rfl ?_
  simp only [List.take_succ_cons, List.take_zero]
  repeat (refine Reg.chain_plain rfl rfl ?_ ?_ ?_; rotate_left; (focus (rintro w2 rfl _; go_simp; rfl)))
  simp only [Act.put, List.setIfInBounds_toArray, List.set_cons_succ, List.set_cons_zero]
  refine Reg.chain_end (fun w2 hw2 _ => ?_)
  subst hw2
  simp only [List.drop_succ_cons, List.drop_zero]
  have hb2 : Below w.heap.size w (w1.setCell ⟨w.heap.size, n / 8, none⟩ (.int .u8 (bits .xor .u8 (s.data[n / 8].toNat : Int) (2 ^ min (n % 8) 8 % 256)))).drew := (hb1.setCell (Nat.le_refl _) _).drew
  obtain ⟨w2, hw2⟩ : ∃ w2, (w1.setCell ⟨w.heap.size, n / 8, none⟩ (.int .u8 (bits .xor .u8 (s.data[n / 8].toNat : Int) (2 ^ min (n % 8) 8 % 256)))).drew = w2 := ⟨_, rfl⟩
  have HW := Lib.hid hw2
  rw [hw2] at hrow2 hb2
  clear hw2
  go_wp2_with (rw [HW.out]; refine wpList_unbytes rfl (.tmp 60) 75 9 5 rfl Try.underlying75 Try.underlying5 Try.underlying9 w.heap.size s.size cap (turnBytes s.data.toList n) rfl (by rw [turnBytes_length]; simp) hrow2 ?_; obtain ⟨hk2, hf2⟩ := bcell hb2)
  go_ret
  rw [HN.out]
  refine ⟨rfl, .slice (some ⟨g, 0, none⟩) l.length c, ⟨hbp, ?_, ?_⟩, (((Touch.of_below hb2).trans (Touch.of_set (S := fun k => k = g) ⟨g, i * 2, none⟩ _ rfl) (fun k hk => .inl (.inr (by rw [hk]; rfl)))).trans (Touch.of_set (S := fun k => k = g) ⟨g, i * 2 + 1, none⟩ _ rfl) (fun k hk => .inl (.inr (by rw [hk]; rfl)))), fun k hk => .inl hk⟩
  · rw [Below.heap_setCell _ _ _ _ (by simpa using Ne.symm hgp), Below.heap_setCell _ _ _ _ (by simpa using Ne.symm hgp), hb2.block p hlt]
    exact h.2.1
  · have h3 := ownsRow_set (ownsRow_set (ownsRow_below hown hb2) (i * 2) (.string ⟨(turnBytes s.data.toList n).toArray⟩)) (i * 2 + 1) (.bool true)
    rw [itemCells_set l i (⟨(turnBytes s.data.toList n).toArray⟩, true) h1] at h3
    simpa using h3

theorem turn_neg (w : World) (B p : Nat) (v : Value) (l : List Item) (h : BagAt w B p v l) (i : Nat) (h1 : i < l.length) (bit : Int) (hb : bit < 0) :
    Calls Try.prog 71 #[.pointer (some ⟨p, 0, none⟩), .int .i64 i, .int .i64 bit] w fun e w' => e = .returned (.int .i64 5) ∧ w = w' := by
  have hc := bag_cell h
  obtain ⟨g, c, rfl, hBg, hgl, hgp, hlc, hcm, hx1, hx2, hfr⟩ := bag_item h i h1
  have hi1 : (i : Int) < (l.length : Int) := by omega
  go_enter Try.func71, Try.ntmps71
  go_wp2_with (go_at_call 88; refine (wrong_in w B p _ l h i (by omega) (by omega)).mono ?_; rintro e w' ⟨rfl, rfl⟩)
  go_ret
  exact ⟨rfl, rfl⟩

theorem turn_empty (w : World) (B p : Nat) (v : Value) (l : List Item) (h : BagAt w B p v l) (i : Nat) (h1 : i < l.length) (bit : Nat) (hs : l[i].1.size = 0) :
    Calls Try.prog 71 #[.pointer (some ⟨p, 0, none⟩), .int .i64 i, .int .i64 bit] w fun e w' => e = .returned (.int .i64 1) ∧ w = w' := by
  have hc := bag_cell h
  obtain ⟨g, c, rfl, hBg, hgl, hgp, hlc, hcm, hx1, hx2, hfr⟩ := bag_item h i h1
  have hi1 : (i : Int) < (l.length : Int) := by omega
  have hs := isEmpty_of hs
  go_enter Try.func71, Try.ntmps71
  go_wp2_with (go_at_call 88; refine (wrong_in w B p _ l h i (by omega) (by omega)).mono ?_; rintro e w' ⟨rfl, rfl⟩)
  go_ret
  exact ⟨rfl, rfl⟩

theorem turn_twice (w : World) (B p : Nat) (v : Value) (l : List Item) (h : BagAt w B p v l) (i : Nat) (h1 : i < l.length) (bit : Nat) (hs : 0 < l[i].1.size) (ht : l[i].2 = true) :
    Calls Try.prog 71 #[.pointer (some ⟨p, 0, none⟩), .int .i64 i, .int .i64 bit] w fun e w' => e = .returned (.int .i64 3) ∧ w = w' := by
  have hc := bag_cell h
  obtain ⟨g, c, rfl, hBg, hgl, hgp, hlc, hcm, hx1, hx2, hfr⟩ := bag_item h i h1
  have hi1 : (i : Int) < (l.length : Int) := by omega
  have hs := notEmpty hs
  rw [ht] at hx2
  go_enter Try.func71, Try.ntmps71
  go_wp2_with (go_at_call 88; refine (wrong_in w B p _ l h i (by omega) (by omega)).mono ?_; rintro e w' ⟨rfl, rfl⟩)
  go_ret
  exact ⟨rfl, rfl⟩

end Go.Proofs.Ytgacphicgglogaa.Bag

/-! ## The contracts of Take and Drop. -/
namespace Go.Proofs.Ytgacphicgglogaa.Bag
open Go.RowKit
set_option linter.unusedVariables false

theorem wpList_copy_in {P : Program} {w : World} {ops : Array Oper} {rest : List Oper} {o : Oper} {a : Act} {Q : Exit → Act → World → Prop} (hgd : o.guard = none) (d s : Operand) (dT sT : TypeId)
    (ho : o.op = .call { callee := .builtin .copy, args := #[d, s], argTypes := #[dT, sT] }) (elem : TypeId) (i : TypeInfo) (size : Nat) (hu : P.underlying dT = some (.slice elem)) (hi : P.info? elem = some i) (hsz : i.size = size)
    (g off off2 dLen dCap sLen sCap : Nat) (hd : a.eval d = .slice (some ⟨g, off, none⟩) dLen dCap) (hs : a.eval s = .slice (some ⟨g, off2, none⟩) sLen sCap)
    (cur : Array Value) (t : TypeId) (hg : w.heap[g]? = some (.cells cur t (0, 0))) (m : Nat) (hm : Nat.min sLen dLen = m) (cs : List Value) (hcs : cs.length = m * size)
    (hsrc : ∀ (j : Nat) v, cs[j]? = some v → cur[off2 + j]? = some v) (hfit : off + cs.length ≤ cur.size) (h1 : ∀ v ∈ cs, v.oneCell' = true)
    (h : wpList P ops Q rest (a.put o.dst (goInt m)) (w.setRow g (cur.toList.take off ++ cs ++ cur.toList.drop (off + cs.length)).toArray)) : wpList P ops Q (o :: rest) a w := by
  refine wpList_plain hgd fun K hK => ?_
  subst hsz
  subst hm
  have hadd : ∀ j, (⟨g, off2, none⟩ : Addr).add j = ⟨g, off2 + j, none⟩ := by intro j; unfold Addr.add; split <;> simp_all
  have hf := run_firstCells_some (P := P) w i.size (Nat.min sLen dLen) ⟨g, off2, none⟩ sLen sCap cs hcs (fun j v hj => by
    rw [hadd, (show w.cell? ⟨g, off2 + j, none⟩ = cur[off2 + j]? from cell_of_row w g (off2 + j) cur t (0, 0) hg)]
    exact hsrc j v hj)
  have hst := run_storeCells_at P g off t cs 0 cur w hg (by simpa using hfit) h1
  simp only [Nat.add_zero] at hst
  have hrun : (Builtin.copy_ #[dT, sT] o.type #[.slice (some ⟨g, off, none⟩) dLen dCap, .slice (some ⟨g, off2, none⟩) sLen sCap]).run P w = .ok (goInt (Nat.min sLen dLen)) (w.setRow g (cur.toList.take off ++ cs ++ cur.toList.drop (off + cs.length)).toArray) := by
    simp [Builtin.copy_, run_underlying hu, sizeOf, typeInfo, hi, Builtin.lenOf, hf, hst]
  unfold Oper.wp
  simp only [execOp, ho, resolve, invoke, builtin, hd, hs, List.map_toArray, List.map_cons, List.map_nil, Sem.run_bind, Sem.run_pure, hrun, Result.andThen_ok, Oper.upon]
  exact hK _ _ h

/-- 'clear' of one element. -/
theorem run_clear_one {P : Program} (w : World) (dT ty elem : TypeId) (z : Value) (hu : P.underlying dT = some (.slice elem)) (hz : ∀ w, (zeroValue elem).run P w = .ok z w)
    (g off c : Nat) (cur : Array Value) (t : TypeId) (hg : w.heap[g]? = some (.cells cur t (0, 0))) (cs : List Value) (hcs : (Builtin.zeroCells z.cells 1).toList = cs) (hfit : off + cs.length ≤ cur.size) (h1 : ∀ v ∈ cs, v.oneCell' = true) :
    (Builtin.clear_ #[dT] ty #[.slice (some ⟨g, off, none⟩) 1 c]).run P w = .ok (.tuple #[]) (w.setRow g (cur.toList.take off ++ cs ++ cur.toList.drop (off + cs.length)).toArray) := by
  have hst := run_storeCells_at P g off t cs 0 cur w hg (by simpa using hfit) h1
  simp only [Nat.add_zero] at hst
  simp [Builtin.clear_, run_underlying hu, hz, hcs, hst]

theorem itemCells_drop (l : List Item) (i : Nat) : (itemCells l).drop (i * 2) = itemCells (l.drop i) := by
  induction i generalizing l with
  | zero => simp
  | succ i ih =>
    cases l with
    | nil => simp [itemCells]
    | cons a l =>
      have e1 : (i + 1) * 2 = i * 2 + 1 + 1 := by omega
      have := ih l
      simpa [itemCells, Item.cells, List.flatMap_cons, e1] using this
theorem itemCells_take (l : List Item) (i : Nat) : (itemCells l).take (i * 2) = itemCells (l.take i) := by
  induction i generalizing l with
  | zero => simp [itemCells]
  | succ i ih =>
    cases l with
    | nil => simp [itemCells]
    | cons a l =>
      have e1 : (i + 1) * 2 = i * 2 + 1 + 1 := by omega
      have := ih l
      simpa [itemCells, Item.cells, List.flatMap_cons, e1] using this
theorem itemCells_append (l l' : List Item) : itemCells (l ++ l') = itemCells l ++ itemCells l' := by simp [itemCells]

theorem oneCells (l : List Item) : ∀ v ∈ itemCells l, v.oneCell' = true := by
  intro v hv
  obtain ⟨x, _, hx⟩ := List.mem_flatMap.1 hv
  simp [Item.cells] at hx
  rcases hx with rfl | rfl <;> rfl

theorem zero_item : ∀ w, (zeroValue 150).run Try.prog w = .ok (.agg #[.string ByteArray.empty, .bool false]) w := by intro w; kernel_rfl

theorem take_keep {α : Type} (c1 mid rest : List α) (k : Nat) (h : k ≤ c1.length) : (c1.take k ++ mid ++ rest).take k = c1.take k := by
  have h1 : (c1.take k).length = k := by rw [List.length_take]; omega
  rw [List.append_assoc, List.take_append_of_le_length (by omega), List.take_of_length_le (by omega)]

theorem zc_item : (Builtin.zeroCells (Value.agg #[.string ByteArray.empty, .bool false]).cells 1).toList = [.string ByteArray.empty, .bool false] := by kernel_rfl

theorem take_nil (w : World) (i : Int) :
    Calls Try.prog 68 #[.pointer none, .int .i64 i] w fun e w' => e = .returned (.tuple #[.string ByteArray.empty, .int .i64 15]) ∧ w = w' := by
  go_enter Try.func68, Try.ntmps68
  go_wp2_with (go_at_call 88; refine (wrong_nil _ _).mono ?_; rintro e w' ⟨rfl, rfl⟩)
  go_ret2
  exact ⟨rfl, rfl⟩

theorem drop_nil (w : World) (i : Int) :
    Calls Try.prog 69 #[.pointer none, .int .i64 i] w fun e w' => e = .returned (.int .i64 15) ∧ w = w' := by
  go_enter Try.func69, Try.ntmps69
  go_wp2_with (go_at_call 68; refine (take_nil _ _).mono ?_; rintro e w' ⟨rfl, rfl⟩)
  go_ret
  exact ⟨rfl, rfl⟩

set_option maxHeartbeats 1000000 in
set_option maxRecDepth 100000 in
theorem take_in (w : World) (B p : Nat) (v : Value) (l : List Item) (h : BagAt w B p v l) (hl : l.length ≤ 16) (i : Nat) (h1 : i < l.length) :
    Calls Try.prog 68 #[.pointer (some ⟨p, 0, none⟩), .int .i64 i] w fun e w' => e = .returned (.tuple #[.string l[i].1, .int .i64 0]) ∧ BagEnd w B p v (l.eraseIdx i) w' := by
  obtain ⟨i0, hi, hz0, hz1, hz2⟩ := info_parts item_info
  have hc := bag_cell h
  have hlt : p < w.heap.size := Blk.lt h.2.1
  obtain ⟨g, c, rfl, hBg, hgl, hgp, hlc, hcm, hx1, hx2, hfr⟩ := bag_item h i (by omega)
  have hown := h.2.2
  have hbp := h.1
  have hi1 : (i : Int) < (l.length : Int) := by omega
  have hi2 : (i : Int) + 1 ≤ (l.length : Int) := by omega
  by_cases hcc : c = i + 1
  case pos =>
    have hll : l.length = i + 1 := by omega
    subst hcc
    have hne : ¬ (i + 1 = i) := by omega
    have hw1 : IntKind.i64.wrap ((i : Int) + 1) = (i : Int) + 1 := IntWalk.i64_in _ (by omega)
    have hw2 : ((i : Int) + 1).toNat = i + 1 := by omega
    have hw3 : 0 ≤ (i : Int) + 1 := by omega
    have hil : i ≤ l.length := by omega
    have hil1 : i + 1 ≤ l.length := by omega
    have HLL := Lib.hid hll
    clear hll
    go_enter Try.func68, Try.ntmps68
    go_wp2_with (go_at_call 88; refine (wrong_in w B p _ l h i (by omega) (by omega)).mono ?_; rintro e w' ⟨rfl, rfl⟩)
    refine Reg.wp_chain 13 [] (fun w' => w' = w.drew) (fun _ _ => True) (by kernel_rfl) (by kernel_rfl) (by kernel_rfl) (by kernel_rfl) (fun _ _ d _ _ h => by cases d <;> exact h) rfl ?_
    simp only [List.take_succ_cons, List.take_zero]
    repeat (refine Reg.chain_plain rfl rfl ?_ ?_ ?_; rotate_left; (focus (rintro w2 rfl _; go_simp; rfl)))
    simp only [Act.put, List.setIfInBounds_toArray, List.set_cons_succ, List.set_cons_zero]
    refine Reg.chain_end (fun w2 hw2 _ => ?_)
    subst hw2
    simp only [List.drop_succ_cons, List.drop_zero]
    have hll := HLL.out
    obtain ⟨cur, hg, hcs, htake⟩ : ∃ cur : Array Value, w.heap[g]? = some (.cells cur 150 (0, 0)) ∧ cur.size = (i + 1) * 2 ∧ cur.toList.take (l.length * 2) = itemCells l := by
      rcases hown.2 with ⟨hv, _⟩ | ⟨g', cap, cur, hv, _, hg, _, _, hcs, htake⟩
      · cases hv
      · injection hv with e1 _ e2
        injection e1 with e1
        injection e1 with e1
        subst e1; subst e2
        exact ⟨cur, hg, hcs, htake⟩
    obtain ⟨m, hm⟩ : ∃ m, l.length - (i + 1) = m := ⟨_, rfl⟩
    have hml : i + 1 + m = l.length := by omega
    have hlen : (itemCells (l.drop (i + 1))).length = m * 2 := by rw [itemCells_length, List.length_drop, hm]
    have hm0 : m = 0 := by omega
    have hsrc : ∀ (j : Nat) v, (itemCells (l.drop (i + 1)))[j]? = some v → cur[0 + j]? = some v := by
      intro j v hj
      have := (List.getElem?_eq_some_iff.1 hj).1
      rw [hlen, hm0] at this
      omega
    refine wpList_copy_in rfl (.tmp 28) (.tmp 35) 146 146 rfl 150 i0 2 Try.underlying146 hi hz1 g (i * 2) 0 (l.length - i) 1 0 0 rfl rfl cur 150 hg m (by rw [← hm, hll, Nat.sub_self]; exact Nat.zero_min _) (itemCells (l.drop (i + 1))) hlen hsrc (by rw [hlen, hcs]; omega) (oneCells _) ?_
    have hc1l : (cur.toList.take (i * 2) ++ itemCells (l.drop (i + 1)) ++ cur.toList.drop (i * 2 + (itemCells (l.drop (i + 1))).length)).length = (i + 1) * 2 := by
      rw [List.length_append, List.length_append, List.length_take, List.length_drop, hlen, Array.length_toList, hcs]; omega
    have hc1t : (cur.toList.take (i * 2) ++ itemCells (l.drop (i + 1)) ++ cur.toList.drop (i * 2 + (itemCells (l.drop (i + 1))).length)).take ((l.length - 1) * 2) = itemCells (l.eraseIdx i) := by
      have hctl : cur.toList.length = (i + 1) * 2 := by rw [Array.length_toList, hcs]
      rw [List.take_append_of_le_length (by rw [List.length_append, List.length_take, hlen, hctl]; omega), List.take_of_length_le (by rw [List.length_append, List.length_take, hlen, hctl]; omega), List.eraseIdx_eq_take_drop_succ, itemCells_append, ← itemCells_take, ← htake, List.take_take, Nat.min_eq_left (by omega)]
    have hg1 := setRow_heap w.drew g cur (cur.toList.take (i * 2) ++ itemCells (l.drop (i + 1)) ++ cur.toList.drop (i * 2 + (itemCells (l.drop (i + 1))).length)).toArray 150 (0, 0) hg
    have hb1 : Touch (fun k => k = g) w (w.drew.setRow g (cur.toList.take (i * 2) ++ itemCells (l.drop (i + 1)) ++ cur.toList.drop (i * 2 + (itemCells (l.drop (i + 1))).length)).toArray) := ⟨rfl, rfl, rfl, by simp [World.setRow], fun j hj hne => setRow_other _ _ _ _ (by have h : ¬ j = g := hne; omega)⟩
    have hp1 : (w.drew.setRow g (cur.toList.take (i * 2) ++ itemCells (l.drop (i + 1)) ++ cur.toList.drop (i * 2 + (itemCells (l.drop (i + 1))).length)).toArray).heap[p]? = some (.cells #[.slice (some ⟨g, 0, none⟩) l.length (i + 1)] 148 (0, 0)) := (setRow_other _ _ _ _ (by omega)).trans h.2.1
    generalize (cur.toList.take (i * 2) ++ itemCells (l.drop (i + 1)) ++ cur.toList.drop (i * 2 + (itemCells (l.drop (i + 1))).length)) = c1 at *
    generalize w.drew.setRow g c1.toArray = w1 at *
    have hpc : w1.cell? ⟨p, 0, none⟩ = some (.slice (some ⟨g, 0, none⟩) l.length (i + 1)) := (cell_of_row w1 p 0 _ 148 (0, 0) hp1)
    have hw4 : IntKind.i64.wrap ((i : Int) + (m : Int)) = (i : Int) + (m : Int) := IntWalk.i64_in _ (by omega)
    have hw5 : ((i : Int) + (m : Int)).toNat = i + m := by omega
    have hw6 : 0 ≤ (i : Int) + (m : Int) := by omega
    have him : i + m ≤ l.length := by omega
    have him2 : (i : Int) + (m : Int) ≤ (l.length : Int) := by omega
    have hne2 : ¬ (i + 1) = i + m := by omega
    have e1 : l.length - (i + m) = 1 := by omega
    clear hm hml hlen hsrc htake hcs hg hc hx1 hx2 hfr hown h hw1 hw2 hw3 hi2 hll hm0
    have HC := Lib.hid hc1t
    have hfit : (i + m) * 2 + 2 ≤ c1.length := by omega
    have e2 : (l.length - 1) * 2 = (i + m) * 2 := by omega
    have e3 : (l.eraseIdx i).length = i + m := by rw [List.length_eraseIdx]; split <;> omega
    have E2 := Lib.hid e2
    have E3 := Lib.hid e3
    have HL := Lib.hid hc1l
    clear hc1t e2 e3 hc1l
    go_wp2_with fail
    have hclr := run_clear_one (P := Try.prog) w1 146 0 150 _ Try.underlying146 zero_item g ((i + m) * 2) ((i + 1) - (i + m)) c1.toArray 150 hg1 [.string ByteArray.empty, .bool false] zc_item (by simpa using hfit) (by intro u hu; simp at hu; rcases hu with rfl | rfl <;> rfl)
    have hg2 := setRow_heap w1 g _ (c1.toArray.toList.take ((i + m) * 2) ++ [Value.string ByteArray.empty, Value.bool false] ++ c1.toArray.toList.drop ((i + m) * 2 + [Value.string ByteArray.empty, Value.bool false].length)).toArray 150 (0, 0) hg1
    have hb2 : Touch (fun k => k = g) w (w1.setRow g (c1.toArray.toList.take ((i + m) * 2) ++ [Value.string ByteArray.empty, Value.bool false] ++ c1.toArray.toList.drop ((i + m) * 2 + [Value.string ByteArray.empty, Value.bool false].length)).toArray) := hb1.trans (S1 := fun k => k = g) ⟨rfl, rfl, rfl, by simp [World.setRow], fun j hj hne => setRow_other _ _ _ _ (by have h : ¬ j = g := hne; omega)⟩ (fun k hk => .inl hk)
    have hp2 := (setRow_other w1 g p (c1.toArray.toList.take ((i + m) * 2) ++ [Value.string ByteArray.empty, Value.bool false] ++ c1.toArray.toList.drop ((i + m) * 2 + [Value.string ByteArray.empty, Value.bool false].length)).toArray (by omega)).trans hp1
    have htk2 : (c1.toArray.toList.take ((i + m) * 2) ++ [Value.string ByteArray.empty, Value.bool false] ++ c1.toArray.toList.drop ((i + m) * 2 + [Value.string ByteArray.empty, Value.bool false].length)).take ((i + m) * 2) = itemCells (l.eraseIdx i) := by
      rw [← HC.out, E2.out]
      exact take_keep c1 _ _ _ (by omega)
    have hlen2 : (c1.toArray.toList.take ((i + m) * 2) ++ [Value.string ByteArray.empty, Value.bool false] ++ c1.toArray.toList.drop ((i + m) * 2 + [Value.string ByteArray.empty, Value.bool false].length)).length = (i + 1) * 2 := by
      have := HL.out
      simp; omega
    have HT2 := Lib.hid htk2
    have HG2 := Lib.hid hg2
    have HL2 := Lib.hid hlen2
    clear htk2 hg2 hlen2
    generalize (c1.toArray.toList.take ((i + m) * 2) ++ [Value.string ByteArray.empty, Value.bool false] ++ c1.toArray.toList.drop ((i + m) * 2 + [Value.string ByteArray.empty, Value.bool false].length)) = c2 at *
    generalize w1.setRow g c2.toArray = w2 at *
    have hpc2 : w2.cell? ⟨p, 0, none⟩ = some (.slice (some ⟨g, 0, none⟩) l.length (i + 1)) := (cell_of_row w2 p 0 _ 148 (0, 0) hp2)
    have hpf2 : w2.frozen? ⟨p, 0, none⟩ = false := Blk.frozen hp2 0
    have him3 : i + m ≤ (i + 1) := by omega
    go_wp2_with fail
    rw [hclr]
    simp only [Result.andThen_ok, Oper.upon_value]
    go_wp2
    go_ret2
    refine ⟨rfl, .slice (some ⟨g, 0, none⟩) (i + m) (i + 1), ⟨hbp, Blk.set_ hp2 0 _, ?_⟩, ((hb2.more (S1 := BF p (.slice (some ⟨g, 0, none⟩) l.length (i + 1))) (fun k hk => .inr (by rw [hk]; rfl))).trans (Touch.of_set (S := fun k => k = p) _ _ rfl) (fun k hk => .inl (.inl hk))), fun k hk => .inl hk⟩
    rw [E3.out]
    refine ownsRow_setCell_other ⟨?_, .inr ⟨g, (i + 1), c2.toArray, rfl, hBg, HG2.out, him3, by unfold maxLen; omega, by simpa using HL2.out, HT2.out⟩⟩ (by simp [Value.ownBlock]; omega) _
    rw [itemCells_length, E3.out]
  have hic : (i : Int) + 1 < (c : Int) := by omega
  have hne : ¬ c = i := by omega
  have hne1 : ¬ c = i + 1 := by omega
  have hil : i ≤ l.length := by omega
  have hil1 : i + 1 ≤ l.length := by omega
  have hw1 : IntKind.i64.wrap ((i : Int) + 1) = (i : Int) + 1 := IntWalk.i64_in _ (by omega)
  have hw2 : ((i : Int) + 1).toNat = i + 1 := by omega
  have hw3 : 0 ≤ (i : Int) + 1 := by omega
  unfold maxLen at hcm
  go_enter Try.func68, Try.ntmps68
  go_wp2_with (go_at_call 88; refine (wrong_in w B p _ l h i (by omega) (by omega)).mono ?_; rintro e w' ⟨rfl, rfl⟩)
  refine Reg.wp_chain 13 [] (fun w' => w' = w.drew) (fun _ _ => True) (by kernel_rfl) (by kernel_rfl) (by kernel_rfl) (by kernel_rfl) (fun _ _ d _ _ h => by cases d <;> exact h) rfl ?_
  simp only [List.take_succ_cons, List.take_zero]
  repeat (refine Reg.chain_plain rfl rfl ?_ ?_ ?_; rotate_left; (focus (rintro w2 rfl _; go_simp; rfl)))
  simp only [Act.put, List.setIfInBounds_toArray, List.set_cons_succ, List.set_cons_zero]
  refine Reg.chain_end (fun w2 hw2 _ => ?_)
  subst hw2
  simp only [List.drop_succ_cons, List.drop_zero]
  obtain ⟨cur, hg, hcs, htake⟩ : ∃ cur : Array Value, w.heap[g]? = some (.cells cur 150 (0, 0)) ∧ cur.size = c * 2 ∧ cur.toList.take (l.length * 2) = itemCells l := by
    rcases hown.2 with ⟨hv, _⟩ | ⟨g', cap, cur, hv, _, hg, _, _, hcs, htake⟩
    · cases hv
    · injection hv with e1 _ e2
      injection e1 with e1
      injection e1 with e1
      subst e1; subst e2
      exact ⟨cur, hg, hcs, htake⟩
  obtain ⟨m, hm⟩ : ∃ m, l.length - (i + 1) = m := ⟨_, rfl⟩
  have hml : i + 1 + m = l.length := by omega
  have hlen : (itemCells (l.drop (i + 1))).length = m * 2 := by rw [itemCells_length, List.length_drop, hm]
  have hsrc : ∀ (j : Nat) v, (itemCells (l.drop (i + 1)))[j]? = some v → cur[(i + 1) * 2 + j]? = some v := by
    intro j v hj
    rw [← itemCells_drop, List.getElem?_drop, ← htake, List.getElem?_take] at hj
    split at hj
    · simpa using hj
    · cases hj
  refine wpList_copy_in rfl (.tmp 28) (.tmp 35) 146 146 rfl 150 i0 2 Try.underlying146 hi hz1 g (i * 2) ((i + 1) * 2) (l.length - i) (c - i) (l.length - (i + 1)) (c - (i + 1)) rfl rfl cur 150 hg m (by rw [hm]; exact Nat.min_eq_left (by omega)) (itemCells (l.drop (i + 1))) hlen hsrc (by rw [hlen, hcs]; omega) (oneCells _) ?_
  have hc1l : (cur.toList.take (i * 2) ++ itemCells (l.drop (i + 1)) ++ cur.toList.drop (i * 2 + (itemCells (l.drop (i + 1))).length)).length = c * 2 := by
    rw [List.length_append, List.length_append, List.length_take, List.length_drop, hlen, Array.length_toList, hcs]; omega
  have hc1t : (cur.toList.take (i * 2) ++ itemCells (l.drop (i + 1)) ++ cur.toList.drop (i * 2 + (itemCells (l.drop (i + 1))).length)).take ((l.length - 1) * 2) = itemCells (l.eraseIdx i) := by
    have hctl : cur.toList.length = c * 2 := by rw [Array.length_toList, hcs]
    rw [List.take_append_of_le_length (by rw [List.length_append, List.length_take, hlen, hctl]; omega), List.take_of_length_le (by rw [List.length_append, List.length_take, hlen, hctl]; omega), List.eraseIdx_eq_take_drop_succ, itemCells_append, ← itemCells_take, ← htake, List.take_take, Nat.min_eq_left (by omega)]
  have hg1 := setRow_heap w.drew g cur (cur.toList.take (i * 2) ++ itemCells (l.drop (i + 1)) ++ cur.toList.drop (i * 2 + (itemCells (l.drop (i + 1))).length)).toArray 150 (0, 0) hg
  have hb1 : Touch (fun k => k = g) w (w.drew.setRow g (cur.toList.take (i * 2) ++ itemCells (l.drop (i + 1)) ++ cur.toList.drop (i * 2 + (itemCells (l.drop (i + 1))).length)).toArray) := ⟨rfl, rfl, rfl, by simp [World.setRow], fun j hj hne => setRow_other _ _ _ _ (by have h : ¬ j = g := hne; omega)⟩
  have hp1 : (w.drew.setRow g (cur.toList.take (i * 2) ++ itemCells (l.drop (i + 1)) ++ cur.toList.drop (i * 2 + (itemCells (l.drop (i + 1))).length)).toArray).heap[p]? = some (.cells #[.slice (some ⟨g, 0, none⟩) l.length c] 148 (0, 0)) := (setRow_other _ _ _ _ (by omega)).trans h.2.1
  generalize (cur.toList.take (i * 2) ++ itemCells (l.drop (i + 1)) ++ cur.toList.drop (i * 2 + (itemCells (l.drop (i + 1))).length)) = c1 at *
  generalize w.drew.setRow g c1.toArray = w1 at *
  have hpc : w1.cell? ⟨p, 0, none⟩ = some (.slice (some ⟨g, 0, none⟩) l.length c) := (cell_of_row w1 p 0 _ 148 (0, 0) hp1)
  have hw4 : IntKind.i64.wrap ((i : Int) + (m : Int)) = (i : Int) + (m : Int) := IntWalk.i64_in _ (by omega)
  have hw5 : ((i : Int) + (m : Int)).toNat = i + m := by omega
  have hw6 : 0 ≤ (i : Int) + (m : Int) := by omega
  have him : i + m ≤ l.length := by omega
  have him2 : (i : Int) + (m : Int) ≤ (l.length : Int) := by omega
  have hne2 : ¬ c = i + m := by omega
  have e1 : l.length - (i + m) = 1 := by omega
  clear hm hml hlen hsrc htake hcs hg hc hx1 hx2 hfr hown h hw1 hw2 hw3 hic hne1 hi2
  have HC := Lib.hid hc1t
  have hfit : (i + m) * 2 + 2 ≤ c1.length := by omega
  have e2 : (l.length - 1) * 2 = (i + m) * 2 := by omega
  have e3 : (l.eraseIdx i).length = i + m := by rw [List.length_eraseIdx]; split <;> omega
  have E2 := Lib.hid e2
  have E3 := Lib.hid e3
  have HL := Lib.hid hc1l
  clear hc1t e2 e3 hc1l
  go_wp2_with fail
  have hclr := run_clear_one (P := Try.prog) w1 146 0 150 _ Try.underlying146 zero_item g ((i + m) * 2) (c - (i + m)) c1.toArray 150 hg1 [.string ByteArray.empty, .bool false] zc_item (by simpa using hfit) (by intro u hu; simp at hu; rcases hu with rfl | rfl <;> rfl)
  have hg2 := setRow_heap w1 g _ (c1.toArray.toList.take ((i + m) * 2) ++ [Value.string ByteArray.empty, Value.bool false] ++ c1.toArray.toList.drop ((i + m) * 2 + [Value.string ByteArray.empty, Value.bool false].length)).toArray 150 (0, 0) hg1
  have hb2 : Touch (fun k => k = g) w (w1.setRow g (c1.toArray.toList.take ((i + m) * 2) ++ [Value.string ByteArray.empty, Value.bool false] ++ c1.toArray.toList.drop ((i + m) * 2 + [Value.string ByteArray.empty, Value.bool false].length)).toArray) := hb1.trans (S1 := fun k => k = g) ⟨rfl, rfl, rfl, by simp [World.setRow], fun j hj hne => setRow_other _ _ _ _ (by have h : ¬ j = g := hne; omega)⟩ (fun k hk => .inl hk)
  have hp2 := (setRow_other w1 g p (c1.toArray.toList.take ((i + m) * 2) ++ [Value.string ByteArray.empty, Value.bool false] ++ c1.toArray.toList.drop ((i + m) * 2 + [Value.string ByteArray.empty, Value.bool false].length)).toArray (by omega)).trans hp1
  have htk2 : (c1.toArray.toList.take ((i + m) * 2) ++ [Value.string ByteArray.empty, Value.bool false] ++ c1.toArray.toList.drop ((i + m) * 2 + [Value.string ByteArray.empty, Value.bool false].length)).take ((i + m) * 2) = itemCells (l.eraseIdx i) := by
    rw [← HC.out, E2.out]
    exact take_keep c1 _ _ _ (by omega)
  have hlen2 : (c1.toArray.toList.take ((i + m) * 2) ++ [Value.string ByteArray.empty, Value.bool false] ++ c1.toArray.toList.drop ((i + m) * 2 + [Value.string ByteArray.empty, Value.bool false].length)).length = c * 2 := by
    have := HL.out
    simp; omega
  have HT2 := Lib.hid htk2
  have HG2 := Lib.hid hg2
  have HL2 := Lib.hid hlen2
  clear htk2 hg2 hlen2
  generalize (c1.toArray.toList.take ((i + m) * 2) ++ [Value.string ByteArray.empty, Value.bool false] ++ c1.toArray.toList.drop ((i + m) * 2 + [Value.string ByteArray.empty, Value.bool false].length)) = c2 at *
  generalize w1.setRow g c2.toArray = w2 at *
  have hpc2 : w2.cell? ⟨p, 0, none⟩ = some (.slice (some ⟨g, 0, none⟩) l.length c) := (cell_of_row w2 p 0 _ 148 (0, 0) hp2)
  have hpf2 : w2.frozen? ⟨p, 0, none⟩ = false := Blk.frozen hp2 0
  have him3 : i + m ≤ c := by omega
  go_wp2_with fail
  rw [hclr]
  simp only [Result.andThen_ok, Oper.upon_value]
  go_wp2
  go_ret2
  refine ⟨rfl, .slice (some ⟨g, 0, none⟩) (i + m) c, ⟨hbp, Blk.set_ hp2 0 _, ?_⟩, ((hb2.more (S1 := BF p (.slice (some ⟨g, 0, none⟩) l.length c)) (fun k hk => .inr (by rw [hk]; rfl))).trans (Touch.of_set (S := fun k => k = p) _ _ rfl) (fun k hk => .inl (.inl hk))), fun k hk => .inl hk⟩
  rw [E3.out]
  refine ownsRow_setCell_other ⟨?_, .inr ⟨g, c, c2.toArray, rfl, hBg, HG2.out, him3, by unfold maxLen; omega, by simpa using HL2.out, HT2.out⟩⟩ (by simp [Value.ownBlock]; omega) _
  rw [itemCells_length, E3.out]

end Go.Proofs.Ytgacphicgglogaa.Bag

/-! ## What a bag's calls do to any bag, as functions of its items. -/
namespace Go.Proofs.Ytgacphicgglogaa.Bag
open Go.RowKit
set_option linter.unusedVariables false

/-- Is there an item of that number? -/
def inB (l : List Item) (i : Int) : Prop := 0 ≤ i ∧ i < (l.length : Int)
instance (l : List Item) (i : Int) : Decidable (inB l i) := by unfold inB; infer_instance
def putL (l : List Item) (s : ByteArray) : List Item := if l.length < 16 then l ++ [(s, false)] else l
def takeL (l : List Item) (i : Int) : List Item := if inB l i then l.eraseIdx i.toNat else l
/-- What 'Take' answers. -/
def takeR (l : List Item) (i : Int) : ByteArray × Int := if inB l i then (((l[i.toNat]?).map (·.1)).getD ByteArray.empty, 0) else (ByteArray.empty, 5)
def twiceL (l : List Item) (i : Int) : List Item := if inB l i ∧ l.length < 16 then l ++ (l[i.toNat]?).toList else l
/-- An item of which a bit is turned, if it may be. -/
def turnI (x : Item) (bit : Int) : Item := if 0 ≤ bit ∧ x.1.size ≠ 0 ∧ x.2 = false then (⟨(turnBytes x.1.data.toList (bit.toNat % (8 * x.1.size))).toArray⟩, true) else x
def turnL (l : List Item) (i bit : Int) : List Item := if inB l i then l.modify i.toNat (turnI · bit) else l

theorem putL_le (l : List Item) (s : ByteArray) (h : l.length ≤ 16) : (putL l s).length ≤ 16 := by
  unfold putL
  split
  · rw [List.length_append]
    simp
    omega
  · exact h

theorem put_any (w : World) (B p : Nat) (v : Value) (l : List Item) (h : BagAt w B p v l) (hl : l.length ≤ 16) (s : ByteArray) (hB : B ≤ w.heap.size) :
    Calls Try.prog 89 #[.pointer (some ⟨p, 0, none⟩), .string s] w fun e w' => (∃ b, e = .returned (.bool b)) ∧ BagEnd w B p v (putL l s) w' := by
  by_cases hlt : l.length < 16
  · refine (put_room w B p v l h hlt s hB).mono ?_
    rintro e w' ⟨rfl, h1⟩
    exact ⟨⟨_, rfl⟩, by unfold putL; rw [if_pos hlt]; exact h1⟩
  · refine (put_full w B p v l h (by omega) s).mono ?_
    rintro e w' ⟨rfl, rfl⟩
    exact ⟨⟨_, rfl⟩, by unfold putL; rw [if_neg hlt]; exact .refl h⟩

theorem take_any (w : World) (B p : Nat) (v : Value) (l : List Item) (h : BagAt w B p v l) (hl : l.length ≤ 16) (i : Int) :
    Calls Try.prog 68 #[.pointer (some ⟨p, 0, none⟩), .int .i64 i] w fun e w' => e = .returned (.tuple #[.string (takeR l i).1, .int .i64 (takeR l i).2]) ∧ BagEnd w B p v (takeL l i) w' := by
  by_cases hin : inB l i
  · obtain ⟨k, rfl⟩ := Int.eq_ofNat_of_zero_le hin.1
    have hk : k < l.length := by have := hin.2; omega
    refine (take_in w B p v l h hl k hk).mono ?_
    rintro e w' ⟨rfl, h1⟩
    refine ⟨?_, ?_⟩
    · unfold takeR
      rw [if_pos hin]
      simp [hk]
    · unfold takeL
      rw [if_pos hin]
      exact h1
  · have hout : i < 0 ∨ (l.length : Int) ≤ i := by unfold inB at hin; omega
    have HR := Lib.hid (show takeR l i = (ByteArray.empty, 5) by unfold takeR; rw [if_neg hin])
    have HL := Lib.hid (show takeL l i = l by unfold takeL; rw [if_neg hin])
    clear hin
    go_enter Try.func68, Try.ntmps68
    go_wp2_with (go_at_call 88; refine (wrong_out w B p v l h i hout).mono ?_; rintro e w' ⟨rfl, rfl⟩)
    go_ret2
    exact ⟨by rw [HR.out]; rfl, by rw [HL.out]; exact .refl h⟩

theorem drop_any (w : World) (B p : Nat) (v : Value) (l : List Item) (h : BagAt w B p v l) (hl : l.length ≤ 16) (i : Int) :
    Calls Try.prog 69 #[.pointer (some ⟨p, 0, none⟩), .int .i64 i] w fun e w' => (∃ c, e = .returned (.int .i64 c)) ∧ BagEnd w B p v (takeL l i) w' := by
  have HC := Lib.hid (take_any w B p v l h hl i)
  obtain ⟨R, hR⟩ : ∃ R : Ending → World → Prop, R = fun e w' => (∃ c, e = .returned (.int .i64 c)) ∧ BagEnd w B p v (takeL l i) w' := ⟨_, rfl⟩
  rw [← hR]
  have HR := Lib.hid hR
  clear hR
  go_enter Try.func69, Try.ntmps69
  go_wp2_with fail
  refine HC.out.mono ?_
  rintro e w' ⟨rfl, h1⟩
  have H1 := Lib.hid h1
  clear h1
  go_wp2
  rw [HR.out]
  exact ⟨⟨_, rfl⟩, H1.out⟩

theorem twice_any (w : World) (B p : Nat) (v : Value) (l : List Item) (h : BagAt w B p v l) (hl : l.length ≤ 16) (i : Int) (hB : B ≤ w.heap.size) :
    Calls Try.prog 70 #[.pointer (some ⟨p, 0, none⟩), .int .i64 i] w fun e w' => (∃ c, e = .returned (.int .i64 c)) ∧ BagEnd w B p v (twiceL l i) w' := by
  by_cases hin : inB l i
  · obtain ⟨k, rfl⟩ := Int.eq_ofNat_of_zero_le hin.1
    have hk : k < l.length := by have := hin.2; omega
    by_cases hf : l.length < 16
    · refine (twice_room w B p v l h hf k hk hB).mono ?_
      rintro e w' ⟨rfl, h1⟩
      refine ⟨⟨_, rfl⟩, ?_⟩
      unfold twiceL
      rw [if_pos ⟨hin, hf⟩]
      simpa [hk] using h1
    · refine (twice_full w B p v l h (by omega) k (by omega) (by omega)).mono ?_
      rintro e w' ⟨rfl, rfl⟩
      refine ⟨⟨_, rfl⟩, ?_⟩
      unfold twiceL
      rw [if_neg (fun h => hf h.2)]
      exact .refl h
  · refine (twice_out w B p v l h i (by unfold inB at hin; omega)).mono ?_
    rintro e w' ⟨rfl, rfl⟩
    refine ⟨⟨_, rfl⟩, ?_⟩
    unfold twiceL
    rw [if_neg (fun h => hin h.1)]
    exact .refl h

theorem turnL_same {l : List Item} {k : Nat} {bit : Int} (hk : k < l.length) (h : turnI l[k] bit = l[k]) : turnL l (k : Int) bit = l := by
  unfold turnL
  split
  · refine List.ext_getElem (by simp) fun j h1 h2 => ?_
    rw [List.getElem_modify]
    split
    · rename_i hj
      have : j = k := by simpa using hj.symm
      subst this
      exact h
    · rfl
  · rfl
theorem turn_any (w : World) (B p : Nat) (v : Value) (l : List Item) (h : BagAt w B p v l) (i bit : Int) (hB : B ≤ w.heap.size) (hsz : ∀ x ∈ l, x.1.size ≤ 2000) :
    Calls Try.prog 71 #[.pointer (some ⟨p, 0, none⟩), .int .i64 i, .int .i64 bit] w fun e w' => (∃ c, e = .returned (.int .i64 c)) ∧ BagEnd w B p v (turnL l i bit) w' := by
  by_cases hin : inB l i
  · obtain ⟨k, rfl⟩ := Int.eq_ofNat_of_zero_le hin.1
    have hk : k < l.length := by have := hin.2; omega
    by_cases hneg : bit < 0
    · refine (turn_neg w B p v l h k hk bit hneg).mono ?_
      rintro e w' ⟨rfl, rfl⟩
      exact ⟨⟨_, rfl⟩, by rw [turnL_same hk (by unfold turnI; rw [if_neg (by omega)])]; exact .refl h⟩
    · obtain ⟨b, rfl⟩ := Int.eq_ofNat_of_zero_le (show 0 ≤ bit by omega)
      by_cases h0 : l[k].1.size = 0
      · refine (turn_empty w B p v l h k hk b h0).mono ?_
        rintro e w' ⟨rfl, rfl⟩
        exact ⟨⟨_, rfl⟩, by rw [turnL_same hk (by unfold turnI; rw [if_neg (fun h => h.2.1 h0)])]; exact .refl h⟩
      · by_cases ht : l[k].2 = true
        · refine (turn_twice w B p v l h k hk b (by omega) ht).mono ?_
          rintro e w' ⟨rfl, rfl⟩
          exact ⟨⟨_, rfl⟩, by rw [turnL_same hk (by unfold turnI; rw [if_neg (fun h => by rw [ht] at h; exact absurd h.2.2 (by decide))])]; exact .refl h⟩
        · refine (turn_in w B p v l h k hk b hB (by omega) (by simpa using ht) (hsz _ (List.getElem_mem hk))).mono ?_
          rintro e w' ⟨rfl, h1⟩
          refine ⟨⟨_, rfl⟩, ?_⟩
          have he : turnL l (k : Int) (b : Int) = l.set k (⟨(turnBytes l[k].1.data.toList (b % (8 * l[k].1.size))).toArray⟩, true) := by
            unfold turnL
            rw [if_pos hin]
            refine List.ext_getElem (by simp) fun j h1 h2 => ?_
            rw [List.getElem_modify, List.getElem_set]
            simp only [Int.toNat_natCast]
            split
            · rename_i hj
              subst hj
              unfold turnI
              rw [if_pos ⟨by omega, h0, by simpa using ht⟩]
              rfl
            · rfl
          rw [he]
          exact h1
  · refine (turn_out w B p v l h i bit (by unfold inB at hin; omega)).mono ?_
    rintro e w' ⟨rfl, rfl⟩
    exact ⟨⟨_, rfl⟩, by unfold turnL; rw [if_neg hin]; exact .refl h⟩
end Go.Proofs.Ytgacphicgglogaa.Bag
