/- The contract of Put. -/
import Derived.Test.YtmaljobfboboeaaBagA
namespace Go.Proofs.Ytmaljobfboboeaa
open Go.RowKit

theorem item_info : (Try.prog.info? 55).map (fun i => (i.zero, i.size, i.bytes)) = some (some (.agg #[.string ByteArray.empty, .bool false]), 2, 24) := by kernel_rfl

/-- Behind an append and the store of what it gave. -/
theorem bag_close {w : World} {B p : Nat} {v v' : Value} {l : List Item} {x : Item} (hbp : B ≤ p) (hblk : Blk w p 53 #[v]) (hown : w.ownsRow B 55 2 v' (l.length + 1) (itemCells l ++ Item.cells x)) :
    BagAt (w.setCell ⟨p, 0, none⟩ v') B p v' (l ++ [x]) := by
  refine ⟨hbp, hblk.set_ 0 _, ?_⟩
  have e : itemCells l ++ Item.cells x = itemCells (l ++ [x]) := by simp [itemCells, Item.cells]
  rw [e] at hown
  have := own_blk_ne hown hblk (by decide)
  rw [List.length_append]
  exact ownsRow_setCell_other hown this _

theorem put_nil (w : World) (s : ByteArray) :
    Calls Try.prog 14 #[.pointer none, .string s] w fun e w' => e = .returned (.bool false) ∧ w = w' := by
  go_enter Try.func14, Try.ntmps14
  go_wp2
  go_ret
  exact ⟨rfl, rfl⟩

theorem put_full (w : World) (B p : Nat) (v : Value) (l : List Item) (h : BagAt w B p v l) (hl : l.length = 16) (s : ByteArray) :
    Calls Try.prog 14 #[.pointer (some ⟨p, 0, none⟩), .string s] w fun e w' => e = .returned (.bool false) ∧ w = w' := by
  have hc := bag_cell h
  obtain ⟨A, c, rfl⟩ := bag_form h
  have hq : ((l.length : Int) == 16) = true := by simp; omega
  clear hl
  go_enter Try.func14, Try.ntmps14
  go_wp2
  go_ret
  exact ⟨rfl, rfl⟩

theorem put_room (w : World) (B p : Nat) (v : Value) (l : List Item) (h : BagAt w B p v l) (hl : l.length < 16) (s : ByteArray) (hB : B ≤ w.heap.size) :
    Calls Try.prog 14 #[.pointer (some ⟨p, 0, none⟩), .string s] w fun e w' => e = .returned (.bool true) ∧ Below B w w' ∧ ∃ v', BagAt w' B p v' (l ++ [(s, false)]) := by
  obtain ⟨i0, hi, hz0, hz1, hz2⟩ := info_parts item_info
  have hc := bag_cell h
  have hlt : p < w.heap.size := Blk.lt h.2.1
  obtain ⟨A, c, rfl⟩ := bag_form h
  have hown := h.2.2
  have hq : ((l.length : Int) == 16) = false := by simp; omega
  have hbp := h.1
  go_enter Try.func14, Try.ntmps14
  go_wp2_with (at_builtin; refine wpList_append_own _ rfl _ _ 51 rfl B 55 i0 _ 2 24 Try.underlying51 hi hz0 hz1 hz2 rfl (by decide) _ _ _ rfl (hown.alloc _) ⟨w.heap.size, 0, none⟩ 1 1 [.string s, .bool false] rfl rfl ?c1 ?c2 ?c3 ?c4 ?c5 ?_)
  case c1 => exact cells_new _ _ _
  case c2 => intro u hu; simp at hu; rcases hu with rfl | rfl <;> rfl
  case c3 => unfold maxLen; omega
  case c4 => omega
  case c5 => simp; omega
  intro v' w1 hown1 hg _
  obtain ⟨A', c', rfl⟩ := own_form hown1
  have hne : (Value.slice A l.length c).ownBlock ≠ some p := own_blk_ne hown h.2.1 (by decide)
  have hblk : Blk w1 p 53 #[.slice A l.length c] := (Blk.alloc h.2.1 _).grown hg (fun e => hne e.symm)
  have hc1 := hblk.cell 0
  have hf1 := hblk.frozen 0
  simp at hc1
  go_wp2
  go_ret
  have hb1 : Below B w w1 := ((Below.refl _ _).alloc hB _).trans (below_of_grown hg (by simp; omega) (fun k hk => (hown.lt k hk).1))
  exact ⟨rfl, hb1.setCell hbp _, .slice A' (l.length + 1) c', bag_close hbp hblk hown1⟩

end Go.Proofs.Ytmaljobfboboeaa
