/- Contracts of the bag's functions: wrong, New, Len. -/
import Derived.Test.YtmaljobfboboeaaWords
namespace Go.Proofs.Ytmaljobfboboeaa
open Go.RowKit

abbrev Item := ByteArray × Bool
def Item.cells (x : Item) : List Value := [.string x.1, .bool x.2]
def itemCells (l : List Item) : List Value := l.flatMap Item.cells
theorem itemCells_length (l : List Item) : (itemCells l).length = l.length * 2 := by
  induction l with
  | nil => rfl
  | cons a l ih => simp [itemCells, Item.cells, List.flatMap_cons] at ih ⊢; omega

/-- A bag in memory: one block with its slice, and the slice's own row. -/
def BagAt (w : World) (B p : Nat) (v : Value) (items : List Item) : Prop :=
  B ≤ p ∧ w.heap[p]? = some (.cells #[v] 53 (0, 0)) ∧ w.ownsRow B 55 2 v items.length (itemCells items)

theorem new_any (w : World) (B : Nat) (hB : B ≤ w.heap.size) :
    Calls Try.prog 13 #[] w fun e w' => e = .returned (.pointer (some ⟨w.heap.size, 0, none⟩)) ∧ BagAt w' B w.heap.size (.slice none 0 0) [] ∧ Below w.heap.size w w' := by
  go_enter Try.func13, Try.ntmps13
  go_wp2
  go_ret
  refine ⟨rfl, ⟨hB, ?_, World.ownsRow_nil _ _ _ _⟩, (Below.refl _ _).alloc (Nat.le_refl _) _⟩
  exact heap_alloc_new w _

theorem bag_cell {w : World} {B p : Nat} {v : Value} {l : List Item} (h : BagAt w B p v l) : w.cell? ⟨p, 0, none⟩ = some v := by
  simp [World.cell?, h.2.1]

theorem bag_form {w : World} {B p : Nat} {v : Value} {l : List Item} (h : BagAt w B p v l) : ∃ A c, v = .slice A l.length c := by
  rcases h.2.2.2 with ⟨rfl, h0⟩ | ⟨g, cap, cur, rfl, _⟩
  · exact ⟨none, 0, by rw [h0]⟩
  · exact ⟨_, _, rfl⟩

theorem len_any (w : World) (B p : Nat) (v : Value) (l : List Item) (h : BagAt w B p v l) :
    Calls Try.prog 19 #[.pointer (some ⟨p, 0, none⟩)] w fun e w' => e = .returned (.int .i64 l.length) ∧ w = w' := by
  have hc := bag_cell h
  obtain ⟨A, c, rfl⟩ := bag_form h
  go_enter Try.func19, Try.ntmps19
  go_wp2
  go_ret
  exact ⟨rfl, rfl⟩

theorem len_nil (w : World) :
    Calls Try.prog 19 #[.pointer none] w fun e w' => e = .returned (.int .i64 0) ∧ w = w' := by
  go_enter Try.func19, Try.ntmps19
  go_wp2
  go_ret
  exact ⟨rfl, rfl⟩

theorem wrong_nil (w : World) (i : Int) :
    Calls Try.prog 29 #[.pointer none, .int .i64 i] w fun e w' => e = .returned (.int .i64 15) ∧ w = w' := by
  go_enter Try.func29, Try.ntmps29
  go_wp2
  go_ret
  exact ⟨rfl, rfl⟩

theorem wrong_out (w : World) (B p : Nat) (v : Value) (l : List Item) (h : BagAt w B p v l) (i : Int) (hi : i < 0 ∨ (l.length : Int) ≤ i) :
    Calls Try.prog 29 #[.pointer (some ⟨p, 0, none⟩), .int .i64 i] w fun e w' => e = .returned (.int .i64 5) ∧ w = w' := by
  have hc := bag_cell h
  obtain ⟨A, c, rfl⟩ := bag_form h
  by_cases h0 : i < 0
  · go_enter Try.func29, Try.ntmps29
    go_wp2
    go_ret
    exact ⟨rfl, rfl⟩
  · have h1 : (l.length : Int) ≤ i := by omega
    go_enter Try.func29, Try.ntmps29
    go_wp2
    go_ret
    exact ⟨rfl, rfl⟩

theorem wrong_in (w : World) (B p : Nat) (v : Value) (l : List Item) (h : BagAt w B p v l) (i : Int) (h0 : 0 ≤ i) (h1 : i < l.length) :
    Calls Try.prog 29 #[.pointer (some ⟨p, 0, none⟩), .int .i64 i] w fun e w' => e = .returned (.int .i64 0) ∧ w = w' := by
  have hc := bag_cell h
  obtain ⟨A, c, rfl⟩ := bag_form h
  go_enter Try.func29, Try.ntmps29
  go_wp2
  go_ret
  exact ⟨rfl, rfl⟩

end Go.Proofs.Ytmaljobfboboeaa
