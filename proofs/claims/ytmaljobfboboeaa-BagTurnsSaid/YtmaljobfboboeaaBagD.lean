/- The contract of Turn. -/
import Derived.Test.YtmaljobfboboeaaBagC
import Derived.StillTailTactics
namespace Go.Proofs.Ytmaljobfboboeaa
open Go.RowKit

theorem turn_nil (w : World) (i bit : Int) :
    Calls Try.prog 15 #[.pointer none, .int .i64 i, .int .i64 bit] w fun e w' => e = .returned (.int .i64 15) ∧ w = w' := by
  go_enter Try.func15, Try.ntmps15
  go_wp2_with (go_at_call 29; refine (wrong_nil _ _).mono ?_; rintro e w' ⟨rfl, rfl⟩)
  go_ret
  exact ⟨rfl, rfl⟩

theorem turn_out (w : World) (B p : Nat) (v : Value) (l : List Item) (h : BagAt w B p v l) (i bit : Int) (hi : i < 0 ∨ (l.length : Int) ≤ i) :
    Calls Try.prog 15 #[.pointer (some ⟨p, 0, none⟩), .int .i64 i, .int .i64 bit] w fun e w' => e = .returned (.int .i64 5) ∧ w = w' := by
  go_enter Try.func15, Try.ntmps15
  go_wp2_with (go_at_call 29; refine (wrong_out w B p v l h i hi).mono ?_; rintro e w' ⟨rfl, rfl⟩)
  go_ret
  exact ⟨rfl, rfl⟩

theorem itemCells_set (l : List Item) (i : Nat) (x : Item) (h : i < l.length) : ((itemCells l).set (i * 2) (.string x.1)).set (i * 2 + 1) (.bool x.2) = itemCells (l.set i x) := by
  induction l generalizing i with
  | nil => simp at h
  | cons a l ih =>
    cases i with
    | zero => simp [itemCells, Item.cells]
    | succ i =>
      have := ih i (by simpa using h)
      have e1 : (i + 1) * 2 = i * 2 + 1 + 1 := by omega
      simpa [itemCells, Item.cells, List.flatMap_cons, e1] using this

theorem notEmpty {s : ByteArray} (h : 0 < s.size) : s.toList.isEmpty = false := by
  rw [ByteArray.toList_eq]
  rcases hl : s.data.toList with _ | ⟨x, r⟩
  · have : s.data.toList.length = s.size := by simp
    rw [hl] at this; simp at this; omega
  · rfl
theorem isEmpty_of {s : ByteArray} (h : s.size = 0) : s.toList.isEmpty = true := by
  rw [ByteArray.toList_eq]
  have : s.data.toList = [] := List.eq_nil_of_length_eq_zero (by simpa using h)
  rw [this]; rfl

/-- A text with one bit of it turned. -/
def bitOf (r : Nat) : UInt8 := UInt8.ofNat (2 ^ r)
def turnBytes (l : List UInt8) (n : Nat) : List UInt8 := l.set (n / 8) ((l[n / 8]?.getD 0) ^^^ bitOf (n % 8))

theorem turn_val (b : UInt8) (r : Nat) (h : r < 8) : bits .xor .u8 (b.toNat : Int) (2 ^ min r 8 % 256) = ((b ^^^ bitOf r).toNat : Int) := by
  have key : ∀ k : Nat, k < 256 → bits .xor .u8 (b.toNat : Int) (k : Int) = ((b.toNat ^^^ k : Nat) : Int) := fun k hk => u8_xor_nat _ _ (UInt8.toNat_lt b) hk
  have hr : ∀ r, r < 8 → ((2 : Int) ^ min r 8 % 256) = ((2 ^ r : Nat) : Int) ∧ (bitOf r).toNat = 2 ^ r ∧ 2 ^ r < 256 := by decide
  obtain ⟨h1, h2, h3⟩ := hr r h
  rw [h1, key _ h3, UInt8.toNat_xor, h2]

theorem turnBytes_vals (l : List UInt8) (n : Nat) (h : n / 8 < l.length) : (byteVals l).set (n / 8) (.int .u8 ((l[n / 8] ^^^ bitOf (n % 8)).toNat : Int)) = byteVals (turnBytes l n) := by
  simp [byteVals, turnBytes, List.map_set, h]

theorem turnBytes_length (l : List UInt8) (n : Nat) : (turnBytes l n).length = l.length := by simp [turnBytes]

theorem turn_in (w : World) (B p : Nat) (v : Value) (l : List Item) (h : BagAt w B p v l) (i : Nat) (h1 : i < l.length) (bit : Nat) (hB : B ≤ w.heap.size) (hs0 : 0 < l[i].1.size) (ht : l[i].2 = false) (hsz : l[i].1.size ≤ 2000) :
    Calls Try.prog 15 #[.pointer (some ⟨p, 0, none⟩), .int .i64 i, .int .i64 bit] w fun e w' => e = .returned (.int .i64 0) ∧ Below B w w' ∧ ∃ v', BagAt w' B p v' (l.set i (⟨(turnBytes l[i].1.data.toList (bit % (8 * l[i].1.size))).toArray⟩, true)) := by
  have hc := bag_cell h
  have hlt : p < w.heap.size := Blk.lt h.2.1
  obtain ⟨g, c, rfl, hBg, hgl, hgp, hlc, hcm, hx1, hx2, hfr⟩ := bag_item h i h1
  have hown := h.2.2
  have hbp := h.1
  have hi1 : (i : Int) < (l.length : Int) := by omega
  generalize l[i] = it at *
  obtain ⟨s, t⟩ := it
  simp only at hs0 ht hx1 hx2 hsz
  subst ht
  have hs := notEmpty hs0
  have hne : ¬ (8 * (s.size : Int) = 0) := by omega
  go_enter Try.func15, Try.ntmps15
  go_wp2_with (first | (go_at_call 29; refine (wrong_in w B p _ l h i (by omega) (by omega)).mono ?_; rintro e w' ⟨rfl, rfl⟩) | (refine wpList_bytes rfl (.tmp 47) 9 48 5 rfl Try.underlying9 Try.underlying48 Try.underlying5 s rfl ?_; intro w1 cap hcap hb1 hz1 hrow))
  have hn0 : 8 * s.size ≠ 0 := by omega
  have hnl : bit % (8 * s.size) < 8 * s.size := Nat.mod_lt _ (by omega)
  rw [show ((bit : Int) % (8 * (s.size : Int))) = ((bit % (8 * s.size) : Nat) : Int) from by simp]
  obtain ⟨n, hn⟩ : ∃ n, bit % (8 * s.size) = n := ⟨_, rfl⟩
  rw [hn] at hnl ⊢
  have HN := Lib.hid hn
  clear hn
  have hk : n / 8 < s.size := by omega
  have hb := hrow.cell (j := n / 8) (u := .int .u8 (s.data[n / 8].toNat : Int)) (by simp only [byteVals, List.getElem?_map, Array.getElem?_toList, Array.getElem?_eq_getElem hk, Option.map_some])
  have hf := hrow.frozen (j := n / 8) (by simpa [byteVals] using hk)
  have hrow2 : Row (w1.setCell ⟨w.heap.size, n / 8, none⟩ (.int .u8 (bits .xor .u8 (s.data[n / 8].toNat : Int) (2 ^ min (n % 8) 8 % 256)))).drew w.heap.size 5 (byteVals (turnBytes s.data.toList n)) := by
    rw [turn_val _ _ (by omega)]
    have h1 := (hrow.set_ (n / 8) (.int .u8 ((s.data[n / 8] ^^^ bitOf (n % 8)).toNat : Int))).drew
    have h2 := turnBytes_vals s.data.toList n (by simpa using hk)
    simp only [Array.getElem_toList] at h2
    rw [h2] at h1
    exact h1
  have hk1 : (n : Int) / 8 < (s.size : Int) := by omega
  have hk2 : 0 ≤ (n : Int) / 8 := by omega
  have hk3 : ((n : Int) / 8).toNat = n / 8 := by omega
  have hk4 : 0 ≤ (n : Int) % 8 := by omega
  have hk5 : IntKind.i64.wrap ((n : Int) / 8) = (n : Int) / 8 := IntWalk.i64_in _ (by omega)
  have hk6 : IntKind.i64.wrap ((n : Int) % 8) = (n : Int) % 8 := IntWalk.i64_in _ (by omega)
  refine Reg.wp_chain 10 [] (fun w' => w' = w1.drew) (fun _ _ => True) (by kernel_rfl) (by kernel_rfl) (by kernel_rfl) (by kernel_rfl) (fun _ _ d _ _ h => by cases d <;> exact h) rfl ?_
  simp only [List.take_succ_cons, List.take_zero]
  repeat (refine Reg.chain_plain rfl rfl ?_ ?_ ?_; rotate_left; (focus (rintro w2 rfl _; go_simp; rfl)))
  simp only [Act.put, List.setIfInBounds_toArray, List.set_cons_succ, List.set_cons_zero]
  refine Reg.chain_end (fun w2 hw2 _ => ?_)
  subst hw2
  simp only [List.drop_succ_cons, List.drop_zero]
  have hb2 : Below w.heap.size w (w1.setCell ⟨w.heap.size, n / 8, none⟩ (.int .u8 (bits .xor .u8 (s.data[n / 8].toNat : Int) (2 ^ min (n % 8) 8 % 256)))).drew := (hb1.setCell (Nat.le_refl _) _).drew
  obtain ⟨w2, hw2⟩ : ∃ w2, (w1.setCell ⟨w.heap.size, n / 8, none⟩ (.int .u8 (bits .xor .u8 (s.data[n / 8].toNat : Int) (2 ^ min (n % 8) 8 % 256)))).drew = w2 := ⟨_, rfl⟩
  have HW := Lib.hid hw2
  rw [hw2] at hrow2 hb2
  clear hw2
  go_wp2_with (rw [HW.out]; refine wpList_unbytes rfl (.tmp 60) 48 9 5 rfl Try.underlying48 Try.underlying5 Try.underlying9 w.heap.size s.size cap (turnBytes s.data.toList n) rfl (by rw [turnBytes_length]; simp) hrow2 ?_; obtain ⟨hk2, hf2⟩ := bcell hb2)
  go_ret
  rw [HN.out]
  refine ⟨rfl, ((hb2.mono hB).setCell hBg _).setCell hBg _, .slice (some ⟨g, 0, none⟩) l.length c, hbp, ?_, ?_⟩
  · rw [Below.heap_setCell _ _ _ _ (by simpa using Ne.symm hgp), Below.heap_setCell _ _ _ _ (by simpa using Ne.symm hgp), hb2.block p hlt]
    exact h.2.1
  · have h3 := ownsRow_set (ownsRow_set (ownsRow_below hown hb2) (i * 2) (.string ⟨(turnBytes s.data.toList n).toArray⟩)) (i * 2 + 1) (.bool true)
    rw [itemCells_set l i (⟨(turnBytes s.data.toList n).toArray⟩, true) h1] at h3
    simpa using h3

theorem turn_neg (w : World) (B p : Nat) (v : Value) (l : List Item) (h : BagAt w B p v l) (i : Nat) (h1 : i < l.length) (bit : Int) (hb : bit < 0) :
    Calls Try.prog 15 #[.pointer (some ⟨p, 0, none⟩), .int .i64 i, .int .i64 bit] w fun e w' => e = .returned (.int .i64 5) ∧ w = w' := by
  have hc := bag_cell h
  obtain ⟨g, c, rfl, hBg, hgl, hgp, hlc, hcm, hx1, hx2, hfr⟩ := bag_item h i h1
  have hi1 : (i : Int) < (l.length : Int) := by omega
  go_enter Try.func15, Try.ntmps15
  go_wp2_with (go_at_call 29; refine (wrong_in w B p _ l h i (by omega) (by omega)).mono ?_; rintro e w' ⟨rfl, rfl⟩)
  go_ret
  exact ⟨rfl, rfl⟩

theorem turn_empty (w : World) (B p : Nat) (v : Value) (l : List Item) (h : BagAt w B p v l) (i : Nat) (h1 : i < l.length) (bit : Nat) (hs : l[i].1.size = 0) :
    Calls Try.prog 15 #[.pointer (some ⟨p, 0, none⟩), .int .i64 i, .int .i64 bit] w fun e w' => e = .returned (.int .i64 1) ∧ w = w' := by
  have hc := bag_cell h
  obtain ⟨g, c, rfl, hBg, hgl, hgp, hlc, hcm, hx1, hx2, hfr⟩ := bag_item h i h1
  have hi1 : (i : Int) < (l.length : Int) := by omega
  have hs := isEmpty_of hs
  go_enter Try.func15, Try.ntmps15
  go_wp2_with (go_at_call 29; refine (wrong_in w B p _ l h i (by omega) (by omega)).mono ?_; rintro e w' ⟨rfl, rfl⟩)
  go_ret
  exact ⟨rfl, rfl⟩

theorem turn_twice (w : World) (B p : Nat) (v : Value) (l : List Item) (h : BagAt w B p v l) (i : Nat) (h1 : i < l.length) (bit : Nat) (hs : 0 < l[i].1.size) (ht : l[i].2 = true) :
    Calls Try.prog 15 #[.pointer (some ⟨p, 0, none⟩), .int .i64 i, .int .i64 bit] w fun e w' => e = .returned (.int .i64 3) ∧ w = w' := by
  have hc := bag_cell h
  obtain ⟨g, c, rfl, hBg, hgl, hgp, hlc, hcm, hx1, hx2, hfr⟩ := bag_item h i h1
  have hi1 : (i : Int) < (l.length : Int) := by omega
  have hs := notEmpty hs
  rw [ht] at hx2
  go_enter Try.func15, Try.ntmps15
  go_wp2_with (go_at_call 29; refine (wrong_in w B p _ l h i (by omega) (by omega)).mono ?_; rintro e w' ⟨rfl, rfl⟩)
  go_ret
  exact ⟨rfl, rfl⟩

end Go.Proofs.Ytmaljobfboboeaa
