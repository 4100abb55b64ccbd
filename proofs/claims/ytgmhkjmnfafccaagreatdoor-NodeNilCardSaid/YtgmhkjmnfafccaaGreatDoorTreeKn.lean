/- 'Kids' of package tree, where the references aren't at hand. -/
import Derived.RangeFuncBox
import Derived.Maps.AppendAt
import Derived.Test.YtgmhkjmnfafccaaGreatDoorTreeE
namespace Go.Proofs.YtgmhkjmnfafccaaGreatDoor
open Go.RowKit Go.Shelf
attribute [local go_sem] Oper.semAt_some

def ints (l : List Nat) : List Value := l.map fun (k : Nat) => .int .i64 (k : Int)
theorem int_info : (Tryz.prog.info? 3).map (fun i => (i.zero, i.size, i.bytes)) = some (some (.int .i64 0), 1, 8) := by kernel_rfl


namespace Tr
def pKids (st : Sts) (i : Int) : List Nat := if hasB st i then kids st i.toNat else []
theorem pKids_len (st : Sts) (i : Int) : (pKids st i).length ≤ 40 := by
  unfold pKids
  split
  · rename_i h
    obtain ⟨k, rfl, hk, hr⟩ := hasB_iff.1 h
    have h1 := kids_len st hk
    have h2 := right_le hr
    simp only [Int.toNat_natCast]
    omega
  · simp
end Tr

/-- 'out = append(out, ..)' where the row lies beyond H, the box of 'out' below it. -/
theorem box_append {W w1 : World} {n₀ H B : Nat} {t e : TypeId} {size : Nat} {v v' : Value} {k m : Nat} {xs ys : List Value} {tmp : Obj}
    (hv : Boxed W B t v) (hB : B < H) (hn : n₀ ≤ B) (hH : H ≤ W.heap.size) (hrow : W.ownsRow H e size v k xs)
    (hown' : w1.ownsRow H e size v' m ys) (hgrow : (W.alloc tmp).grownBy w1 v.ownBlock) :
    Boxed w1 B t v ∧ Boxed (w1.setCell ⟨B, 0, none⟩ v') B t v' ∧ (w1.setCell ⟨B, 0, none⟩ v').ownsRow H e size v' m ys ∧ KeepsOthers W (w1.setCell ⟨B, 0, none⟩ v') ∧ Below n₀ W (w1.setCell ⟨B, 0, none⟩ v') ∧
      ∀ j, j < H → j ≠ B → (w1.setCell ⟨B, 0, none⟩ v').heap[j]? = W.heap[j]? := by
  have hlt := hv.lt
  have hne : some B ≠ v.ownBlock := fun e => by have := (hrow.lt B e.symm).1; omega
  have hne' : v'.ownBlock ≠ some B := fun e => by have := (hown'.lt B e).1; omega
  have hv1 : Boxed w1 B t v := (hv.alloc tmp).kept hgrow hne
  refine ⟨hv1, hv1.set v', hown'.kept (grownBy_setCell' w1 B v') (.inr hne'), ?_, ?_, fun j hj hjB => ?_⟩
  · refine ((KeepsOthers.alloc W tmp).trans (KeepsOthers.of_grownBy hgrow fun j o ej hj => ?_)).trans (KeepsOthers.setCell _ _ _)
    rcases (hrow.alloc tmp).2 with ⟨rfl, _⟩ | ⟨g, cap, cur, rfl, _, hgb, _⟩
    · simp [Value.ownBlock] at ej
    · obtain rfl : g = j := by simpa [Value.ownBlock] using ej
      rw [hgb] at hj; cases hj; rfl
  · exact (((Below.refl n₀ W).alloc (by omega) tmp).grown hgrow (by simp; omega) fun j ej => by have := (hrow.lt j ej).1; omega).setCell (p := ⟨B, 0, none⟩) hn v'
  · rw [Below.heap_setCell w1 ⟨B, 0, none⟩ v' j hjB, hgrow.block j (by simp; omega) (fun ej => by have := (hrow.lt j ej.symm).1; omega)]
    exact Below.heap_alloc W tmp j (by omega)

theorem own_more {w : World} {B B' e size n : Nat} {v : Value} {xs : List Value} (h : w.ownsRow B e size v n xs) (hB : B' ≤ B) : w.ownsRow B' e size v n xs := by
  refine ⟨h.1, ?_⟩
  rcases h.2 with h1 | ⟨g, cap, cur, h1, h2, h3⟩
  · exact .inl h1
  · exact .inr ⟨g, cap, cur, h1, Nat.le_trans hB h2, h3⟩

theorem three_new (W : World) (c1 c2 c3 : Array Value) (t1 t2 t3 : TypeId) (W2 : World) (h : ((W.alloc (.cells c1 t1)).alloc (.cells c2 t2)).alloc (.cells c3 t3) = W2) :
    Blk W2 W.heap.size t1 c1 ∧ Blk W2 (W.heap.size + 1) t2 c2 ∧ Blk W2 (W.heap.size + 1 + 1) t3 c3 ∧ W2.heap.size = W.heap.size + 3 ∧ Below W.heap.size W W2 := by
  subst h
  have b1 := Blk.new W t1 c1
  have b2 := Blk.new (W.alloc (.cells c1 t1)) t2 c2
  have b3 := Blk.new ((W.alloc (.cells c1 t1)).alloc (.cells c2 t2)) t3 c3
  simp only [World.size_alloc] at b2 b3
  refine ⟨(b1.alloc _).alloc _, b2.alloc _, b3, by simp only [World.size_alloc], ?_⟩
  exact (((Below.refl _ W).alloc (Nat.le_refl _) _).alloc (by simp only [World.size_alloc]; omega) _).alloc (by simp only [World.size_alloc]; omega) _

set_option maxRecDepth 100000 in
set_option maxHeartbeats 2000000 in
theorem treeKids_in (A : Option Addr) (n c : Nat) (st : Sts) (w : World) (h : Tree w w.heap.size A n st) (hw : Tr.Wf st) (hn : n ≤ maxLen) (i : Int) :
    CallsIn Fence.wide 3 Tryz.prog 174 #[.slice A n c, .int .i64 i] w fun e w' => ∃ v, e = .returned v ∧ Below w.heap.size w w' ∧ w'.ownsRow w.heap.size 3 1 v (Tr.pKids st i).length (ints (Tr.pKids st i)) := by
  obtain ⟨i0, hi0, hz0, hz1, hz2⟩ := info_parts int_info
  refine callsIn_of_wp_marks Tryz.func174 rfl trivial ?_ rfl
  simp only [Tryz.ntmps174, List.size_toArray, List.length_cons, List.length_nil, Nat.reduceAdd, Nat.reduceSub, Array.replicate_succ, Array.replicate_zero, List.push_toArray, List.append_toArray, List.nil_append, List.cons_append]
  gi_wp2
  refine ⟨trivial, (callsIn_wide.2 (has_any w A n c st h hw hn i)).mono ?_⟩
  rintro e w1 ⟨rfl, hb1⟩
  obtain ⟨b, hh⟩ : ∃ b, Tr.hasB st i = b := ⟨_, rfl⟩
  rw [hh]
  cases b with
  | false =>
    have HP := Lib.hid (show Tr.pKids st i = [] by unfold Tr.pKids; rw [hh]; rfl)
    clear hh
    gi_wp2
    refine ⟨_, results_tmp rfl _ _ _, _, rfl, hb1, ?_⟩
    rw [HP.out]
    exact World.ownsRow_nil _ _ _ _
  | true =>
    obtain ⟨k, rfl, hk, hr⟩ := hasB_iff.1 hh
    have hn40 := Tr.right_le hr
    have HP := Lib.hid (show Tr.pKids st (k : Int) = Tr.kids st k by unfold Tr.pKids; rw [hh]; rfl)
    have hkl := Tr.kids_len st hk
    rw [h.1] at hk hn40 hkl
    clear hh hr hn
    gi_wp2
    refine ⟨trivial, (kids_in _ A n c k _).mono ?_⟩
    rintro e w2 ⟨rfl, hw2⟩
    gi_wp2
    clear hw2
    generalize hW2 : ((w1.alloc (.cells #[.slice none 0 0] 23)).alloc (.cells #[.slice A n c] 37)).alloc (.cells #[.int .i64 (k : Int)] 3) = W2
    obtain ⟨f1, f2, f3, fsz, fB⟩ := three_new _ _ _ _ _ _ _ _ hW2
    clear hW2
    have hs1 := hb1.size
    have fBw : Below w.heap.size w W2 := hb1.trans (fB.mono hs1)
    have hSz := fBw.size
    refine wpIn_rangeFunc_ownF rfl (by omega) (gf := 213) (lb := #[.pointer (some ⟨w1.heap.size + 1 + 1, 0, none⟩), .pointer (some ⟨w1.heap.size + 1, 0, none⟩)]) rfl trivial (enters_of Tryz.func213 (by kernel_rfl) rfl)
      (kids_stops 2 (by omega) (w1.heap.size + 1 + 1) (w1.heap.size + 1) w.heap.size A n c st (Nat.le_trans (by omega) (show 40 ≤ maxLen by unfold maxLen; omega)) k hk W2 fBw.size (f3.cell 0) (f2.cell 0) (h.below fBw))
      ?hKt ?hKb (Below.refl _ _) (fun _ => rfl)
      (fun (pre : List { x : Nat // x < n }) W' => (∃ v, Boxed W' w1.heap.size 23 v ∧ W'.ownsRow W2.heap.size 3 1 v (pre.map Subtype.val).length (ints (pre.map Subtype.val)) ∧ True) ∧ Below w.heap.size w W' ∧ Below W2.heap.size W2 W2 ∧ W2.heap.size ≤ W'.heap.size)
      (fun _ _ _ => False)
      ?hI (fun _ _ _ _ _ hs _ _ => hs)
      ⟨⟨_, f1, World.ownsRow_nil _ _ _ _, trivial⟩, fBw, Below.refl _ _, Nat.le_refl _⟩
      (fun x => { tmps := #[.slice A n c, .int .i64 (k : Int), undef, undef, .slice none 0 0, .pointer (some ⟨w1.heap.size, 0, none⟩), .int .i64 (x.1 : Int), .slice A n c, .int .i64 (k : Int), .bool true, .bool false, .slice A n c, .int .i64 (k : Int), .func (.func 213) #[] #[.pointer (some ⟨w1.heap.size + 1 + 1, 0, none⟩), .pointer (some ⟨w1.heap.size + 1, 0, none⟩)], .int .i64 (x.1 : Int), undef, undef, undef, undef, undef], defers := [] }) ?assign ?body ?done ?stop
    case hKt =>
      rintro A B C ⟨h1, h2, h3⟩ ⟨k1, k2, k3⟩
      exact ⟨h1.trans k1, k2.trans h2, k3.trans h3⟩
    case hKb =>
      intro X l o o' hl ho hc hwk
      exact ⟨belowK_b (w := W2) fBw.size X l o o' hl ho hc hwk, World.putObj_heap_other (by omega), World.putObj_heap_other (by omega)⟩
    case hI =>
      rintro s X Y row ⟨hs, hX, hX2, hX3⟩ hg hr
      exact ⟨holdsRow_own W2.heap.size w1.heap.size 23 3 1 (fun (pre : List { x : Nat // x < n }) => (pre.map Subtype.val).length) (fun pre => ints (pre.map Subtype.val)) (fun _ _ => True) s X Y row hs hg (fun r e => (hr r e).2), hX.grown hg (by omega) (fun r e => by have := (hr r e).1; omega), hX2, Nat.le_trans hX3 hg.size⟩
    case assign =>
      intro l x X K hK
      gi_wp2
      exact hK
    case body =>
      rintro l pre x X ⟨⟨v, hv, hrow, -⟩, hB, -, hsz⟩ hlen
      have hc := hv.cell
      have hpl : pre.length < 40 := by omega
      rw [List.length_map] at hrow
      have hps : ints ((pre ++ [x]).map Subtype.val) = ints (pre.map Subtype.val) ++ [.int .i64 (x.1 : Int)] := by simp [ints]
      have HPS := Lib.hid hps
      clear hps
      gi_wp2_with (gi_at_builtin; refine wpListIn_append_own _ rfl _ _ 23 rfl W2.heap.size 3 i0 (.int .i64 0) 1 8 Tryz.underlying23 hi0 hz0 hz1 hz2 rfl (by decide) _ _ _ rfl (hrow.alloc _) ⟨X.heap.size, 0, none⟩ 1 1 [.int .i64 (x.1 : Int)] rfl rfl (cell_one_new _ _ _) (by simp [Value.oneCell']) (by unfold maxLen; omega) (by omega) (by simp; omega) ?_; intro v' w5 hown' hgrow _; obtain ⟨g', cap', rfl⟩ := ownsRow_succ hown'; obtain ⟨hv1, hv2, hr2, hk2, hb2, hj2⟩ := box_append (n₀ := w.heap.size) hv (by omega) hs1 hsz hrow hown' hgrow; have hc1 := hv1.cell; have hf1 := hv1.frozen)
      have hsz2 : W2.heap.size ≤ (w5.setCell ⟨w1.heap.size, 0, none⟩ (.slice (some ⟨g', 0, none⟩) (pre.length + 1) cap')).heap.size := by
        have h1 := hgrow.size
        rw [World.size_setCell]
        rw [World.size_alloc] at h1
        omega
      exact ⟨hk2, ⟨hb2, hj2 _ (by omega) (by omega), hj2 _ (by omega) (by omega)⟩, ⟨_, hv2, by rw [HPS.out]; simpa using hr2, trivial⟩, hB.trans hb2, Below.refl _ _, hsz2⟩
    case done =>
      rintro D ys X hD hys ⟨⟨v, hv, hrow, -⟩, hB, -, hsz⟩ hK
      have hc := hv.cell
      rw [hys] at hrow
      gi_wp2
      refine ⟨by simp, .inl ⟨_, _, rfl, run_takeDeferred hK, ?_⟩⟩
      refine ⟨_, results_tmp rfl _ _ _, v, rfl, hB.trans (belowK_b (w := w) (Nat.le_refl _) X D _ _ (by omega) hK rfl rfl), ?_⟩
      rw [HP.out]
      exact own_more (ownsRow_putObj hrow _ hK rfl) hSz
    case stop =>
      rintro D c pre X _ _ h _
      exact h.elim

theorem treeKids_any (w : World) (A : Option Addr) (n c : Nat) (st : Sts) (h : Tree w w.heap.size A n st) (hw : Tr.Wf st) (hn : n ≤ maxLen) (i : Int) :
    Calls Tryz.prog 174 #[.slice A n c, .int .i64 i] w fun e w' => ∃ v, e = .returned v ∧ Below w.heap.size w w' ∧ w'.ownsRow w.heap.size 3 1 v (Tr.pKids st i).length (ints (Tr.pKids st i)) :=
  (callsIn_wide (n := 3)).1 (treeKids_in A n c st w h hw hn i)

end Go.Proofs.YtgmhkjmnfafccaaGreatDoor
