/- An argument that is a message. -/
import Derived.Test.YtgacphicgglogaaWireV
import Derived.ProofKit
import Derived.OpenShut
import Derived.Deep.Slices
import Derived.Lib.SmallJoins
import Derived.SizedLaws
namespace Go.Proofs.Ytgacphicgglogaa
set_option linter.unusedVariables false
open Go.ChangeShapes Go.WideShapes Go.ChangeAt Go.RowKit Go.Deep Go.Joins Crc

section
variable {H : Type} {enc : TypeId × Value → H} {w : World} {fuel : Nat} {v : Value} {x : DataW H × List MemPlace}
theorem cells_one (T : TypeId) (h : Try.prog.cellsOf T = 1) (o : Nat) (cs : List Value) (u : Value) (hu : cs[o]? = some u) : (cs.drop o).take (Try.prog.cellsOf T) = [u] := by
  rw [h]
  obtain ⟨ho, hu⟩ := List.getElem?_eq_some_iff.1 hu
  rw [List.drop_eq_getElem_cons ho, hu]
  rfl
theorem int_c : Try.prog.cellsOf 3 = 1 := by kernel_rfl
theorem i64_c : Try.prog.cellsOf 2 = 1 := by kernel_rfl
theorem u64_c : Try.prog.cellsOf 23 = 1 := by kernel_rfl
theorem str_c : Try.prog.cellsOf 9 = 1 := by kernel_rfl
theorem ints_c : Try.prog.cellsOf 50 = 1 := by kernel_rfl
theorem sets_c : Try.prog.cellsOf 51 = 1 := by kernel_rfl
theorem pasts_c : Try.prog.cellsOf 52 = 1 := by kernel_rfl
theorem set_c : Try.prog.cellsOf 111 = 4 := by kernel_rfl
theorem val_c : Try.prog.cellsOf 109 = 3 := by kernel_rfl
theorem past_c : Try.prog.cellsOf 113 = 2 := by kernel_rfl
theorem msg_c : Try.prog.cellsOf 54 = 9 := by kernel_rfl

theorem ints_trod (h : DataW.trod enc Try.prog w 0 (fun _ => true) true fuel 50 [v] = some x) :
    ∃ l, IntsAt w w.heap.size v l ∧ ((∀ n ∈ x.1.weights Try.prog 50, n ≤ reachBytes) → l.length * 8 ≤ 140737488355328) := by
  rcases open_ints Try.underlying50 Try.underlying3 int_c h with ⟨hcs, _⟩ | ⟨a, len, cap, zs, hcs, _, hl, hm, hz, hx, hcell, hwz⟩
  · obtain rfl : v = _ := List.head_eq_of_cons_eq hcs
    exact ⟨[], ⟨none, 0, 0, rfl, rfl, by omega, Reads.none_⟩, fun _ => by simp⟩
  · obtain rfl : v = _ := List.head_eq_of_cons_eq hcs
    have hz' : zs.length = cap := by simpa using hz
    have hlen : (zs.take len).length = len := by rw [List.length_take]; omega
    refine ⟨zs.take len, ⟨some a, len, cap, rfl, hlen, by unfold maxLen at hm; omega, ⟨by unfold intV; rw [List.length_map, hlen, Nat.mul_one], fun hn => ⟨a, rfl, ?_, fun j u hu => ?_⟩⟩⟩, fun hw => ?_⟩
    · have := World.block_lt_of_cell? w _ (hcell 0 (by omega))
      rwa [block_of_add] at this
    · unfold intV at hu
      have hj : j < len := by
        have := (List.getElem?_eq_some_iff.1 hu).1
        rw [List.length_map, hlen] at this
        exact this
      rw [hcell j (by omega)]
      rw [List.getElem?_map, List.getElem?_take_of_lt hj] at hu
      rw [List.getD_eq_getElem?_getD]
      cases hg : zs[j]? with
      | none => rw [hg] at hu; cases hu
      | some z => rw [hg] at hu; simpa using hu
    · have := hw (cap * Try.prog.bytesOf 3) (by
        rw [hx]
        simp only [DataW.weights, Try.underlying50, lits, List.length_map, List.length_take, List.length_drop, hz', List.mem_cons]
        left
        rw [Nat.min_eq_left hl, Nat.add_sub_cancel' hl])
      rw [show Try.prog.bytesOf 3 = 8 by kernel_rfl] at this
      unfold reachBytes at this
      rw [hlen]
      omega

theorem set_trod {cs : List Value} (hl : cs.length = 4) (h : DataW.trod enc Try.prog w 0 (fun _ => true) true fuel 111 cs = some x) :
    ∃ g : SetL, cs = setV g ∧ g.wf := by
  match cs, hl with
  | [c0, c1, c2, c3], _ =>
    obtain ⟨ys, n, _, _, _, hyl, hf⟩ := DataW.trod_struct Try.underlying111 h
    match ys, hyl with
    | [y0, y1], _ =>
      have t0 : DataW.trod enc Try.prog w 0 (fun _ => true) true n 3 (([c0, c1, c2, c3].drop 0).take (Try.prog.cellsOf 3)) = some y0 := hf 0 _ rfl
      have t1 : DataW.trod enc Try.prog w 0 (fun _ => true) true n 109 (([c0, c1, c2, c3].drop 1).take (Try.prog.cellsOf 109)) = some y1 := hf 1 _ rfl
      rw [int_c] at t0
      rw [val_c] at t1
      obtain ⟨zs, n1, _, _, _, hzl, hg⟩ := DataW.trod_struct Try.underlying109 t1
      match zs, hzl with
      | [z0, z1, z2], _ =>
        have s0 : DataW.trod enc Try.prog w 0 (fun _ => true) true n1 3 (([c1, c2, c3].drop 0).take (Try.prog.cellsOf 3)) = some z0 := hg 0 _ rfl
        have s1 : DataW.trod enc Try.prog w 0 (fun _ => true) true n1 2 (([c1, c2, c3].drop 1).take (Try.prog.cellsOf 2)) = some z1 := hg 1 _ rfl
        have s2 : DataW.trod enc Try.prog w 0 (fun _ => true) true n1 2 (([c1, c2, c3].drop 2).take (Try.prog.cellsOf 2)) = some z2 := hg 2 _ rfl
        rw [int_c] at s0
        rw [i64_c] at s1 s2
        obtain ⟨k0, e0, _, w0⟩ := DataW.trod_int Try.underlying3 t0
        obtain ⟨k1, e1, _, w1⟩ := DataW.trod_int Try.underlying3 s0
        obtain ⟨k2, e2, _, w2⟩ := DataW.trod_int Try.underlying2 s1
        obtain ⟨k3, e3, _, w3⟩ := DataW.trod_int Try.underlying2 s2
        obtain rfl : c0 = _ := List.head_eq_of_cons_eq e0
        obtain rfl : c1 = _ := List.head_eq_of_cons_eq e1
        obtain rfl : c2 = _ := List.head_eq_of_cons_eq e2
        obtain rfl : c3 = _ := List.head_eq_of_cons_eq e3
        exact ⟨⟨k0, k1, k2, k3⟩, rfl, bounds_i64 w2, bounds_i64 w3⟩

theorem past_trod {cs : List Value} (hl : cs.length = 2) (h : DataW.trod enc Try.prog w 0 (fun _ => true) true fuel 113 cs = some x) :
    ∃ (g : PastL) (u : Value), cs = [.int .i64 g.state, u] ∧ IntsAt w w.heap.size u g.set := by
  match cs, hl with
  | [c0, c1], _ =>
    obtain ⟨ys, n, _, _, _, hyl, hf⟩ := DataW.trod_struct Try.underlying113 h
    match ys, hyl with
    | [y0, y1], _ =>
      have t0 : DataW.trod enc Try.prog w 0 (fun _ => true) true n 3 (([c0, c1].drop 0).take (Try.prog.cellsOf 3)) = some y0 := hf 0 _ rfl
      have t1 : DataW.trod enc Try.prog w 0 (fun _ => true) true n 50 (([c0, c1].drop 1).take (Try.prog.cellsOf 50)) = some y1 := hf 1 _ rfl
      rw [int_c] at t0
      rw [ints_c] at t1
      obtain ⟨k0, e0, _, w0⟩ := DataW.trod_int Try.underlying3 t0
      obtain rfl : c0 = _ := List.head_eq_of_cons_eq e0
      obtain ⟨l, hl, _⟩ := ints_trod t1
      exact ⟨⟨k0, l⟩, c1, rfl, hl⟩


theorem sets_trod (h : DataW.trod enc Try.prog w 0 (fun _ => true) true fuel 51 [v] = some x) :
    ∃ l, SetsAt w w.heap.size v l ∧ (∀ s ∈ l, s.wf) ∧ ((∀ n ∈ x.1.weights Try.prog 51, n ≤ reachBytes) → l.length * 32 ≤ 140737488355328) := by
  rcases open_slice Try.underlying51 h with ⟨hcs, _⟩ | ⟨a, len, cap, m, n, D, Pl, hcs, _, hl, hm, hmm, hx, hi⟩
  · obtain rfl : v = _ := List.head_eq_of_cons_eq hcs
    exact ⟨[], ⟨none, 0, 0, rfl, rfl, by omega, fun i h => absurd h (by simp)⟩, (fun s hs => by cases hs), fun _ => by simp⟩
  · obtain rfl : v = _ := List.head_eq_of_cons_eq hcs
    simp only [if_true] at hmm
    subst hmm
    rw [set_c] at hi
    have hall : ∀ i, ∃ g : SetL, i < m → g.wf ∧ ∀ j, j < 4 → w.cell? (a.add (i * 4 + j)) = (setV g)[j]? := by
      intro i
      by_cases him : i < m
      · obtain ⟨cs', hc, ht⟩ := hi i him
        obtain ⟨_, hcl, hat⟩ := World.cells?_some hc
        obtain ⟨g, rfl, hg⟩ := set_trod hcl ht
        exact ⟨g, fun _ => ⟨hg, fun j hj => by rw [← hat j hj, add_of_add]⟩⟩
      · exact ⟨⟨0, 0, 0, 0⟩, fun h => absurd h him⟩
    obtain ⟨g, hg⟩ := Classical.axiomOfChoice hall
    refine ⟨(List.range len).map g, ⟨some a, len, m, rfl, by simp, by unfold maxLen at hm; omega, fun i hil => ?_⟩, fun s hs => ?_, fun hw => ?_⟩
    · have hil' : i < len := by simpa using hil
      obtain ⟨_, hc⟩ := hg i (by omega)
      have hgi : ((List.range len).map g)[i] = g i := by simp
      rw [hgi]
      refine ⟨a, rfl, ?_, ?_, ?_, ?_, ?_⟩
      · have := World.block_lt_of_cell? w _ (hc 0 (by omega))
        rwa [block_of_add] at this
      · exact hc 0 (by omega)
      · rw [add_struct _ _ _ (by decide)]; exact hc 1 (by omega)
      · rw [add_struct _ _ _ (by decide)]; exact hc 2 (by omega)
      · rw [add_struct _ _ _ (by decide)]; exact hc 3 (by omega)
    · obtain ⟨i, hi, rfl⟩ := List.mem_map.1 hs
      exact (hg i (by have := List.mem_range.1 hi; omega)).1
    · have := hw (m * Try.prog.bytesOf 111) (by
        rw [hx]
        simp only [DataW.weights, Try.underlying51, List.length_map, List.length_range, List.mem_cons]
        left
        rw [Nat.add_sub_cancel' hl])
      rw [show Try.prog.bytesOf 111 = 32 by kernel_rfl] at this
      unfold reachBytes at this
      rw [List.length_map, List.length_range]
      omega

theorem pasts_trod (h : DataW.trod enc Try.prog w 0 (fun _ => true) true fuel 52 [v] = some x) :
    ∃ l, PastsAt w w.heap.size v l ∧ ((∀ n ∈ x.1.weights Try.prog 52, n ≤ reachBytes) → l.length * 32 ≤ 140737488355328) := by
  rcases open_slice Try.underlying52 h with ⟨hcs, _⟩ | ⟨a, len, cap, m, n, D, Pl, hcs, _, hl, hm, hmm, hx, hi⟩
  · obtain rfl : v = _ := List.head_eq_of_cons_eq hcs
    exact ⟨[], ⟨none, 0, 0, rfl, rfl, by omega, fun i h => absurd h (by simp)⟩, fun _ => by simp⟩
  · obtain rfl : v = _ := List.head_eq_of_cons_eq hcs
    simp only [if_true] at hmm
    subst hmm
    rw [past_c] at hi
    have hall : ∀ i, ∃ g : PastL × Value, i < m → IntsAt w w.heap.size g.2 g.1.set ∧ ∀ j, j < 2 → w.cell? (a.add (i * 2 + j)) = [Value.int .i64 g.1.state, g.2][j]? := by
      intro i
      by_cases him : i < m
      · obtain ⟨cs', hc, ht⟩ := hi i him
        obtain ⟨_, hcl, hat⟩ := World.cells?_some hc
        obtain ⟨g, u, rfl, hg⟩ := past_trod hcl ht
        exact ⟨(g, u), fun _ => ⟨hg, fun j hj => by rw [← hat j hj, add_of_add]⟩⟩
      · exact ⟨(⟨0, []⟩, .bool false), fun h => absurd h him⟩
    obtain ⟨g, hg⟩ := Classical.axiomOfChoice hall
    refine ⟨(List.range len).map fun i => (g i).1, ⟨some a, len, m, rfl, by simp, by unfold maxLen at hm; omega, fun i hil => ?_⟩, fun hw => ?_⟩
    · have hil' : i < len := by simpa using hil
      obtain ⟨hin, hc⟩ := hg i (by omega)
      have hgi : ((List.range len).map fun i => (g i).1)[i] = (g i).1 := by simp
      rw [hgi]
      refine ⟨a, (g i).2, rfl, ?_, ?_, ?_, hin⟩
      · have := World.block_lt_of_cell? w _ (hc 0 (by omega))
        rwa [block_of_add] at this
      · exact hc 0 (by omega)
      · rw [add_struct _ _ _ (by decide)]; exact hc 1 (by omega)
    · have := hw (m * Try.prog.bytesOf 113) (by
        rw [hx]
        simp only [DataW.weights, Try.underlying52, List.length_map, List.length_range, List.mem_cons]
        left
        rw [Nat.add_sub_cancel' hl])
      rw [show Try.prog.bytesOf 113 = 32 by kernel_rfl] at this
      unfold reachBytes at this
      rw [List.length_map, List.length_range]
      omega
end

set_option maxRecDepth 100000 in
theorem open_msg {H : Type} {enc : TypeId × Value → H} {w : World} {base : Nat} {v : Value} {d : DataW H} {p : List MemPlace}
    (hv : Value.okWide Try.prog w .any base 54 v) (h : DataW.Trod enc Try.prog w 0 (fun _ => true) true 54 v d p) (hz : ∀ n ∈ d.weights Try.prog 54, n ≤ reachBytes) :
    ∃ m, MsgAt w w.heap.size v m ∧ Fits m := by
  obtain ⟨cs, rfl, hsz⟩ := okWide_struct Try.underlying54 hv
  rw [msg_c] at hsz
  obtain ⟨l, rfl⟩ : ∃ l : List Value, cs = l.toArray := ⟨cs.toList, rfl⟩
  obtain ⟨fuel, hf⟩ := h
  match l, hsz with
  | [c0, c1, c2, c3, c4, c5, c6, c7, c8], _ =>
    obtain ⟨ys, n, _, hys, _, hyl, hg⟩ := DataW.trod_struct Try.underlying54 hf
    match ys, hyl with
    | [y0, y1, y2, y3, y4, y5, y6, y7, y8], _ =>
      simp only [Prod.mk.injEq] at hys
      obtain ⟨rfl, _⟩ := hys
      have u0 : DataW.trod enc Try.prog w 0 (fun _ => true) true n 3 (([c0, c1, c2, c3, c4, c5, c6, c7, c8].drop 0).take (Try.prog.cellsOf 3)) = some y0 := hg 0 _ rfl
      have u1 : DataW.trod enc Try.prog w 0 (fun _ => true) true n 23 (([c0, c1, c2, c3, c4, c5, c6, c7, c8].drop 1).take (Try.prog.cellsOf 23)) = some y1 := hg 1 _ rfl
      have u2 : DataW.trod enc Try.prog w 0 (fun _ => true) true n 9 (([c0, c1, c2, c3, c4, c5, c6, c7, c8].drop 2).take (Try.prog.cellsOf 9)) = some y2 := hg 2 _ rfl
      have u3 : DataW.trod enc Try.prog w 0 (fun _ => true) true n 50 (([c0, c1, c2, c3, c4, c5, c6, c7, c8].drop 3).take (Try.prog.cellsOf 50)) = some y3 := hg 3 _ rfl
      have u4 : DataW.trod enc Try.prog w 0 (fun _ => true) true n 50 (([c0, c1, c2, c3, c4, c5, c6, c7, c8].drop 4).take (Try.prog.cellsOf 50)) = some y4 := hg 4 _ rfl
      have u5 : DataW.trod enc Try.prog w 0 (fun _ => true) true n 50 (([c0, c1, c2, c3, c4, c5, c6, c7, c8].drop 5).take (Try.prog.cellsOf 50)) = some y5 := hg 5 _ rfl
      have u6 : DataW.trod enc Try.prog w 0 (fun _ => true) true n 50 (([c0, c1, c2, c3, c4, c5, c6, c7, c8].drop 6).take (Try.prog.cellsOf 50)) = some y6 := hg 6 _ rfl
      have u7 : DataW.trod enc Try.prog w 0 (fun _ => true) true n 51 (([c0, c1, c2, c3, c4, c5, c6, c7, c8].drop 7).take (Try.prog.cellsOf 51)) = some y7 := hg 7 _ rfl
      have u8 : DataW.trod enc Try.prog w 0 (fun _ => true) true n 52 (([c0, c1, c2, c3, c4, c5, c6, c7, c8].drop 8).take (Try.prog.cellsOf 52)) = some y8 := hg 8 _ rfl
      rw [int_c] at u0
      rw [u64_c] at u1
      rw [str_c] at u2
      rw [ints_c] at u3 u4 u5 u6
      rw [sets_c] at u7
      rw [pasts_c] at u8
      obtain ⟨k0, e0, _, w0⟩ := DataW.trod_int Try.underlying3 u0
      obtain ⟨k1, e1, _, w1⟩ := DataW.trod_int Try.underlying23 u1
      obtain ⟨s2, e2, _, w2⟩ := DataW.trod_string Try.underlying9 u2
      obtain rfl : c0 = _ := List.head_eq_of_cons_eq e0
      obtain rfl : c1 = _ := List.head_eq_of_cons_eq e1
      obtain rfl : c2 = _ := List.head_eq_of_cons_eq e2
      obtain ⟨l3, a3, f3⟩ := ints_trod u3
      obtain ⟨l4, a4, f4⟩ := ints_trod u4
      obtain ⟨l5, a5, f5⟩ := ints_trod u5
      obtain ⟨l6, a6, f6⟩ := ints_trod u6
      obtain ⟨l7, a7, g7, f7⟩ := sets_trod u7
      obtain ⟨l8, a8, f8⟩ := pasts_trod u8
      have hb1 := bounds_u64 w1
      have hmem : ∀ k, k ∈ y3.1.weights Try.prog 50 ∨ k ∈ y4.1.weights Try.prog 50 ∨ k ∈ y5.1.weights Try.prog 50 ∨ k ∈ y6.1.weights Try.prog 50 ∨ k ∈ y7.1.weights Try.prog 51 ∨ k ∈ y8.1.weights Try.prog 52 → k ≤ reachBytes := by
        intro k hk
        refine hz k ?_
        simp only [DataW.weights, Try.underlying54, List.map_cons, List.map_nil, DataW.weightsEach, List.mem_append, List.append_nil, List.toList_toArray]
        rcases hk with h | h | h | h | h | h <;> simp [h]
      refine ⟨⟨k0, k1.toNat, s2, l3, l4, l5, l6, l7, l8⟩, ⟨⟨c3, c4, c5, c6, c7, c8, ?_, a3, a4, a5, a6, a7, a8⟩, by show k1.toNat < _; omega, w2, g7⟩, ⟨f3 fun k hk => hmem k (.inl hk), f4 fun k hk => hmem k (.inr (.inl hk)), f5 fun k hk => hmem k (.inr (.inr (.inl hk))), f6 fun k hk => hmem k (.inr (.inr (.inr (.inl hk)))), f7 fun k hk => hmem k (.inr (.inr (.inr (.inr (.inl hk))))), f8 fun k hk => hmem k (.inr (.inr (.inr (.inr (.inr hk)))))⟩⟩
      rw [show ((k1.toNat : Nat) : Int) = k1 by omega]
end Go.Proofs.Ytgacphicgglogaa
