/- The contracts of Take and Drop. -/
import Derived.Test.YtmaljobfboboeaaBagC
import Derived.Laws.CopyRow
namespace Go.Proofs.Ytmaljobfboboeaa
open Go.RowKit

theorem wpList_copy_in {P : Program} {w : World} {ops : Array Oper} {rest : List Oper} {o : Oper} {a : Act} {Q : Exit → Act → World → Prop} (hgd : o.guard = none) (d s : Operand) (dT sT : TypeId)
    (ho : o.op = .call { callee := .builtin .copy, args := #[d, s], argTypes := #[dT, sT] }) (elem : TypeId) (i : TypeInfo) (size : Nat) (hu : P.underlying dT = some (.slice elem)) (hi : P.info? elem = some i) (hsz : i.size = size)
    (g off off2 dLen dCap sLen sCap : Nat) (hd : a.eval d = .slice (some ⟨g, off, none⟩) dLen dCap) (hs : a.eval s = .slice (some ⟨g, off2, none⟩) sLen sCap)
    (cur : Array Value) (t : TypeId) (hg : w.heap[g]? = some (.cells cur t (0, 0))) (m : Nat) (hm : Nat.min sLen dLen = m) (cs : List Value) (hcs : cs.length = m * size)
    (hsrc : ∀ (j : Nat) v, cs[j]? = some v → cur[off2 + j]? = some v) (hfit : off + cs.length ≤ cur.size) (h1 : ∀ v ∈ cs, v.oneCell' = true)
    (h : wpList P ops Q rest (a.put o.dst (goInt m)) (w.setRow g (cur.toList.take off ++ cs ++ cur.toList.drop (off + cs.length)).toArray)) : wpList P ops Q (o :: rest) a w := by
  refine wpList_plain hgd fun K hK => ?_
  subst hsz
  subst hm
  have hadd : ∀ j, (⟨g, off2, none⟩ : Addr).add j = ⟨g, off2 + j, none⟩ := by intro j; unfold Addr.add; split <;> simp_all
  have hf := run_firstCells_some (P := P) w i.size (Nat.min sLen dLen) ⟨g, off2, none⟩ sLen sCap cs hcs (fun j v hj => by
    rw [hadd, (show w.cell? ⟨g, off2 + j, none⟩ = cur[off2 + j]? from cell_of_row w g (off2 + j) cur t (0, 0) hg)]
    exact hsrc j v hj)
  have hst := run_storeCells_at P g off t cs 0 cur w hg (by simpa using hfit) h1
  simp only [Nat.add_zero] at hst
  have hrun : (Builtin.copy_ #[dT, sT] o.type #[.slice (some ⟨g, off, none⟩) dLen dCap, .slice (some ⟨g, off2, none⟩) sLen sCap]).run P w = .ok (goInt (Nat.min sLen dLen)) (w.setRow g (cur.toList.take off ++ cs ++ cur.toList.drop (off + cs.length)).toArray) := by
    simp [Builtin.copy_, run_underlying hu, sizeOf, typeInfo, hi, Builtin.lenOf, hf, hst]
  unfold Oper.wp
  simp only [execOp, ho, resolve, invoke, builtin, hd, hs, List.map_toArray, List.map_cons, List.map_nil, Sem.run_bind, Sem.run_pure, hrun, Result.andThen_ok, Oper.upon]
  exact hK _ _ h

/-- 'clear' of one element. -/
theorem run_clear_one {P : Program} (w : World) (dT ty elem : TypeId) (z : Value) (hu : P.underlying dT = some (.slice elem)) (hz : ∀ w, (zeroValue elem).run P w = .ok z w)
    (g off c : Nat) (cur : Array Value) (t : TypeId) (hg : w.heap[g]? = some (.cells cur t (0, 0))) (cs : List Value) (hcs : (Builtin.zeroCells z.cells 1).toList = cs) (hfit : off + cs.length ≤ cur.size) (h1 : ∀ v ∈ cs, v.oneCell' = true) :
    (Builtin.clear_ #[dT] ty #[.slice (some ⟨g, off, none⟩) 1 c]).run P w = .ok (.tuple #[]) (w.setRow g (cur.toList.take off ++ cs ++ cur.toList.drop (off + cs.length)).toArray) := by
  have hst := run_storeCells_at P g off t cs 0 cur w hg (by simpa using hfit) h1
  simp only [Nat.add_zero] at hst
  simp [Builtin.clear_, run_underlying hu, hz, hcs, hst]

theorem itemCells_drop (l : List Item) (i : Nat) : (itemCells l).drop (i * 2) = itemCells (l.drop i) := by
  induction i generalizing l with
  | zero => simp
  | succ i ih =>
    cases l with
    | nil => simp [itemCells]
    | cons a l =>
      have e1 : (i + 1) * 2 = i * 2 + 1 + 1 := by omega
      have := ih l
      simpa [itemCells, Item.cells, List.flatMap_cons, e1] using this
theorem itemCells_take (l : List Item) (i : Nat) : (itemCells l).take (i * 2) = itemCells (l.take i) := by
  induction i generalizing l with
  | zero => simp [itemCells]
  | succ i ih =>
    cases l with
    | nil => simp [itemCells]
    | cons a l =>
      have e1 : (i + 1) * 2 = i * 2 + 1 + 1 := by omega
      have := ih l
      simpa [itemCells, Item.cells, List.flatMap_cons, e1] using this
theorem itemCells_append (l l' : List Item) : itemCells (l ++ l') = itemCells l ++ itemCells l' := by simp [itemCells]

theorem oneCells (l : List Item) : ∀ v ∈ itemCells l, v.oneCell' = true := by
  intro v hv
  obtain ⟨x, _, hx⟩ := List.mem_flatMap.1 hv
  simp [Item.cells] at hx
  rcases hx with rfl | rfl <;> rfl

theorem zero_item : ∀ w, (zeroValue 55).run Try.prog w = .ok (.agg #[.string ByteArray.empty, .bool false]) w := by intro w; kernel_rfl

theorem take_keep {α : Type} (c1 mid rest : List α) (k : Nat) (h : k ≤ c1.length) : (c1.take k ++ mid ++ rest).take k = c1.take k := by
  have h1 : (c1.take k).length = k := by rw [List.length_take]; omega
  rw [List.append_assoc, List.take_append_of_le_length (by omega), List.take_of_length_le (by omega)]

theorem zc_item : (Builtin.zeroCells (Value.agg #[.string ByteArray.empty, .bool false]).cells 1).toList = [.string ByteArray.empty, .bool false] := by kernel_rfl

theorem take_nil (w : World) (i : Int) :
    Calls Try.prog 20 #[.pointer none, .int .i64 i] w fun e w' => e = .returned (.tuple #[.string ByteArray.empty, .int .i64 15]) ∧ w = w' := by
  go_enter Try.func20, Try.ntmps20
  go_wp2_with (go_at_call 29; refine (wrong_nil _ _).mono ?_; rintro e w' ⟨rfl, rfl⟩)
  go_ret2
  exact ⟨rfl, rfl⟩

theorem drop_nil (w : World) (i : Int) :
    Calls Try.prog 21 #[.pointer none, .int .i64 i] w fun e w' => e = .returned (.int .i64 15) ∧ w = w' := by
  go_enter Try.func21, Try.ntmps21
  go_wp2_with (go_at_call 20; refine (take_nil _ _).mono ?_; rintro e w' ⟨rfl, rfl⟩)
  go_ret
  exact ⟨rfl, rfl⟩

set_option maxHeartbeats 400000 in
theorem take_mid (w : World) (B p : Nat) (v : Value) (l : List Item) (h : BagAt w B p v l) (hl : l.length ≤ 16) (i : Nat) (h1 : i + 1 < l.length) :
    Calls Try.prog 20 #[.pointer (some ⟨p, 0, none⟩), .int .i64 i] w fun e w' => e = .returned (.tuple #[.string l[i].1, .int .i64 0]) ∧ Below B w w' ∧ ∃ v', BagAt w' B p v' (l.eraseIdx i) := by
  obtain ⟨i0, hi, hz0, hz1, hz2⟩ := info_parts item_info
  have hc := bag_cell h
  have hlt : p < w.heap.size := Blk.lt h.2.1
  obtain ⟨g, c, rfl, hBg, hgl, hgp, hlc, hcm, hx1, hx2, hfr⟩ := bag_item h i (by omega)
  have hown := h.2.2
  have hbp := h.1
  have hi1 : (i : Int) < (l.length : Int) := by omega
  have hi2 : (i : Int) + 1 ≤ (l.length : Int) := by omega
  have hic : (i : Int) + 1 < (c : Int) := by omega
  have hne : ¬ c = i := by omega
  have hne1 : ¬ c = i + 1 := by omega
  have hil : i ≤ l.length := by omega
  have hil1 : i + 1 ≤ l.length := by omega
  have hw1 : IntKind.i64.wrap ((i : Int) + 1) = (i : Int) + 1 := IntWalk.i64_in _ (by omega)
  have hw2 : ((i : Int) + 1).toNat = i + 1 := by omega
  have hw3 : 0 ≤ (i : Int) + 1 := by omega
  unfold maxLen at hcm
  go_enter Try.func20, Try.ntmps20
  go_wp2_with (go_at_call 29; refine (wrong_in w B p _ l h i (by omega) (by omega)).mono ?_; rintro e w' ⟨rfl, rfl⟩)
  refine Reg.wp_chain 13 [] (fun w' => w' = w.drew) (fun _ _ => True) (by kernel_rfl) (by kernel_rfl) (by kernel_rfl) (by kernel_rfl) (fun _ _ d _ _ h => by cases d <;> exact h) rfl ?_
  simp only [List.take_succ_cons, List.take_zero]
  repeat (refine Reg.chain_plain rfl rfl ?_ ?_ ?_; rotate_left; (focus (rintro w2 rfl _; go_simp; rfl)))
  simp only [Act.put, List.setIfInBounds_toArray, List.set_cons_succ, List.set_cons_zero]
  refine Reg.chain_end (fun w2 hw2 _ => ?_)
  subst hw2
  simp only [List.drop_succ_cons, List.drop_zero]
  obtain ⟨cur, hg, hcs, htake⟩ : ∃ cur : Array Value, w.heap[g]? = some (.cells cur 55 (0, 0)) ∧ cur.size = c * 2 ∧ cur.toList.take (l.length * 2) = itemCells l := by
    rcases hown.2 with ⟨hv, _⟩ | ⟨g', cap, cur, hv, _, hg, _, _, hcs, htake⟩
    · cases hv
    · injection hv with e1 _ e2
      injection e1 with e1
      injection e1 with e1
      subst e1; subst e2
      exact ⟨cur, hg, hcs, htake⟩
  obtain ⟨m, hm⟩ : ∃ m, l.length - (i + 1) = m := ⟨_, rfl⟩
  have hml : i + 1 + m = l.length := by omega
  have hlen : (itemCells (l.drop (i + 1))).length = m * 2 := by rw [itemCells_length, List.length_drop, hm]
  have hsrc : ∀ (j : Nat) v, (itemCells (l.drop (i + 1)))[j]? = some v → cur[(i + 1) * 2 + j]? = some v := by
    intro j v hj
    rw [← itemCells_drop, List.getElem?_drop, ← htake, List.getElem?_take] at hj
    split at hj
    · simpa using hj
    · cases hj
  refine wpList_copy_in rfl (.tmp 28) (.tmp 35) 51 51 rfl 55 i0 2 Try.underlying51 hi hz1 g (i * 2) ((i + 1) * 2) (l.length - i) (c - i) (l.length - (i + 1)) (c - (i + 1)) rfl rfl cur 55 hg m (by rw [hm]; exact Nat.min_eq_left (by omega)) (itemCells (l.drop (i + 1))) hlen hsrc (by rw [hlen, hcs]; omega) (oneCells _) ?_
  have hc1l : (cur.toList.take (i * 2) ++ itemCells (l.drop (i + 1)) ++ cur.toList.drop (i * 2 + (itemCells (l.drop (i + 1))).length)).length = c * 2 := by
    rw [List.length_append, List.length_append, List.length_take, List.length_drop, hlen, Array.length_toList, hcs]; omega
  have hc1t : (cur.toList.take (i * 2) ++ itemCells (l.drop (i + 1)) ++ cur.toList.drop (i * 2 + (itemCells (l.drop (i + 1))).length)).take ((l.length - 1) * 2) = itemCells (l.eraseIdx i) := by
    have hctl : cur.toList.length = c * 2 := by rw [Array.length_toList, hcs]
    rw [List.take_append_of_le_length (by rw [List.length_append, List.length_take, hlen, hctl]; omega), List.take_of_length_le (by rw [List.length_append, List.length_take, hlen, hctl]; omega), List.eraseIdx_eq_take_drop_succ, itemCells_append, ← itemCells_take, ← htake, List.take_take, Nat.min_eq_left (by omega)]
  have hg1 := setRow_heap w.drew g cur (cur.toList.take (i * 2) ++ itemCells (l.drop (i + 1)) ++ cur.toList.drop (i * 2 + (itemCells (l.drop (i + 1))).length)).toArray 55 (0, 0) hg
  have hb1 : Below B w (w.drew.setRow g (cur.toList.take (i * 2) ++ itemCells (l.drop (i + 1)) ++ cur.toList.drop (i * 2 + (itemCells (l.drop (i + 1))).length)).toArray) := (Below.refl _ _).drew.trans ⟨rfl, rfl, rfl, by simp [World.setRow], fun k hk => setRow_other _ _ _ _ (by omega)⟩
  have hp1 : (w.drew.setRow g (cur.toList.take (i * 2) ++ itemCells (l.drop (i + 1)) ++ cur.toList.drop (i * 2 + (itemCells (l.drop (i + 1))).length)).toArray).heap[p]? = some (.cells #[.slice (some ⟨g, 0, none⟩) l.length c] 53 (0, 0)) := (setRow_other _ _ _ _ (by omega)).trans h.2.1
  generalize (cur.toList.take (i * 2) ++ itemCells (l.drop (i + 1)) ++ cur.toList.drop (i * 2 + (itemCells (l.drop (i + 1))).length)) = c1 at *
  generalize w.drew.setRow g c1.toArray = w1 at *
  have hpc : w1.cell? ⟨p, 0, none⟩ = some (.slice (some ⟨g, 0, none⟩) l.length c) := (cell_of_row w1 p 0 _ 53 (0, 0) hp1)
  have hw4 : IntKind.i64.wrap ((i : Int) + (m : Int)) = (i : Int) + (m : Int) := IntWalk.i64_in _ (by omega)
  have hw5 : ((i : Int) + (m : Int)).toNat = i + m := by omega
  have hw6 : 0 ≤ (i : Int) + (m : Int) := by omega
  have him : i + m ≤ l.length := by omega
  have him2 : (i : Int) + (m : Int) ≤ (l.length : Int) := by omega
  have hne2 : ¬ c = i + m := by omega
  have e1 : l.length - (i + m) = 1 := by omega
  clear hm hml hlen hsrc htake hcs hg hc hx1 hx2 hfr hown h hw1 hw2 hw3 hic hne1 hi2
  have HC := Lib.hid hc1t
  have hfit : (i + m) * 2 + 2 ≤ c1.length := by omega
  have e2 : (l.length - 1) * 2 = (i + m) * 2 := by omega
  have e3 : (l.eraseIdx i).length = i + m := by rw [List.length_eraseIdx]; split <;> omega
  have E2 := Lib.hid e2
  have E3 := Lib.hid e3
  have HL := Lib.hid hc1l
  clear hc1t e2 e3 hc1l
  go_wp2_with fail
  have hclr := run_clear_one (P := Try.prog) w1 51 0 55 _ Try.underlying51 zero_item g ((i + m) * 2) (c - (i + m)) c1.toArray 55 hg1 [.string ByteArray.empty, .bool false] zc_item (by simpa using hfit) (by intro u hu; simp at hu; rcases hu with rfl | rfl <;> rfl)
  have hg2 := setRow_heap w1 g _ (c1.toArray.toList.take ((i + m) * 2) ++ [Value.string ByteArray.empty, Value.bool false] ++ c1.toArray.toList.drop ((i + m) * 2 + [Value.string ByteArray.empty, Value.bool false].length)).toArray 55 (0, 0) hg1
  have hb2 : Below B w (w1.setRow g (c1.toArray.toList.take ((i + m) * 2) ++ [Value.string ByteArray.empty, Value.bool false] ++ c1.toArray.toList.drop ((i + m) * 2 + [Value.string ByteArray.empty, Value.bool false].length)).toArray) := hb1.trans ⟨rfl, rfl, rfl, by simp [World.setRow], fun k hk => setRow_other _ _ _ _ (by omega)⟩
  have hp2 := (setRow_other w1 g p (c1.toArray.toList.take ((i + m) * 2) ++ [Value.string ByteArray.empty, Value.bool false] ++ c1.toArray.toList.drop ((i + m) * 2 + [Value.string ByteArray.empty, Value.bool false].length)).toArray (by omega)).trans hp1
  have htk2 : (c1.toArray.toList.take ((i + m) * 2) ++ [Value.string ByteArray.empty, Value.bool false] ++ c1.toArray.toList.drop ((i + m) * 2 + [Value.string ByteArray.empty, Value.bool false].length)).take ((i + m) * 2) = itemCells (l.eraseIdx i) := by
    rw [← HC.out, E2.out]
    exact take_keep c1 _ _ _ (by omega)
  have hlen2 : (c1.toArray.toList.take ((i + m) * 2) ++ [Value.string ByteArray.empty, Value.bool false] ++ c1.toArray.toList.drop ((i + m) * 2 + [Value.string ByteArray.empty, Value.bool false].length)).length = c * 2 := by
    have := HL.out
    simp; omega
  have HT2 := Lib.hid htk2
  have HG2 := Lib.hid hg2
  have HL2 := Lib.hid hlen2
  clear htk2 hg2 hlen2
  generalize (c1.toArray.toList.take ((i + m) * 2) ++ [Value.string ByteArray.empty, Value.bool false] ++ c1.toArray.toList.drop ((i + m) * 2 + [Value.string ByteArray.empty, Value.bool false].length)) = c2 at *
  generalize w1.setRow g c2.toArray = w2 at *
  have hpc2 : w2.cell? ⟨p, 0, none⟩ = some (.slice (some ⟨g, 0, none⟩) l.length c) := (cell_of_row w2 p 0 _ 53 (0, 0) hp2)
  have hpf2 : w2.frozen? ⟨p, 0, none⟩ = false := Blk.frozen hp2 0
  have him3 : i + m ≤ c := by omega
  go_wp2_with fail
  rw [hclr]
  simp only [Result.andThen_ok, Oper.upon_value]
  go_wp2
  go_ret2
  refine ⟨rfl, hb2.setCell hbp _, .slice (some ⟨g, 0, none⟩) (i + m) c, hbp, Blk.set_ hp2 0 _, ?_⟩
  rw [E3.out]
  refine ownsRow_setCell_other ⟨?_, .inr ⟨g, c, c2.toArray, rfl, hBg, HG2.out, him3, by unfold maxLen; omega, by simpa using HL2.out, HT2.out⟩⟩ (by simp [Value.ownBlock]; omega) _
  rw [itemCells_length, E3.out]

end Go.Proofs.Ytmaljobfboboeaa
