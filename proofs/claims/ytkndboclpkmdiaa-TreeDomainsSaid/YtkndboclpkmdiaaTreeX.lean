/- The example's tree; 'copied'; 'Has' of the reference; 'wakes'. -/
import Derived.Test.YtkndboclpkmdiaaTreeO
namespace Go.Proofs.Ytkndboclpkmdiaa
open Go.RowKit

theorem st_info : (Try.prog.info? 34).map (fun i => (i.zero, i.size, i.bytes)) = some (some (.agg #[.string ByteArray.empty, .int .i64 0, .int .i64 0, .string ByteArray.empty, .slice none 0 0, .slice none 0 0]), 6, 96) := by kernel_rfl

def exSt : Sts := [(2, 0), (1, 1), (3, 1), (1, 2)]

theorem Tree.of_own {w : World} {B n c : Nat} {A : Option Addr} {e : TypeId} {st : Sts} {xs : List Value} (h : w.ownsRow B e 6 (.slice A n c) n xs) (hl : st.length = n)
    (hx : ∀ i, i < n → (∃ s0, xs[i * 6]? = some (.string s0)) ∧ xs[i * 6 + 1]? = some (.int .i64 (Tr.kd st i)) ∧ xs[i * 6 + 2]? = some (.int .i64 (Tr.dp st i)) ∧
    (∃ s3, xs[i * 6 + 3]? = some (.string s3)) ∧ (∃ a4 n4 c4, xs[i * 6 + 4]? = some (.slice a4 n4 c4)) ∧ ∃ a5 n5 c5, xs[i * 6 + 5]? = some (.slice a5 n5 c5)) : Tree w w.heap.size A n st := ⟨hl, xs, Reads.of_own h, hx⟩

set_option maxHeartbeats 1000000 in
theorem copied_any (w : World) (A : Option Addr) (n c : Nat) (st : Sts) (h : Tree w w.heap.size A n st) (hn : n * 96 ≤ 140737488355328) :
    Calls Try.prog 11 #[.slice A n c] w fun e w' => ∃ A' c', e = .returned (.slice A' n c') ∧ Below w.heap.size w w' ∧ Tree w' w'.heap.size A' n st := by
  obtain ⟨i0, hi0, hz0, hz1, hz2⟩ := info_parts st_info
  obtain ⟨hl, xs, hr, hx⟩ := h
  have h1 : ∀ u ∈ xs, u.oneCell' = true := by
    intro u hu
    obtain ⟨j, hj⟩ := List.mem_iff_getElem?.1 hu
    have hjl : j < n * 6 := by
      have := (List.getElem?_eq_some_iff.1 hj).1
      rw [hr.1] at this
      exact this
    obtain ⟨q, r, hr6, rfl⟩ : ∃ q r, r < 6 ∧ j = q * 6 + r := ⟨j / 6, j % 6, by omega, by omega⟩
    obtain ⟨⟨s0, e0⟩, e1, e2, ⟨s3, e3⟩, ⟨a4, n4, c4, e4⟩, a5, n5, c5, e5⟩ := hx q (by omega)
    match r, hr6 with
    | 0, _ => rw [Nat.add_zero, e0] at hj; rw [← Option.some.inj hj]; rfl
    | 1, _ => rw [e1] at hj; rw [← Option.some.inj hj]; rfl
    | 2, _ => rw [e2] at hj; rw [← Option.some.inj hj]; rfl
    | 3, _ => rw [e3] at hj; rw [← Option.some.inj hj]; rfl
    | 4, _ => rw [e4] at hj; rw [← Option.some.inj hj]; rfl
    | 5, _ => rw [e5] at hj; rw [← Option.some.inj hj]; rfl
  have HX := Lib.hid hx
  clear hx
  go_enter Try.func11, Try.ntmps11
  go_wp2_with (at_builtin; refine wpList_append_any _ rfl _ _ 22 rfl w.heap.size 34 i0 _ 6 96 Try.underlying22 hi0 hz0 hz1 hz2 rfl (by decide) _ 0 [] rfl (World.ownsRow_made w #[] 0 (Nat.le_refl _) (Nat.zero_le _) rfl) w.heap.size A n c xs rfl (hr.alloc (Nat.le_refl _) _) h1 ?c3 ?c4 ?c5 ?_)
  case c3 => unfold maxLen; omega
  case c4 => omega
  case c5 => simp
  intro v' w1 hown1 hg _
  obtain ⟨A', c', rfl⟩ := own_form hown1
  have hb : Below w.heap.size w w1 := ((Below.refl _ w).alloc (Nat.le_refl _) _).grown hg (by simp) (fun k hk => by
    have : w.heap.size = k := by simpa [Value.ownBlock] using hk
    omega)
  have hT := Tree.of_own hown1 hl HX.out
  go_wp2
  go_ret
  exact ⟨A', c', rfl, hb, hT⟩

set_option maxHeartbeats 1000000 in
theorem some_any (w : World) : Calls Try.prog 27 #[] w fun e w' => ∃ A c, e = .returned (.slice A 4 c) ∧ Below w.heap.size w w' ∧ Tree w' w'.heap.size A 4 exSt := by
  have hz : ∀ w, (zeroValue 34).run Try.prog w = .ok (.agg #[.string ByteArray.empty, .int .i64 0, .int .i64 0, .string ByteArray.empty, .slice none 0 0, .slice none 0 0]) w := fun _ => by kernel_rfl
  go_enter Try.func27, Try.ntmps27
  go_wp2_with fail
  go_ret
  refine ⟨_, _, rfl, (Below.refl _ w).alloc (Nat.le_refl _) _, rfl, [.string ByteArray.empty, .int .i64 2, .int .i64 0, .string ByteArray.empty, .slice none 0 0, .slice none 0 0, .string ByteArray.empty, .int .i64 1, .int .i64 1, .string ByteArray.empty, .slice none 0 0, .slice none 0 0, .string ByteArray.empty, .int .i64 3, .int .i64 1, .string ByteArray.empty, .slice none 0 0, .slice none 0 0, .string ByteArray.empty, .int .i64 1, .int .i64 2, .string ByteArray.empty, .slice none 0 0, .slice none 0 0], ⟨rfl, fun _ => ⟨_, rfl, by simp, fun j u hu => cells_new w _ _ j u hu⟩⟩, fun i hi => ?_⟩
  match i, hi with
  | 0, _ => exact ⟨⟨_, rfl⟩, rfl, rfl, ⟨_, rfl⟩, ⟨_, _, _, rfl⟩, _, _, _, rfl⟩
  | 1, _ => exact ⟨⟨_, rfl⟩, rfl, rfl, ⟨_, rfl⟩, ⟨_, _, _, rfl⟩, _, _, _, rfl⟩
  | 2, _ => exact ⟨⟨_, rfl⟩, rfl, rfl, ⟨_, rfl⟩, ⟨_, _, _, rfl⟩, _, _, _, rfl⟩
  | 3, _ => exact ⟨⟨_, rfl⟩, rfl, rfl, ⟨_, rfl⟩, ⟨_, _, _, rfl⟩, _, _, _, rfl⟩

theorem ex_wf : Tr.Wf exSt := fun i hi => by
  match i, hi with
  | 0, _ => decide
  | 1, _ => decide
  | 2, _ => decide
  | 3, _ => decide
theorem ex_right : decide (Tr.right exSt) = true := by decide +kernel
theorem ex_parent : Tr.pParent exSt 3 = 2 := by decide +kernel
theorem ex_end : Tr.pEnd exSt 1 = 2 := by decide +kernel
theorem ex_domain : Tr.pDomain exSt 1 3 = 0 := by decide +kernel
theorem ex_kids : Tr.pKids exSt 0 = [1, 2] := by decide +kernel

set_option maxHeartbeats 1000000 in
set_option maxRecDepth 100000 in
theorem wakes_any (w : World) : Calls Try.prog 9 #[] w fun e w' => e = .returned (.bool true) ∧ Below w.heap.size w w' := by
  have h4 : 4 ≤ maxLen := by unfold maxLen; omega
  go_enter Try.func9, Try.ntmps9
  go_wp2_with fail
  refine (some_any w).mono ?_
  rintro e w1 ⟨A1, c1, rfl, hb1, ht1⟩
  go_wp2_with fail
  refine (right_any w1 A1 4 c1 exSt ht1 ex_wf h4).mono ?_
  rintro e w2 ⟨rfl, hb2⟩
  rw [ex_right]
  have hB2 : Below w.heap.size w w2 := hb1.trans (hb2.mono hb1.size)
  clear ht1
  go_wp2_with fail
  refine (some_any w2).mono ?_
  rintro e w3 ⟨A3, c3, rfl, hb3, ht3⟩
  go_wp2_with fail
  refine (parent_any w3 A3 4 c3 exSt ht3 ex_wf h4 3).mono ?_
  rintro e w4 ⟨rfl, hb4⟩
  rw [ex_parent]
  have hB4 : Below w.heap.size w w4 := (hB2.trans (hb3.mono hB2.size)).trans (hb4.mono (Nat.le_trans hB2.size hb3.size))
  clear ht3 hb3 hb4
  go_wp2_with fail
  refine (some_any w4).mono ?_
  rintro e w5 ⟨A5, c5, rfl, hb5, ht5⟩
  go_wp2_with fail
  refine (end_any w5 A5 4 c5 exSt ht5 ex_wf h4 1).mono ?_
  rintro e w6 ⟨rfl, hb6⟩
  rw [ex_end]
  have hB6 : Below w.heap.size w w6 := (hB4.trans (hb5.mono hB4.size)).trans (hb6.mono (Nat.le_trans hB4.size hb5.size))
  clear ht5 hb5 hb6
  go_wp2_with fail
  refine (some_any w6).mono ?_
  rintro e w7 ⟨A7, c7, rfl, hb7, ht7⟩
  go_wp2_with fail
  refine (domain_any w7 A7 4 c7 exSt ht7 ex_wf h4 1 3).mono ?_
  rintro e w8 ⟨rfl, hb8⟩
  rw [ex_domain]
  have hB8 : Below w.heap.size w w8 := (hB6.trans (hb7.mono hB6.size)).trans (hb8.mono (Nat.le_trans hB6.size hb7.size))
  clear ht7 hb7 hb8
  go_wp2_with fail
  refine (some_any w8).mono ?_
  rintro e w9 ⟨A9, c9, rfl, hb9, ht9⟩
  go_wp2_with fail
  refine (treeKids_any w9 A9 4 c9 exSt ht9 ex_wf h4 0).mono ?_
  rintro e w10 ⟨v, rfl, hb10, hown⟩
  rw [ex_kids] at hown
  obtain ⟨A, c, rfl⟩ := own_form hown
  have hr10 := Reads.of_own hown
  have hB10 : Below w.heap.size w w10 := (hB8.trans (hb9.mono hB8.size)).trans (hb10.mono (Nat.le_trans hB8.size hb9.size))
  have hr11 : ∀ (o : Obj), Reads (w10.alloc o) (w10.alloc o).heap.size 1 A 2 (ints [1, 2]) := fun o => (hr10.alloc (Nat.le_refl _) o).more (by simp)
  have hr12 : Reads (w10.alloc (.cells #[.int .i64 1, .int .i64 2] 3)) (w10.alloc (.cells #[.int .i64 1, .int .i64 2] 3)).heap.size 1 (some ⟨w10.heap.size, 0, none⟩) 2 (ints [1, 2]) := ⟨rfl, fun _ => ⟨_, rfl, by simp, fun j u hu => cells_new w10 [.int .i64 1, .int .i64 2] _ j u hu⟩⟩
  clear hown ht9 hb9 hb10 hr10
  go_wp2_with fail
  refine (same_any _ A (some ⟨w10.heap.size, 0, none⟩) 2 2 _ _ [1, 2] [1, 2] rfl rfl (hr11 _) hr12 (by unfold maxLen; omega)).mono ?_
  rintro e w11 ⟨rfl, hb11⟩
  have hB11 : Below w.heap.size w w11 := (hB10.alloc hB10.size _).trans (hb11.mono (by have := hB10.size; simp; omega))
  go_wp2
  go_ret
  exact ⟨rfl, hB11⟩

theorem refHas_any (w : World) (A : Option Addr) (n c : Nat) (st : Sts) (h : Tree w w.heap.size A n st) (hw : Tr.Wf st) (i : Int) :
    Calls Try.prog 15 #[.slice A n c, .int .i64 i] w fun e w' => e = .returned (.bool (Tr.hasB st i)) ∧ Below w.heap.size w w' := by
  go_enter Try.func15, Try.ntmps15
  have hl := h.1
  by_cases h0 : 0 ≤ i
  · by_cases h1 : i < (n : Int)
    · have HF := Lib.hid (show Tr.hasB st i = decide (Tr.right st) by unfold Tr.hasB; rw [hl, decide_eq_true h0, decide_eq_true h1]; rfl)
      go_wp2_with fail
      refine (refRight_any w A n c st h hw).mono ?_
      rintro e w1 ⟨rfl, hb⟩
      go_wp2
      go_ret
      exact ⟨by rw [HF.out]; rfl, hb⟩
    · have HF := Lib.hid (show Tr.hasB st i = false by unfold Tr.hasB; rw [hl, decide_eq_false h1, Bool.and_false]; rfl)
      go_wp2
      go_ret
      exact ⟨by rw [HF.out]; rfl, Below.refl _ _⟩
  · have HF := Lib.hid (show Tr.hasB st i = false by unfold Tr.hasB; rw [decide_eq_false h0]; rfl)
    go_wp2
    go_ret
    exact ⟨by rw [HF.out]; rfl, Below.refl _ _⟩

end Go.Proofs.Ytkndboclpkmdiaa
