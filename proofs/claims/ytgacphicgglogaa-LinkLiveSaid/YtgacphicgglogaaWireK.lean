/- Package wire: the reader: 'list'. -/
import Derived.Test.YtgacphicgglogaaWireJ
namespace Go.Proofs.Ytgacphicgglogaa
open Go.RowKit Crc
set_option linter.unusedVariables false

theorem i64_info : (Try.prog.info? 3).map (fun i => (i.zero, i.size, i.bytes)) = some (some (.int .i64 0), 1, 8) := by kernel_rfl
theorem intV_one (l : List Int) : ∀ u ∈ intV l, u.oneCell' = true := fun u hu => by
  obtain ⟨s, _, rfl⟩ := List.mem_map.1 hu
  rfl

def placesR : Nat → ByteArray → List Int → Option (List Int × ByteArray)
  | 0, s, acc => some (acc, s)
  | f + 1, s, acc => match smallR s 63 with
    | none => none
    | some (x, t) => placesR f t (acc ++ [(x : Int)])
def listR (s : ByteArray) : Option (List Int × ByteArray) := match smallR s 48 with
  | none => none
  | some (n, t) => placesR n t []

theorem rsmall_some {w : World} {p : Nat} {s t : ByteArray} {n most : Nat} (h : RdAt w p s) (hs : s.size ≤ 9223372036854775807) (hr : smallR s most = some (n, t)) :
    (Calls Try.prog 82 #[.pointer (some ⟨p, 0, none⟩), .int .i64 (most : Int)] w fun e w' => e = .returned (.int .i64 (n : Int)) ∧ w' = w.setCell ⟨p, 0, none⟩ (.string t)) ∧ t.size ≤ s.size ∧ n ≤ most := by
  unfold smallR at hr
  split at hr
  · cases hr
  · split at hr
    · rename_i h0 hm
      injection hr with hr
      injection hr with e1 e2
      subst e1 e2
      exact ⟨rsmall_ok w p s h most hs h0 hm, by rw [ByteArray.size_extract]; omega, hm⟩
    · cases hr
theorem rsmall_none {w : World} {p : Nat} {s : ByteArray} {most : Nat} (h : RdAt w p s) (hs : s.size ≤ 9223372036854775807) (hr : smallR s most = none) :
    Calls Try.prog 82 #[.pointer (some ⟨p, 0, none⟩), .int .i64 (most : Int)] w fun e w' => e = .panicked stops ∧ Touch (fun k => k = p) w w' := by
  refine rsmall_bad w p s h most hs ?_
  unfold smallR at hr
  by_cases h0 : s.size = 0
  · exact .inl h0
  · rw [if_neg h0] at hr
    by_cases hm : first s ≤ most
    · rw [if_pos hm] at hr; cases hr
    · exact .inr hm

set_option maxHeartbeats 2000000 in
set_option maxRecDepth 100000 in
theorem rlist_any (w : World) (p : Nat) (s : ByteArray) (h : RdAt w p s) (hs : s.size ≤ 9223372036854775807) :
    Calls Try.prog 85 #[.pointer (some ⟨p, 0, none⟩)] w fun e w' => Touch (fun k => k = p) w w' ∧
      ((∃ l t v, listR s = some (l, t) ∧ e = .returned v ∧ w'.ownsRow w.heap.size 3 1 v l.length (intV l) ∧ RdAt w' p t ∧ t.size ≤ s.size) ∨ (listR s = none ∧ e = .panicked stops)) := by
  obtain ⟨i0, hi0, hx0, hx1, hx2⟩ := info_parts i64_info
  obtain ⟨R, hR⟩ : ∃ R : Ending → World → Prop, R = fun e w' => Touch (fun k => k = p) w w' ∧
      ((∃ l t v, listR s = some (l, t) ∧ e = .returned v ∧ w'.ownsRow w.heap.size 3 1 v l.length (intV l) ∧ RdAt w' p t ∧ t.size ≤ s.size) ∨ (listR s = none ∧ e = .panicked stops)) := ⟨_, rfl⟩
  rw [← hR]
  have HR := Lib.hid hR
  clear hR
  have hpl := Blk.lt h
  go_enter Try.func85, Try.ntmps85
  go_wp2_with fail
  cases hsr : smallR s 48 with
  | none =>
    refine (rsmall_none h hs hsr).mono ?_
    rintro e w1 ⟨rfl, ht⟩
    refine ⟨rfl, ?_⟩
    rw [HR.out]
    dsimp only
    exact ⟨ht, .inr ⟨by unfold listR; rw [hsr], rfl⟩⟩
  | some r =>
    obtain ⟨n, t⟩ := r
    obtain ⟨hcon, hts, hn48⟩ := rsmall_some h hs hsr
    have hl0 : listR s = placesR n t [] := by unfold listR; rw [hsr]
    have HL0 := Lib.hid hl0
    refine hcon.mono ?_
    rintro e w1 ⟨rfl, hw1⟩
    have h1 : RdAt w1 p t := by rw [hw1]; exact h.set t
    have ht1 : Touch (fun k => k = p) w w1 := by rw [hw1]; exact Touch.of_set _ _ rfl
    clear hcon hsr hl0 hw1
    go_wp2_with fail
    go_loopw [3, 6] (fun o v wr => ∃ (k : Nat) (acc : List Int) (s1 : ByteArray), k ≤ n ∧ v = .int .i64 (k : Int) ∧ wr.ownsRow w.heap.size 3 1 o acc.length (intV acc) ∧ acc.length = k ∧ RdAt wr p s1 ∧ Touch (fun k => k = p) w wr ∧ placesR (n - k) s1 acc = placesR n t [] ∧ s1.size ≤ s.size) (fun _ v _ => n - (intOf v).toNat)
    case atStart => exact ⟨0, [], t, Nat.zero_le _, rfl, World.ownsRow_nil _ _ _ _, rfl, h1, ht1, rfl, hts⟩
    case round =>
      obtain ⟨k, acc, s1, hk, rfl, hown, hacc, hrd, ht, hpl2, hs1⟩ := hrel
      obtain ⟨A, c, hA⟩ := own_form hown
      subst hA
      by_cases hkn : k < n
      · have hkz : (k : Int) < (n : Int) := by omega
        have hnk : n - k = (n - (k + 1)) + 1 := by omega
        have hs1' : s1.size ≤ 9223372036854775807 := by omega
        cases hsr1 : smallR s1 63 with
        | none =>
          have hcon := rsmall_none hrd hs1' hsr1
          have HC := Lib.hid hcon
          have HN := Lib.hid (show listR s = none by rw [HL0.out, ← hpl2, hnk, placesR, hsr1])
          clear hcon hsr1 hpl2 hnk
          go_wp2_with fail
          refine HC.out.mono ?_
          rintro e w2 ⟨rfl, ht2⟩
          refine ⟨rfl, ?_⟩
          rw [HR.out]
          dsimp only
          exact ⟨ht.trans ht2 (fun k hk => .inl hk), .inr ⟨HN.out, rfl⟩⟩
        | some r =>
          obtain ⟨x, t2⟩ := r
          obtain ⟨hcon, hts2, hx63⟩ := rsmall_some hrd hs1' hsr1
          have HC := Lib.hid hcon
          have HP := Lib.hid (show placesR (n - (k + 1)) t2 (acc ++ [(x : Int)]) = placesR n t [] by rw [← hpl2, hnk, placesR, hsr1])
          have HTS := Lib.hid (Nat.le_trans hts2 hs1)
          clear hcon hsr1 hpl2 hnk hts2
          go_wp2_with fail
          refine HC.out.mono ?_
          rintro e w2 ⟨rfl, hw2⟩
          have hrd2 : RdAt w2 p t2 := by rw [hw2]; exact hrd.set t2
          have hT2 : Touch (fun k => k = p) wr w2 := by rw [hw2]; exact Touch.of_set _ _ rfl
          have hown2 := hT2.own hown (fun k hk e => by have := (hown.lt k hk).1; omega)
          have hsz2 := ht.size
          have hsz3 := hT2.size
          rw [hacc] at hown2
          rw [hacc]
          have hrx : Reads (w2.alloc (.cells #[.int .i64 (x : Int)] 3)) (w2.alloc (.cells #[.int .i64 (x : Int)] 3)).heap.size 1 (some ⟨w2.heap.size, 0, none⟩) 1 (intV [(x : Int)]) := ⟨rfl, fun _ => ⟨_, rfl, by simp, fun j u hu => cells_new w2 [.int .i64 (x : Int)] _ j u hu⟩⟩
          have hone := intV_one [(x : Int)]
          clear hw2 hown
          go_wp2_with (at_builtin; refine wpList_append_any _ rfl _ _ 50 rfl w.heap.size 3 i0 _ 1 8 Try.underlying50 hi0 hx0 hx1 hx2 rfl (by decide) _ _ _ rfl (hown2.alloc _) _ (some ⟨w2.heap.size, 0, none⟩) 1 1 _ rfl hrx hone ?c3 ?c4 ?c5 ?_)
          case c3 => unfold maxLen; omega
          case c4 => omega
          case c5 => first | omega | (rw [World.size_alloc]; omega)
          intro v' w3 hown3 hg3 hbl
          obtain ⟨ht3, hbl3⟩ := touch_app hg3 hbl
          have hlow : ∀ j, (Value.slice A k c).ownBlock = some j → w.heap.size ≤ j := fun j hj => (hown2.lt j hj).1
          have hrd3 := hrd2.touch ht3 (fun e => by have := hlow p e; omega)
          have hT3 : Touch (fun k => k = p) w w3 := ⟨(ht3.os.trans hT2.os).trans ht.os, (ht3.tape.trans hT2.tape).trans ht.tape, (ht3.output.trans hT2.output).trans ht.output, Nat.le_trans hsz2 (Nat.le_trans hsz3 ht3.size), fun j hj hne => by
            have e1 := ht.block j hj hne
            have e2 := hT2.block j (by omega) hne
            have e3 := ht3.block j (by omega) (fun e => by have := hlow j e; omega)
            exact e3.trans (e2.trans e1)⟩
          have HF := Lib.hid (show w3.ownsRow w.heap.size 3 1 v' (acc ++ [(x : Int)]).length (intV (acc ++ [(x : Int)])) by
            rw [List.length_append, hacc]
            simpa [intV] using hown3)
          have HACC := Lib.hid hacc
          have HRD := Lib.hid hrd3
          have HTT := Lib.hid hT3
          obtain ⟨A', c', hA'⟩ := own_form hown3
          subst hA'
          clear hown3 hg3 hbl ht3 hbl3 hrx hone hrd2 hT2 hown2 hlow hrd3 hT3 hsz2 hsz3 ht hrd hs1 hacc
          go_wp2
          go_roundw
          case rel => exact ⟨k + 1, acc ++ [(x : Int)], t2, by omega, by go_num, HF.out, by rw [List.length_append, HACC.out]; rfl, HRD.out, HTT.out, HP.out, HTS.out⟩
          case measure => simp [intOf]; omega
      · obtain rfl : k = n := by omega
        have hkz : ¬ (k : Int) < (k : Int) := by omega
        have HN := Lib.hid (show listR s = some (acc, s1) by rw [HL0.out, ← hpl2, Nat.sub_self, placesR])
        have HO := Lib.hid hown
        clear hpl2 hown
        go_wp2
        rw [HR.out]
        dsimp only
        exact ⟨ht, .inl ⟨acc, s1, _, HN.out, rfl, by have := HO.out; rw [hacc] at this ⊢; exact this, hrd, hs1⟩⟩
end Go.Proofs.Ytgacphicgglogaa
