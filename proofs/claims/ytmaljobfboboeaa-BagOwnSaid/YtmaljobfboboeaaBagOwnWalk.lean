/- The walk of BagOwn. -/
import Derived.Test.YtmaljobfboboeaaBagT
import Derived.Test.YtmaljobfboboeaaOpen
namespace Go.Proofs.Ytmaljobfboboeaa.bagOwn
open Go.RowKit

def ownL (ss : List ByteArray) (m : Nat) : List Item := (ss.take (min m 16)).map fun s => (s, false)
theorem own_len (ss : List ByteArray) (m : Nat) (h : m ≤ ss.length) : (ownL ss m).length = min m 16 := by simp [ownL]; omega
theorem own_put (ss : List ByteArray) (m : Nat) (h : m < ss.length) : putL (ownL ss m) ss[m] = ownL ss (m + 1) := by
  unfold putL
  rw [own_len ss m (by omega)]
  unfold ownL
  by_cases h16 : m < 16
  · rw [if_pos (by omega), show min m 16 = m by omega, show min (m + 1) 16 = m + 1 by omega, List.take_succ_eq_append_getElem h, List.map_append]
    rfl
  · rw [if_neg (by omega), show min m 16 = 16 by omega, show min (m + 1) 16 = 16 by omega]
theorem own_texts (ss : List ByteArray) (m : Nat) : texts (ownL ss m) = strs (ss.take (min m 16)) := by unfold texts ownL strs; rw [List.map_map]; rfl

theorem reads_take {w : World} {X n k : Nat} {A : Option Addr} {xs : List Value} (h : Reads w X 1 A n xs) (hk : k ≤ n) : Reads w X 1 A k (xs.take k) := by
  refine ⟨by have := h.1; rw [List.length_take]; omega, fun h0 => ?_⟩
  obtain ⟨ad, e, hb, hc⟩ := h.2 (by omega)
  refine ⟨ad, e, hb, fun j u hu => hc j u ?_⟩
  rw [List.getElem?_take] at hu
  split at hu
  · exact hu
  · cases hu

set_option maxHeartbeats 1000000 in
set_option maxRecDepth 100000 in
theorem walk (v0 : Value) (w : World) {H : Type} {enc : TypeId × Value → H} {base : Nat} {d : DataW H} {p : List MemPlace}
    (hv : Value.okWide Try.prog w .any base 30 v0) (h1 : DataW.Trod enc Try.prog w 0 (fun _ => true) true 30 v0 d p) (_lt1 : ∀ x ∈ p, x.block < w.heap.size) (hz1 : ∀ n ∈ d.weights Try.prog 30, n ≤ reachBytes) :
    Calls Try.prog 4 #[v0] w fun e w' => e = .returned (.bool true) ∧ Below w.heap.size w w' := by
  obtain ⟨A, n, c, ss, rfl, hsn, hnc, hcm, hr, hss, _⟩ := open_strs_reads Try.underlying30 Try.underlying9 (by kernel_rfl) hv h1 hz1
  clear hv h1 _lt1 hz1
  have hcm' := hcm
  unfold maxLen at hcm
  by_cases hbig : 100 < n
  · have hb' : (100 : Int) < (n : Int) := by omega
    go_enter Try.func4, Try.ntmps4
    go_wp2_with (go_at_call 12; refine (wakes17_any w).mono ?_; rintro e w1 ⟨rfl, hw1⟩)
    go_ret
    exact ⟨rfl, hw1⟩
  have hb' : ¬ (100 : Int) < (n : Int) := by omega
  go_enter Try.func4, Try.ntmps4
  go_wp2_with fail
  refine (wakes17_any w).mono ?_
  rintro e w1 ⟨rfl, hw1⟩
  go_wp2_with fail
  refine (new_any w1 w.heap.size hw1.size).mono ?_
  rintro e w2 ⟨rfl, hb2, hw2⟩
  have hw2' : Below w.heap.size w1 w2 := hw2.mono hw1.size
  clear hw2
  generalize w1.heap.size = p at *
  have hw13 : Below w.heap.size w w2 := hw1.trans hw2'
  go_wp2_with fail
  go_loopw [15] (fun i wr => ∃ (m : Nat) (v : Value), m ≤ n ∧ i = .int .i64 m ∧ Below w.heap.size w wr ∧ BagAt wr w.heap.size p v (ownL ss m)) (fun i _ => n - (intOf i).toNat)
  case atStart => exact ⟨0, _, Nat.zero_le _, rfl, hw13, by simpa [ownL] using hb2⟩
  case round =>
    obtain ⟨m, v, hm, rfl, hb, hbag⟩ := hrel
    by_cases hlt : m < n
    · obtain ⟨ad, u, rfl, hadb, hu, hc⟩ := (hr.keep (w' := wr) fun q hq => hb.cell hq).at_ hlt
      have hms : m < ss.length := by omega
      have hu' : (ss.map Value.string)[m]? = some (.string ss[m]) := by simp [hms]
      rw [hu'] at hu
      injection hu with hu
      subst hu
      have hlt' : (m : Int) < (n : Int) := by omega
      have hput := own_put ss m hms
      have HP := Lib.hid hput
      have hol : (ownL ss m).length ≤ 16 := by rw [own_len ss m (by omega)]; omega
      clear hput hu' hsn hss
      generalize ss[m] = s at *
      go_wp2_with fail
      refine (put_any wr _ _ _ _ hbag hol s hb.size).mono ?_
      rintro e w4 ⟨rfl, hw4, v4, hb4⟩
      rw [HP.out] at hb4
      go_wp2
      go_roundw
      case rel => exact ⟨m + 1, v4, by omega, by go_num, hb.trans hw4, hb4⟩
      case measure => simp [intOf]; omega
    · obtain rfl : m = n := by omega
      have hol : (ownL ss m).length = min m 16 := own_len ss m (by omega)
      have hol2 : (ownL ss m).length ≤ 16 := by omega
      have hot := own_texts ss m
      have hols : ∀ x ∈ ownL ss m, x.1.size ≤ reachBytes := by
        intro x hx
        obtain ⟨s, hs, rfl⟩ := List.mem_map.1 hx
        exact hss s (List.mem_of_mem_take hs)
      have HOT := Lib.hid hot
      have HOL := Lib.hid hol
      clear hol hot
      generalize ownL ss m = l at *
      go_wp2_with fail
      refine (all_any wr _ _ _ _ hbag hol2 hb.size).mono ?_
      rintro e w4 ⟨v4, rfl, hw4, ho4⟩
      obtain ⟨A4, c4, rfl⟩ := own_form ho4
      have hbag4 := bag_below hbag hw4
      have hW4 : Below w.heap.size w w4 := hb.trans (hw4.mono hb.size)
      have hpl : p < wr.heap.size := Blk.lt hbag.2.1
      go_wp2_with fail
      have hBs := hb.size
      have hvX := fun k hk => (hbag.2.2.lt k hk).2
      clear hb hbag hw4
      generalize wr.heap.size = X at *
      go_loopw [29] (fun i wx => ∃ (k : Nat) (xs : List Value), k ≤ l.length ∧ i = .int .i64 k ∧ Below X w4 wx ∧ wx.ownsRow X 9 1 (.slice A4 l.length c4) l.length xs ∧ ∀ j, k ≤ j → xs[j]? = (texts l)[j]?) (fun i _ => l.length - (intOf i).toNat)
      case atStart => exact ⟨0, texts l, Nat.zero_le _, rfl, Below.refl _ _, ho4, fun _ _ => rfl⟩
      case round =>
        obtain ⟨k, xs, hk, rfl, hbx, hox, hxs⟩ := hrel
        by_cases hlk : k < l.length
        · obtain ⟨g, c', hA, hXg, hgl⟩ := hox.form (by omega)
          injection hA with hA1 _ hA2
          subst hA1
          subst hA2
          have hgx : xs[k]? = some (.string l[k].1) := by rw [hxs k (Nat.le_refl _)]; simp [texts, hlk]
          have hcx := hox.cells (g := g) rfl _ _ hgx
          have hadd : ∀ j, (⟨g, 0, none⟩ : Addr).add j = ⟨g, j, none⟩ := by intro j; unfold Addr.add; split <;> simp_all
          rw [hadd] at hcx
          have hfz : wr.frozen? ⟨g, k, none⟩ = false := by
            rcases hox.2 with ⟨hv, _⟩ | ⟨g', cap, cur, hv, _, hh, _⟩
            · cases hv
            · injection hv with e1 _ _
              injection e1 with e1
              injection e1 with e1
              subst e1
              exact Blk.frozen hh k
          have hlk' : (k : Int) < (l.length : Int) := by omega
          clear hgx hadd
          have hsz := hols _ (List.getElem_mem hlk)
          have hsz' : l[k].1.size ≤ 140737488351232 := hsz
          clear hsz
          have hox2 := ownsRow_set hox k (.string (⟨#[120]⟩ ++ l[k].1))
          have hxs2 : ∀ j, k + 1 ≤ j → (xs.set k (.string (⟨#[120]⟩ ++ l[k].1)))[j]? = (texts l)[j]? := fun j hj => by rw [List.getElem?_set_ne (by omega)]; exact hxs j (by omega)
          have HX2 := Lib.hid hxs2
          clear hxs2 hxs hols
          go_wp2
          go_roundw
          case rel => exact ⟨k + 1, _, by omega, by go_num, hbx.setCell hXg _, hox2, HX2.out⟩
          case measure => simp [intOf]; omega
        · have hbagx : BagAt wr w.heap.size p v l := bag_keep hbag4 hbx hpl hvX
          have hWx : Below w.heap.size w wr := hW4.trans (hbx.mono hBs)
          have hrx : Reads wr wr.heap.size 1 A m (ss.map Value.string) := (hr.keep (w' := wr) fun q hq => hWx.cell hq).more hWx.size
          clear hox hbx hxs hbag4 hr ho4 hW4
          go_wp2_with fail
          by_cases h16 : m ≤ 16
          · have h16' : ¬ (16 : Int) < (m : Int) := by omega
            refine Reg.wp_chain 7 [(1, fun v w' => ∃ A c, v = .slice A l.length c ∧ Reads w' w'.heap.size 1 A l.length (texts l))] (fun w' => Below wr.heap.size wr w') (fun w w' => Below w.heap.size w w') (by kernel_rfl) (by kernel_rfl) (by kernel_rfl) (by kernel_rfl) (fun _ _ d _ _ h => by cases d <;> exact h) (Below.refl _ _).drew ?_
            simp only [List.take_succ_cons, List.take_zero]
            repeat (refine Reg.chain_plain rfl rfl ?_ ?_ ?_; rotate_left; (focus (intro w2 hI _; go_simp; rfl)))
            simp only [Act.put, List.setIfInBounds_toArray, List.set_cons_succ, List.set_cons_zero]
            refine Reg.chain_eff rfl rfl (fun v w1 w2 hs ⟨A, c, e, hn⟩ => ⟨A, c, e, (hn.below hs).more hs.size⟩) (fun w1 hI _ K hK => ?_) (fun v => ?_)
            · go_simp
              refine (all_any w1 _ _ _ _ (bag_below hbagx hI) hol2 (Nat.le_trans hWx.size hI.size)).mono ?_
              rintro e w2 ⟨v2, rfl, hw2, ho2⟩
              obtain ⟨A2, c2, rfl⟩ := own_form ho2
              exact hK _ _ _ (by go_simp) ⟨A2, c2, rfl, reads_own ho2⟩ (hI.trans (hw2.mono hI.size)) hw2
            repeat (refine Reg.chain_plain rfl rfl ?_ ?_ ?_; rotate_left; (focus (intro w2 hI _; go_simp; rfl)))
            simp only [Act.put, List.setIfInBounds_toArray, List.set_cons_succ, List.set_cons_zero]
            refine Reg.chain_end (fun w1 hI hF => ?_)
            obtain ⟨A2, c2, rfl, hr2⟩ := hF _ (List.mem_singleton.2 rfl)
            clear hF
            simp only [List.drop_succ_cons, List.drop_zero]
            have hr3 := reads_take (hrx.below hI) (k := min m 16) (by omega)
            rw [← List.map_take, show min m 16 = m by omega] at hr3
            have hlL : l.length = (ss.take m).length := by rw [HOL.out, List.length_take]; omega
            have hmL : (ss.take m).length = m := by rw [List.length_take]; omega
            have hot := HOT.out
            rw [show min m 16 = m by omega] at hot
            rw [hot, hlL] at hr2
            rw [hlL]
            have HML := Lib.hid hmL
            clear hlL hot hmL
            generalize hL : ss.take m = L at *
            go_wp2_with fail
            have hr3' : Reads w1 w1.heap.size 1 A L.length (strs L) := (by rw [HML.out]; exact hr3.more hI.size)
            have hcall := same_any w1 w1.heap.size A2 A c2 c L L (by rw [HML.out]; unfold maxLen; omega) (by rw [HML.out]; unfold maxLen; omega) hr2 hr3'
            rw [HML.out] at hcall ⊢
            refine hcall.mono ?_
            rintro e w2 ⟨he, q, rfl⟩
            obtain rfl : e = .returned (.bool true) := by rw [he]; simp
            go_wp2
            go_ret
            exact ⟨rfl, below_drewN (hWx.trans (hI.mono hWx.size)) q⟩
          · have h16' : (16 : Int) < (m : Int) := by omega
            have h16n : 16 ≤ m := by omega
            have h16c : 16 ≤ c := by omega
            have h16d : (16 : Int) ≤ (c : Int) := by omega
            refine Reg.wp_chain 7 [(1, fun v w' => ∃ A c, v = .slice A l.length c ∧ Reads w' w'.heap.size 1 A l.length (texts l))] (fun w' => Below wr.heap.size wr w') (fun w w' => Below w.heap.size w w') (by kernel_rfl) (by kernel_rfl) (by kernel_rfl) (by kernel_rfl) (fun _ _ d _ _ h => by cases d <;> exact h) (Below.refl _ _).drew ?_
            simp only [List.take_succ_cons, List.take_zero]
            repeat (refine Reg.chain_plain rfl rfl ?_ ?_ ?_; rotate_left; (focus (intro w2 hI _; go_simp; rfl)))
            simp only [Act.put, List.setIfInBounds_toArray, List.set_cons_succ, List.set_cons_zero]
            refine Reg.chain_eff rfl rfl (fun v w1 w2 hs ⟨A, c, e, hn⟩ => ⟨A, c, e, (hn.below hs).more hs.size⟩) (fun w1 hI _ K hK => ?_) (fun v => ?_)
            · go_simp
              refine (all_any w1 _ _ _ _ (bag_below hbagx hI) hol2 (Nat.le_trans hWx.size hI.size)).mono ?_
              rintro e w2 ⟨v2, rfl, hw2, ho2⟩
              obtain ⟨A2, c2, rfl⟩ := own_form ho2
              exact hK _ _ _ (by go_simp) ⟨A2, c2, rfl, reads_own ho2⟩ (hI.trans (hw2.mono hI.size)) hw2
            repeat (refine Reg.chain_plain rfl rfl ?_ ?_ ?_; rotate_left; (focus (intro w2 hI _; go_simp; rfl)))
            simp only [Act.put, List.setIfInBounds_toArray, List.set_cons_succ, List.set_cons_zero]
            refine Reg.chain_end (fun w1 hI hF => ?_)
            obtain ⟨A2, c2, rfl, hr2⟩ := hF _ (List.mem_singleton.2 rfl)
            clear hF
            simp only [List.drop_succ_cons, List.drop_zero]
            have hr3 := reads_take (hrx.below hI) (k := min m 16) (by omega)
            rw [← List.map_take, show min m 16 = 16 by omega] at hr3
            have hlL : l.length = (ss.take 16).length := by rw [HOL.out, List.length_take]; omega
            have hmL : (ss.take 16).length = 16 := by rw [List.length_take]; omega
            have hot := HOT.out
            rw [show min m 16 = 16 by omega] at hot
            rw [hot, hlL] at hr2
            rw [hlL]
            have HML := Lib.hid hmL
            clear hlL hot hmL
            generalize hL : ss.take 16 = L at *
            go_wp2_with fail
            have hr3' : Reads w1 w1.heap.size 1 A L.length (strs L) := (by rw [HML.out]; exact hr3.more hI.size)
            have hcall := same_any w1 w1.heap.size A2 A c2 c L L (by rw [HML.out]; unfold maxLen; omega) (by rw [HML.out]; unfold maxLen; omega) hr2 hr3'
            rw [HML.out] at hcall ⊢
            refine hcall.mono ?_
            rintro e w2 ⟨he, q, rfl⟩
            obtain rfl : e = .returned (.bool true) := by rw [he]; simp
            go_wp2
            go_ret
            exact ⟨rfl, below_drewN (hWx.trans (hI.mono hWx.size)) q⟩

end Go.Proofs.Ytmaljobfboboeaa.bagOwn
