/- Package wire: the teller: 'great', 'list'. -/
import Derived.Test.YtgacphicgglogaaWireE
namespace Go.Proofs.Ytgacphicgglogaa
open Go.RowKit Crc
set_option linter.unusedVariables false

def intV (l : List Int) : List Value := l.map (Value.int .i64)
theorem intV_len (l : List Int) : (intV l).length = l.length := by simp [intV]
theorem intV_at (l : List Int) (i : Nat) (h : i < l.length) : (intV l)[i]? = some (.int .i64 l[i]) := by simp [intV, h]
def listOk (l : List Int) : Prop := l.length ≤ 48 ∧ ∀ x ∈ l, 0 ≤ x ∧ x ≤ 63
instance (l : List Int) : Decidable (listOk l) := by unfold listOk; infer_instance
def smallB (n : Int) : UInt8 := UInt8.ofNat n.toNat
def listB (l : List Int) : List UInt8 := smallB (l.length : Int) :: l.map smallB
theorem listB_len (l : List Int) : (listB l).length = l.length + 1 := by simp [listB]

section
variable {w w' : World} {B p : Nat} {out : List UInt8} {G : Nat → Prop}

set_option maxHeartbeats 1000000 in
set_option maxRecDepth 100000 in
theorem great_any (h : TellG w B p out G) (hB : B ≤ w.heap.size) (n : Nat) (hn : n < 18446744073709551616) (ho : out.length ≤ 100000) :
    Calls Try.prog 80 #[.pointer (some ⟨p, 0, none⟩), .int .u64 (n : Int)] w fun e w' => e = .returned (.tuple #[]) ∧ TellG w' B p (out ++ le8 n) G ∧ Below B w w' ∧ KeepG G w w' := by
  obtain ⟨i0, hi0, hx0, hx1, hx2⟩ := info_parts byte_info
  obtain ⟨v, g1, g2, g3⟩ := h
  have hrow := g1.rows ⟨5, v, byteVals out⟩ (List.mem_singleton.2 rfl)
  dsimp only at hrow
  rw [byteVals_len] at hrow
  obtain ⟨A, c, rfl⟩ := own_form hrow
  have hc0 := g1.cell 0
  change _ = some (Value.slice A out.length c) at hc0
  have hpl := g1.blk.lt
  have HG1 := Lib.hid g1
  have HG2 := Lib.hid g2
  have HG3 := Lib.hid g3
  clear g1 g2 g3
  obtain ⟨m, hm⟩ : ∃ m, out.length = m := ⟨_, rfl⟩
  rw [hm] at hc0 hrow ho
  have HM := Lib.hid hm
  clear hm
  go_enter Try.func80, Try.ntmps80
  refine Reg.wp_chain 7 [(6, fun v w' => v = .string ⟨(le8 n).toArray⟩)] (fun w' => Below w.heap.size w w') (fun wa wb => True) (by kernel_rfl) (by kernel_rfl) (by kernel_rfl) (by kernel_rfl) (fun _ _ d _ _ h => by cases d <;> exact h) (Below.refl _ _).drew ?_
  simp only [List.take_succ_cons, List.take_zero]
  repeat (refine Reg.chain_plain rfl rfl ?_ ?_ ?_; rotate_left; (focus (intro w3 hI _; obtain ⟨hkk, _⟩ := bcell hI; go_simp; rfl)))
  simp only [Act.put, List.setIfInBounds_toArray, List.set_cons_succ, List.set_cons_zero]
  refine Reg.chain_eff rfl rfl (fun v wa wb hs ho => ho) (fun w3 hI _ K hK => ?_) (fun v => ?_)
  · go_simp
    refine (eight_any n w3 hn).mono ?_
    rintro e w4 ⟨rfl, hb4⟩
    exact hK _ _ _ (by go_simp) rfl (hI.trans (hb4.mono hI.size)) trivial
  refine Reg.chain_end (fun w3 hI hF => ?_)
  have hv := hF _ (List.mem_singleton.2 rfl)
  dsimp only at hv
  subst hv
  clear hF
  simp only [List.drop_succ_cons, List.drop_zero]
  have hrow3 := ownsRow_below hrow hI
  have hs8 : (⟨(le8 n).toArray⟩ : ByteArray).size = 8 := by show (le8 n).toArray.size = 8; rw [List.size_toArray, le8_len]
  have g13 := ObjAt.below HG1.out hI
  go_wp2_with (at_builtin; refine wpList_append_str _ rfl _ _ 75 9 rfl B 5 i0 Try.underlying75 Try.underlying9 hi0 hx0 hx1 hx2 _ _ _ rfl hrow3 ⟨(le8 n).toArray⟩ rfl ?c3 ?c4 ?c5 ?_)
  case c3 => rw [hs8]; unfold maxLen; omega
  case c4 => rw [hs8]; omega
  case c5 => exact Nat.le_trans hB hI.size
  intro v' w2 hown2 hg2 hbl
  have ht2 : Touch (fun k => (Value.slice A m c).ownBlock = some k) w3 w2 := Touch.of_grown hg2 (fun k hk => hk)
  have hbl2 : ∀ k, v'.ownBlock = some k → (Value.slice A m c).ownBlock = some k ∨ w3.heap.size ≤ k := fun k hk => by
    rcases hbl with h | h
    · exact .inl (h ▸ hk)
    · rw [h] at hk
      injection hk with hk
      exact .inr (by omega)
  have hg33 : ∀ k, G k → k < w3.heap.size := fun k hk => Nat.lt_of_lt_of_le (HG3.out k hk) hI.size
  have hfin := TellAt.grown g13 (Nat.le_trans hB hI.size) HG2.out hg33 v' (le8 n) (by rw [HM.out, le8_len]; rw [byteVals_str] at hown2; exact hown2) (by rw [HM.out]; exact ht2) (by rw [HM.out]; exact hbl2)
  obtain ⟨q1, q2, q3, q4, q5⟩ := hfin
  rw [HM.out] at q4
  have HQ := Lib.hid (show TellG _ B p (out ++ le8 n) G ∧ Below B w _ ∧ KeepG G w _ from ⟨q1, (hI.mono hB).trans q2, fun k hk => (q3 k hk).trans (hI.block k (HG3.out k hk))⟩)
  obtain ⟨A', c', rfl⟩ := own_form hown2
  clear q1 q2 q3 hown2 hg2 hbl ht2 hbl2 hc0 g13 hrow3 hI
  go_wp2
  go_end0
  exact ⟨rfl, HQ.out⟩

set_option maxHeartbeats 2000000 in
set_option maxRecDepth 100000 in
theorem list_any (h : TellG w B p out G) (hB : B ≤ w.heap.size) (A : Option Addr) (n c : Nat) (l : List Int) (hl : l.length = n) (hr : Reads w B 1 A n (intV l)) (hn : n ≤ 9223372036854775807) (ho : out.length ≤ 90000) :
    Calls Try.prog 81 #[.pointer (some ⟨p, 0, none⟩), .slice A n c] w fun e w' => if listOk l then e = .returned (.tuple #[]) ∧ TellG w' B p (out ++ listB l) G ∧ Below B w w' ∧ KeepG G w w' else e = .panicked stops ∧ Below B w w' ∧ KeepG G w w' := by
  obtain ⟨R, hR⟩ : ∃ R : Ending → World → Prop, R = fun e w' => if listOk l then e = .returned (.tuple #[]) ∧ TellG w' B p (out ++ listB l) G ∧ Below B w w' ∧ KeepG G w w' else e = .panicked stops ∧ Below B w w' ∧ KeepG G w w' := ⟨_, rfl⟩
  rw [← hR]
  have HR := Lib.hid hR
  clear hR
  go_enter Try.func81, Try.ntmps81
  by_cases h48 : n ≤ 48
  case neg =>
    have hbad := small_bad w p (n : Int) 48 (fun h => h48 (by omega))
    have HB := Lib.hid hbad
    clear hbad
    go_wp2_with fail
    refine HB.out.mono ?_
    rintro e w1 ⟨rfl, rfl⟩
    refine ⟨rfl, ?_⟩
    rw [HR.out]
    dsimp only
    rw [if_neg (fun h => h48 (by have := h.1; omega))]
    exact ⟨rfl, Below.refl _ _, fun _ _ => rfl⟩
  have hsm := small_ok h hB (n : Int) 48 (by omega) (by omega) (by omega) (by omega)
  have HB := Lib.hid hsm
  clear hsm
  go_wp2_with fail
  refine HB.out.mono ?_
  rintro e w1 ⟨rfl, ht1, hb1, hk1⟩
  clear HB
  go_wp2_with fail
  have hnb : (n : Int) < 100 := by omega
  go_loopw [12] (fun v wr => ∃ k : Nat, k ≤ n ∧ v = .int .i64 (k : Int) ∧ TellG wr B p (out ++ (smallB (n : Int) :: (l.take k).map smallB)) G ∧ Below B w wr ∧ KeepG G w wr ∧ ∀ x ∈ l.take k, 0 ≤ x ∧ x ≤ 63) (fun v _ => n - (intOf v).toNat)
  case atStart => exact ⟨0, Nat.zero_le _, rfl, ht1, hb1, hk1, fun x hx => by simp at hx⟩
  case round =>
    obtain ⟨k, hk, rfl, htk, hbk, hkk, hall⟩ := hrel
    clear ht1 hb1 hk1
    have hBr : B ≤ wr.heap.size := Nat.le_trans hB hbk.size
    by_cases hkn : k < n
    · have hkz : (k : Int) < (n : Int) := by omega
      obtain ⟨ad, u, rfl, _, hu, hcell⟩ := (hr.below hbk).at_ hkn
      rw [intV_at l k (by omega)] at hu
      injection hu with hu
      subst hu
      have hkl : k < l.length := by omega
      obtain ⟨x, hx⟩ : ∃ x, l[k] = x := ⟨_, rfl⟩
      have htake : l.take (k + 1) = l.take k ++ [x] := by rw [List.take_succ_eq_append_getElem hkl, hx]
      rw [hx] at hcell
      by_cases hxo : 0 ≤ x ∧ x ≤ 63
      · have hsm := small_ok htk hBr x 63 hxo.1 hxo.2 (by omega) (by rw [List.length_append, List.length_cons, List.length_map, List.length_take]; omega)
        have HB := Lib.hid hsm
        have HT := Lib.hid htake
        have HX := Lib.hid hxo
        have HALL := Lib.hid hall
        clear hsm htake hxo hx hall htk
        go_wp2_with fail
        refine HB.out.mono ?_
        rintro e w2 ⟨rfl, ht2, hb2, hk2⟩
        have HT2 := Lib.hid (show TellG w2 B p (out ++ (smallB (n : Int) :: (l.take (k + 1)).map smallB)) G by
          rw [HT.out, List.map_append]
          rw [List.append_assoc] at ht2
          exact ht2)
        have HB2 := Lib.hid (hbk.trans hb2)
        have HK2 := Lib.hid (hkk.trans hk2)
        clear ht2 hb2 hk2 HB hbk hkk
        go_wp2
        go_roundw
        case rel => exact ⟨k + 1, by omega, by go_num, HT2.out, HB2.out, HK2.out, fun y hy => by
          rw [HT.out] at hy
          rcases List.mem_append.1 hy with hy | hy
          · exact HALL.out y hy
          · rw [List.mem_singleton.1 hy]; exact HX.out⟩
        case measure => simp [intOf]; omega
      · have hbad := small_bad wr p x 63 hxo
        have HB := Lib.hid hbad
        have hnot : ¬ listOk l := fun h => hxo (h.2 x (by rw [← hx]; exact List.getElem_mem hkl))
        have HN := Lib.hid hnot
        clear hbad hxo hx htake hnot
        go_wp2_with fail
        refine HB.out.mono ?_
        rintro e w2 ⟨rfl, rfl⟩
        refine ⟨rfl, ?_⟩
        rw [HR.out]
        dsimp only
        rw [if_neg HN.out]
        exact ⟨rfl, hbk, hkk⟩
    · obtain rfl : k = n := by omega
      have hkz : ¬ (k : Int) < (k : Int) := by omega
      have HN := Lib.hid (show listOk l from ⟨by omega, by rw [List.take_of_length_le (by omega)] at hall; exact hall⟩)
      have HTK := Lib.hid htk
      clear hall htk
      go_wp2
      go_end0
      rw [HR.out]
      dsimp only
      rw [if_pos HN.out]
      refine ⟨rfl, ?_, hbk, hkk⟩
      have := HTK.out
      rw [List.take_of_length_le (by omega)] at this
      unfold listB
      rw [hl]
      exact this
end
end Go.Proofs.Ytgacphicgglogaa
