/- A link's end: 'Get'; the example. -/
import Derived.Test.YtgacphicgglogaaLinkE
namespace Go.Proofs.Ytgacphicgglogaa
open Go.RowKit Crc
set_option linter.unusedVariables false

theorem own_more {w : World} {B B' e size n : Nat} {v : Value} {xs : List Value} (h : w.ownsRow B e size v n xs) (hB : B' ≤ B) : w.ownsRow B' e size v n xs := by
  refine ⟨h.1, ?_⟩
  rcases h.2 with h1 | ⟨g, cap, cur, h1, h2, h3⟩
  · exact .inl h1
  · exact .inr ⟨g, cap, cur, h1, Nat.le_trans hB h2, h3⟩

theorem unpackRes_spec (s : ByteArray) : (unpackRes s).2.1 < 18446744073709551616 ∧ (unpackRes s).2.2.1.size ≤ 800 ∧ ((unpackRes s).2.2.2 = 0 → (unpackRes s).1 = 1 ∨ (unpackRes s).1 = 2) := by
  unfold unpackRes
  split
  · exact ⟨by show (0 : Nat) < _; decide, by show ByteArray.empty.size ≤ 800; decide, fun h => by rename_i h1; exact absurd h h1⟩
  · unfold unpackT
    split
    · exact ⟨by decide, by decide, fun h => by simp at h⟩
    · split
      · exact ⟨by decide, by decide, fun h => by simp at h⟩
      · rename_i h1 h2
        refine ⟨?_, ?_, fun _ => ?_⟩
        · have h3 := numL_lt ((openRes s).1.extract 1 9).data.toList
          have h4 : ((openRes s).1.extract 1 9).data.toList.length ≤ 8 := by
            rw [extract_data', List.length_take]; omega
          exact Nat.lt_of_lt_of_le h3 (Nat.pow_le_pow_right (n := 256) (by omega) h4)
        · show ((openRes s).1.extract 9 _).size ≤ 800
          rw [ByteArray.size_extract]; omega
        · show (first (openRes s).1 : Int) = 1 ∨ (first (openRes s).1 : Int) = 2
          omega

theorem reads_drop {w : World} {X n c k : Nat} {A : Option Addr} {l : List ByteArray} (h : Reads w X 1 A n (strs l)) (hk : k ≤ n) (hc : n ≤ c) : Reads w X 1 (if c = k then A else A.map (·.add k)) (n - k) (strs (l.drop k)) := by
  have := h.cut (cap := c) hk hc
  rw [Nat.mul_one] at this
  unfold strs at this ⊢
  rw [← List.map_drop] at this
  exact this

theorem own_cap {w : World} {B e n c : Nat} {A : Option Addr} {xs : List Value} (h : w.ownsRow B e 1 (.slice A n c) n xs) : n ≤ c ∧ c ≤ maxLen ∧ (A = none → n = 0 ∧ c = 0) := by
  rcases h.2 with ⟨hv, h0⟩ | ⟨g, cap, cur, hv, _, _, h1, h2, _⟩
  · injection hv with e1 e2 e3
    subst e1 e3
    exact ⟨by omega, by unfold maxLen; omega, fun _ => ⟨h0, rfl⟩⟩
  · injection hv with e1 e2 e3
    subst e1 e3
    exact ⟨h1, h2, fun h => by cases h⟩

set_option maxHeartbeats 2000000 in
set_option maxRecDepth 100000 in
theorem get_any (w : World) (B p : Nat) (vL vG : Value) (l : LK) (h : LinkAt w B p vL vG l) (hB : B ≤ w.heap.size) (ok : l.Ok) (hl : l.last ≤ 1099511627776) (htk : l.taken < 1099511627776) (s : ByteArray) (hs : s.size ≤ 140737488351232) :
    Calls Try.prog 22 #[.pointer (some ⟨p, 0, none⟩), .string s] w fun e w' => e = .returned (.int .i64 (l.get s).2) ∧ LinkEnd w B p vL vG (l.get s).1 w' := by
  obtain ⟨hun, hus, hue⟩ := unpackRes_spec s
  have HG := Lib.hid (show l.get s = if (unpackRes s).2.2.2 ≠ 0 then (l, (unpackRes s).2.2.2) else if (unpackRes s).1 = 1 then (l.arrived (unpackRes s).2.1 (unpackRes s).2.2.1, 0) else if l.out < (unpackRes s).2.1 then (l, 5) else if l.told < (unpackRes s).2.1 then (({ l with loads := l.loads.drop ((unpackRes s).2.1 - l.told), told := (unpackRes s).2.1 } : LK).on, 0) else (l, 0) from rfl)
  go_enter Try.func22, Try.ntmps22
  go_wp2_with fail
  refine (unpack_any s w hs).mono ?_
  rintro e w1 ⟨rfl, hb1⟩
  obtain ⟨k, hk⟩ : ∃ k, (unpackRes s).1 = k := ⟨_, rfl⟩
  obtain ⟨n, hn⟩ : ∃ n, (unpackRes s).2.1 = n := ⟨_, rfl⟩
  obtain ⟨x, hx⟩ : ∃ x, (unpackRes s).2.2.1 = x := ⟨_, rfl⟩
  obtain ⟨er, her⟩ : ∃ er, (unpackRes s).2.2.2 = er := ⟨_, rfl⟩
  rw [hk, hn, hx, her] at HG ⊢
  rw [hn] at hun
  rw [hx] at hus
  rw [hk, her] at hue
  clear hk hn hx her
  have h1 := h.below hb1
  have hB1 : B ≤ w1.heap.size := Nat.le_trans hB hb1.size
  have ht1 : Touch (Foot p vL vG) w w1 := Touch.of_below hb1
  have HE1 := Lib.hid (show LinkEnd w B p vL vG l w1 from ⟨vL, vG, h1, ht1, fun k hk => .inl hk⟩)
  obtain ⟨hc0, hc1, hc2, hc3, hc4, hc5, hc22⟩ := h1.cells
  clear hc0 hc3 hc4 hc22
  by_cases he : er = 0
  case neg =>
    have HR := Lib.hid (show l.get s = (l, er) by rw [HG.out, if_pos he])
    have heb : (er != 0) = true := bne_iff_ne.2 he
    clear he hue
    go_wp2
    go_ret
    exact ⟨by rw [HR.out]; rfl, by rw [HR.out]; exact HE1.out⟩
  subst he
  have hk12 := hue rfl
  clear hue
  by_cases hk1 : k = 1
  · subst hk1
    have HR := Lib.hid (show l.get s = (l.arrived n x, 0) by rw [HG.out, if_neg (fun h => h rfl), if_pos rfl])
    have hcon := arrived_any w1 B p vL vG l h1 hB1 ok htk n hun x
    have HC := Lib.hid hcon
    clear hcon hk12
    go_wp2_with fail
    refine HC.out.mono ?_
    rintro e w4 ⟨rfl, he⟩
    have HE := Lib.hid (LinkEnd.next ht1 (fun k hk => .inl hk) he)
    clear he
    go_wp2
    go_ret
    exact ⟨by rw [HR.out]; rfl, by rw [HR.out]; exact HE.out⟩
  obtain rfl : k = 2 := by omega
  clear hk12 hk1
  by_cases hno : l.out < n
  · have HR := Lib.hid (show l.get s = (l, 5) by rw [HG.out, if_neg (fun h => h rfl), if_neg (by decide), if_pos hno])
    have hz : (l.out : Int) < (n : Int) := by omega
    clear hno
    go_wp2
    go_ret
    exact ⟨by rw [HR.out]; rfl, by rw [HR.out]; exact HE1.out⟩
  have hz : ¬ (l.out : Int) < (n : Int) := by omega
  by_cases hnt : l.told < n
  case neg =>
    have HR := Lib.hid (show l.get s = (l, 0) by rw [HG.out, if_neg (fun h => h rfl), if_neg (by decide), if_neg hno, if_neg hnt])
    have hz2 : ¬ (l.told : Int) < (n : Int) := by omega
    clear hno hnt
    go_wp2
    go_ret
    exact ⟨by rw [HR.out]; rfl, by rw [HR.out]; exact HE1.out⟩
  have HR := Lib.hid (show l.get s = (({ l with loads := l.loads.drop (n - l.told), told := n } : LK).on, 0) by rw [HG.out, if_neg (fun h => h rfl), if_neg (by decide), if_neg hno, if_pos hnt])
  have hz2 : (l.told : Int) < (n : Int) := by omega
  have hok2 := LK.tell_ok ok n (by omega) hnt
  have hlds := ok.loads
  have hto := ok.told
  have hol := ok.out
  have hrm := ok.room
  obtain ⟨A, c, rfl⟩ := own_form h1.loads
  obtain ⟨hnc, hcm, hAn⟩ := own_cap h1.loads
  have hr1 := Reads.of_own h1.loads
  have hrd := reads_drop (k := n - l.told) hr1 (by omega) hnc
  have hw1 : IntKind.u64.wrap ((n : Int) - (l.told : Int)) = ((n - l.told : Nat) : Int) := by rw [IntWalk.u64_in _ (by omega)]; omega
  obtain ⟨m, hm⟩ : ∃ m, l.loads.length = m := ⟨_, rfl⟩
  have hm64 : m ≤ 64 := by omega
  have hdm : n - l.told ≤ m := by omega
  have hd1 : 1 ≤ n - l.told := by omega
  obtain ⟨dd, hdd⟩ : ∃ dd, n - l.told = dd := ⟨_, rfl⟩
  rw [hm] at hc5 hnc hAn hrd
  rw [hdd] at hw1 hrd hdm hd1
  have hapart := h1.apart
  have hpl := h1.blk.lt
  have hG1 := h1.goes
  rw [hm] at hapart
  have hmc : m ≤ 9223372036854775807 := by omega
  unfold maxLen at hcm
  have hddz : (dd : Int) ≤ (m : Int) := by omega
  have hdd0 : (0 : Int) ≤ (dd : Int) := by omega
  have HM := Lib.hid hm
  have HDD := Lib.hid hdd
  have HRD := Lib.hid hrd
  have hrA := hr1.2 (by omega)
  clear hno hnt hlds hto hol hrm hm hdd hr1 hrd
  obtain ⟨ad, rfl, _, _⟩ := hrA
  by_cases hcd : c = dd
  · have hrd2 := HRD.out
    rw [if_pos hcd, show m - dd = 0 by omega] at hrd2
    have HRD2 := Lib.hid hrd2
    clear hrd2 HRD
    have hcd' := hcd.symm
    subst hcd'
    go_wp2
    refine Reg.wp_chain 15 [(12, fun v w' => w'.ownsRow w1.heap.size 9 1 v 0 (strs (l.loads.drop dd)))] (fun w' => Below w1.heap.size w1 w') (fun wa wb => Below wa.heap.size wa wb) (by kernel_rfl) (by kernel_rfl) (by kernel_rfl) (by kernel_rfl) (fun _ _ d _ _ h => by cases d <;> exact h) (Below.refl _ _).drew ?_
    simp only [List.take_succ_cons, List.take_zero]
    repeat (refine Reg.chain_plain rfl rfl ?_ ?_ ?_; rotate_left; (focus (intro w3 hI _; obtain ⟨hkk, _⟩ := bcell hI; go_simp; rfl)))
    simp only [Act.put, List.setIfInBounds_toArray, List.set_cons_succ, List.set_cons_zero]
    refine Reg.chain_eff rfl rfl (fun v wa wb hs ho => ownsRow_below ho hs) (fun w3 hI _ K hK => ?_) (fun v => ?_)
    · go_simp
      refine (clone_any w3 _ 0 _ (l.loads.drop dd) (by rw [List.length_drop, HM.out]; omega) ((HRD2.out.below hI).more hI.size) (fun h => by cases h) (by omega)).mono ?_
      rintro e w4 ⟨v, rfl, hb4, ho4⟩
      exact hK v _ _ (by go_simp) (own_more ho4 hI.size) (hI.trans (hb4.mono hI.size)) hb4
    repeat (refine Reg.chain_plain rfl rfl ?_ ?_ ?_; rotate_left; (focus (intro w3 hI _; obtain ⟨hkk, _⟩ := bcell hI; go_simp; rfl)))
    simp only [Act.put, List.setIfInBounds_toArray, List.set_cons_succ, List.set_cons_zero]
    refine Reg.chain_end (fun w3 hI hF => ?_)
    have ho3 := hF _ (List.mem_singleton.2 rfl)
    dsimp only at ho3
    clear hF
    simp only [List.drop_succ_cons, List.drop_zero]
    have h3 := h1.below hI
    have hc3 := h3.cells.2.2.2.2.2.1
    have hf5 := h3.frozen 5
    have hoB := own_more ho3 hB1
    have hlen : (l.loads.drop dd).length = 0 := by rw [List.length_drop, HM.out]; omega
    have hap3 : ∀ k, v.ownBlock = some k → vG.ownBlock ≠ some k := fun k hk e => by
      have g1 := (ho3.lt k hk).1
      have g2 := (hG1.lt k e).2
      omega
    have h4 := LinkAt.setL (l := l) (l.loads.drop dd) h.base h3.blk h3.goes (by rw [hlen]; exact hoB) hap3 ok.slots
    have h5 := h4.set_ 1 (.int .u64 (n : Int)) { l with loads := l.loads.drop dd, told := n } rfl rfl rfl ok.slots
    have hc41 := h4.cells.2.1
    have hf41 := h4.frozen 1
    have hok3 : ({ l with loads := l.loads.drop dd, told := n } : LK).Ok := by rw [← HDD.out]; exact hok2
    have hcon := on_any _ B p v vG _ h5 (by rw [World.size_setCell, World.size_setCell]; exact Nat.le_trans hB1 hI.size) hok3 hl
    have HC := Lib.hid hcon
    have HT := Lib.hid (show Touch (Foot p (.slice (some ad) l.loads.length dd) vG) w ((w3.setCell ⟨p, 5, none⟩ v).setCell ⟨p, 1, none⟩ (.int .u64 (n : Int))) from
      ((ht1.trans (Touch.of_below (S := fun _ => False) hI) (fun k hk => hk.elim)).trans (Touch.of_set (S := fun k => k = p) _ _ rfl) (fun k hk => .inl (.inl hk))).trans (Touch.of_set (S := fun k => k = p) _ _ rfl) (fun k hk => .inl (.inl hk)))
    have HF := Lib.hid (show ∀ k, Foot p v vG k → Foot p (.slice (some ad) l.loads.length dd) vG k ∨ w.heap.size ≤ k from fun k hk => by
      rcases hk with hk | hk | hk
      · exact .inl (.inl hk)
      · exact .inr (Nat.le_trans hb1.size (ho3.lt k hk).1)
      · exact .inl (.inr (.inr hk)))
    obtain ⟨A', c', rfl⟩ := own_form ho3
    clear hcon h5 h4 hap3 hlen hoB ho3 h3 hok3
    go_wp2_with fail
    refine HC.out.mono ?_
    rintro e w4 ⟨rfl, he⟩
    have HE := Lib.hid (LinkEnd.next HT.out HF.out he)
    clear he
    go_wp2
    go_ret
    exact ⟨by rw [HR.out]; rfl, by rw [HR.out, HDD.out]; exact HE.out⟩
  · have hrd2 := HRD.out
    rw [if_neg hcd, Option.map_some] at hrd2
    have HRD := Lib.hid hrd2
    have hcdb : ¬ (c - dd = 0) := by omega
    clear hrd2
    go_wp2
    refine Reg.wp_chain 15 [(12, fun v w' => w'.ownsRow w1.heap.size 9 1 v (m - dd) (strs (l.loads.drop dd)))] (fun w' => Below w1.heap.size w1 w') (fun wa wb => Below wa.heap.size wa wb) (by kernel_rfl) (by kernel_rfl) (by kernel_rfl) (by kernel_rfl) (fun _ _ d _ _ h => by cases d <;> exact h) (Below.refl _ _).drew ?_
    simp only [List.take_succ_cons, List.take_zero]
    repeat (refine Reg.chain_plain rfl rfl ?_ ?_ ?_; rotate_left; (focus (intro w3 hI _; obtain ⟨hkk, _⟩ := bcell hI; go_simp; rfl)))
    simp only [Act.put, List.setIfInBounds_toArray, List.set_cons_succ, List.set_cons_zero]
    refine Reg.chain_eff rfl rfl (fun v wa wb hs ho => ownsRow_below ho hs) (fun w3 hI _ K hK => ?_) (fun v => ?_)
    · go_simp
      refine (clone_any w3 _ (m - dd) _ (l.loads.drop dd) (by rw [List.length_drop, HM.out]) ((HRD.out.below hI).more hI.size) (fun h => by cases h) (by omega)).mono ?_
      rintro e w4 ⟨v, rfl, hb4, ho4⟩
      exact hK v _ _ (by go_simp) (own_more ho4 hI.size) (hI.trans (hb4.mono hI.size)) hb4
    repeat (refine Reg.chain_plain rfl rfl ?_ ?_ ?_; rotate_left; (focus (intro w3 hI _; obtain ⟨hkk, _⟩ := bcell hI; go_simp; rfl)))
    simp only [Act.put, List.setIfInBounds_toArray, List.set_cons_succ, List.set_cons_zero]
    refine Reg.chain_end (fun w3 hI hF => ?_)
    have ho3 := hF _ (List.mem_singleton.2 rfl)
    dsimp only at ho3
    clear hF
    simp only [List.drop_succ_cons, List.drop_zero]
    have h3 := h1.below hI
    have hc3 := h3.cells.2.2.2.2.2.1
    have hf5 := h3.frozen 5
    have hoB := own_more ho3 hB1
    have hlen : (l.loads.drop dd).length = m - dd := by rw [List.length_drop, HM.out]
    have hap3 : ∀ k, v.ownBlock = some k → vG.ownBlock ≠ some k := fun k hk e => by
      have g1 := (ho3.lt k hk).1
      have g2 := (hG1.lt k e).2
      omega
    have h4 := LinkAt.setL (l := l) (l.loads.drop dd) h.base h3.blk h3.goes (by rw [hlen]; exact hoB) hap3 ok.slots
    have h5 := h4.set_ 1 (.int .u64 (n : Int)) { l with loads := l.loads.drop dd, told := n } rfl rfl rfl ok.slots
    have hc41 := h4.cells.2.1
    have hf41 := h4.frozen 1
    have hok3 : ({ l with loads := l.loads.drop dd, told := n } : LK).Ok := by rw [← HDD.out]; exact hok2
    have hcon := on_any _ B p v vG _ h5 (by rw [World.size_setCell, World.size_setCell]; exact Nat.le_trans hB1 hI.size) hok3 hl
    have HC := Lib.hid hcon
    have HT := Lib.hid (show Touch (Foot p (.slice (some ad) l.loads.length c) vG) w ((w3.setCell ⟨p, 5, none⟩ v).setCell ⟨p, 1, none⟩ (.int .u64 (n : Int))) from
      ((ht1.trans (Touch.of_below (S := fun _ => False) hI) (fun k hk => hk.elim)).trans (Touch.of_set (S := fun k => k = p) _ _ rfl) (fun k hk => .inl (.inl hk))).trans (Touch.of_set (S := fun k => k = p) _ _ rfl) (fun k hk => .inl (.inl hk)))
    have HF := Lib.hid (show ∀ k, Foot p v vG k → Foot p (.slice (some ad) l.loads.length c) vG k ∨ w.heap.size ≤ k from fun k hk => by
      rcases hk with hk | hk | hk
      · exact .inl (.inl hk)
      · exact .inr (Nat.le_trans hb1.size (ho3.lt k hk).1)
      · exact .inl (.inr (.inr hk)))
    obtain ⟨A', c', rfl⟩ := own_form ho3
    clear hcon h5 h4 hap3 hlen hoB ho3 h3 hok3
    go_wp2_with fail
    refine HC.out.mono ?_
    rintro e w4 ⟨rfl, he⟩
    have HE := Lib.hid (LinkEnd.next HT.out HF.out he)
    clear he
    go_wp2
    go_ret
    exact ⟨by rw [HR.out]; rfl, by rw [HR.out, HDD.out]; exact HE.out⟩

end Go.Proofs.Ytgacphicgglogaa
