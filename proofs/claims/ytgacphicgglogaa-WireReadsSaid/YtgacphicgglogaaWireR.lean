/- Package wire: the plain law: what is told is read, what is read is told. -/
import Derived.Test.YtgacphicgglogaaWireN
namespace Go.Proofs.Ytgacphicgglogaa
open Go.RowKit Crc
set_option linter.unusedVariables false

def bs (l : List UInt8) : ByteArray := ⟨l.toArray⟩
theorem bs_list (l : List UInt8) : (bs l).data.toList = l := by simp [bs]
theorem bs_size (l : List UInt8) : (bs l).size = l.length := by simp [bs, ByteArray.size]
theorem bs_self (s : ByteArray) : s = bs s.data.toList := by
  cases s with
  | mk d => simp [bs]
theorem bs_ext {a b : ByteArray} (h : a.data.toList = b.data.toList) : a = b := by rw [bs_self a, bs_self b, h]
theorem bs_inj {x y : List UInt8} (h : bs x = bs y) : x = y := by rw [← bs_list x, h, bs_list]
theorem bs_take (x y : List UInt8) (n : Nat) (hn : x.length = n) : (bs (x ++ y)).extract 0 n = bs x := by
  refine bs_ext ?_
  rw [extract_data', bs_list, bs_list, List.drop_zero, Nat.sub_zero, ← hn, List.take_left']
  rfl
theorem bs_drop (x y : List UInt8) (n : Nat) (hn : x.length = n) : (bs (x ++ y)).extract n (bs (x ++ y)).size = bs y := by
  refine bs_ext ?_
  rw [extract_data', bs_list, bs_list, bs_size, List.length_append, ← hn, List.drop_left' rfl, List.take_of_length_le (by omega)]
theorem bs_cut (s : List UInt8) (n : Nat) (h : n ≤ s.length) : (bs s).extract 0 n = bs (s.take n) ∧ (bs s).extract n (bs s).size = bs (s.drop n) := by
  constructor
  · refine bs_ext ?_
    rw [extract_data', bs_list, bs_list, List.drop_zero, Nat.sub_zero]
  · refine bs_ext ?_
    rw [extract_data', bs_list, bs_list, bs_size, List.take_of_length_le (by rw [List.length_drop]; omega)]

theorem smallB_nat (n : Nat) (h : n < 256) : (smallB (n : Int)).toNat = n := by
  unfold smallB
  simp [UInt8.toNat_ofNat', Nat.mod_eq_of_lt h]
theorem smallB_of (b : UInt8) : smallB (b.toNat : Int) = b := by
  unfold smallB
  rw [Int.toNat_natCast]
  exact UInt8.ofNat_toNat
theorem smallR_app (n most : Nat) (u : List UInt8) (h : n ≤ most) (hm : most < 256) : smallR (bs (smallB (n : Int) :: u)) most = some (n, bs u) := by
  have hf : first (bs (smallB (n : Int) :: u)) = n := by
    unfold first
    rw [bs_list]
    exact smallB_nat n (by omega)
  unfold smallR
  rw [hf, if_neg (by rw [bs_size, List.length_cons]; omega), if_pos h]
  have := bs_drop [smallB (n : Int)] u 1 rfl
  rw [List.singleton_append] at this
  rw [this]
theorem smallR_inv {s : List UInt8} {most n : Nat} {t : ByteArray} (h : smallR (bs s) most = some (n, t)) : ∃ u, t = bs u ∧ s = smallB (n : Int) :: u ∧ n ≤ most := by
  unfold smallR at h
  split at h
  · cases h
  split at h
  · rename_i h0 hm
    injection h with h
    injection h with e1 e2
    cases s with
    | nil => exact absurd rfl h0
    | cons b u =>
      have hf : first (bs (b :: u)) = b.toNat := by unfold first; rw [bs_list]; rfl
      have hd := bs_drop [b] u 1 rfl
      rw [List.singleton_append] at hd
      rw [hd] at e2
      refine ⟨u, e2.symm, ?_, by omega⟩
      rw [← e1, hf, smallB_of]
  · cases h
theorem greatR_app (n : Nat) (u : List UInt8) (h : n < 18446744073709551616) : greatR (bs (le8 n ++ u)) = some (n, bs u) := by
  unfold greatR
  rw [if_pos (by rw [bs_size, List.length_append, le8_len]; omega), bs_take _ _ 8 (le8_len n), bs_drop _ _ 8 (le8_len n), bs_list, num_le8 h]
theorem greatR_inv {s : List UInt8} {n : Nat} {t : ByteArray} (h : greatR (bs s) = some (n, t)) : ∃ u, t = bs u ∧ s = le8 n ++ u ∧ n < 18446744073709551616 := by
  have hn := (greatR_lt h).1
  unfold greatR at h
  split at h
  · rename_i h8
    rw [bs_size] at h8
    injection h with h
    injection h with e1 e2
    obtain ⟨c1, c2⟩ := bs_cut s 8 h8
    rw [c2] at e2
    rw [c1, bs_list] at e1
    refine ⟨s.drop 8, e2.symm, ?_, hn⟩
    rw [← e1, le8_num _ (by rw [List.length_take]; omega), List.take_append_drop]
  · cases h
theorem bytesR_app (x : ByteArray) (u : List UInt8) : bytesR (bs (x.data.toList ++ u)) x.size = some (x, bs u) := by
  have hl : x.data.toList.length = x.size := by simp
  unfold bytesR
  rw [if_pos (by rw [bs_size, List.length_append, hl]; omega), bs_take _ _ _ hl, bs_drop _ _ _ hl, ← bs_self]
theorem bytesR_inv {s : List UInt8} {n : Nat} {x t : ByteArray} (h : bytesR (bs s) n = some (x, t)) : ∃ u, t = bs u ∧ s = x.data.toList ++ u ∧ x.size = n := by
  unfold bytesR at h
  split at h
  · rename_i hn
    rw [bs_size] at hn
    injection h with h
    injection h with e1 e2
    obtain ⟨c1, c2⟩ := bs_cut s n hn
    rw [c1] at e1
    rw [c2] at e2
    refine ⟨s.drop n, e2.symm, ?_, ?_⟩
    · rw [← e1, bs_list, List.take_append_drop]
    · rw [← e1, bs_size, List.length_take]; omega
  · cases h
theorem placesR_app : ∀ (l acc : List Int) (u : List UInt8), (∀ x ∈ l, 0 ≤ x ∧ x ≤ 63) → placesR l.length (bs (l.map smallB ++ u)) acc = some (acc ++ l, bs u)
  | [], acc, u, _ => by simp [placesR]
  | x :: l, acc, u, h => by
    have hx := h x (by simp)
    obtain ⟨k, rfl⟩ := Int.eq_ofNat_of_zero_le hx.1
    rw [List.length_cons, List.map_cons, List.cons_append, placesR, smallR_app k 63 _ (by omega) (by omega)]
    simp only
    rw [placesR_app l _ u (fun y hy => h y (by simp [hy])), List.append_assoc]
    rfl
theorem placesR_inv : ∀ (n : Nat) (s : List UInt8) (acc l : List Int) (t : ByteArray), placesR n (bs s) acc = some (l, t) → ∃ l' u, l = acc ++ l' ∧ t = bs u ∧ l'.length = n ∧ (∀ x ∈ l', 0 ≤ x ∧ x ≤ 63) ∧ s = l'.map smallB ++ u
  | 0, s, acc, l, t, h => by
    rw [placesR] at h
    injection h with h
    injection h with e1 e2
    exact ⟨[], s, by simp [e1], e2.symm, rfl, (fun x hx => by cases hx), rfl⟩
  | n + 1, s, acc, l, t, h => by
    rw [placesR] at h
    split at h
    · cases h
    · rename_i x t' hs
      obtain ⟨u, rfl, rfl, hx⟩ := smallR_inv hs
      obtain ⟨l', u', rfl, ht, hl, ha, rfl⟩ := placesR_inv n u _ _ _ h
      refine ⟨(x : Int) :: l', u', by simp, ht, by simp [hl], fun y hy => ?_, rfl⟩
      rcases List.mem_cons.1 hy with rfl | hy
      · omega
      · exact ha y hy
theorem listR_app (l : List Int) (u : List UInt8) (h : listOk l) : listR (bs (listB l ++ u)) = some (l, bs u) := by
  unfold listR listB
  rw [List.cons_append, smallR_app l.length 48 _ h.1 (by omega)]
  exact placesR_app l [] u h.2
theorem listR_inv {s : List UInt8} {l : List Int} {t : ByteArray} (h : listR (bs s) = some (l, t)) : ∃ u, t = bs u ∧ s = listB l ++ u ∧ listOk l := by
  unfold listR at h
  split at h
  · cases h
  · rename_i n t' hs
    obtain ⟨u, rfl, rfl, hn⟩ := smallR_inv hs
    obtain ⟨l', u', rfl, rfl, hl, ha, rfl⟩ := placesR_inv n u _ _ _ h
    refine ⟨u', rfl, ?_, by simpa [hl] using hn, by simpa using ha⟩
    unfold listB
    simp [hl]
theorem u64of_i64of (n : Nat) (h : n < 18446744073709551616) : u64of (i64of n) = n := by
  unfold u64of i64of
  split <;> omega
theorem i64of_in (n : Nat) (h : n < 18446744073709551616) : -9223372036854775808 ≤ i64of n ∧ i64of n ≤ 9223372036854775807 := by
  unfold i64of
  split <;> omega
theorem setR_app (x : SetL) (u : List UInt8) (h : setOk x) (hw : x.wf) : setR (bs (setB x ++ u)) = some (x, bs u) := by
  obtain ⟨var, kind, a, b⟩ := x
  obtain ⟨⟨h1, h2⟩, h3, h4⟩ := h
  obtain ⟨⟨w1, w2⟩, w3, w4⟩ := hw
  simp only at h1 h2 h3 h4 w1 w2 w3 w4
  obtain ⟨v, rfl⟩ := Int.eq_ofNat_of_zero_le h1
  obtain ⟨k, rfl⟩ := Int.eq_ofNat_of_zero_le (show 0 ≤ kind by omega)
  have hb : setB ⟨(v : Int), (k : Int), a, b⟩ ++ u = smallB (v : Int) :: smallB (k : Int) :: (le8 (u64of a) ++ (le8 (u64of b) ++ u)) := by simp [setB]
  unfold setR
  rw [hb, smallR_app v 63 _ (by omega) (by omega)]
  simp only [Option.bind_some]
  rw [smallR_app k 3 _ (by omega) (by omega)]
  simp only [Option.bind_some]
  rw [if_neg (by omega), greatR_app _ _ (u64of_lt a)]
  simp only [Option.bind_some]
  rw [greatR_app _ _ (u64of_lt b)]
  simp only [Option.bind_some]
  rw [i64of_u64of a w1 w2, i64of_u64of b w3 w4]
theorem setR_inv {s : List UInt8} {x : SetL} {t : ByteArray} (h : setR (bs s) = some (x, t)) : ∃ u, t = bs u ∧ s = setB x ++ u ∧ setOk x ∧ x.wf := by
  unfold setR at h
  replace h := Option.bind_eq_some_iff.1 h
  obtain ⟨⟨v, s1⟩, h1, h⟩ := h
  obtain ⟨u1, rfl, rfl, hv⟩ := smallR_inv h1
  replace h := Option.bind_eq_some_iff.1 h
  obtain ⟨⟨k, s2⟩, h2, h⟩ := h
  obtain ⟨u2, rfl, rfl, hk⟩ := smallR_inv h2
  simp only at h
  split at h
  · cases h
  rename_i hk0
  replace h := Option.bind_eq_some_iff.1 h
  obtain ⟨⟨a, s3⟩, h3, h⟩ := h
  obtain ⟨u3, rfl, rfl, ha⟩ := greatR_inv h3
  replace h := Option.bind_eq_some_iff.1 h
  obtain ⟨⟨b, s4⟩, h4, h⟩ := h
  obtain ⟨u4, rfl, rfl, hb⟩ := greatR_inv h4
  injection h with h
  injection h with e1 e2
  subst e1 e2
  refine ⟨u4, rfl, ?_, ⟨⟨by show (0 : Int) ≤ (v : Int); omega, by show (v : Int) ≤ 63; omega⟩, by show (1 : Int) ≤ (k : Int); omega, by show (k : Int) ≤ 3; omega⟩, i64of_in a ha, i64of_in b hb⟩
  simp [setB, u64of_i64of _ ha, u64of_i64of _ hb]
theorem setsR_app : ∀ (l acc : List SetL) (u : List UInt8), (∀ x ∈ l, setOk x) → (∀ x ∈ l, x.wf) → setsR l.length (bs (l.flatMap setB ++ u)) acc = some (acc ++ l, bs u)
  | [], acc, u, _, _ => by simp [setsR]
  | x :: l, acc, u, h, hw => by
    rw [List.length_cons, List.flatMap_cons, List.append_assoc, setsR, setR_app x _ (h x (by simp)) (hw x (by simp))]
    simp only [Option.bind_some]
    rw [setsR_app l _ u (fun y hy => h y (by simp [hy])) (fun y hy => hw y (by simp [hy])), List.append_assoc]
    rfl
theorem setsR_inv : ∀ (n : Nat) (s : List UInt8) (acc l : List SetL) (t : ByteArray), setsR n (bs s) acc = some (l, t) → ∃ l' u, l = acc ++ l' ∧ t = bs u ∧ l'.length = n ∧ (∀ x ∈ l', setOk x) ∧ (∀ x ∈ l', x.wf) ∧ s = l'.flatMap setB ++ u
  | 0, s, acc, l, t, h => by
    rw [setsR] at h
    injection h with h
    injection h with e1 e2
    exact ⟨[], s, by simp [e1], e2.symm, rfl, (fun x hx => by cases hx), (fun x hx => by cases hx), rfl⟩
  | n + 1, s, acc, l, t, h => by
    rw [setsR] at h
    replace h := Option.bind_eq_some_iff.1 h
    obtain ⟨⟨x, t'⟩, hs, h⟩ := h
    obtain ⟨u, rfl, rfl, hx, hw⟩ := setR_inv hs
    obtain ⟨l', u', rfl, ht, hl, ha, hb, rfl⟩ := setsR_inv n u _ _ _ h
    refine ⟨x :: l', u', by simp, ht, by simp [hl], fun y hy => ?_, fun y hy => ?_, by simp⟩
    · rcases List.mem_cons.1 hy with rfl | hy
      · exact hx
      · exact ha y hy
    · rcases List.mem_cons.1 hy with rfl | hy
      · exact hw
      · exact hb y hy
theorem pastR_app (x : PastL) (u : List UInt8) (h : pastOk x) : pastR (bs (pastB x ++ u)) = some (x, bs u) := by
  obtain ⟨st, l⟩ := x
  obtain ⟨⟨h1, h2⟩, h3⟩ := h
  simp only at h1 h2 h3
  obtain ⟨v, rfl⟩ := Int.eq_ofNat_of_zero_le h1
  unfold pastR pastB
  rw [List.cons_append, smallR_app v 63 _ (by omega) (by omega)]
  simp only [Option.bind_some]
  rw [listR_app l u h3]
  rfl
theorem pastR_inv {s : List UInt8} {x : PastL} {t : ByteArray} (h : pastR (bs s) = some (x, t)) : ∃ u, t = bs u ∧ s = pastB x ++ u ∧ pastOk x := by
  unfold pastR at h
  replace h := Option.bind_eq_some_iff.1 h
  obtain ⟨⟨v, s1⟩, h1, h⟩ := h
  obtain ⟨u1, rfl, rfl, hv⟩ := smallR_inv h1
  replace h := Option.bind_eq_some_iff.1 h
  obtain ⟨⟨l, s2⟩, h2, h⟩ := h
  obtain ⟨u2, rfl, rfl, hl⟩ := listR_inv h2
  injection h with h
  injection h with e1 e2
  subst e1 e2
  exact ⟨u2, rfl, rfl, ⟨by show (0 : Int) ≤ (v : Int); omega, by show (v : Int) ≤ 63; omega⟩, hl⟩
theorem pastsR_app : ∀ (l acc : List PastL) (u : List UInt8), (∀ x ∈ l, pastOk x) → pastsR l.length (bs (l.flatMap pastB ++ u)) acc = some (acc ++ l, bs u)
  | [], acc, u, _ => by simp [pastsR]
  | x :: l, acc, u, h => by
    rw [List.length_cons, List.flatMap_cons, List.append_assoc, pastsR, pastR_app x _ (h x (by simp))]
    simp only [Option.bind_some]
    rw [pastsR_app l _ u (fun y hy => h y (by simp [hy])), List.append_assoc]
    rfl
theorem pastsR_inv : ∀ (n : Nat) (s : List UInt8) (acc l : List PastL) (t : ByteArray), pastsR n (bs s) acc = some (l, t) → ∃ l' u, l = acc ++ l' ∧ t = bs u ∧ l'.length = n ∧ (∀ x ∈ l', pastOk x) ∧ s = l'.flatMap pastB ++ u
  | 0, s, acc, l, t, h => by
    rw [pastsR] at h
    injection h with h
    injection h with e1 e2
    exact ⟨[], s, by simp [e1], e2.symm, rfl, (fun x hx => by cases hx), rfl⟩
  | n + 1, s, acc, l, t, h => by
    rw [pastsR] at h
    replace h := Option.bind_eq_some_iff.1 h
    obtain ⟨⟨x, t'⟩, hs, h⟩ := h
    obtain ⟨u, rfl, rfl, hx⟩ := pastR_inv hs
    obtain ⟨l', u', rfl, ht, hl, ha, rfl⟩ := pastsR_inv n u _ _ _ h
    refine ⟨x :: l', u', by simp, ht, by simp [hl], fun y hy => ?_, by simp⟩
    rcases List.mem_cons.1 hy with rfl | hy
    · exact hx
    · exact ha y hy

/-- What is told, whatever stands behind it, is read up to the end. -/
theorem readR_app (m : MsgL) (u : List UInt8) (h : m.Ok) (hw : ∀ s ∈ m.sets, s.wf) (hst : m.step < 18446744073709551616) : readR (bs (msgB m ++ u)) = rdEnd m (bs u) := by
  obtain ⟨kind, step, event, trans, states, enter, vars, sets, pasts⟩ := m
  obtain ⟨h1, h2, h3, h4, h5, h6, h7, h8, h9, h10, h11⟩ := h
  simp only at h1 h2 h3 h4 h5 h6 h7 h8 h9 h10 h11 hst hw
  obtain ⟨k, rfl⟩ := Int.eq_ofNat_of_zero_le (show 0 ≤ kind by omega)
  have hb : msgB ⟨(k : Int), step, event, trans, states, enter, vars, sets, pasts⟩ ++ u = smallB (k : Int) :: (le8 step ++ (smallB (event.size : Int) :: (event.data.toList ++ (listB trans ++ (listB states ++ (listB enter ++ (listB vars ++ (smallB (sets.length : Int) :: (sets.flatMap setB ++ (smallB (pasts.length : Int) :: (pasts.flatMap pastB ++ u))))))))))) := by
    simp [msgB, msgHead, msgLists, List.append_assoc]
  unfold readR
  rw [hb, smallR_app k 9 _ (by omega) (by omega)]
  simp only [Option.bind_some]
  rw [if_neg (by omega)]
  unfold rdStep
  rw [greatR_app step _ hst]
  simp only [Option.bind_some]
  unfold rdEvent
  rw [smallR_app event.size 20 _ (by omega) (by omega)]
  simp only [Option.bind_some]
  rw [bytesR_app]
  simp only [Option.bind_some]
  unfold rdTrans
  rw [listR_app _ _ h4]
  simp only [Option.bind_some]
  unfold rdStates
  rw [listR_app _ _ h5]
  simp only [Option.bind_some]
  unfold rdEnter
  rw [listR_app _ _ h6]
  simp only [Option.bind_some]
  unfold rdVars
  rw [listR_app _ _ h7]
  simp only [Option.bind_some]
  unfold rdSets
  rw [smallR_app sets.length 8 _ (by omega) (by omega)]
  simp only [Option.bind_some]
  rw [setsR_app sets [] _ h9 hw]
  simp only [Option.bind_some]
  unfold rdPasts
  rw [smallR_app pasts.length 40 _ (by omega) (by omega)]
  simp only [Option.bind_some]
  rw [pastsR_app pasts [] _ h11]
  rfl
theorem readR_msgB (m : MsgL) (h : m.Ok) (hw : ∀ s ∈ m.sets, s.wf) (hst : m.step < 18446744073709551616) : readR (bs (msgB m)) = some m := by
  have := readR_app m [] h hw hst
  rw [List.append_nil] at this
  rw [this]
  rfl
/-- What is read is a right message, and was its bytes. -/
theorem readR_inv {s : List UInt8} {m : MsgL} (h : readR (bs s) = some m) : m.Ok ∧ (∀ s ∈ m.sets, s.wf) ∧ m.step < 18446744073709551616 ∧ s = msgB m := by
  unfold readR at h
  replace h := Option.bind_eq_some_iff.1 h
  obtain ⟨⟨k, s1⟩, h1, h⟩ := h
  obtain ⟨u1, rfl, rfl, hk⟩ := smallR_inv h1
  simp only at h
  split at h
  · cases h
  rename_i hk0
  unfold rdStep at h
  replace h := Option.bind_eq_some_iff.1 h
  obtain ⟨⟨step, s2⟩, h2, h⟩ := h
  obtain ⟨u2, rfl, rfl, hst⟩ := greatR_inv h2
  unfold rdEvent at h
  replace h := Option.bind_eq_some_iff.1 h
  obtain ⟨⟨en, s3⟩, h3, h⟩ := h
  obtain ⟨u3, rfl, rfl, hen⟩ := smallR_inv h3
  replace h := Option.bind_eq_some_iff.1 h
  obtain ⟨⟨ev, s4⟩, h4, h⟩ := h
  obtain ⟨u4, rfl, rfl, hev⟩ := bytesR_inv h4
  unfold rdTrans at h
  replace h := Option.bind_eq_some_iff.1 h
  obtain ⟨⟨l1, s5⟩, h5, h⟩ := h
  obtain ⟨u5, rfl, rfl, hl1⟩ := listR_inv h5
  unfold rdStates at h
  replace h := Option.bind_eq_some_iff.1 h
  obtain ⟨⟨l2, s6⟩, h6, h⟩ := h
  obtain ⟨u6, rfl, rfl, hl2⟩ := listR_inv h6
  unfold rdEnter at h
  replace h := Option.bind_eq_some_iff.1 h
  obtain ⟨⟨l3, s7⟩, h7, h⟩ := h
  obtain ⟨u7, rfl, rfl, hl3⟩ := listR_inv h7
  unfold rdVars at h
  replace h := Option.bind_eq_some_iff.1 h
  obtain ⟨⟨l4, s8⟩, h8, h⟩ := h
  obtain ⟨u8, rfl, rfl, hl4⟩ := listR_inv h8
  unfold rdSets at h
  replace h := Option.bind_eq_some_iff.1 h
  obtain ⟨⟨ns, s9⟩, h9, h⟩ := h
  obtain ⟨u9, rfl, rfl, hns⟩ := smallR_inv h9
  replace h := Option.bind_eq_some_iff.1 h
  obtain ⟨⟨sets, s10⟩, h10, h⟩ := h
  obtain ⟨sets', u10, e, rfl, hls, hso, hsw, rfl⟩ := setsR_inv _ _ _ _ _ h10
  rw [List.nil_append] at e
  subst e
  unfold rdPasts at h
  replace h := Option.bind_eq_some_iff.1 h
  obtain ⟨⟨np, s11⟩, h11, h⟩ := h
  obtain ⟨u11, rfl, rfl, hnp⟩ := smallR_inv h11
  replace h := Option.bind_eq_some_iff.1 h
  obtain ⟨⟨pasts, s12⟩, h12, h⟩ := h
  obtain ⟨pasts', u12, e, rfl, hlp, hpo, rfl⟩ := pastsR_inv _ _ _ _ _ h12
  rw [List.nil_append] at e
  subst e
  unfold rdEnd at h
  simp only at h
  split at h
  · rename_i h0
    rw [bs_size] at h0
    obtain rfl : u12 = [] := List.eq_nil_of_length_eq_zero h0
    injection h with h
    subst h
    refine ⟨⟨by show (1 : Int) ≤ (k : Int); omega, by show (k : Int) ≤ 9; omega, by show ev.size ≤ 20; omega, hl1, hl2, hl3, hl4, by show sets.length ≤ 8; omega, hso, by show pasts.length ≤ 40; omega, hpo⟩, hsw, hst, ?_⟩
    simp [msgB, msgHead, msgLists, List.append_assoc, hls, hlp, hev]
  · cases h
/-- What is cut off, or longer, is no message. -/
theorem readR_more {m : MsgL} {u : List UInt8} (h : m.Ok) (hw : ∀ s ∈ m.sets, s.wf) (hst : m.step < 18446744073709551616) (hu : u ≠ []) : readR (bs (msgB m ++ u)) = none := by
  rw [readR_app m u h hw hst]
  unfold rdEnd
  rw [if_neg]
  rw [bs_size]
  exact fun e => hu (List.eq_nil_of_length_eq_zero e)
theorem readR_cut {m : MsgL} {k : Nat} (h : m.Ok) (hw : ∀ s ∈ m.sets, s.wf) (hst : m.step < 18446744073709551616) (hk : k < (msgB m).length) : readR (bs ((msgB m).take k)) = none := by
  cases hr : readR (bs ((msgB m).take k)) with
  | none => rfl
  | some m' =>
    obtain ⟨h1, h2, h3, h4⟩ := readR_inv hr
    have hm := readR_more (u := (msgB m).drop k) h1 h2 h3 (fun e => by
      have := congrArg List.length e
      rw [List.length_drop, List.length_nil] at this
      omega)
    rw [← h4, List.take_append_drop, readR_msgB m h hw hst] at hm
    cases hm
end Go.Proofs.Ytgacphicgglogaa
