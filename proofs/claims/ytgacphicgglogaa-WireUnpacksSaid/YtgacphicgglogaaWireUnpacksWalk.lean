/- The walk of WireUnpacks. -/
import Derived.Test.YtgacphicgglogaaWireU
import Derived.OpenShut
namespace Go.Proofs.Ytgacphicgglogaa.wireUnpacks
open Go.RowKit Crc
set_option linter.unusedVariables false

theorem seal_open (s : ByteArray) (h : (openRes s).2 = 0) : sealB (openRes s).1 = s := by
  unfold openRes at h ⊢
  split at h
  · cases h
  · rename_i h4
    rw [if_neg h4]
    split at h
    · rename_i h5
      rw [if_pos h5]
      refine bs_ext ?_
      rw [sealB_data, extract_data', List.drop_zero, Nat.sub_zero, h5, List.take_append_drop]
    · cases h
theorem num_lt (t : ByteArray) : numL (t.extract 1 9).data.toList < 18446744073709551616 := by
  have h1 := numL_lt (t.extract 1 9).data.toList
  have h2 : (t.extract 1 9).data.toList.length ≤ 8 := by rw [extract_data', List.length_take]; omega
  exact Nat.lt_of_lt_of_le h1 (Nat.pow_le_pow_right (n := 256) (by omega) h2)
theorem unpackT_ok (t : ByteArray) (h : (unpackT t).2.2.2 = 0) : ∃ k : Nat, unpackT t = ((k : Int), numL (t.extract 1 9).data.toList, t.extract 9 t.size, 0) ∧ (k = 1 ∨ (k = 2 ∧ t.extract 9 t.size = ByteArray.empty)) ∧ (t.extract 9 t.size).size ≤ 800 ∧ ((⟨[UInt8.ofNat k].toArray⟩ : ByteArray) ++ ⟨(le8 (numL (t.extract 1 9).data.toList)).toArray⟩) ++ t.extract 9 t.size = t := by
  unfold unpackT at h ⊢
  split at h
  · cases h
  · rename_i h1
    split at h
    · cases h
    · rename_i h2
      rw [if_neg h1, if_neg h2]
      have h9 : 9 ≤ t.size := by omega
      have hf : first t = 1 ∨ (first t = 2 ∧ t.size = 9) := Classical.byContradiction fun hx => h1 (.inr hx)
      refine ⟨first t, rfl, ?_, by rw [ByteArray.size_extract]; omega, ?_⟩
      · rcases hf with hf | ⟨hf, hs⟩
        · exact .inl hf
        · refine .inr ⟨hf, ByteArray.size_eq_zero_iff.1 (by rw [ByteArray.size_extract]; omega)⟩
      · refine bs_ext ?_
        have hl : t.data.toList.length = t.size := by simp
        rw [ByteArray.data_append, ByteArray.data_append, Array.toList_append, Array.toList_append]
        have e8 : (t.extract 1 9).data.toList.length = 8 := by rw [extract_data', List.length_take, List.length_drop]; omega
        show [UInt8.ofNat (first t)] ++ le8 (numL (t.extract 1 9).data.toList) ++ (t.extract 9 t.size).data.toList = _
        rw [le8_num _ e8, extract_data', extract_data']
        unfold first
        generalize t.data.toList = l at *
        cases l with
        | nil => simp at hl; omega
        | cons b r =>
          rw [List.drop_succ_cons, List.drop_succ_cons, List.drop_zero]
          have hr : (List.drop 8 r).take (t.size - 9) = List.drop 8 r := List.take_of_length_le (by rw [List.length_drop]; simp at hl; omega)
          rw [hr]
          show UInt8.ofNat b.toNat :: (r.take (9 - 1) ++ r.drop 8) = b :: r
          rw [UInt8.ofNat_toNat, List.take_append_drop]
/-- What is unpacked is packed in the bytes that it was. -/
theorem pack_unpack (s : ByteArray) (h : (unpackRes s).2.2.2 = 0) : packRes (unpackRes s).1 (unpackRes s).2.1 (unpackRes s).2.2.1 = (s, 0) := by
  unfold unpackRes at h ⊢
  by_cases h0 : (openRes s).2 ≠ 0
  · rw [if_pos h0] at h
    exact absurd h h0
  · have h0' : (openRes s).2 = 0 := Classical.byContradiction h0
    rw [if_neg h0] at h ⊢
    obtain ⟨k, h1, h2, h3, h4⟩ := unpackT_ok _ h
    rw [h1]
    dsimp only
    rw [packRes_ok k _ _ h2 h3]
    unfold packB
    rw [h4, seal_open s h0']
theorem unpack_lt (s : ByteArray) : (unpackRes s).2.1 < 18446744073709551616 ∧ (unpackRes s).2.2.1.size ≤ s.size := by
  have ho := openRes_size s
  unfold unpackRes
  split
  · exact ⟨show (0 : Nat) < _ by omega, Nat.zero_le _⟩
  · unfold unpackT
    split
    · exact ⟨show (0 : Nat) < _ by omega, Nat.zero_le _⟩
    · split
      · exact ⟨show (0 : Nat) < _ by omega, Nat.zero_le _⟩
      · refine ⟨num_lt _, ?_⟩
        show ((openRes s).1.extract 9 (openRes s).1.size).size ≤ _
        rw [ByteArray.size_extract]
        omega

set_option maxHeartbeats 2000000 in
set_option maxRecDepth 100000 in
theorem core (s : ByteArray) (w : World) (hm : s.size ≤ maxLen) :
    Calls Try.prog 9 #[.string s] w fun e w' => e = .returned (.bool true) ∧ Below w.heap.size w w' := by
  go_enter Try.func9, Try.ntmps9
  go_wp2_with fail
  refine (wakes16_any w).mono ?_
  rintro e w1 ⟨rfl, hb1⟩
  by_cases hlong : 5000 < s.size
  · have hz : (5000 : Int) < (s.size : Int) := by omega
    go_wp2
    go_ret
    exact ⟨rfl, hb1⟩
  have hz : ¬ (5000 : Int) < (s.size : Int) := by omega
  have hss : s.size ≤ 5000 := by omega
  have HSS := Lib.hid hss
  clear hlong hss
  go_wp2_with fail
  refine (unpack_any s w1 (by have := HSS.out; omega)).mono ?_
  rintro e w2 ⟨rfl, hb2⟩
  have hb12 := hb1.trans (hb2.mono hb1.size)
  clear hb1 hb2
  go_wp2_with fail
  refine (refUnpack_any s w2 (by have := HSS.out; omega)).mono ?_
  rintro e w3 ⟨rfl, hb3⟩
  have hb13 := hb12.trans (hb3.mono hb12.size)
  clear hb12 hb3
  have hpk := pack_any (unpackRes s).1 (unpackRes s).2.1 (unpackRes s).2.2.1 w3 (unpack_lt s).1 (by have := (unpack_lt s).2; have := HSS.out; unfold maxLen; omega)
  have HR := Lib.hid (pack_unpack s)
  have HPK := Lib.hid hpk
  clear hpk
  generalize unpackRes s = u at *
  obtain ⟨k, n, l, g⟩ := u
  dsimp only at HPK HR ⊢
  go_wp2_with fail
  refine HPK.out.mono ?_
  rintro e w4 ⟨rfl, hb4⟩
  by_cases hg : g = 0
  · have hR := HR.out hg
    rw [hR]
    go_wp2
    go_ret
    exact ⟨rfl, hb13.trans (hb4.mono hb13.size)⟩
  · generalize packRes k n l = pr at *
    obtain ⟨ps, pe⟩ := pr
    go_wp2
    go_ret
    exact ⟨rfl, hb13.trans (hb4.mono hb13.size)⟩

theorem walk (a0 : ByteArray) (w : World) (w0 : a0.size ≤ maxLen) :
    Calls Try.prog 9 #[.string a0] w fun e w' => e = .returned (.bool true) ∧ Below w.heap.size w w' := core a0 w w0
end Go.Proofs.Ytgacphicgglogaa.wireUnpacks
