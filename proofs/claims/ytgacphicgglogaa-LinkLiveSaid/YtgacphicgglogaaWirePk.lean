/- What is packed is unpacked. -/
import Derived.Test.YtgacphicgglogaaWireC
import Derived.Test.YtgacphicgglogaaSumG
namespace Go.Proofs.Ytgacphicgglogaa
open Go.RowKit Crc
set_option linter.unusedVariables false

theorem bytes_eq {a b : ByteArray} (h : a.data.toList = b.data.toList) : a = b := by
  apply ByteArray.ext
  exact Array.toList_inj.1 h

theorem unpack_pack (k n : Nat) (load : ByteArray) (hk : k = 1 ∨ (k = 2 ∧ load = ByteArray.empty)) (hn : n < 18446744073709551616) (hl : load.size ≤ 800) : unpackRes (packB k n load) = ((k : Int), n, load, 0) := by
  have hd : (((⟨[UInt8.ofNat k].toArray⟩ : ByteArray) ++ ⟨(le8 n).toArray⟩) ++ load).data.toList = UInt8.ofNat k :: (le8 n ++ load.data.toList) := by
    rw [ByteArray.data_append, ByteArray.data_append, Array.toList_append, Array.toList_append]
    rfl
  have hlen : load.data.toList.length = load.size := by simp
  have h8 := le8_len n
  unfold unpackRes packB
  rw [openRes_seal]
  generalize ((⟨[UInt8.ofNat k].toArray⟩ : ByteArray) ++ ⟨(le8 n).toArray⟩) ++ load = t at *
  have hts : t.size = 9 + load.size := by
    have h1 : t.data.toList.length = t.size := by simp
    rw [hd, List.length_cons, List.length_append, h8, hlen] at h1
    omega
  have hkk : k = 1 ∨ k = 2 := by omega
  have hf : first t = k := by
    unfold first
    rw [hd]
    rcases hkk with rfl | rfl <;> rfl
  have hls : k = 2 → load.size = 0 := fun h => by
    rcases hk with h2 | ⟨_, rfl⟩
    · omega
    · rfl
  simp only [ne_eq, not_true_eq_false, if_false]
  unfold unpackT
  rw [if_neg (by rw [hf]; omega), if_neg (by omega), hf]
  have h19 : (t.extract 1 9).data.toList = le8 n := by
    rw [extract_data', hd]
    simp [h8]
  have h9e : t.extract 9 t.size = load := by
    apply bytes_eq
    rw [extract_data', hd]
    have : List.drop 9 (UInt8.ofNat k :: (le8 n ++ load.data.toList)) = load.data.toList := by
      rw [List.drop_succ_cons, ← h8, List.drop_left]
    rw [this, List.take_of_length_le (by omega)]
  rw [h19, h9e, num_le8 hn]

theorem packRes_ok (k n : Nat) (load : ByteArray) (hk : k = 1 ∨ (k = 2 ∧ load = ByteArray.empty)) (hl : load.size ≤ 800) : packRes (k : Int) n load = (packB k n load, 0) := by
  unfold packRes
  rw [if_neg (fun h => h (by rcases hk with h | ⟨h, h'⟩; exact .inl (by omega); exact .inr ⟨by omega, h'⟩)), if_neg (by omega), Int.toNat_natCast]
theorem packB_size (k n : Nat) (load : ByteArray) : (packB k n load).size = load.size + 13 := by
  unfold packB
  rw [sealB_size, ByteArray.size_append, ByteArray.size_append, show (⟨(le8 n).toArray⟩ : ByteArray).size = 8 by show (le8 n).toArray.size = 8; rw [List.size_toArray, le8_len]]
  show 1 + 8 + load.size + 4 = _
  omega
theorem packRes_size (k : Int) (n : Nat) (load : ByteArray) : (packRes k n load).1.size ≤ 813 := by
  unfold packRes
  split
  · decide
  · split
    · decide
    · rw [packB_size]; omega

end Go.Proofs.Ytgacphicgglogaa
