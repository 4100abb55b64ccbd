/- The contracts of quintainref15.Of, sum.four and the maker's fill. -/
import Derived.Test.YtgacphicgglogaaWords
import Derived.Test.YtgacphicgglogaaCrc
namespace Go.Proofs.Ytgacphicgglogaa
open Go.RowKit Crc

theorem take_snoc (s : ByteArray) (k : Nat) (h : k < s.size) : s.data.toList.take (k + 1) = s.data.toList.take k ++ [s[k]] := by
  rw [List.take_succ_eq_append_getElem (by simpa using h)]; rfl
theorem crcS_snoc (s : ByteArray) (k : Nat) (h : k < s.size) : crcS ones (s.data.toList.take (k + 1)) = crcB (crcS ones (s.data.toList.take k)) s[k] := by
  rw [take_snoc s k h]; unfold crcS; rw [List.foldl_append]; rfl

theorem stp_odd_val {y : Nat} (h : y < 4294967296) (ho : y % 2 = 1) : bits .xor .u32 ((y : Int) / 2) 3988292384 = (stp y : Int) := by
  rw [show (y : Int) / 2 = ((y / 2 : Nat) : Int) from by omega, show (3988292384 : Int) = ((poly : Nat) : Int) from rfl, u32_xor_nat _ _ (by omega) poly_lt]
  unfold stp
  rw [if_pos ho]
theorem stp_even_val {y : Nat} (ho : ¬ y % 2 = 1) : (stp y : Int) = (y : Int) / 2 := by
  unfold stp
  rw [if_neg ho]
  omega

theorem refOf_any (s : ByteArray) (w : World) (hs : s.size ≤ maxLen) :
    Calls Try.prog 76 #[.string s] w fun e w' => e = .returned (.int .u32 (crc s.data.toList)) ∧ w = w' := by
  unfold maxLen at hs
  go_enter Try.func76, Try.ntmps76
  go_wp2_with fail
  go_loop [3, 4] (fun n i => ∃ k : Nat, k ≤ s.size ∧ i = .int .i64 k ∧ n = .int .u32 (crcS ones (s.data.toList.take k) : Nat)) (fun _ i => s.size - (intOf i).toNat)
  case atStart => exact ⟨0, Nat.zero_le _, rfl, rfl⟩
  case round =>
    obtain ⟨k, hk, rfl, rfl⟩ := hrel
    have hlt32 := crcS_lt ones_lt (s.data.toList.take k)
    by_cases hlt : k < s.size
    · have hsn := crcS_snoc s k hlt
      have HS := Lib.hid hsn
      clear hsn
      generalize crcS ones (s.data.toList.take k) = n at *
      have hb := byte_lt s[k]
      obtain ⟨x, hx⟩ : ∃ x, n ^^^ s[k].toNat = x := ⟨_, rfl⟩
      have hxl : x < 4294967296 := by rw [← hx]; exact xor_lt32 hlt32 (by omega)
      have hxor : bits .xor .u32 (n : Int) (s[k].toNat : Int) = (x : Int) := by rw [u32_xor_nat _ _ hlt32 (by omega), hx]
      have HX := Lib.hid hx
      clear hx
      have hk1 : (k : Int) < (s.size : Int) := by omega
      go_wp2_with fail
      go_loop [3, 5] (fun n j => ∃ m : Nat, m ≤ 8 ∧ j = .int .i64 m ∧ n = .int .u32 (stps m x : Nat)) (fun _ j => 8 - (intOf j).toNat)
      case atStart => exact ⟨0, by omega, rfl, rfl⟩
      case round =>
        obtain ⟨m, hm, rfl, rfl⟩ := hrel
        have hyl := stps_lt m hxl
        have hys := stps_succ' m x
        have HY := Lib.hid hys
        clear hys
        by_cases hlm : m < 8
        · generalize stps m x = y at *
          by_cases hodd : y % 2 = 1
          · have hst : bits .xor .u32 ((y : Int) / 2) 3988292384 = (stp y : Int) := stp_odd_val hyl hodd
            have ho1 : (((y : Int) % 2) == 1) = true := by simp; omega
            clear hodd
            go_wp2
            go_round
            case rel => exact ⟨m + 1, by omega, by go_num, by rw [HY.out]⟩
            case measure => simp [intOf]; omega
          · have hst : (stp y : Int) = (y : Int) / 2 := stp_even_val hodd
            have ho1 : (((y : Int) % 2) == 1) = false := by simp; omega
            have HST := Lib.hid hst
            clear hst hodd
            go_wp2
            go_round
            case rel => exact ⟨m + 1, by omega, by go_num, by rw [HY.out, HST.out]⟩
            case measure => simp [intOf]; omega
        · obtain rfl : m = 8 := by omega
          have hfin : stps 8 x = crcS ones (s.data.toList.take (k + 1)) := by rw [HS.out]; unfold crcB stp8; rw [HX.out]
          have HF := Lib.hid hfin
          clear hfin
          go_wp2
          go_round
          case rel => exact ⟨k + 1, by omega, by go_num, by rw [HF.out]⟩
          case measure => simp [intOf]; omega
    · have hfin : crcS ones s.data.toList = crcS ones (s.data.toList.take k) := by rw [List.take_of_length_le (by simp; omega)]
      have hfin2 : bits .xor .u32 (crcS ones (s.data.toList.take k) : Nat) 4294967295 = (crc s.data.toList : Int) := by
        rw [show (4294967295 : Int) = ((ones : Nat) : Int) from rfl, u32_xor_nat _ _ hlt32 ones_lt]
        unfold crc; rw [hfin]
      clear hfin
      generalize crcS ones (s.data.toList.take k) = n at *
      go_wp2
      go_ret
      exact ⟨rfl, rfl⟩

end Go.Proofs.Ytgacphicgglogaa
