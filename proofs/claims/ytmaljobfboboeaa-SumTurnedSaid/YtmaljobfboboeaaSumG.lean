/- Open as one function; the example of layer 15. -/
import Derived.Test.YtmaljobfboboeaaSumF
namespace Go.Proofs.Ytmaljobfboboeaa
open Go.RowKit Crc

def openRes (s : ByteArray) : ByteArray × Int :=
  if s.size < 4 then (ByteArray.empty, 1)
  else if le4 (crc (s.data.toList.take (s.size - 4))) = s.data.toList.drop (s.size - 4) then (s.extract 0 (s.size - 4), 0) else (ByteArray.empty, 13)

theorem open_any (s : ByteArray) (w : World) (hm : s.size ≤ 140737488351232) :
    Calls Try.prog 26 #[.string s] w fun e w' => e = .returned (.tuple #[.string (openRes s).1, .int .i64 (openRes s).2]) ∧ Below w.heap.size w w' := by
  by_cases h : s.size < 4
  · refine (open_short s w h).mono ?_
    rintro e w' ⟨rfl, hb⟩
    exact ⟨by simp [openRes, h], hb⟩
  · refine (open_long s w (by omega) hm).mono ?_
    rintro e w' ⟨rfl, hb⟩
    refine ⟨?_, hb⟩
    unfold openRes
    rw [if_neg h]
    split <;> rfl

theorem refOpen_any (s : ByteArray) (w : World) (hm : s.size ≤ 140737488351232) :
    Calls Try.prog 28 #[.string s] w fun e w' => e = .returned (.tuple #[.string (openRes s).1, .int .i64 (openRes s).2]) ∧ Below w.heap.size w w' := by
  by_cases h : s.size < 4
  · refine (refOpen_short s w h).mono ?_
    rintro e w' ⟨rfl, hb⟩
    exact ⟨by simp [openRes, h], hb⟩
  · refine (refOpen_long s w (by omega) hm).mono ?_
    rintro e w' ⟨rfl, hb⟩
    refine ⟨?_, hb⟩
    unfold openRes
    rw [if_neg h]
    split <;> rfl

theorem sealB_data (s : ByteArray) : (sealB s).data.toList = s.data.toList ++ le4 (crc s.data.toList) := by
  unfold sealB
  rw [ByteArray.data_append, Array.toList_append]
theorem sealB_size (s : ByteArray) : (sealB s).size = s.size + 4 := by
  unfold sealB
  rw [app_size, le4_length]

theorem openRes_seal (s : ByteArray) : openRes (sealB s) = (s, 0) := by
  have hs := sealB_size s
  have hd := sealB_data s
  have hl : s.data.toList.length = s.size := by simp
  unfold openRes
  rw [if_neg (by omega), show (sealB s).size - 4 = s.size by omega, hd, ← hl, List.take_left, List.drop_left, if_pos rfl]
  congr 1
  apply ByteArray.ext
  apply Array.toList_inj.1
  rw [extract_data', hd]
  simp

theorem crc_ex : crc [49, 50, 51, 52, 53, 54, 55, 56, 57] = 3421780262 := by decide +kernel
theorem crc_nil : crc [] = 0 := by decide +kernel

theorem wakes15_any (w : World) : Calls Try.prog 22 #[] w fun e w' => e = .returned (.bool true) ∧ Below w.heap.size w w' := by
  have e1 := crc_ex
  have e0 := crc_nil
  have E1 := Lib.hid e1
  have E0 := Lib.hid e0
  clear e1 e0
  go_enter Try.func22, Try.ntmps22
  go_wp2_with fail
  refine (seal_any ⟨#[97, 98, 99]⟩ w (by decide)).mono ?_
  rintro e w1 ⟨rfl, hb1⟩
  go_wp2_with fail
  refine (open_any _ w1 (by rw [sealB_size]; decide)).mono ?_
  rintro e w2 ⟨he, hb2⟩
  rw [openRes_seal] at he
  subst he
  generalize sealB ⟨#[97, 98, 99]⟩ = sb at *
  go_wp2_with fail
  refine (of_any _ w2 (by decide)).mono ?_
  rintro e w3 ⟨he, hb3⟩
  obtain rfl : e = .returned (.int .u32 3421780262) := by rw [he]; exact congrArg (fun n : Nat => Ending.returned (.int .u32 (n : Int))) E1.out
  go_wp2_with fail
  refine (of_any _ w3 (by decide)).mono ?_
  rintro e w4 ⟨he, hb4⟩
  obtain rfl : e = .returned (.int .u32 0) := by rw [he]; exact congrArg (fun n : Nat => Ending.returned (.int .u32 (n : Int))) E0.out
  go_wp2
  go_ret
  exact ⟨rfl, ((hb1.trans (hb2.mono hb1.size)).trans (hb3.mono (Nat.le_trans hb1.size hb2.size))).trans (hb4.mono (Nat.le_trans (Nat.le_trans hb1.size hb2.size) hb3.size))⟩

end Go.Proofs.Ytmaljobfboboeaa
