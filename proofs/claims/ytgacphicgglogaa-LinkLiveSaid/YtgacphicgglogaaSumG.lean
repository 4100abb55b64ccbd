/- Open as one function. -/
import Derived.Test.YtgacphicgglogaaSumF
namespace Go.Proofs.Ytgacphicgglogaa
open Go.RowKit Crc

def openRes (s : ByteArray) : ByteArray × Int :=
  if s.size < 4 then (ByteArray.empty, 1)
  else if le4 (crc (s.data.toList.take (s.size - 4))) = s.data.toList.drop (s.size - 4) then (s.extract 0 (s.size - 4), 0) else (ByteArray.empty, 13)

theorem open_any (s : ByteArray) (w : World) (hm : s.size ≤ 140737488351232) :
    Calls Try.prog 64 #[.string s] w fun e w' => e = .returned (.tuple #[.string (openRes s).1, .int .i64 (openRes s).2]) ∧ Below w.heap.size w w' := by
  by_cases h : s.size < 4
  · refine (open_short s w h).mono ?_
    rintro e w' ⟨rfl, hb⟩
    exact ⟨by simp [openRes, h], hb⟩
  · refine (open_long s w (by omega) hm).mono ?_
    rintro e w' ⟨rfl, hb⟩
    refine ⟨?_, hb⟩
    unfold openRes
    rw [if_neg h]
    split <;> rfl

theorem refOpen_any (s : ByteArray) (w : World) (hm : s.size ≤ 140737488351232) :
    Calls Try.prog 66 #[.string s] w fun e w' => e = .returned (.tuple #[.string (openRes s).1, .int .i64 (openRes s).2]) ∧ Below w.heap.size w w' := by
  by_cases h : s.size < 4
  · refine (refOpen_short s w h).mono ?_
    rintro e w' ⟨rfl, hb⟩
    exact ⟨by simp [openRes, h], hb⟩
  · refine (refOpen_long s w (by omega) hm).mono ?_
    rintro e w' ⟨rfl, hb⟩
    refine ⟨?_, hb⟩
    unfold openRes
    rw [if_neg h]
    split <;> rfl

theorem sealB_data (s : ByteArray) : (sealB s).data.toList = s.data.toList ++ le4 (crc s.data.toList) := by
  unfold sealB
  rw [ByteArray.data_append, Array.toList_append]
theorem sealB_size (s : ByteArray) : (sealB s).size = s.size + 4 := by
  unfold sealB
  rw [app_size, le4_length]

theorem openRes_seal (s : ByteArray) : openRes (sealB s) = (s, 0) := by
  have hs := sealB_size s
  have hd := sealB_data s
  have hl : s.data.toList.length = s.size := by simp
  unfold openRes
  rw [if_neg (by omega), show (sealB s).size - 4 = s.size by omega, hd, ← hl, List.take_left, List.drop_left, if_pos rfl]
  congr 1
  apply ByteArray.ext
  apply Array.toList_inj.1
  rw [extract_data', hd]
  simp

end Go.Proofs.Ytgacphicgglogaa
