/- A sealed text, four bytes of which are turned. -/
import Derived.Test.YtgacphicgglogaaSumG
import Derived.Test.YtgacphicgglogaaCrcT
import Derived.Test.YtgacphicgglogaaRegW
namespace Go.Proofs.Ytgacphicgglogaa
open Go.RowKit Crc
set_option linter.unusedVariables false

theorem byteVals_set (l : List UInt8) (k : Nat) (x : UInt8) : (byteVals l).set k (.int .u8 (x.toNat : Int)) = byteVals (l.set k x) := by simp [byteVals, List.map_set]

/-- The text after j of the four turns. -/
def mix (t ms : List UInt8) (k : Nat) : Nat → List UInt8
  | 0 => t
  | j + 1 => (mix t ms k j).set (k + j) ((t[k + j]?.getD 0) ^^^ (ms[j]?.getD 0))

theorem mix_len (t ms : List UInt8) (k : Nat) : ∀ j, (mix t ms k j).length = t.length
  | 0 => rfl
  | j + 1 => by rw [mix, List.length_set, mix_len t ms k j]

theorem mix_get (t ms : List UInt8) (k : Nat) : ∀ j i, (mix t ms k j)[i]? = if k ≤ i ∧ i < k + j ∧ i < t.length then some ((t[i]?.getD 0) ^^^ (ms[i - k]?.getD 0)) else t[i]?
  | 0, i => by rw [if_neg (by omega)]; rfl
  | j + 1, i => by
    rw [mix, List.getElem?_set, mix_len, mix_get t ms k j i]
    by_cases h : k + j = i
    · subst h
      by_cases hl : k + j < t.length
      · rw [if_pos rfl, if_pos hl, if_pos (by omega), Nat.add_sub_cancel_left]
      · rw [if_pos rfl, if_neg hl, if_neg (by omega), List.getElem?_eq_none (by omega)]
    · rw [if_neg h]
      by_cases h2 : k ≤ i ∧ i < k + j ∧ i < t.length
      · rw [if_pos h2, if_pos (by omega)]
      · rw [if_neg h2, if_neg (by omega)]

theorem mix_burst (t : List UInt8) (a b c d : UInt8) (k L : Nat) (hk : k ≤ L) (ht : t.length = L + 4) : mix t [a, b, c, d] k 4 = xorL t (burst k L [a, b, c, d]) := by
  apply List.ext_getElem?
  intro i
  rw [mix_get]
  unfold xorL
  rw [List.getElem?_zipWith]
  by_cases hi : i < t.length
  · have hti : t[i]? = some t[i] := List.getElem?_eq_getElem hi
    have hb : (burst k L [a, b, c, d])[i]? = some (if k ≤ i ∧ i < k + 4 then ([a, b, c, d][i - k]?.getD 0) else 0) := by
      unfold burst
      rw [List.append_assoc]
      by_cases h1 : i < k
      · rw [List.getElem?_append_left (by simpa using h1), if_neg (by omega), List.getElem?_replicate, if_pos h1]
      · rw [List.getElem?_append_right (by simp; omega), List.length_replicate]
        by_cases h2 : i < k + 4
        · rw [List.getElem?_append_left (by simp; omega), if_pos (by omega)]
          have h3 : i - k < [a, b, c, d].length := by simp; omega
          rw [List.getElem?_eq_getElem h3]
          rfl
        · rw [List.getElem?_append_right (by simp; omega), if_neg (by omega), List.getElem?_replicate, if_pos (by simp; omega)]
    rw [hti, hb]
    by_cases h4 : k ≤ i ∧ i < k + 4
    · rw [if_pos (by omega), if_pos h4]; rfl
    · rw [if_neg (by omega), if_neg h4]; simp
  · rw [if_neg (by omega), List.getElem?_eq_none (by omega)]

/-- What Open says of the turned text. -/
theorem open_turned (s : ByteArray) (a b c d : UInt8) (k : Nat) (hk : k ≤ s.size) :
    openRes ⟨(mix (sealB s).data.toList [a, b, c, d] k 4).toArray⟩ = if a = 0 ∧ b = 0 ∧ c = 0 ∧ d = 0 then (s, 0) else (ByteArray.empty, 13) := by
  have hl : s.data.toList.length = s.size := by simp
  have htl : (sealB s).data.toList.length = s.size + 4 := by rw [sealB_data, List.length_append, le4_length, hl]
  have hm := mix_burst (sealB s).data.toList a b c d k s.size hk htl
  have hml : (mix (sealB s).data.toList [a, b, c, d] k 4).length = s.size + 4 := by rw [mix_len, htl]
  have hT := burst_told s.data.toList k a b c d (by omega) (mix (sealB s).data.toList [a, b, c, d] k 4) (by rw [hm, sealB_data, hl])
  have hsz : (⟨(mix (sealB s).data.toList [a, b, c, d] k 4).toArray⟩ : ByteArray).size = s.size + 4 := by
    show (mix (sealB s).data.toList [a, b, c, d] k 4).toArray.size = _
    rw [List.size_toArray, hml]
  by_cases h0 : a = 0 ∧ b = 0 ∧ c = 0 ∧ d = 0
  · have hid : (⟨(mix (sealB s).data.toList [a, b, c, d] k 4).toArray⟩ : ByteArray) = sealB s := by
      have : mix (sealB s).data.toList [a, b, c, d] k 4 = (sealB s).data.toList := by
        rw [hm]
        obtain ⟨rfl, rfl, rfl, rfl⟩ := h0
        have : burst k s.size [0, 0, 0, 0] = List.replicate (s.size + 4) 0 := by
          unfold burst
          rw [show ([0, 0, 0, 0] : List UInt8) = List.replicate 4 0 from rfl, List.replicate_append_replicate, List.replicate_append_replicate]
          congr 1
          omega
        rw [this, xorL_zero _ _ htl]
      rw [this]
    rw [hid, openRes_seal, if_pos h0]
  · rw [if_neg h0]
    unfold openRes
    rw [if_neg (by omega), hsz, show s.size + 4 - 4 = s.data.toList.length by omega, if_neg (fun h => h0 (hT.1 h))]

end Go.Proofs.Ytgacphicgglogaa
