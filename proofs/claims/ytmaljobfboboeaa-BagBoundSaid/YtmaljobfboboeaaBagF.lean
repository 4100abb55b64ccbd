/- The contract of quintainref02.Same. -/
import Derived.Test.YtmaljobfboboeaaWords
namespace Go.Proofs.Ytmaljobfboboeaa
open Go.RowKit

def strs (l : List ByteArray) : List Value := l.map .string

theorem strs_at {l : List ByteArray} {k : Nat} (h : k < l.length) : (strs l)[k]? = some (.string l[k]) := by simp [strs, h]

theorem take_same {l l' : List ByteArray} {k : Nat} (h1 : k < l.length) (h2 : k < l'.length) (h : l.take k = l'.take k) (he : l[k] = l'[k]) : l.take (k + 1) = l'.take (k + 1) := by
  rw [List.take_succ_eq_append_getElem h1, List.take_succ_eq_append_getElem h2, h, he]

theorem toList_ne {s t : ByteArray} (h : ¬ s = t) : (s.toList == t.toList) = false := by
  rw [ByteArray.toList_eq, ByteArray.toList_eq, beq_eq_false_iff_ne]
  intro e
  exact h (ByteArray.ext (Array.toList_inj.1 e))

def SameEnd (w : World) (l l' : List ByteArray) (e : Ending) (w' : World) : Prop := e = .returned (.bool (decide (l = l'))) ∧ ∃ q, w' = w.drewN q

theorem same_any (w : World) (X : Nat) (A A' : Option Addr) (c c' : Nat) (l l' : List ByteArray) (hm : l.length ≤ maxLen) (hm' : l'.length ≤ maxLen) (h : Reads w X 1 A l.length (strs l)) (h' : Reads w X 1 A' l'.length (strs l')) :
    Calls Try.prog 18 #[.slice A l.length c, .slice A' l'.length c'] w (SameEnd w l l') := by
  unfold maxLen at hm hm'
  by_cases hl : l.length = l'.length
  · have hb : ((l.length : Int) != (l'.length : Int)) = false := by simp [hl]
    have HL := Lib.hid hl
    clear hl
    go_enter Try.func18, Try.ntmps18
    go_wp2
    go_loopw [5] (fun i wr => ∃ k : Nat, k ≤ l.length ∧ i = .int .i64 k ∧ l.take k = l'.take k ∧ ∃ q, wr = w.drewN q) (fun i _ => l.length - (intOf i).toNat)
    case atStart => exact ⟨0, Nat.zero_le _, rfl, rfl, 0, rfl⟩
    case round =>
      obtain ⟨k, hk, rfl, htk, q, rfl⟩ := hrel
      have HT := Lib.hid htk
      clear htk
      by_cases hlt : k < l.length
      · obtain ⟨ad, u, rfl, _, hu, hc⟩ := h.at_ hlt
        obtain ⟨ad', u', rfl, _, hu', hc'⟩ := h'.at_ (HL.out ▸ hlt)
        have hlt2 : k < l'.length := HL.out ▸ hlt
        rw [strs_at hlt] at hu
        rw [strs_at hlt2] at hu'
        injection hu with hu
        injection hu' with hu'
        subst hu
        subst hu'
        have hlt' : (k : Int) < (l.length : Int) := by omega
        have hlt'' : (k : Int) < (l'.length : Int) := by omega
        by_cases he : l[k] = l'[k]
        · have hne : (l[k].toList == l'[k].toList) = true := by rw [he]; simp
          have HE := Lib.hid he
          clear he
          go_wp2
          go_quiet (fail)
          go_wp2
          go_roundw
          case rel => exact ⟨k + 1, by omega, by go_num, take_same hlt hlt2 HT.out HE.out, q + nq, rfl⟩
          case measure => simp [intOf]; omega
        · have hfin : decide (l = l') = false := by
            rw [decide_eq_false_iff_not]; intro e; subst e; exact he rfl
          have HF := Lib.hid hfin
          have hne : (l[k].toList == l'[k].toList) = false := toList_ne he
          clear he hfin
          go_wp2
          go_quiet (fail)
          go_wp2
          go_ret
          exact ⟨by rw [HF.out]; rfl, q + nq, by simp⟩
      · have hfin : decide (l = l') = true := by
          have h1 := HT.out
          have hll := HL.out
          rw [List.take_of_length_le (by omega), List.take_of_length_le (by omega)] at h1
          simpa using h1
        have HF := Lib.hid hfin
        clear hfin
        go_wp2
        go_ret
        exact ⟨by rw [HF.out]; rfl, q, rfl⟩
  · have hb : ((l.length : Int) != (l'.length : Int)) = true := by simp; omega
    have hfin : decide (l = l') = false := by
      rw [decide_eq_false_iff_not]; intro e; exact hl (by rw [e])
    have HF := Lib.hid hfin
    clear hl hfin
    go_enter Try.func18, Try.ntmps18
    go_wp2
    go_ret
    exact ⟨by rw [HF.out]; rfl, 0, rfl⟩

end Go.Proofs.Ytmaljobfboboeaa
