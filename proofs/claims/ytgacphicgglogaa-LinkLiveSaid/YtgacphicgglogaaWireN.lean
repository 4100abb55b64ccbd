/- Package wire: what a reading gives, as plain functions; the reader's steps as contracts of one shape. -/
import Derived.Test.YtgacphicgglogaaWireK
namespace Go.Proofs.Ytgacphicgglogaa
open Go.RowKit Crc
set_option linter.unusedVariables false

def i64of (n : Nat) : Int := if n < 9223372036854775808 then (n : Int) else (n : Int) - 18446744073709551616
theorem i64of_wrap (n : Nat) (h : n < 18446744073709551616) : IntKind.i64.wrap (n : Int) = i64of n := by
  unfold i64of
  simp [IntKind.wrap, IntKind.bits, IntKind.signed]
  split <;> split <;> omega
theorem i64of_u64of (a : Int) (h1 : -9223372036854775808 ≤ a) (h2 : a ≤ 9223372036854775807) : i64of (u64of a) = a := by
  unfold i64of u64of
  split <;> omega
def greatR (s : ByteArray) : Option (Nat × ByteArray) := if 8 ≤ s.size then some (numL (s.extract 0 8).data.toList, s.extract 8 s.size) else none
def bytesR (s : ByteArray) (n : Nat) : Option (ByteArray × ByteArray) := if n ≤ s.size then some (s.extract 0 n, s.extract n s.size) else none
def setR (s : ByteArray) : Option (SetL × ByteArray) :=
  (smallR s 63).bind fun (v, s1) => (smallR s1 3).bind fun (k, s2) => if k = 0 then none else (greatR s2).bind fun (a, s3) => (greatR s3).bind fun (b, s4) => some (⟨v, k, i64of a, i64of b⟩, s4)
def setsR : Nat → ByteArray → List SetL → Option (List SetL × ByteArray)
  | 0, s, acc => some (acc, s)
  | f + 1, s, acc => (setR s).bind fun (x, t) => setsR f t (acc ++ [x])
def pastR (s : ByteArray) : Option (PastL × ByteArray) := (smallR s 63).bind fun (v, s1) => (listR s1).bind fun (l, s2) => some (⟨v, l⟩, s2)
def pastsR : Nat → ByteArray → List PastL → Option (List PastL × ByteArray)
  | 0, s, acc => some (acc, s)
  | f + 1, s, acc => (pastR s).bind fun (x, t) => pastsR f t (acc ++ [x])
/-- The reading in stages, the last one first. -/
def rdEnd (m : MsgL) (s : ByteArray) : Option MsgL := if s.size = 0 then some m else none
def rdPasts (m : MsgL) (s : ByteArray) : Option MsgL := (smallR s 40).bind fun (j, s1) => (pastsR j s1 []).bind fun (pasts, s2) => rdEnd { m with pasts := pasts } s2
def rdSets (m : MsgL) (s : ByteArray) : Option MsgL := (smallR s 8).bind fun (k, s1) => (setsR k s1 []).bind fun (sets, s2) => rdPasts { m with sets := sets } s2
def rdVars (m : MsgL) (s : ByteArray) : Option MsgL := (listR s).bind fun (l, t) => rdSets { m with vars := l } t
def rdEnter (m : MsgL) (s : ByteArray) : Option MsgL := (listR s).bind fun (l, t) => rdVars { m with enter := l } t
def rdStates (m : MsgL) (s : ByteArray) : Option MsgL := (listR s).bind fun (l, t) => rdEnter { m with states := l } t
def rdTrans (m : MsgL) (s : ByteArray) : Option MsgL := (listR s).bind fun (l, t) => rdStates { m with trans := l } t
def rdEvent (m : MsgL) (s : ByteArray) : Option MsgL := (smallR s 20).bind fun (n, s1) => (bytesR s1 n).bind fun (ev, s2) => rdTrans { m with event := ev } s2
def rdStep (m : MsgL) (s : ByteArray) : Option MsgL := (greatR s).bind fun (n, t) => rdEvent { m with step := n } t
def readR (s : ByteArray) : Option MsgL := (smallR s 9).bind fun (kind, s1) => if kind = 0 then none else rdStep ⟨kind, 0, ⟨#[]⟩, [], [], [], [], [], []⟩ s1
theorem greatR_lt {s t : ByteArray} {n : Nat} (h : greatR s = some (n, t)) : n < 18446744073709551616 ∧ t.size ≤ s.size := by
  unfold greatR at h
  split at h
  · injection h with h
    injection h with e1 e2
    subst e1 e2
    refine ⟨?_, by rw [ByteArray.size_extract]; omega⟩
    have h1 := numL_lt (s.extract 0 8).data.toList
    have h2 : (s.extract 0 8).data.toList.length ≤ 8 := by rw [extract_data', List.length_take]; omega
    exact Nat.lt_of_lt_of_le h1 (Nat.pow_le_pow_right (n := 256) (by omega) h2)
  · cases h
end Go.Proofs.Ytgacphicgglogaa
