/- Package wire: the reader: 'bytes', 'small', 'great'. -/
import Derived.Test.YtgacphicgglogaaWireI
namespace Go.Proofs.Ytgacphicgglogaa
open Go.RowKit Crc
set_option linter.unusedVariables false

def RdAt (w : World) (p : Nat) (s : ByteArray) : Prop := Blk w p 143 #[.string s]
theorem RdAt.set {w : World} {p : Nat} {s : ByteArray} (h : RdAt w p s) (t : ByteArray) : RdAt (w.setCell ⟨p, 0, none⟩ (.string t)) p t := Blk.set_ h 0 _
theorem RdAt.touch {w w' : World} {p : Nat} {s : ByteArray} {S : Nat → Prop} (h : RdAt w p s) (ht : Touch S w w') (hp : ¬ S p) : RdAt w' p s := ht.blk h hp

set_option maxHeartbeats 1000000 in
set_option maxRecDepth 100000 in
theorem bytes_ok (w : World) (p : Nat) (s : ByteArray) (h : RdAt w p s) (n : Nat) (hn : n ≤ s.size) (hs : s.size ≤ 9223372036854775807) :
    Calls Try.prog 84 #[.pointer (some ⟨p, 0, none⟩), .int .i64 (n : Int)] w fun e w' => e = .returned (.string (s.extract 0 n)) ∧ w' = w.setCell ⟨p, 0, none⟩ (.string (s.extract n s.size)) := by
  have hc := Blk.cell h 0
  have hz := Blk.frozen h 0
  change _ = some (Value.string s) at hc
  have h1 : (n : Int) ≤ (s.size : Int) := by omega
  have h0 : (0 : Int) ≤ (n : Int) := by omega
  clear h
  go_enter Try.func84, Try.ntmps84
  go_wp2_with fail
  refine (must_true _).mono ?_
  rintro e w1 ⟨rfl, rfl⟩
  go_wp2
  go_ret
  exact ⟨rfl, rfl⟩
theorem bytes_bad (w : World) (p : Nat) (s : ByteArray) (h : RdAt w p s) (n : Nat) (hn : ¬ n ≤ s.size) :
    Calls Try.prog 84 #[.pointer (some ⟨p, 0, none⟩), .int .i64 (n : Int)] w fun e w' => e = .panicked stops ∧ w' = w := by
  have hc := Blk.cell h 0
  change _ = some (Value.string s) at hc
  have h1 : ¬ (n : Int) ≤ (s.size : Int) := by omega
  have h1b : decide ((n : Int) ≤ (s.size : Int)) = false := decide_eq_false h1
  have h1c : decide (n ≤ s.size) = false := decide_eq_false hn
  clear h
  go_enter Try.func84, Try.ntmps84
  go_wp2_with fail
  refine (must_false _).mono ?_
  rintro e w1 ⟨rfl, rfl⟩
  exact ⟨rfl, rfl, rfl⟩

/-- What a small number's reading leaves. -/
def smallR (s : ByteArray) (most : Nat) : Option (Nat × ByteArray) := if s.size = 0 then none else if first s ≤ most then some (first s, s.extract 1 s.size) else none

set_option maxHeartbeats 1000000 in
set_option maxRecDepth 100000 in
theorem rsmall_ok (w : World) (p : Nat) (s : ByteArray) (h : RdAt w p s) (most : Nat) (hs : s.size ≤ 9223372036854775807) (h0 : s.size ≠ 0) (hm : first s ≤ most) :
    Calls Try.prog 82 #[.pointer (some ⟨p, 0, none⟩), .int .i64 (most : Int)] w fun e w' => e = .returned (.int .i64 (first s : Int)) ∧ w' = w.setCell ⟨p, 0, none⟩ (.string (s.extract 1 s.size)) := by
  have hb := bytes_ok w p s h 1 (by omega) hs
  have HB := Lib.hid hb
  have h0n : 0 < s.size := by omega
  have hx1 : (s.extract 0 1).size = 1 := by rw [ByteArray.size_extract]; omega
  obtain ⟨t, ht⟩ : ∃ t, s.extract 0 1 = t := ⟨_, rfl⟩
  rw [ht] at HB hx1
  have h0t : 0 < t.size := by omega
  have hft : first t = first s := by
    rw [← ht]
    unfold first
    rw [extract_data']
    simp
  have hbyte : first t = t[0].toNat := by unfold first; rw [show t.data.toList[0]? = some t[0] from by rw [Array.getElem?_toList]; exact Array.getElem?_eq_getElem h0t]; rfl
  have hle : (t[0].toNat : Int) ≤ (most : Int) := by rw [← hbyte, hft]; omega
  have HF := Lib.hid (hft.symm.trans hbyte)
  have hlt : t[0].toNat < 256 := UInt8.toNat_lt _
  have hw : IntKind.i64.wrap (t[0].toNat : Int) = (t[0].toNat : Int) := IntWalk.i64_in _ (by omega)
  clear hb h h0 hm hbyte hft ht
  go_enter Try.func82, Try.ntmps82
  go_wp2_with fail
  refine HB.out.mono ?_
  rintro e w1 ⟨rfl, rfl⟩
  go_wp2_with fail
  refine (must_true _).mono ?_
  rintro e w2 ⟨rfl, rfl⟩
  go_wp2
  go_ret
  exact ⟨by rw [HF.out]; rfl, rfl⟩
set_option maxHeartbeats 1000000 in
set_option maxRecDepth 100000 in
theorem rsmall_bad (w : World) (p : Nat) (s : ByteArray) (h : RdAt w p s) (most : Nat) (hs : s.size ≤ 9223372036854775807) (hb : s.size = 0 ∨ ¬ first s ≤ most) :
    Calls Try.prog 82 #[.pointer (some ⟨p, 0, none⟩), .int .i64 (most : Int)] w fun e w' => e = .panicked stops ∧ Touch (fun k => k = p) w w' := by
  by_cases h0 : s.size = 0
  · have hbb := bytes_bad w p s h 1 (by omega)
    have HB := Lib.hid hbb
    clear hbb h hb h0
    go_enter Try.func82, Try.ntmps82
    go_wp2_with fail
    refine HB.out.mono ?_
    rintro e w1 ⟨rfl, rfl⟩
    exact ⟨rfl, rfl, Touch.refl _ _⟩
  have hm : ¬ first s ≤ most := hb.resolve_left h0
  have hbk := bytes_ok w p s h 1 (by omega) hs
  have HB := Lib.hid hbk
  have hx1 : (s.extract 0 1).size = 1 := by rw [ByteArray.size_extract]; omega
  obtain ⟨t, ht⟩ : ∃ t, s.extract 0 1 = t := ⟨_, rfl⟩
  rw [ht] at HB hx1
  have h0t : 0 < t.size := by omega
  have hft : first t = first s := by
    rw [← ht]
    unfold first
    rw [extract_data']
    simp
  have hbyte : first t = t[0].toNat := by unfold first; rw [show t.data.toList[0]? = some t[0] from by rw [Array.getElem?_toList]; exact Array.getElem?_eq_getElem h0t]; rfl
  have hle : ¬ (t[0].toNat : Int) ≤ (most : Int) := by rw [← hbyte, hft]; omega
  have hle2 : ¬ t[0].toNat ≤ most := by omega
  have hleb : decide ((t[0].toNat : Int) ≤ (most : Int)) = false := decide_eq_false hle
  have hleb2 : decide (t[0].toNat ≤ most) = false := decide_eq_false hle2
  have hlt : t[0].toNat < 256 := UInt8.toNat_lt _
  have hw : IntKind.i64.wrap (t[0].toNat : Int) = (t[0].toNat : Int) := IntWalk.i64_in _ (by omega)
  clear hbk h h0 hm hbyte hft ht hb
  go_enter Try.func82, Try.ntmps82
  go_wp2_with fail
  refine HB.out.mono ?_
  rintro e w1 ⟨rfl, rfl⟩
  go_wp2_with fail
  refine (must_false _).mono ?_
  rintro e w2 ⟨rfl, rfl⟩
  exact ⟨rfl, rfl, Touch.of_set _ _ rfl⟩
set_option maxHeartbeats 1000000 in
set_option maxRecDepth 100000 in
theorem rgreat_ok (w : World) (p : Nat) (s : ByteArray) (h : RdAt w p s) (h8 : 8 ≤ s.size) (hs : s.size ≤ 9223372036854775807) :
    Calls Try.prog 83 #[.pointer (some ⟨p, 0, none⟩)] w fun e w' => e = .returned (.int .u64 (numL (s.extract 0 8).data.toList : Int)) ∧ w' = w.setCell ⟨p, 0, none⟩ (.string (s.extract 8 s.size)) := by
  have hb := bytes_ok w p s h 8 h8 hs
  have HB := Lib.hid hb
  have hsz : (s.extract 0 8).size ≤ 8 := by rw [ByteArray.size_extract]; omega
  obtain ⟨t, ht⟩ : ∃ t, s.extract 0 8 = t := ⟨_, rfl⟩
  rw [ht] at HB hsz
  rw [ht]
  clear hb h ht
  go_enter Try.func83, Try.ntmps83
  go_wp2_with fail
  refine HB.out.mono ?_
  rintro e w1 ⟨rfl, rfl⟩
  go_wp2_with fail
  refine (number_any t _ hsz).mono ?_
  rintro e w2 ⟨rfl, rfl⟩
  go_wp2
  go_ret
  exact ⟨rfl, rfl⟩
theorem rgreat_bad (w : World) (p : Nat) (s : ByteArray) (h : RdAt w p s) (h8 : ¬ 8 ≤ s.size) :
    Calls Try.prog 83 #[.pointer (some ⟨p, 0, none⟩)] w fun e w' => e = .panicked stops ∧ w' = w := by
  have hb := bytes_bad w p s h 8 h8
  have HB := Lib.hid hb
  clear hb h
  go_enter Try.func83, Try.ntmps83
  go_wp2_with fail
  refine HB.out.mono ?_
  rintro e w1 ⟨rfl, rfl⟩
  exact ⟨rfl, rfl, rfl⟩
end Go.Proofs.Ytgacphicgglogaa
