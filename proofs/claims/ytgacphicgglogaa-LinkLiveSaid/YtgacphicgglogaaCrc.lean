/- Plain laws of the sum: its step is linear and loses nothing. -/
import Derived.WalkKit
namespace Go.Proofs.Ytgacphicgglogaa
namespace Crc

def poly : Nat := 3988292384
def ones : Nat := 4294967295
def stp (n : Nat) : Nat := if n % 2 = 1 then (n / 2) ^^^ poly else n / 2
def stps : Nat → Nat → Nat
  | 0, n => n
  | k + 1, n => stps k (stp n)
def stp8 (n : Nat) : Nat := stps 8 n
def crcB (n : Nat) (b : UInt8) : Nat := stp8 (n ^^^ b.toNat)
def crcS (n : Nat) (l : List UInt8) : Nat := l.foldl crcB n
def crc (l : List UInt8) : Nat := crcS ones l ^^^ ones

theorem stps_succ' (k n : Nat) : stps (k + 1) n = stp (stps k n) := by
  induction k generalizing n with
  | zero => rfl
  | succ k ih => show stps (k + 1) (stp n) = _; rw [ih]; rfl

theorem stps_add (j k n : Nat) : stps (j + k) n = stps k (stps j n) := by
  induction j generalizing n with
  | zero => rw [Nat.zero_add]; rfl
  | succ j ih => rw [show j + 1 + k = (j + k) + 1 by omega]; show stps (j + k) (stp n) = _; rw [ih]; rfl

/-! ### xor -/
theorem xor_mod2 (a b : Nat) : (a ^^^ b) % 2 = (a % 2 + b % 2) % 2 := by
  have h := Nat.xor_mod_two_pow (a := a) (b := b) (n := 1)
  rw [Nat.pow_one] at h
  rcases Nat.mod_two_eq_zero_or_one a with ha | ha <;> rcases Nat.mod_two_eq_zero_or_one b with hb | hb <;> rw [ha, hb] at h <;> rw [h, ha, hb] <;> rfl
theorem xor_div2 (a b : Nat) : (a ^^^ b) / 2 = (a / 2) ^^^ (b / 2) := by
  have := Nat.shiftRight_xor_distrib (a := a) (b := b) (i := 1)
  simpa [Nat.shiftRight_eq_div_pow] using this
theorem xor_div256 (a b : Nat) : (a ^^^ b) / 256 = (a / 256) ^^^ (b / 256) := by
  have := Nat.shiftRight_xor_distrib (a := a) (b := b) (i := 8)
  simpa [Nat.shiftRight_eq_div_pow] using this
theorem xor_mod256 (a b : Nat) : (a ^^^ b) % 256 = (a % 256) ^^^ (b % 256) := by
  have := Nat.xor_mod_two_pow (a := a) (b := b) (n := 8)
  simpa using this
theorem xor_swap4 (a b c d : Nat) : (a ^^^ b) ^^^ (c ^^^ d) = (a ^^^ c) ^^^ (b ^^^ d) := by
  rw [Nat.xor_assoc, Nat.xor_assoc, ← Nat.xor_assoc b c d, Nat.xor_comm b c, Nat.xor_assoc c b d]
theorem xor_cancel (a b : Nat) : (a ^^^ b) ^^^ b = a := by rw [Nat.xor_assoc, Nat.xor_self, Nat.xor_zero]
theorem xor_inj {a b c : Nat} (h : a ^^^ c = b ^^^ c) : a = b := by rw [← xor_cancel a c, h, xor_cancel]
theorem xor_eq_zero {a b : Nat} (h : a ^^^ b = 0) : a = b := by
  have := congrArg (· ^^^ b) h
  simpa [xor_cancel] using this

theorem stp_xor (a b : Nat) : stp (a ^^^ b) = stp a ^^^ stp b := by
  have h1 := xor_mod2 a b
  unfold stp
  rw [xor_div2]
  rcases Nat.mod_two_eq_zero_or_one a with ha | ha <;> rcases Nat.mod_two_eq_zero_or_one b with hb | hb <;> rw [ha, hb] at h1 <;> rw [h1, ha, hb] <;> simp only [if_true, Nat.reduceAdd, Nat.reduceMod, Nat.zero_ne_one, if_false]
  · rw [Nat.xor_assoc]
  · rw [Nat.xor_assoc, Nat.xor_comm (b / 2) poly, ← Nat.xor_assoc]
  · rw [xor_swap4, Nat.xor_self, Nat.xor_zero]

theorem stps_xor (k a b : Nat) : stps k (a ^^^ b) = stps k a ^^^ stps k b := by
  induction k generalizing a b with
  | zero => rfl
  | succ k ih => show stps k (stp (a ^^^ b)) = _; rw [stp_xor, ih]; rfl

theorem stps_zero (k : Nat) : stps k 0 = 0 := by
  induction k with
  | zero => rfl
  | succ k ih => show stps k (stp 0) = 0; exact ih

theorem poly_lt : poly < 4294967296 := by unfold poly; omega
theorem xor_lt32 {a b : Nat} (ha : a < 4294967296) (hb : b < 4294967296) : a ^^^ b < 4294967296 := Nat.xor_lt_two_pow (n := 32) ha hb
theorem stp_lt {n : Nat} (h : n < 4294967296) : stp n < 4294967296 := by
  unfold stp
  split
  · exact xor_lt32 (by omega) poly_lt
  · omega
theorem stps_lt (k : Nat) {n : Nat} (h : n < 4294967296) : stps k n < 4294967296 := by
  induction k generalizing n with
  | zero => exact h
  | succ k ih => exact ih (stp_lt h)
theorem byte_lt (b : UInt8) : b.toNat < 256 := UInt8.toNat_lt b
theorem crcB_lt {n : Nat} (h : n < 4294967296) (b : UInt8) : crcB n b < 4294967296 := stps_lt 8 (xor_lt32 h (by have := byte_lt b; omega))
theorem crcS_lt {n : Nat} (h : n < 4294967296) (l : List UInt8) : crcS n l < 4294967296 := by
  induction l generalizing n with
  | nil => exact h
  | cons b l ih => exact ih (crcB_lt h b)
theorem ones_lt : ones < 4294967296 := by unfold ones; omega
theorem crc_lt (l : List UInt8) : crc l < 4294967296 := xor_lt32 (crcS_lt ones_lt l) ones_lt

/-- Nothing is lost. -/
theorem stp_eq_zero {n : Nat} (h : n < 4294967296) (h0 : stp n = 0) : n = 0 := by
  unfold stp at h0
  split at h0
  · have := xor_eq_zero h0
    unfold poly at this
    omega
  · omega
theorem stps_eq_zero (k : Nat) {n : Nat} (h : n < 4294967296) (h0 : stps k n = 0) : n = 0 := by
  induction k generalizing n with
  | zero => exact h0
  | succ k ih => exact stp_eq_zero h (ih (stp_lt h) h0)
theorem stps_inj (k : Nat) {a b : Nat} (ha : a < 4294967296) (hb : b < 4294967296) (h : stps k a = stps k b) : a = b := by
  have h1 : stps k (a ^^^ b) = 0 := by rw [stps_xor, h, Nat.xor_self]
  exact xor_eq_zero (stps_eq_zero k (xor_lt32 ha hb) h1)

/-! ### eight steps at once -/
theorem stp_even (n : Nat) : stp (2 * n) = n := by
  unfold stp
  rw [if_neg (by omega)]
  omega
theorem stps_shift (k n : Nat) : stps k (2 ^ k * n) = n := by
  induction k generalizing n with
  | zero => simp [stps]
  | succ k ih =>
    show stps k (stp (2 ^ (k + 1) * n)) = n
    rw [show 2 ^ (k + 1) * n = 2 * (2 ^ k * n) by rw [Nat.pow_succ, Nat.mul_comm (2 ^ k) 2, Nat.mul_assoc], stp_even, ih]
theorem split256 (x : Nat) : x = (256 * (x / 256)) ^^^ (x % 256) := by
  have h := Nat.two_pow_add_eq_or_of_lt (i := 8) (b := x % 256) (Nat.mod_lt _ (by decide)) (x / 256)
  have hx : x = 2 ^ 8 * (x / 256) + x % 256 := by omega
  have hand : (256 * (x / 256)) &&& (x % 256) = 0 := by
    apply Nat.eq_of_testBit_eq
    intro i
    rw [Nat.testBit_and, Nat.zero_testBit, show (256 : Nat) = 2 ^ 8 from rfl, Nat.testBit_two_pow_mul, Nat.testBit_mod_two_pow]
    by_cases hi : 8 ≤ i
    · simp [show ¬ i < 8 by omega]
    · simp [hi]
  have hor : ∀ a b : Nat, a &&& b = 0 → a ||| b = a ^^^ b := by
    intro a b hab
    apply Nat.eq_of_testBit_eq
    intro i
    have := congrArg (fun n => Nat.testBit n i) hab
    simp only [Nat.testBit_and, Nat.zero_testBit] at this
    rw [Nat.testBit_or, Nat.testBit_xor]
    revert this
    cases a.testBit i <;> cases b.testBit i <;> simp
  rw [← hor _ _ hand]
  rw [show (256 : Nat) * (x / 256) = 2 ^ 8 * (x / 256) from rfl, ← h]
  exact hx
theorem stp8_split (x : Nat) : stp8 x = (x / 256) ^^^ stp8 (x % 256) := by
  have h := split256 x
  unfold stp8
  conv => lhs; rw [h]
  rw [stps_xor, show (256 : Nat) * (x / 256) = 2 ^ 8 * (x / 256) from rfl, stps_shift]
/-- A byte by the table. -/
theorem crcB_table (n : Nat) (b : UInt8) : crcB n b = (n / 256) ^^^ stp8 ((n % 256) ^^^ b.toNat) := by
  have hb := byte_lt b
  unfold crcB
  rw [stp8_split, xor_div256, xor_mod256, Nat.div_eq_of_lt hb, Nat.xor_zero, Nat.mod_eq_of_lt hb]

theorem crcB_xor (n m : Nat) (a b : UInt8) : crcB (n ^^^ m) (a ^^^ b) = crcB n a ^^^ crcB m b := by
  unfold crcB
  rw [UInt8.toNat_xor, xor_swap4]
  exact stps_xor 8 _ _

/-! ### four bytes of a number, the lowest first -/
def le4 (n : Nat) : List UInt8 := [UInt8.ofNat n, UInt8.ofNat (n / 256), UInt8.ofNat (n / 65536), UInt8.ofNat (n / 16777216)]
def num4 (l : List UInt8) : Nat := match l with
  | [a, b, c, d] => a.toNat + 256 * (b.toNat + 256 * (c.toNat + 256 * d.toNat))
  | _ => 0

theorem stp8_mod (x n : Nat) (b : UInt8) (m : Nat) : stps 8 (n ^^^ (b.toNat + 256 * m)) = crcB n b ^^^ m ∧ x = x := by
  refine ⟨?_, rfl⟩
  have hb := byte_lt b
  have h := split256 (b.toNat + 256 * m)
  rw [show (b.toNat + 256 * m) / 256 = m by omega, show (b.toNat + 256 * m) % 256 = b.toNat by omega] at h
  rw [h, Nat.xor_comm (256 * m), ← Nat.xor_assoc, stps_xor, show (256 : Nat) * m = 2 ^ 8 * m from rfl, stps_shift]
  rfl

/-- Four bytes behind a state: thirty-two steps of the state and their number. -/
theorem crcS_four (n : Nat) (a b c d : UInt8) : crcS n [a, b, c, d] = stps 32 (n ^^^ num4 [a, b, c, d]) := by
  have e : ∀ x, stps 32 x = stps 8 (stps 8 (stps 8 (stps 8 x))) := by
    intro x
    rw [← stps_add, ← stps_add, ← stps_add]
  rw [e]
  simp only [num4]
  rw [(stp8_mod 0 _ _ _).1, (stp8_mod 0 _ _ _).1, (stp8_mod 0 _ _ _).1]
  rfl

theorem num4_lt (a b c d : UInt8) : num4 [a, b, c, d] < 4294967296 := by
  have := byte_lt a; have := byte_lt b; have := byte_lt c; have := byte_lt d
  simp only [num4]; omega
theorem num4_le4 {n : Nat} (h : n < 4294967296) : num4 (le4 n) = n := by
  simp only [num4, le4, UInt8.toNat_ofNat']
  omega
theorem le4_num4 (a b c d : UInt8) : le4 (num4 [a, b, c, d]) = [a, b, c, d] := by
  have := byte_lt a; have := byte_lt b; have := byte_lt c; have := byte_lt d
  have h : ∀ (x : UInt8) (n : Nat), n % 256 = x.toNat → UInt8.ofNat n = x := fun x n hn => UInt8.toNat_inj.1 (by rw [UInt8.toNat_ofNat']; exact hn)
  simp only [num4, le4, List.cons.injEq, and_true]
  exact ⟨h _ _ (by omega), h _ _ (by omega), h _ _ (by omega), h _ _ (by omega)⟩
theorem le4_length (n : Nat) : (le4 n).length = 4 := rfl

end Crc
end Go.Proofs.Ytgacphicgglogaa
