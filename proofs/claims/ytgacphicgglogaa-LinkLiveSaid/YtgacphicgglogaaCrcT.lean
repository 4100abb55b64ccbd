/- Plain laws: the sum tells every burst of four bytes; of three texts and their xor the sums are so too. -/
import Derived.Test.YtgacphicgglogaaCrc
namespace Go.Proofs.Ytgacphicgglogaa
namespace Crc

def xorL (a b : List UInt8) : List UInt8 := List.zipWith (· ^^^ ·) a b

theorem crcS_xor : ∀ (a b : List UInt8) (n m : Nat), a.length = b.length → crcS (n ^^^ m) (xorL a b) = crcS n a ^^^ crcS m b := by
  intro a
  induction a with
  | nil => intro b n m h; cases b with
    | nil => rfl
    | cons _ _ => cases h
  | cons x a ih => intro b n m h; cases b with
    | nil => cases h
    | cons y b =>
      show crcS (crcB (n ^^^ m) (x ^^^ y)) (xorL a b) = crcS (crcB n x) a ^^^ crcS (crcB m y) b
      rw [crcB_xor]
      exact ih b _ _ (by simpa using h)

theorem crcS_zeros (k n : Nat) : crcS n (List.replicate k 0) = stps (8 * k) n := by
  induction k generalizing n with
  | zero => rfl
  | succ k ih =>
    show crcS (crcB n 0) (List.replicate k 0) = _
    rw [ih, show 8 * (k + 1) = 8 + 8 * k by omega, stps_add]
    unfold crcB
    rw [show (0 : UInt8).toNat = 0 from rfl, Nat.xor_zero]
    rfl

theorem crcS_append (n : Nat) (a b : List UInt8) : crcS n (a ++ b) = crcS (crcS n a) b := by unfold crcS; rw [List.foldl_append]

theorem check_iff (u : List UInt8) (a b c d : UInt8) : le4 (crc u) = [a, b, c, d] ↔ crcS ones (u ++ [a, b, c, d]) = stps 32 ones := by
  rw [crcS_append, crcS_four]
  have hu := crcS_lt ones_lt u
  have hn := num4_lt a b c d
  constructor
  · intro h
    have h1 : crc u = num4 [a, b, c, d] := by rw [← h, num4_le4 (crc_lt u)]
    have h2 : crcS ones u ^^^ num4 [a, b, c, d] = ones := by
      rw [← h1]; unfold crc
      rw [← Nat.xor_assoc, Nat.xor_self, Nat.zero_xor]
    rw [h2]
  · intro h
    have h2 := stps_inj 32 (xor_lt32 hu hn) ones_lt h
    have h3 : crc u = num4 [a, b, c, d] := by
      have h4 : crcS ones u ^^^ ones = crcS ones u ^^^ (crcS ones u ^^^ num4 [a, b, c, d]) := by rw [h2]
      unfold crc
      rw [h4, ← Nat.xor_assoc, Nat.xor_self, Nat.zero_xor]
    rw [h3, le4_num4]

theorem num4_zero (a b c d : UInt8) : num4 [a, b, c, d] = 0 ↔ a = 0 ∧ b = 0 ∧ c = 0 ∧ d = 0 := by
  have h0 : ∀ x : UInt8, x = 0 ↔ x.toNat = 0 := fun x => by rw [← UInt8.toNat_inj]; rfl
  rw [h0, h0, h0, h0]
  simp only [num4]
  omega

/-- Four bytes are turned, from place k on. -/
def burst (k L : Nat) (ms : List UInt8) : List UInt8 := List.replicate k 0 ++ ms ++ List.replicate (L - k) 0

theorem burst_len (k L : Nat) (ms : List UInt8) (hk : k ≤ L) (hm : ms.length = 4) : (burst k L ms).length = L + 4 := by
  simp [burst, hm]; omega

theorem crcS_burst (k L : Nat) (a b c d : UInt8) : crcS 0 (burst k L [a, b, c, d]) = stps (8 * (L - k)) (stps 32 (num4 [a, b, c, d])) := by
  unfold burst
  rw [crcS_append, crcS_append, crcS_zeros (L - k), crcS_zeros k, stps_zero, crcS_four, Nat.zero_xor]

theorem split4 (l : List UInt8) (L : Nat) (h : l.length = L + 4) : ∃ a b c d, l.drop L = [a, b, c, d] := by
  have h1 : (l.drop L).length = 4 := by rw [List.length_drop]; omega
  match hl : l.drop L, h1 with
  | [a, b, c, d], _ => exact ⟨a, b, c, d, rfl⟩

theorem burst_told (s : List UInt8) (k : Nat) (a b c d : UInt8) (hk : k ≤ s.length) (t : List UInt8) (ht : t = xorL (s ++ le4 (crc s)) (burst k s.length [a, b, c, d])) :
    le4 (crc (t.take s.length)) = t.drop s.length ↔ a = 0 ∧ b = 0 ∧ c = 0 ∧ d = 0 := by
  have hb := burst_len k s.length [a, b, c, d] hk rfl
  have hl : t.length = s.length + 4 := by
    rw [ht]; unfold xorL
    rw [List.length_zipWith, hb, List.length_append, le4_length]
    exact Nat.min_self _
  obtain ⟨x, y, z, u, hd⟩ := split4 t s.length hl
  rw [hd, check_iff, ← hd, List.take_append_drop, ht]
  have h1 := crcS_xor (s ++ le4 (crc s)) (burst k s.length [a, b, c, d]) ones 0 (by rw [hb, List.length_append, le4_length])
  rw [Nat.xor_zero] at h1
  rw [h1, crcS_burst]
  have h2 : crcS ones (s ++ le4 (crc s)) = stps 32 ones := by
    have := (check_iff s _ _ _ _).1 (rfl : le4 (crc s) = [_, _, _, _])
    exact this
  rw [h2, ← num4_zero]
  constructor
  · intro h
    have h3 : stps (8 * (s.length - k)) (stps 32 (num4 [a, b, c, d])) = 0 := by
      have := congrArg (· ^^^ stps 32 ones) h
      simp only [Nat.xor_self] at this
      rwa [Nat.xor_comm, ← Nat.xor_assoc, Nat.xor_self, Nat.zero_xor] at this
    exact stps_eq_zero 32 (num4_lt a b c d) (stps_eq_zero _ (stps_lt 32 (num4_lt a b c d)) h3)
  · intro h
    rw [h, stps_zero, stps_zero, Nat.xor_zero]

/-- Three texts and their xor. -/
theorem crc_xor3 (a b c : List UInt8) (h1 : a.length = b.length) (h2 : a.length = c.length) : crc a ^^^ crc b ^^^ crc c = crc (xorL (xorL a b) c) := by
  have e1 := crcS_xor a b ones ones h1
  have hl : (xorL a b).length = c.length := by unfold xorL; rw [List.length_zipWith, ← h1, Nat.min_self, h2]
  have e2 := crcS_xor (xorL a b) c (ones ^^^ ones) ones hl
  rw [Nat.xor_self, Nat.zero_xor] at e2
  rw [Nat.xor_self] at e1
  unfold crc
  rw [e2, e1, xor_swap4 (crcS ones a) ones (crcS ones b) ones, Nat.xor_self, Nat.xor_zero, Nat.xor_assoc (crcS ones a ^^^ crcS ones b)]

theorem xorL_zero (s : List UInt8) (n : Nat) (h : s.length = n) : xorL s (List.replicate n 0) = s := by
  subst h
  induction s with
  | nil => rfl
  | cons a s ih => simp only [xorL, List.length_cons, List.replicate_succ, List.zipWith_cons_cons, UInt8.xor_zero] at ih ⊢; rw [ih]

end Crc
end Go.Proofs.Ytgacphicgglogaa
