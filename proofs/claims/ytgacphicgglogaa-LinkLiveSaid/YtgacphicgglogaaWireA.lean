/- Numbers as eight bytes: the plain law; the contracts of eight and number, and of the reference's. -/
import Derived.Test.YtgacphicgglogaaSumG
namespace Go.Proofs.Ytgacphicgglogaa
set_option linter.unusedVariables false
open Go.RowKit Crc

/-- The number that bytes make, the lowest first. -/
def numL : List UInt8 → Nat
  | [] => 0
  | b :: l => b.toNat + 256 * numL l
theorem numL_lt : ∀ l : List UInt8, numL l < 256 ^ l.length
  | [] => by simp [numL]
  | b :: l => by
    have := numL_lt l
    have := UInt8.toNat_lt b
    rw [List.length_cons, Nat.pow_succ]
    unfold numL
    omega
theorem numL_append : ∀ a b : List UInt8, numL (a ++ b) = numL a + 256 ^ a.length * numL b
  | [], b => by simp [numL]
  | x :: a, b => by
    rw [List.cons_append, numL, numL_append a b, numL, List.length_cons, Nat.pow_succ, Nat.mul_add, ← Nat.add_assoc, ← Nat.mul_assoc, Nat.mul_comm 256 (256 ^ a.length)]
theorem numL_snoc (a : List UInt8) (b : UInt8) : numL (a ++ [b]) = numL a + 256 ^ a.length * b.toNat := by
  rw [numL_append]; simp [numL]
theorem numL_le4to (n : Nat) : ∀ k, numL (le4to n k) = n % 256 ^ k
  | 0 => by simp [le4to, numL, Nat.mod_one]
  | k + 1 => by
    rw [le4to, numL_snoc, numL_le4to n k, le4to_len, UInt8.toNat_ofNat', show (2 : Nat) ^ 8 = 256 from rfl, Nat.pow_succ, Nat.mod_mul]
theorem numL_le8 {n : Nat} (h : n < 18446744073709551616) : numL (le4to n 8) = n := by
  rw [numL_le4to, Nat.mod_eq_of_lt h]
theorem le4to_congr (n m : Nat) : ∀ k, n % 256 ^ k = m % 256 ^ k → le4to n k = le4to m k
  | 0, _ => rfl
  | k + 1, h => by
    have h1 : n % 256 ^ k = m % 256 ^ k := by
      have e1 := Nat.mod_mul_right_mod n (256 ^ k) 256
      have e2 := Nat.mod_mul_right_mod m (256 ^ k) 256
      rw [← Nat.pow_succ] at e1 e2
      rw [← e1, ← e2, h]
    rw [le4to, le4to, le4to_congr n m k h1]
    congr 2
    have e1 := Nat.mod_mul_right_div_self n (256 ^ k) 256
    have e2 := Nat.mod_mul_right_div_self m (256 ^ k) 256
    rw [← Nat.pow_succ] at e1 e2
    apply UInt8.toNat_inj.1
    rw [UInt8.toNat_ofNat', UInt8.toNat_ofNat', show (2 : Nat) ^ 8 = 256 from rfl, ← e1, ← e2, h]
theorem le4to_numL : ∀ l : List UInt8, le4to (numL l) l.length = l := by
  intro l
  induction h : l.length generalizing l with
  | zero => rw [List.eq_nil_of_length_eq_zero h]; rfl
  | succ k ih =>
    have hl : l ≠ [] := fun e => by rw [e] at h; cases h
    have hd := List.dropLast_concat_getLast hl
    have hk : l.dropLast.length = k := by rw [List.length_dropLast]; omega
    have hn := numL_snoc l.dropLast (l.getLast hl)
    rw [hd, hk] at hn
    have hlt := numL_lt l.dropLast
    rw [hk] at hlt
    rw [le4to]
    have h1 : le4to (numL l) k = l.dropLast := by
      rw [← ih l.dropLast hk]
      refine le4to_congr _ _ k ?_
      rw [hn, Nat.add_mul_mod_self_left]
    have h2 : numL l / 256 ^ k = (l.getLast hl).toNat := by
      rw [hn, Nat.add_mul_div_left _ _ (Nat.pow_pos (by omega)), Nat.div_eq_of_lt hlt, Nat.zero_add]
    rw [h1, h2, UInt8.ofNat_toNat, hd]

def le8 (n : Nat) : List UInt8 := le4to n 8
theorem le8_len (n : Nat) : (le8 n).length = 8 := le4to_len n 8
theorem le8_num (l : List UInt8) (h : l.length = 8) : le8 (numL l) = l := by
  have := le4to_numL l
  rw [h] at this
  exact this
theorem num_le8 {n : Nat} (h : n < 18446744073709551616) : numL (le8 n) = n := numL_le8 h

theorem refEight_any (n : Nat) (w : World) (hn : n < 18446744073709551616) :
    Calls Try.prog 48 #[.int .u64 (n : Int)] w fun e w' => e = .returned (.string ⟨(le8 n).toArray⟩) ∧ Below w.heap.size w w' := by
  go_enter Try.func48, Try.ntmps48
  go_wp2
  go_loopw [0, 3, 4] (fun v o i wr => ∃ k : Nat, k ≤ 8 ∧ i = .int .i64 k ∧ v = .int .u64 (n / 256 ^ k : Nat) ∧ o = .string ⟨(le4to n k).toArray⟩ ∧ Below w.heap.size w wr) (fun _ _ i _ => 8 - (intOf i).toNat)
  case atStart => exact ⟨0, by omega, rfl, by simp, rfl, Below.refl _ _⟩
  case round =>
    obtain ⟨k, hk, rfl, rfl, rfl, hb⟩ := hrel
    by_cases hlt : k < 8
    · have hk1 : (k : Int) < 8 := by omega
      have happ : (⟨(le4to n k).toArray⟩ : ByteArray) ++ ⟨[UInt8.ofNat (n / 256 ^ k)].toArray⟩ = ⟨(le4to n (k + 1)).toArray⟩ := by
        apply ByteArray.ext
        apply Array.toList_inj.1
        simp [le4to]
      have HA := Lib.hid happ
      clear happ
      have hsz : (⟨(le4to n k).toArray⟩ : ByteArray).size ≤ 8 := by
        show (le4to n k).toArray.size ≤ 8
        rw [List.size_toArray, le4to_len]; omega
      have hdiv : n / 256 ^ k / 256 = n / 256 ^ (k + 1) := by rw [Nat.div_div_eq_div_mul, ← Nat.pow_succ]
      have HD := Lib.hid hdiv
      have hyl : n / 256 ^ k < 18446744073709551616 := Nat.lt_of_le_of_lt (Nat.div_le_self _ _) hn
      clear hdiv
      generalize (⟨(le4to n k).toArray⟩ : ByteArray) = t at *
      generalize n / 256 ^ k = y at *
      have hone : (⟨[UInt8.ofNat y].toArray⟩ : ByteArray).size = 1 := rfl
      have hv : byteVals [UInt8.ofNat y] = [.int .u8 ((y : Int) % 256)] := by
        simp only [byteVals, List.map_cons, List.map_nil]
        rw [show ((UInt8.ofNat y).toNat : Int) = (y : Int) % 256 by rw [UInt8.toNat_ofNat']; omega]
      have hrow : Row (wr.alloc (.cells #[.int .u8 ((y : Int) % 256)] 5)) wr.heap.size 5 (byteVals [UInt8.ofNat y]) := by
        rw [hv]; exact Row.of_blk (Blk.new _ _ _)
      clear hv
      go_wp2_with (refine wpList_unbytes rfl (.tmp 13) 75 9 5 rfl Try.underlying75 Try.underlying5 Try.underlying9 wr.heap.size 1 1 [UInt8.ofNat y] rfl rfl hrow ?_; generalize (⟨[UInt8.ofNat y].toArray⟩ : ByteArray) = t1 at *)
      go_roundw
      case rel => exact ⟨k + 1, by omega, by go_num, by rw [← HD.out]; go_num, by rw [← HA.out], hb.alloc hb.size _⟩
      case measure => simp [intOf]; omega
    · obtain rfl : k = 8 := by omega
      go_wp2
      go_ret
      exact ⟨rfl, hb⟩

/-- 'string(b)', b's bytes known cell by cell. -/
theorem wpList_unbytes_at {P : Program} {w : World} {ops : Array Oper} {rest : List Oper} {o : Oper} {a : Act} {Q : Exit → Act → World → Prop} (hgd : o.guard = none) (x : Operand) (src dst e : TypeId)
    (ho : o.op = .convert src dst x) (hs : P.underlying src = some (.slice e)) (he : P.underlying e = some (.int .u8)) (hd : P.underlying dst = some .string) (ad : Addr) (n cap : Nat) (l : List UInt8) (hx : a.eval x = .slice (some ad) n cap) (hn : l.length = n)
    (hrow : ∀ j u, (byteVals l)[j]? = some u → w.cell? (ad.add j) = some u) (h : wpList P ops Q rest (a.put o.dst (.string ⟨l.toArray⟩)) w) :
    wpList P ops Q (o :: rest) a w := by
  refine wpList_plain hgd fun K hK => ?_
  subst hn
  have hr := run_convert_bytes_back (P := P) w src dst e ad cap l hs he hd (fun j hj => hrow j _ (by simp [byteVals, hj]))
  unfold Oper.wp execOp
  simp only [ho, hx, Sem.run_bind, hr, Result.andThen_ok, Sem.run_pure, Oper.upon]
  exact hK _ _ h

def eightTo (n k : Nat) : List Value := byteVals (le4to n k) ++ List.replicate (8 - k) (.int .u8 0)
theorem eightTo_len (n k : Nat) (h : k ≤ 8) : (eightTo n k).length = 8 := by simp [eightTo, byteVals, le4to_len]; omega
theorem eightTo_set (n k : Nat) (h : k < 8) : (eightTo n k).set k (.int .u8 ((n / 256 ^ k : Nat) % 256)) = eightTo n (k + 1) := by
  have hl : (byteVals (le4to n k)).length = k := by simp [byteVals, le4to_len]
  unfold eightTo
  rw [show 8 - k = (8 - (k + 1)) + 1 by omega, List.replicate_succ, List.set_append_right _ _ (by omega), hl, Nat.sub_self, List.set_cons_zero, le4to]
  simp only [byteVals, List.map_append, List.map_cons, List.map_nil, List.append_assoc, List.singleton_append, UInt8.toNat_ofNat']
  congr 3
theorem pow_8k (k : Nat) : (2 : Int) ^ (8 * k) = ((256 ^ k : Nat) : Int) := by
  rw [show (256 : Nat) ^ k = 2 ^ (8 * k) by rw [Nat.pow_mul]]
  rw [Int.natCast_pow]
  rfl
theorem shr_val (n k : Nat) : (n : Int) / 2 ^ (8 * k) % 256 = ((n / 256 ^ k : Nat) : Int) % 256 := by
  rw [pow_8k, Int.natCast_ediv]
theorem shl_val (y k : Nat) (b : UInt8) (hk : k < 8) (hy : y < 256 ^ k) : bits .or .u64 (y : Int) (IntKind.u64.wrap (IntKind.u64.wrap (b.toNat : Int) * 2 ^ (8 * k))) = ((y + 256 ^ k * b.toNat : Nat) : Int) := by
  have hb := UInt8.toNat_lt b
  have hp : 256 ^ k * 256 ≤ 18446744073709551616 := by
    rw [← Nat.pow_succ]
    exact Nat.pow_le_pow_right (n := 256) (by omega) (show k + 1 ≤ 8 by omega)
  have hm : b.toNat * 256 ^ k < 18446744073709551616 := by
    have : b.toNat * 256 ^ k < 256 * 256 ^ k := Nat.mul_lt_mul_of_pos_right hb (Nat.pow_pos (by omega))
    omega
  have hyl : y < 18446744073709551616 := by omega
  rw [IntWalk.u64_in (b.toNat : Int) (by omega), pow_8k, ← Int.natCast_mul, IntWalk.u64_in _ (by omega), u64_or_nat _ _ hyl hm]
  congr 1
  rw [Nat.mul_comm b.toNat, Nat.or_comm]
  have e : (256 : Nat) ^ k = 2 ^ (8 * k) := by rw [Nat.pow_mul]
  rw [e] at hy ⊢
  rw [← Nat.two_pow_add_eq_or_of_lt hy, Nat.add_comm]
theorem eightTo_at (n k : Nat) (h : k < 8) : (eightTo n k)[k]? = some (.int .u8 0) := by
  have hl : (byteVals (le4to n k)).length = k := by simp [byteVals, le4to_len]
  unfold eightTo
  rw [List.getElem?_append_right (by omega), hl, Nat.sub_self, show 8 - k = (8 - (k + 1)) + 1 by omega, List.replicate_succ]
  rfl

theorem eight_any (n : Nat) (w : World) (hn : n < 18446744073709551616) :
    Calls Try.prog 63 #[.int .u64 (n : Int)] w fun e w' => e = .returned (.string ⟨(le8 n).toArray⟩) ∧ Below w.heap.size w w' := by
  have hz : ∀ w, (zeroValue 145).run Try.prog w = .ok (.agg #[.int .u8 0, .int .u8 0, .int .u8 0, .int .u8 0, .int .u8 0, .int .u8 0, .int .u8 0, .int .u8 0]) w := fun _ => by kernel_rfl
  go_enter Try.func63, Try.ntmps63
  have hB0 : Blk (w.alloc (.cells #[.int .u8 0, .int .u8 0, .int .u8 0, .int .u8 0, .int .u8 0, .int .u8 0, .int .u8 0, .int .u8 0] 145)) w.heap.size 145 (eightTo n 0).toArray := Blk.new _ _ _
  have hs0 : Below w.heap.size w (w.alloc (.cells #[.int .u8 0, .int .u8 0, .int .u8 0, .int .u8 0, .int .u8 0, .int .u8 0, .int .u8 0, .int .u8 0] 145)) := (Below.refl _ _).alloc (Nat.le_refl _) _
  go_wp2
  go_loopw [5] (fun i wr => ∃ k : Nat, k ≤ 8 ∧ i = .int .i64 k ∧ Below w.heap.size w wr ∧ Blk wr w.heap.size 145 (eightTo n k).toArray) (fun i _ => 8 - (intOf i).toNat)
  case atStart => exact ⟨0, by omega, rfl, hs0, hB0⟩
  case round =>
    obtain ⟨k, hk, rfl, hb, hB⟩ := hrel
    clear hs0 hB0
    by_cases hlt : k < 8
    · have hk1 : (k : Int) < 8 := by omega
      have hc := hB.cell k
      rw [List.getElem?_toArray, eightTo_at n k hlt] at hc
      have hf := hB.frozen k
      have hv := Lib.hid (shr_val n k)
      go_wp2
      go_roundw
      case rel => exact ⟨k + 1, by omega, by go_num, hb.setCell (p := ⟨w.heap.size, k, none⟩) (Nat.le_refl _) _, by
        rw [hv.out]
        have h1 := hB.set_ k (.int .u8 (((n / 256 ^ k : Nat) : Int) % 256))
        rw [List.setIfInBounds_toArray, eightTo_set n k hlt] at h1
        exact h1⟩
      case measure => simp [intOf]; omega
    · obtain rfl : k = 8 := by omega
      have hall : ∀ j u, (byteVals (le8 n))[j]? = some u → wr.cell? ((⟨w.heap.size, 0, none⟩ : Addr).add j) = some u := fun j u hu => by
        rw [show (⟨w.heap.size, 0, none⟩ : Addr).add j = ⟨w.heap.size, j, none⟩ by unfold Addr.add; split <;> simp_all, hB.cell j, List.getElem?_toArray]
        rw [show eightTo n 8 = byteVals (le8 n) by simp [eightTo, le8]]
        exact hu
      go_wp2_with (refine wpList_unbytes_at rfl (.tmp 16) 75 9 5 rfl Try.underlying75 Try.underlying5 Try.underlying9 _ 8 8 (le8 n) rfl (le8_len n) hall ?_)
      go_ret
      exact ⟨rfl, hb⟩

theorem number_any (s : ByteArray) (w : World) (hs : s.size ≤ 8) :
    Calls Try.prog 65 #[.string s] w fun e w' => e = .returned (.int .u64 (numL s.data.toList : Int)) ∧ w = w' := by
  go_enter Try.func65, Try.ntmps65
  go_wp2
  go_loop [7, 3] (fun i v => ∃ k : Nat, k ≤ s.size ∧ i = .int .i64 k ∧ v = .int .u64 (numL (s.data.toList.take k) : Int)) (fun i _ => s.size - (intOf i).toNat)
  case atStart => exact ⟨0, by omega, rfl, rfl⟩
  case round =>
    obtain ⟨k, hk, rfl, rfl⟩ := hrel
    by_cases hlt : k < s.size
    · have hk1 : (k : Int) < (s.size : Int) := by omega
      have hll : (s.data.toList.take k).length = k := by simp; omega
      have hnl := numL_lt (s.data.toList.take k)
      rw [hll] at hnl
      have hts := take_snoc s k hlt
      have hns := numL_snoc (s.data.toList.take k) s[k]
      rw [← hts, hll] at hns
      have HNS := Lib.hid hns
      clear hns hts
      generalize numL (s.data.toList.take k) = y at *
      have HV := Lib.hid (shl_val y k s[k] (by omega) hnl)
      go_wp2
      go_round
      case rel => exact ⟨k + 1, by omega, by go_num, by rw [HV.out, HNS.out]⟩
      case measure => simp [intOf]; omega
    · obtain rfl : k = s.size := by omega
      rw [show s.data.toList.take s.size = s.data.toList from List.take_of_length_le (by simp)]
      go_wp2
      go_ret
      exact ⟨rfl, rfl⟩

theorem refNumber_any (s : ByteArray) (w : World) (hs : s.size ≤ 8) :
    Calls Try.prog 59 #[.string s] w fun e w' => e = .returned (.int .u64 (numL s.data.toList : Int)) ∧ w = w' := by
  go_enter Try.func59, Try.ntmps59
  go_wp2
  go_loop [4, 3] (fun i v => ∃ k : Nat, k ≤ s.size ∧ i = .int .i64 ((k : Int) - 1) ∧ v = .int .u64 (numL (s.data.toList.drop k) : Int)) (fun i _ => (intOf i + 1).toNat)
  case atStart => exact ⟨s.size, Nat.le_refl _, rfl, by rw [List.drop_of_length_le (by simp)]; rfl⟩
  case round =>
    obtain ⟨k, hk, rfl, rfl⟩ := hrel
    cases k with
    | zero =>
      rw [show ((0 : Nat) : Int) - 1 = -1 from rfl]
      go_wp2
      go_ret
      exact ⟨rfl, rfl⟩
    | succ k =>
      rw [show ((k + 1 : Nat) : Int) - 1 = (k : Int) by omega]
      have hlt : k < s.size := by omega
      have hk1 : (k : Int) < (s.size : Int) := by omega
      have hll : (s.data.toList.drop (k + 1)).length = s.size - (k + 1) := by simp
      have hnl := numL_lt (s.data.toList.drop (k + 1))
      rw [hll] at hnl
      have hpl : 256 ^ (s.size - (k + 1)) ≤ 256 ^ 7 := Nat.pow_le_pow_right (by omega) (by omega)
      have hns : numL (s.data.toList.drop k) = s[k].toNat + 256 * numL (s.data.toList.drop (k + 1)) := by
        rw [List.drop_eq_getElem_cons (by simpa using hlt)]
        rfl
      have HNS := Lib.hid hns
      clear hns
      generalize numL (s.data.toList.drop (k + 1)) = y at *
      have hy : y < 72057594037927936 := by omega
      have hb := UInt8.toNat_lt s[k]
      have HV := Lib.hid (show ((y : Int) * 256 + (s[k].toNat : Int)) = ((s[k].toNat + 256 * y : Nat) : Int) by omega)
      have hw0 : IntKind.u64.wrap (s[k].toNat : Int) = (s[k].toNat : Int) := IntWalk.u64_in _ (by omega)
      have hw1 : IntKind.u64.wrap ((y : Int) * 256) = (y : Int) * 256 := IntWalk.u64_in _ (by omega)
      have hw2 : IntKind.u64.wrap ((y : Int) * 256 + (s[k].toNat : Int)) = (y : Int) * 256 + (s[k].toNat : Int) := IntWalk.u64_in _ (by omega)
      clear hnl hpl hll
      go_wp2
      go_round
      case rel => exact ⟨k, by omega, rfl, by rw [HNS.out]; first | rw [HV.out] | go_num⟩
      case measure => simp [intOf]

end Go.Proofs.Ytgacphicgglogaa
