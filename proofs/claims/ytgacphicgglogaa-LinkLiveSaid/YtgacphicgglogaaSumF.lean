/- The contracts of Seal and Open, and of the reference's. -/
import Derived.Test.YtgacphicgglogaaSumE
import Derived.Test.YtgacphicgglogaaRegB
namespace Go.Proofs.Ytgacphicgglogaa
set_option linter.unusedVariables false
open Go.RowKit Crc

/-- The sum behind a text. -/
def sealB (s : ByteArray) : ByteArray := s ++ ⟨(le4 (crc s.data.toList)).toArray⟩

theorem seal_any (s : ByteArray) (w : World) (hs : s.size ≤ 140737488351232) :
    Calls Try.prog 62 #[.string s] w fun e w' => e = .returned (.string (sealB s)) ∧ Below w.heap.size w w' := by
  have hl := crc_lt s.data.toList
  have hsz : (⟨(le4 (crc s.data.toList)).toArray⟩ : ByteArray).size = 4 := rfl
  go_enter Try.func62, Try.ntmps62
  go_wp2_with fail
  refine (of_any s w (by unfold maxLen; omega)).mono ?_
  rintro e w1 ⟨rfl, hb1⟩
  generalize hc : crc s.data.toList = c at *
  have HC := Lib.hid hc
  clear hc
  go_wp2_with fail
  refine (four_any c w1 hl).mono ?_
  rintro e w2 ⟨rfl, hb2⟩
  have hfin : s ++ ⟨(le4 c).toArray⟩ = sealB s := by unfold sealB; rw [HC.out]
  have HF := Lib.hid hfin
  clear hfin
  generalize hf : (⟨(le4 c).toArray⟩ : ByteArray) = f at *
  clear hf
  go_wp2
  go_ret
  exact ⟨by rw [← HF.out]; rfl, hb1.trans (hb2.mono hb1.size)⟩

/-- What Open answers. -/
def openOk (s : ByteArray) : Bool := decide (4 ≤ s.size) && decide (le4 (crc (s.data.toList.take (s.size - 4))) = s.data.toList.drop (s.size - 4))

theorem extract_data' (s : ByteArray) (a b : Nat) : (s.extract a b).data.toList = (s.data.toList.drop a).take (b - a) := by
  rw [ByteArray.data_extract, Array.toList_extract]

theorem open_short (s : ByteArray) (w : World) (hs : s.size < 4) :
    Calls Try.prog 64 #[.string s] w fun e w' => e = .returned (.tuple #[.string ByteArray.empty, .int .i64 1]) ∧ Below w.heap.size w w' := by
  go_enter Try.func64, Try.ntmps64
  go_wp2
  go_ret2
  exact ⟨rfl, Below.refl _ _⟩

def OpenEnd (s : ByteArray) (w : World) (e : Ending) (w' : World) : Prop :=
  e = .returned (if le4 (crc (s.data.toList.take (s.size - 4))) = s.data.toList.drop (s.size - 4) then .tuple #[.string (s.extract 0 (s.size - 4)), .int .i64 0] else .tuple #[.string ByteArray.empty, .int .i64 13]) ∧ Below w.heap.size w w'

theorem extract_tail (s : ByteArray) (n : Nat) : (s.extract n s.size).toList = s.data.toList.drop n := by
  rw [ByteArray.toList_eq, extract_data', List.take_of_length_le]
  rw [List.length_drop, Array.length_toList]
  exact Nat.le_refl _

set_option maxHeartbeats 400000 in
theorem open_long (s : ByteArray) (w : World) (hs : 4 ≤ s.size) (hm : s.size ≤ 140737488351232) :
    Calls Try.prog 64 #[.string s] w (OpenEnd s w) := by
  obtain ⟨n, hn⟩ : ∃ n, s.size - 4 = n := ⟨_, rfl⟩
  have hns : (s.size : Int) - 4 = (n : Int) := by omega
  go_enter Try.func64, Try.ntmps64
  go_wp2_with fail
  have hcr : crc (s.extract 0 n).data.toList = crc (s.data.toList.take n) := by rw [extract_data']; simp
  have hel : (s.extract 0 n).size ≤ maxLen := by rw [ByteArray.size_extract]; unfold maxLen; omega
  have hl := crc_lt (s.data.toList.take n)
  obtain ⟨c, hc⟩ : ∃ c, crc (s.data.toList.take n) = c := ⟨_, rfl⟩
  rw [hc] at hcr hl
  have hn1 : n ≤ s.size := by omega
  have hn2 : (n : Int) ≤ (s.size : Int) := by omega
  have hn3 : 0 ≤ (n : Int) := by omega
  have HCR := Lib.hid hcr
  clear hcr
  refine Reg.wp_chain_known 8 [(3, .int .u32 c), (4, .string ⟨(le4 c).toArray⟩)] [(3, fun _ _ => True), (4, fun _ _ => True)] (fun w' => Below w.heap.size w w') (fun w w' => Below w.heap.size w w') (by kernel_rfl) (by kernel_rfl) (by kernel_rfl) (by kernel_rfl) (fun _ _ d _ _ h => by cases d <;> exact h) (Below.refl _ _).drew ?_
  simp only [List.take_succ_cons, List.take_zero]
  repeat (refine Reg.chain_plain rfl rfl ?_ ?_ ?_; rotate_left; (focus (intro w2 hI _; go_simp; rfl)))
  refine Reg.chain_known (.int .u32 c) rfl rfl rfl (fun _ _ _ _ _ => trivial) (fun w1 hI _ K hK => ?_) ?_
  · go_simp
    refine (of_any _ w1 hel).mono ?_
    rintro e w2 ⟨rfl, hb2⟩
    rw [HCR.out]
    exact hK _ _ (by go_simp) trivial (hI.trans (hb2.mono hI.size)) hb2
  refine Reg.chain_known (.string ⟨(le4 c).toArray⟩) rfl rfl rfl (fun _ _ _ _ _ => trivial) (fun w1 hI _ K hK => ?_) ?_
  · go_simp
    refine (four_any c w1 hl).mono ?_
    rintro e w2 ⟨rfl, hb2⟩
    exact hK _ _ (by go_simp) trivial (hI.trans (hb2.mono hI.size)) hb2
  repeat (refine Reg.chain_plain rfl rfl ?_ ?_ ?_; rotate_left; (focus (intro w2 hI _; go_simp; rfl)))
  simp only [Act.put, List.setIfInBounds_toArray, List.set_cons_succ, List.set_cons_zero]
  refine Reg.chain_end (fun w1 hI _ => ?_)
  simp only [List.drop_succ_cons, List.drop_zero]
  by_cases heq : le4 c = s.data.toList.drop n
  · have hbe : (le4 c == (s.extract n s.size).toList) = true := by rw [extract_tail, heq]; simp
    have hfin : (if le4 (crc (s.data.toList.take (s.size - 4))) = s.data.toList.drop (s.size - 4) then Value.tuple #[.string (s.extract 0 (s.size - 4)), .int .i64 0] else .tuple #[.string ByteArray.empty, .int .i64 13]) = .tuple #[.string (s.extract 0 n), .int .i64 0] := by rw [hn, hc, if_pos heq]
    have HF := Lib.hid hfin
    clear heq hfin
    go_wp2
    go_ret2
    exact ⟨by rw [HF.out]; rfl, hI⟩
  · have hbe : (le4 c == (s.extract n s.size).toList) = false := by rw [extract_tail]; simpa using heq
    have hfin : (if le4 (crc (s.data.toList.take (s.size - 4))) = s.data.toList.drop (s.size - 4) then Value.tuple #[.string (s.extract 0 (s.size - 4)), .int .i64 0] else .tuple #[.string ByteArray.empty, .int .i64 13]) = .tuple #[.string ByteArray.empty, .int .i64 13] := by rw [hn, hc, if_neg heq]
    have HF := Lib.hid hfin
    clear heq hfin
    go_wp2
    go_ret2
    exact ⟨by rw [HF.out]; rfl, hI⟩

/-! ### the reference -/
def le4to (n : Nat) : Nat → List UInt8
  | 0 => []
  | k + 1 => le4to n k ++ [UInt8.ofNat (n / 256 ^ k)]
theorem le4to_four (n : Nat) : le4to n 4 = le4 n := by simp [le4to, le4]

theorem app_empty (s : ByteArray) : s ++ ⟨([] : List UInt8).toArray⟩ = s := by
  apply ByteArray.ext
  apply Array.toList_inj.1
  simp
theorem app_app (s : ByteArray) (a b : List UInt8) : (s ++ ⟨a.toArray⟩) ++ ⟨b.toArray⟩ = s ++ ⟨(a ++ b).toArray⟩ := by
  apply ByteArray.ext
  apply Array.toList_inj.1
  simp
theorem app_size (s : ByteArray) (a : List UInt8) : (s ++ ⟨a.toArray⟩ : ByteArray).size = s.size + a.length := by
  rw [ByteArray.size_append]; rfl
theorem le4to_len (n : Nat) : ∀ k, (le4to n k).length = k := by
  intro k
  induction k with
  | zero => rfl
  | succ k ih => simp [le4to, ih]

theorem refSeal_any (s : ByteArray) (w : World) (hs : s.size ≤ 140737488351232) :
    Calls Try.prog 47 #[.string s] w fun e w' => e = .returned (.string (sealB s)) ∧ Below w.heap.size w w' := by
  have hl := crc_lt s.data.toList
  go_enter Try.func47, Try.ntmps47
  go_wp2_with fail
  refine (refOf_any s w (by unfold maxLen; omega)).mono ?_
  rintro e w1 ⟨rfl, rfl⟩
  obtain ⟨c, hc⟩ : ∃ c, crc s.data.toList = c := ⟨_, rfl⟩
  rw [hc] at hl ⊢
  have HC := Lib.hid hc
  clear hc
  go_wp2_with fail
  go_loopw [3, 4, 5] (fun n o i wr => ∃ k : Nat, k ≤ 4 ∧ i = .int .i64 k ∧ n = .int .u32 (c / 256 ^ k : Nat) ∧ o = .string (s ++ ⟨(le4to c k).toArray⟩) ∧ Below w.heap.size w wr) (fun _ _ i _ => 4 - (intOf i).toNat)
  case atStart => exact ⟨0, by omega, rfl, by simp, by rw [show (le4to c 0) = [] from rfl, app_empty], Below.refl _ _⟩
  case round =>
    obtain ⟨k, hk, rfl, rfl, rfl, hb⟩ := hrel
    by_cases hlt : k < 4
    · have hk1 : (k : Int) < 4 := by omega
      have happ : (s ++ ⟨(le4to c k).toArray⟩) ++ ⟨[UInt8.ofNat (c / 256 ^ k)].toArray⟩ = s ++ ⟨(le4to c (k + 1)).toArray⟩ := app_app _ _ _
      have HA := Lib.hid happ
      clear happ
      have hsz : (s ++ ⟨(le4to c k).toArray⟩ : ByteArray).size ≤ 140737488351236 := by rw [app_size, le4to_len]; omega
      have hdiv : c / 256 ^ k / 256 = c / 256 ^ (k + 1) := by rw [Nat.div_div_eq_div_mul, ← Nat.pow_succ]
      have HD := Lib.hid hdiv
      have hyl : c / 256 ^ k < 4294967296 := Nat.lt_of_le_of_lt (Nat.div_le_self _ _) hl
      clear hdiv
      generalize s ++ ⟨(le4to c k).toArray⟩ = t at *
      generalize c / 256 ^ k = y at *
      have hone : (⟨[UInt8.ofNat y].toArray⟩ : ByteArray).size = 1 := rfl
      have hv : byteVals [UInt8.ofNat y] = [.int .u8 ((y : Int) % 256)] := by
        simp only [byteVals, List.map_cons, List.map_nil]
        rw [show ((UInt8.ofNat y).toNat : Int) = (y : Int) % 256 by rw [UInt8.toNat_ofNat']; omega]
      have hrow : Row (wr.alloc (.cells #[.int .u8 ((y : Int) % 256)] 5)) wr.heap.size 5 (byteVals [UInt8.ofNat y]) := by
        rw [hv]; exact Row.of_blk (Blk.new _ _ _)
      clear hv
      go_wp2_with (refine wpList_unbytes rfl (.tmp 17) 75 9 5 rfl Try.underlying75 Try.underlying5 Try.underlying9 wr.heap.size 1 1 [UInt8.ofNat y] rfl rfl hrow ?_; generalize (⟨[UInt8.ofNat y].toArray⟩ : ByteArray) = t1 at *)
      go_roundw
      case rel => exact ⟨k + 1, by omega, by go_num, by rw [← HD.out]; go_num, by rw [← HA.out], hb.alloc hb.size _⟩
      case measure => simp [intOf]; omega
    · obtain rfl : k = 4 := by omega
      go_wp2
      go_ret
      exact ⟨by unfold sealB; rw [HC.out, ← le4to_four]; rfl, hb⟩

theorem refOpen_short (s : ByteArray) (w : World) (hs : s.size < 4) :
    Calls Try.prog 66 #[.string s] w fun e w' => e = .returned (.tuple #[.string ByteArray.empty, .int .i64 1]) ∧ Below w.heap.size w w' := by
  go_enter Try.func66, Try.ntmps66
  go_wp2
  go_ret2
  exact ⟨rfl, Below.refl _ _⟩

theorem seal_iff (s : ByteArray) (h : 4 ≤ s.size) : sealB (s.extract 0 (s.size - 4)) = s ↔ le4 (crc (s.data.toList.take (s.size - 4))) = s.data.toList.drop (s.size - 4) := by
  have h1 : (sealB (s.extract 0 (s.size - 4))).data.toList = s.data.toList.take (s.size - 4) ++ le4 (crc (s.data.toList.take (s.size - 4))) := by
    unfold sealB
    rw [ByteArray.data_append, Array.toList_append, extract_data']
    simp
  constructor
  · intro e
    rw [e] at h1
    have h2 := List.take_append_drop (s.size - 4) s.data.toList
    exact List.append_cancel_left (h1.symm.trans h2.symm)
  · intro e
    apply ByteArray.ext
    apply Array.toList_inj.1
    rw [h1, e, List.take_append_drop]

set_option maxHeartbeats 400000 in
theorem refOpen_long (s : ByteArray) (w : World) (hs : 4 ≤ s.size) (hm : s.size ≤ 140737488351232) :
    Calls Try.prog 66 #[.string s] w (OpenEnd s w) := by
  have hiff := seal_iff s hs
  obtain ⟨n, hn⟩ : ∃ n, s.size - 4 = n := ⟨_, rfl⟩
  rw [hn] at hiff
  have hns : (s.size : Int) - 4 = (n : Int) := by omega
  have hn1 : n ≤ s.size := by omega
  have hel : (s.extract 0 n).size ≤ 140737488351232 := by rw [ByteArray.size_extract]; omega
  by_cases heq : le4 (crc (s.data.toList.take n)) = s.data.toList.drop n
  · have hbe : ((sealB (s.extract 0 n)).toList == s.toList) = true := by rw [hiff.2 heq]; simp
    have hfin : (if le4 (crc (s.data.toList.take (s.size - 4))) = s.data.toList.drop (s.size - 4) then Value.tuple #[.string (s.extract 0 (s.size - 4)), .int .i64 0] else .tuple #[.string ByteArray.empty, .int .i64 13]) = .tuple #[.string (s.extract 0 n), .int .i64 0] := by rw [hn, if_pos heq]
    have HF := Lib.hid hfin
    clear heq hfin hiff
    go_enter Try.func66, Try.ntmps66
    go_wp2_with fail
    refine (refSeal_any _ w hel).mono ?_
    rintro e w1 ⟨rfl, hb1⟩
    go_wp2
    go_ret2
    exact ⟨by rw [HF.out]; rfl, hb1⟩
  · have hbe : ((sealB (s.extract 0 n)).toList == s.toList) = false := by
      rw [ByteArray.toList_eq, ByteArray.toList_eq, beq_eq_false_iff_ne]
      intro e
      exact heq (hiff.1 (ByteArray.ext (Array.toList_inj.1 e)))
    have hfin : (if le4 (crc (s.data.toList.take (s.size - 4))) = s.data.toList.drop (s.size - 4) then Value.tuple #[.string (s.extract 0 (s.size - 4)), .int .i64 0] else .tuple #[.string ByteArray.empty, .int .i64 13]) = .tuple #[.string ByteArray.empty, .int .i64 13] := by rw [hn, if_neg heq]
    have HF := Lib.hid hfin
    clear heq hfin hiff
    go_enter Try.func66, Try.ntmps66
    go_wp2_with fail
    refine (refSeal_any _ w hel).mono ?_
    rintro e w1 ⟨rfl, hb1⟩
    go_wp2
    go_ret2
    exact ⟨by rw [HF.out]; rfl, hb1⟩

end Go.Proofs.Ytgacphicgglogaa
