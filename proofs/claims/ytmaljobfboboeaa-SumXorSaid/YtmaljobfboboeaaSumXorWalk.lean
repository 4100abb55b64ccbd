/- The walk of SumXor. -/
import Derived.Test.YtmaljobfboboeaaSumG
import Derived.Test.YtmaljobfboboeaaCrcT
import Derived.Test.YtmaljobfboboeaaRegW
namespace Go.Proofs.Ytmaljobfboboeaa.sumXor
open Go.RowKit Crc

def xb (a b c : ByteArray) (i : Nat) : UInt8 := (a.data[i]?.getD 0 ^^^ b.data[i]?.getD 0) ^^^ c.data[i]?.getD 0
def xTo (a b c : ByteArray) (n k : Nat) : List UInt8 := (List.range k).map (xb a b c) ++ List.replicate (n - k) 0
theorem xTo_len (a b c : ByteArray) (n k : Nat) (h : k ≤ n) : (xTo a b c n k).length = n := by simp [xTo]; omega
theorem xTo_set (a b c : ByteArray) (n k : Nat) (h : k < n) : (xTo a b c n k).set k (xb a b c k) = xTo a b c n (k + 1) := by
  unfold xTo
  rw [List.set_append_right _ _ (by simp), List.range_succ, List.map_append, show n - k = (n - (k + 1)) + 1 by omega, List.replicate_succ]
  simp
theorem byteVals_set (l : List UInt8) (k : Nat) (x : UInt8) : (byteVals l).set k (.int .u8 (x.toNat : Int)) = byteVals (l.set k x) := by simp [byteVals, List.map_set]
theorem take_eq (a : ByteArray) (n : Nat) (h : n ≤ a.size) : a.data.toList.take n = (List.range n).map fun i => a.data[i]?.getD 0 := by
  apply List.ext_getElem?
  intro i
  by_cases hi : i < n
  · have : i < a.data.size := Nat.lt_of_lt_of_le hi h
    have h2 : a.data[i]? = some a.data[i] := Array.getElem?_eq_getElem this
    rw [List.getElem?_take_of_lt hi, Array.getElem?_toList, List.getElem?_map, List.getElem?_range hi, h2]
    simp [h2]
  · rw [List.getElem?_eq_none (by simp; omega), List.getElem?_eq_none (by simp; omega)]
theorem xor3 (a b c : ByteArray) (n : Nat) (ha : n ≤ a.size) (hb : n ≤ b.size) (hc : n ≤ c.size) :
    crc (a.data.toList.take n) ^^^ crc (b.data.toList.take n) ^^^ crc (c.data.toList.take n) = crc (xTo a b c n n) := by
  have hl : ∀ s : ByteArray, n ≤ s.size → (s.data.toList.take n).length = n := fun s hs => by rw [List.length_take, Array.length_toList]; exact Nat.min_eq_left hs
  rw [crc_xor3 _ _ _ (by rw [hl a ha, hl b hb]) (by rw [hl a ha, hl c hc])]
  congr 1
  rw [take_eq a n ha, take_eq b n hb, take_eq c n hc]
  unfold xTo xorL
  rw [Nat.sub_self, List.replicate_zero, List.append_nil, List.zipWith_map, List.zipWith_self, List.zipWith_map, List.zipWith_self]
  rfl

theorem crc_extract (a : ByteArray) (n : Nat) : crc (a.extract 0 n).data.toList = crc (a.data.toList.take n) := by rw [extract_data']; simp

theorem u8_info : (Try.prog.info? 5).map (fun i => (i.zero, i.size, i.bytes)) = some (some (.int .u8 0), 1, 1) := by kernel_rfl

theorem run_min4 {P : Program} (w : World) (ts : Array TypeId) (t : TypeId) (x y z u : Nat) : (Builtin.min_ ts t #[.int .i64 (x : Int), .int .i64 (y : Int), .int .i64 (z : Int), .int .i64 (u : Int)]).run P w = .ok (.int .i64 ((min (min (min x y) z) u : Nat) : Int)) w := by
  have h : ∀ (a b : Nat), (Builtin.min2 (.int .i64 (a : Int)) (.int .i64 (b : Int))) = (pure (.int .i64 ((min a b : Nat) : Int)) : Sem Value) := by
    intro a b
    have e : (if (b : Int) < (a : Int) then (b : Int) else (a : Int)) = ((min a b : Nat) : Int) := by split <;> omega
    rw [← e]
    rfl
  simp only [Builtin.min_, List.foldlM_cons, List.foldlM_nil, Sem.run_bind, h, Sem.run_pure, Result.andThen_ok]

set_option maxHeartbeats 1000000 in
set_option maxRecDepth 100000 in
theorem core (a b c : ByteArray) (w : World) (wa : a.size ≤ maxLen) (wb : b.size ≤ maxLen) (wc : c.size ≤ maxLen) :
    Calls Try.prog 11 #[.string a, .string b, .string c] w fun e w' => e = .returned (.bool true) ∧ Below w.heap.size w w' := by
  unfold maxLen at wa wb wc
  obtain ⟨i0, hi, hz0, hz1, hz2⟩ := info_parts u8_info
  go_enter Try.func11, Try.ntmps11
  go_wp2_with fail
  refine (wakes15_any w).mono ?_
  rintro e w1 ⟨rfl, hw1⟩
  go_wp2_with fail
  have hmin := run_min4 (P := Try.prog) w1 #[3, 3, 3, 3] 3 a.size b.size c.size 2000
  rw [show ((2000 : Nat) : Int) = 2000 from rfl] at hmin
  rw [hmin]
  obtain ⟨n, hn⟩ : ∃ n, min (min (min a.size b.size) c.size) 2000 = n := ⟨_, rfl⟩
  rw [hn]
  simp only [Result.andThen_ok, Oper.upon_value]
  have hna : n ≤ a.size := by omega
  have hnb : n ≤ b.size := by omega
  have hnc : n ≤ c.size := by omega
  have hn2 : n ≤ 2000 := by omega
  clear hmin hn
  go_wp2_with (at_make; refine wpList_make_full _ rfl _ _ 48 rfl w.heap.size 5 i0 _ 1 Try.underlying48 hi hz0 hz1 _ _ _ _ n rfl rfl rfl rfl (by rw [hz2]; omega) (by unfold maxLen; omega) hw1.size ?_; intro w2 ho2 hg2)
  have hrow2 : Row w2 w1.heap.size 5 (byteVals (xTo a b c n 0)) := by
    have := Row.of_own ho2
    rw [Nat.mul_one] at this
    rw [show (Value.int .u8 0).cells = #[.int .u8 0] from rfl, madeCells_one] at this
    simpa [byteVals, xTo] using this
  have hb2 : Below w.heap.size w w2 := hw1.trans (below_of_grown hg2 hw1.size (fun k hk => by cases hk))
  have hG : w.heap.size ≤ w1.heap.size := hw1.size
  generalize w1.heap.size = g at *
  clear hg2 ho2 hw1 hz0 hz1 hz2 hi
  go_loopw [23] (fun i wr => ∃ k : Nat, k ≤ n ∧ i = .int .i64 k ∧ Below w.heap.size w wr ∧ Row wr g 5 (byteVals (xTo a b c n k))) (fun i _ => n - (intOf i).toNat)
  case atStart => exact ⟨0, Nat.zero_le _, rfl, hb2, hrow2⟩
  case round =>
    obtain ⟨k, hk, rfl, hb, hrow⟩ := hrel
    by_cases hlt : k < n
    · have hka : k < a.size := by omega
      have hkb : k < b.size := by omega
      have hkc : k < c.size := by omega
      have hk1 : (k : Int) < (a.size : Int) := by omega
      have hk2 : (k : Int) < (b.size : Int) := by omega
      have hk3 : (k : Int) < (c.size : Int) := by omega
      have hk4 : (k : Int) < (n : Int) := by omega
      obtain ⟨x, hx⟩ : ∃ x, (a[k].toNat ^^^ b[k].toNat) = x := ⟨_, rfl⟩
      have hxl : x < 256 := by rw [← hx]; exact Nat.xor_lt_two_pow (n := 8) (byte_lt _) (byte_lt _)
      have hxor : bits .xor .u8 (a[k].toNat : Int) (b[k].toNat : Int) = (x : Int) := by rw [u8_xor_nat _ _ (byte_lt _) (byte_lt _), hx]
      have hxor2 : bits .xor .u8 (x : Int) (c[k].toNat : Int) = ((xb a b c k).toNat : Int) := by
        have ga : a.data[k]? = some a[k] := Array.getElem?_eq_getElem hka
        have gb : b.data[k]? = some b[k] := Array.getElem?_eq_getElem hkb
        have gc : c.data[k]? = some c[k] := Array.getElem?_eq_getElem hkc
        rw [u8_xor_nat _ _ hxl (byte_lt _), ← hx]
        unfold xb
        rw [ga, gb, gc]
        simp only [Option.getD_some, UInt8.toNat_xor]
      have hcell : wr.cell? ⟨g, k, none⟩ = some (.int .u8 ((xTo a b c n k)[k]'(by rw [xTo_len a b c n k hk]; exact hlt)).toNat) := hrow.cell (by simp [byteVals, xTo_len a b c n k hk, hlt])
      have hfz : wr.frozen? ⟨g, k, none⟩ = false := hrow.frozen (by simp [byteVals, xTo_len a b c n k hk, hlt])
      have hrow3 : Row (wr.setCell ⟨g, k, none⟩ (.int .u8 ((xb a b c k).toNat : Int))).drew g 5 (byteVals (xTo a b c n (k + 1))) := by
        have := hrow.set_ k (.int .u8 ((xb a b c k).toNat : Int))
        rw [byteVals_set, xTo_set a b c n k hlt] at this
        exact this
      have hb3 : Below w.heap.size w (wr.setCell ⟨g, k, none⟩ (.int .u8 ((xb a b c k).toNat : Int))).drew := (hb.setCell hG _).drew
      clear hx hrow hb
      generalize (xb a b c k).toNat = y at *
      go_wp2
      refine Reg.wp_chain 14 [] (fun w' => w' = wr.drew) (fun _ _ => True) (by kernel_rfl) (by kernel_rfl) (by kernel_rfl) (by kernel_rfl) (fun _ _ d _ _ h => by cases d <;> exact h) rfl ?_
      simp only [List.take_succ_cons, List.take_zero]
      repeat (refine Reg.chain_plain rfl rfl ?_ ?_ ?_; rotate_left; (focus (rintro w3 rfl _; go_simp; rfl)))
      simp only [Act.put, List.setIfInBounds_toArray, List.set_cons_succ, List.set_cons_zero]
      refine Reg.chain_end (fun w3 hw3 _ => ?_)
      subst hw3
      simp only [List.drop_succ_cons, List.drop_zero]
      go_wp2
      go_roundw
      case rel => exact ⟨k + 1, by omega, by go_num, hb3, hrow3⟩
      case measure => simp [intOf]; omega
    · obtain rfl : k = n := by omega
      have h3 := xor3 a b c k hna hnb hnc
      have hA := crc_extract a k
      have hB := crc_extract b k
      have hC := crc_extract c k
      have sA : (a.extract 0 k).size ≤ maxLen := by rw [ByteArray.size_extract]; unfold maxLen; omega
      have sB : (b.extract 0 k).size ≤ maxLen := by rw [ByteArray.size_extract]; unfold maxLen; omega
      have sC : (c.extract 0 k).size ≤ maxLen := by rw [ByteArray.size_extract]; unfold maxLen; omega
      have lA := crc_lt (a.data.toList.take k)
      have lB := crc_lt (b.data.toList.take k)
      have lC := crc_lt (c.data.toList.take k)
      have hxl : (xTo a b c k k).length = k := xTo_len a b c k k (Nat.le_refl _)
      have sD : (⟨(xTo a b c k k).toArray⟩ : ByteArray).size ≤ maxLen := by
        show (xTo a b c k k).toArray.size ≤ _
        rw [List.size_toArray, hxl]; unfold maxLen; omega
      obtain ⟨ca, hca⟩ : ∃ x, crc (a.data.toList.take k) = x := ⟨_, rfl⟩
      obtain ⟨cb, hcb⟩ : ∃ x, crc (b.data.toList.take k) = x := ⟨_, rfl⟩
      obtain ⟨cc, hcc⟩ : ∃ x, crc (c.data.toList.take k) = x := ⟨_, rfl⟩
      obtain ⟨cd, hcd⟩ : ∃ x, crc (xTo a b c k k) = x := ⟨_, rfl⟩
      rw [hca, hcb, hcc, hcd] at h3
      rw [hca] at hA lA
      rw [hcb] at hB lB
      rw [hcc] at hC lC
      generalize xTo a b c k k = dl at *
      have HCD := Lib.hid hcd
      obtain ⟨x, hx⟩ : ∃ x, ca ^^^ cb = x := ⟨_, rfl⟩
      have hxl2 : x < 4294967296 := by rw [← hx]; exact xor_lt32 lA lB
      have hxor : bits .xor .u32 (ca : Int) (cb : Int) = (x : Int) := by rw [u32_xor_nat _ _ lA lB, hx]
      have hxor2 : bits .xor .u32 (x : Int) (cc : Int) = (cd : Int) := by rw [u32_xor_nat _ _ hxl2 lC, ← hx, h3]
      have HA := Lib.hid hA
      have HB := Lib.hid hB
      have HC := Lib.hid hC
      have hgl := hrow.lt
      have hka' : (k : Int) ≤ (a.size : Int) := by omega
      have hkb' : (k : Int) ≤ (b.size : Int) := by omega
      have hkc' : (k : Int) ≤ (c.size : Int) := by omega
      clear hA hB hC hca hcb hcc hcd h3 hx
      go_wp2
      refine Reg.wp_chain_known 17 [(3, .int .u32 ca), (7, .int .u32 cb), (12, .int .u32 cc), (16, .int .u32 cd)] [(3, fun _ _ => True), (7, fun _ _ => True), (12, fun _ _ => True), (16, fun _ _ => True)] (fun w' => Below wr.heap.size wr w') (fun w w' => Below w.heap.size w w') (by kernel_rfl) (by kernel_rfl) (by kernel_rfl) (by kernel_rfl) (fun _ _ d _ _ h => by cases d <;> exact h) (Below.refl _ _).drew ?_
      simp only [List.take_succ_cons, List.take_zero]
      repeat (refine Reg.chain_plain rfl rfl ?_ ?_ ?_; rotate_left; (focus (intro w3 hI _; go_simp; rfl)))
      refine Reg.chain_known (.int .u32 ca) rfl rfl rfl (fun _ _ _ _ _ => trivial) (fun w3 hI _ K hK => ?_) ?_
      · go_simp
        refine (of_any _ w3 sA).mono ?_
        rintro e w4 ⟨rfl, hb4⟩
        rw [HA.out]
        exact hK _ _ (by go_simp) trivial (hI.trans (hb4.mono hI.size)) hb4
      repeat (refine Reg.chain_plain rfl rfl ?_ ?_ ?_; rotate_left; (focus (intro w3 hI _; go_simp; rfl)))
      refine Reg.chain_known (.int .u32 cb) rfl rfl rfl (fun _ _ _ _ _ => trivial) (fun w3 hI _ K hK => ?_) ?_
      · go_simp
        refine (of_any _ w3 sB).mono ?_
        rintro e w4 ⟨rfl, hb4⟩
        rw [HB.out]
        exact hK _ _ (by go_simp) trivial (hI.trans (hb4.mono hI.size)) hb4
      repeat (refine Reg.chain_plain rfl rfl ?_ ?_ ?_; rotate_left; (focus (intro w3 hI _; go_simp; rfl)))
      refine Reg.chain_known (.int .u32 cc) rfl rfl rfl (fun _ _ _ _ _ => trivial) (fun w3 hI _ K hK => ?_) ?_
      · go_simp
        refine (of_any _ w3 sC).mono ?_
        rintro e w4 ⟨rfl, hb4⟩
        rw [HC.out]
        exact hK _ _ (by go_simp) trivial (hI.trans (hb4.mono hI.size)) hb4
      repeat (refine Reg.chain_plain rfl rfl ?_ ?_ ?_; rotate_left; (focus (intro w3 hI _; go_simp; rfl)))
      simp only [Act.put, List.setIfInBounds_toArray, List.set_cons_succ, List.set_cons_zero]
      refine Reg.chain_unbytes rfl rfl (.tmp 55) 48 9 5 rfl Try.underlying48 Try.underlying5 Try.underlying9 g k k dl rfl hxl (fun w3 hI => hrow.below hI hgl) ?_
      refine Reg.chain_known (.int .u32 cd) rfl rfl rfl (fun _ _ _ _ _ => trivial) (fun w3 hI _ K hK => ?_) ?_
      · go_simp
        refine (of_any _ w3 sD).mono ?_
        rintro e w4 ⟨rfl, hb4⟩
        rw [show crc (⟨dl.toArray⟩ : ByteArray).data.toList = crc dl from rfl, HCD.out]
        exact hK _ _ (by go_simp) trivial (hI.trans (hb4.mono hI.size)) hb4
      simp only [Act.put, List.setIfInBounds_toArray, List.set_cons_succ, List.set_cons_zero]
      refine Reg.chain_end (fun w3 hI _ => ?_)
      simp only [List.drop_succ_cons, List.drop_zero]
      go_wp2
      go_ret
      exact ⟨rfl, hb.trans (hI.mono hb.size)⟩

theorem walk (a0 a1 a2 : ByteArray) (w : World) (w0 : a0.size ≤ maxLen) (w1 : a1.size ≤ maxLen) (w2 : a2.size ≤ maxLen) :
    Calls Try.prog 11 #[.string a0, .string a1, .string a2] w fun e w' => e = .returned (.bool true) ∧ Below w.heap.size w w' := core a0 a1 a2 w w0 w1 w2

end Go.Proofs.Ytmaljobfboboeaa.sumXor
