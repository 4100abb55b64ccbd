/- The walk of SumTurned. -/
import Derived.Test.YtmaljobfboboeaaSumG
import Derived.Test.YtmaljobfboboeaaCrcT
import Derived.Test.YtmaljobfboboeaaRegW
import Derived.Stop.BytesEq
import Derived.OpenShut
namespace Go.Proofs.Ytmaljobfboboeaa.sumTurned
open Go.RowKit Crc

theorem byteVals_set (l : List UInt8) (k : Nat) (x : UInt8) : (byteVals l).set k (.int .u8 (x.toNat : Int)) = byteVals (l.set k x) := by simp [byteVals, List.map_set]

/-- The text after j of the four turns. -/
def mix (t ms : List UInt8) (k : Nat) : Nat → List UInt8
  | 0 => t
  | j + 1 => (mix t ms k j).set (k + j) ((t[k + j]?.getD 0) ^^^ (ms[j]?.getD 0))

theorem mix_len (t ms : List UInt8) (k : Nat) : ∀ j, (mix t ms k j).length = t.length
  | 0 => rfl
  | j + 1 => by rw [mix, List.length_set, mix_len t ms k j]

theorem mix_get (t ms : List UInt8) (k : Nat) : ∀ j i, (mix t ms k j)[i]? = if k ≤ i ∧ i < k + j ∧ i < t.length then some ((t[i]?.getD 0) ^^^ (ms[i - k]?.getD 0)) else t[i]?
  | 0, i => by rw [if_neg (by omega)]; rfl
  | j + 1, i => by
    rw [mix, List.getElem?_set, mix_len, mix_get t ms k j i]
    by_cases h : k + j = i
    · subst h
      by_cases hl : k + j < t.length
      · rw [if_pos rfl, if_pos hl, if_pos (by omega), Nat.add_sub_cancel_left]
      · rw [if_pos rfl, if_neg hl, if_neg (by omega), List.getElem?_eq_none (by omega)]
    · rw [if_neg h]
      by_cases h2 : k ≤ i ∧ i < k + j ∧ i < t.length
      · rw [if_pos h2, if_pos (by omega)]
      · rw [if_neg h2, if_neg (by omega)]

theorem mix_burst (t : List UInt8) (a b c d : UInt8) (k L : Nat) (hk : k ≤ L) (ht : t.length = L + 4) : mix t [a, b, c, d] k 4 = xorL t (burst k L [a, b, c, d]) := by
  apply List.ext_getElem?
  intro i
  rw [mix_get]
  unfold xorL
  rw [List.getElem?_zipWith]
  by_cases hi : i < t.length
  · have hti : t[i]? = some t[i] := List.getElem?_eq_getElem hi
    have hb : (burst k L [a, b, c, d])[i]? = some (if k ≤ i ∧ i < k + 4 then ([a, b, c, d][i - k]?.getD 0) else 0) := by
      unfold burst
      rw [List.append_assoc]
      by_cases h1 : i < k
      · rw [List.getElem?_append_left (by simpa using h1), if_neg (by omega), List.getElem?_replicate, if_pos h1]
      · rw [List.getElem?_append_right (by simp; omega), List.length_replicate]
        by_cases h2 : i < k + 4
        · rw [List.getElem?_append_left (by simp; omega), if_pos (by omega)]
          have h3 : i - k < [a, b, c, d].length := by simp; omega
          rw [List.getElem?_eq_getElem h3]
          rfl
        · rw [List.getElem?_append_right (by simp; omega), if_neg (by omega), List.getElem?_replicate, if_pos (by simp; omega)]
    rw [hti, hb]
    by_cases h4 : k ≤ i ∧ i < k + 4
    · rw [if_pos (by omega), if_pos h4]; rfl
    · rw [if_neg (by omega), if_neg h4]; simp
  · rw [if_neg (by omega), List.getElem?_eq_none (by omega)]

/-- What Open says of the turned text. -/
theorem open_turned (s : ByteArray) (a b c d : UInt8) (k : Nat) (hk : k ≤ s.size) :
    openRes ⟨(mix (sealB s).data.toList [a, b, c, d] k 4).toArray⟩ = if a = 0 ∧ b = 0 ∧ c = 0 ∧ d = 0 then (s, 0) else (ByteArray.empty, 13) := by
  have hl : s.data.toList.length = s.size := by simp
  have htl : (sealB s).data.toList.length = s.size + 4 := by rw [sealB_data, List.length_append, le4_length, hl]
  have hm := mix_burst (sealB s).data.toList a b c d k s.size hk htl
  have hml : (mix (sealB s).data.toList [a, b, c, d] k 4).length = s.size + 4 := by rw [mix_len, htl]
  have hT := burst_told s.data.toList k a b c d (by omega) (mix (sealB s).data.toList [a, b, c, d] k 4) (by rw [hm, sealB_data, hl])
  have hsz : (⟨(mix (sealB s).data.toList [a, b, c, d] k 4).toArray⟩ : ByteArray).size = s.size + 4 := by
    show (mix (sealB s).data.toList [a, b, c, d] k 4).toArray.size = _
    rw [List.size_toArray, hml]
  by_cases h0 : a = 0 ∧ b = 0 ∧ c = 0 ∧ d = 0
  · have hid : (⟨(mix (sealB s).data.toList [a, b, c, d] k 4).toArray⟩ : ByteArray) = sealB s := by
      have : mix (sealB s).data.toList [a, b, c, d] k 4 = (sealB s).data.toList := by
        rw [hm]
        obtain ⟨rfl, rfl, rfl, rfl⟩ := h0
        have : burst k s.size [0, 0, 0, 0] = List.replicate (s.size + 4) 0 := by
          unfold burst
          rw [show ([0, 0, 0, 0] : List UInt8) = List.replicate 4 0 from rfl, List.replicate_append_replicate, List.replicate_append_replicate]
          congr 1
          omega
        rw [this, xorL_zero _ _ htl]
      rw [this]
    rw [hid, openRes_seal, if_pos h0]
  · rw [if_neg h0]
    unfold openRes
    rw [if_neg (by omega), hsz, show s.size + 4 - 4 = s.data.toList.length by omega, if_neg (fun h => h0 (hT.1 h))]

theorem size8 (w : World) : (sizeOf 5).run Try.prog w = .ok 1 w := by kernel_rfl

set_option maxHeartbeats 1000000 in
set_option maxRecDepth 100000 in
theorem core (s : ByteArray) (at_ : Nat) (a b c d : UInt8) (w : World) (ws : s.size ≤ maxLen) (hat : at_ < 65536) :
    Calls Try.prog 10 #[.string s, .int .u16 (at_ : Int), .agg #[.int .u8 (a.toNat : Int), .int .u8 (b.toNat : Int), .int .u8 (c.toNat : Int), .int .u8 (d.toNat : Int)]] w fun e w' => e = .returned (.bool true) ∧ Below w.heap.size w w' := by
  unfold maxLen at ws
  go_enter Try.func10, Try.ntmps10
  go_wp2_with fail
  refine (wakes15_any _).mono ?_
  rintro e w1 ⟨rfl, hw1⟩
  have hM1 : Row w1 w.heap.size 47 (byteVals [a, b, c, d]) := Row.of_blk ((Blk.new w _ _).below hw1 (by simp))
  have hb1 : Below w.heap.size w w1 := ((Below.refl _ _).alloc (Nat.le_refl _) _).trans (hw1.mono (by simp))
  clear hw1
  by_cases hs : 16384 < s.size
  · have hs2 : (16384 : Int) < (s.size : Int) := by omega
    go_wp2
    go_ret
    exact ⟨rfl, hb1⟩
  have hs2 : ¬ (16384 : Int) < (s.size : Int) := by omega
  go_wp2_with fail
  refine (seal_any s w1 (by omega)).mono ?_
  rintro e w2 ⟨rfl, hb2⟩
  have hlt1 := hM1.lt
  have hM2 := hM1.below hb2 hlt1
  have hb2' : Below w.heap.size w w2 := hb1.trans (hb2.mono hb1.size)
  have hsz2 := hb2.size
  clear hM1 hb2 hb1
  obtain ⟨k, hk⟩ : ∃ k, at_ % (s.size + 1) = k := ⟨_, rfl⟩
  have hks : k ≤ s.size := by have := Nat.mod_lt at_ (show 0 < s.size + 1 by omega); omega
  have hT := open_turned s a b c d k hks
  have htl := sealB_size s
  obtain ⟨t, ht⟩ : ∃ t, sealB s = t := ⟨_, rfl⟩
  rw [ht] at hT htl ⊢
  have HT := Lib.hid hT
  clear hT ht
  have htl2 : (t.size : Int) = (s.size : Int) + 4 := by omega
  have hkm : (at_ : Int) % ((s.size : Int) + 4 - 3) = (k : Int) := by rw [show (s.size : Int) + 4 - 3 = ((s.size + 1 : Nat) : Int) by omega, ← hk, Int.natCast_emod]
  go_wp2_with (refine wpList_bytes rfl (.tmp 26) 9 48 5 rfl Try.underlying9 Try.underlying48 Try.underlying5 t rfl ?_; intro w3 cap hcap hb3 hsz3 hrow3)
  have hb3' : Below w.heap.size w w3 := hb2'.trans (hb3.mono hb2'.size)
  have hM3 : Row w3 w.heap.size 47 (byteVals [a, b, c, d]) := hM2.below hb3 (by omega)
  have hgM : w.heap.size ≠ w2.heap.size := by omega
  have hG : w.heap.size ≤ w2.heap.size := by omega
  clear hM2 hb2' hb3 hsz3 hsz2 hlt1
  have hmix3 : Row w3 w2.heap.size 5 (byteVals (mix t.data.toList [a, b, c, d] k 0)) := hrow3
  clear hrow3
  generalize w2.heap.size = g at *
  have htL : t.data.toList.length = t.size := by simp
  generalize t.data.toList = tl at *
  go_loopw [34] (fun i wr => ∃ j : Nat, j ≤ 4 ∧ i = .int .i64 j ∧ Below w.heap.size w wr ∧ Row wr g 5 (byteVals (mix tl [a, b, c, d] k j)) ∧ Row wr w.heap.size 47 (byteVals [a, b, c, d])) (fun i _ => 4 - (intOf i).toNat)
  case atStart => exact ⟨0, Nat.zero_le _, rfl, hb3', hmix3, hM3⟩
  case round =>
    obtain ⟨j, hj, rfl, hb, hrow, hM⟩ := hrel
    by_cases hlt : j < 4
    · have hj4 : (j : Int) < 4 := by omega
      have hlen : (mix tl [a, b, c, d] k j).length = t.size := by rw [mix_len, htL]
      have hkj : k + j < (mix tl [a, b, c, d] k j).length := by rw [hlen]; omega
      have hmg : (mix tl [a, b, c, d] k j)[k + j]? = tl[k + j]? := by rw [mix_get, if_neg (by omega)]
      obtain ⟨x, hx⟩ : ∃ x, tl[k + j]? = some x := ⟨_, List.getElem?_eq_getElem (by omega)⟩
      obtain ⟨y, hy⟩ : ∃ y, [a, b, c, d][j]? = some y := ⟨_, List.getElem?_eq_getElem (by simpa using hlt)⟩
      have hcx : wr.cell? ⟨g, k + j, none⟩ = some (.int .u8 (x.toNat : Int)) := hrow.cell (by simp [byteVals, hmg, hx])
      have hcy : wr.cell? ⟨w.heap.size, j, none⟩ = some (.int .u8 (y.toNat : Int)) := hM.cell (by unfold byteVals; rw [List.getElem?_map, hy]; rfl)
      have hfz : wr.frozen? ⟨g, k + j, none⟩ = false := hrow.frozen (by simpa [byteVals] using hkj)
      have hxor : bits .xor .u8 (x.toNat : Int) (y.toNat : Int) = ((x ^^^ y).toNat : Int) := by rw [u8_xor_nat _ _ (byte_lt _) (byte_lt _), UInt8.toNat_xor]
      have hrow4 : Row (wr.setCell ⟨g, k + j, none⟩ (.int .u8 ((x ^^^ y).toNat : Int))).drew g 5 (byteVals (mix tl [a, b, c, d] k (j + 1))) := by
        have := hrow.set_ (k + j) (.int .u8 ((x ^^^ y).toNat : Int))
        rw [byteVals_set] at this
        rw [mix, hx, hy]
        exact this
      have hM4 : Row (wr.setCell ⟨g, k + j, none⟩ (.int .u8 ((x ^^^ y).toNat : Int))).drew w.heap.size 47 (byteVals [a, b, c, d]) := hM.far hgM _
      have hb4 : Below w.heap.size w (wr.setCell ⟨g, k + j, none⟩ (.int .u8 ((x ^^^ y).toNat : Int))).drew := (hb.setCell hG _).drew
      have hkjt : k + j < t.size := by omega
      have hkjt2 : (k : Int) + (j : Int) < (s.size : Int) + 4 := by omega
      have hwr := IntWalk.i64_in ((k : Int) + (j : Int)) (by omega)
      have hnat : ((k : Int) + (j : Int)).toNat = k + j := by omega
      clear hx hy hrow hM hb hlen hkj hmg
      generalize (x ^^^ y).toNat = z at *
      go_wp2
      refine Reg.wp_chain 11 [] (fun w' => w' = wr.drew) (fun _ _ => True) (by kernel_rfl) (by kernel_rfl) (by kernel_rfl) (by kernel_rfl) (fun _ _ d _ _ h => by cases d <;> exact h) rfl ?_
      simp only [List.take_succ_cons, List.take_zero]
      repeat (refine Reg.chain_plain rfl rfl ?_ ?_ ?_; rotate_left; (focus (rintro w3 rfl _; go_simp; rfl)))
      simp only [Act.put, List.setIfInBounds_toArray, List.set_cons_succ, List.set_cons_zero]
      refine Reg.chain_end (fun w3 hw3 _ => ?_)
      subst hw3
      simp only [List.drop_succ_cons, List.drop_zero]
      go_wp2
      go_roundw
      case rel => exact ⟨j + 1, by omega, by go_num, hb4, hrow4, hM4⟩
      case measure => simp [intOf]; omega
    · obtain rfl : j = 4 := by omega
      have hlen : (mix tl [a, b, c, d] k 4).length = t.size := by rw [mix_len, htL]
      have hT := HT.out
      generalize mix tl [a, b, c, d] k 4 = ml at *
      have hms : (⟨ml.toArray⟩ : ByteArray).size = s.size + 4 := by show ml.toArray.size = _; rw [List.size_toArray, hlen, htl]
      have h0r : wr.cell? ⟨w.heap.size, 0, none⟩ = some (.int .u8 (a.toNat : Int)) := hM.cell rfl
      have h1r : wr.cell? ⟨w.heap.size, 1, none⟩ = some (.int .u8 (b.toNat : Int)) := hM.cell rfl
      have h2r : wr.cell? ⟨w.heap.size, 2, none⟩ = some (.int .u8 (c.toNat : Int)) := hM.cell rfl
      have h3r : wr.cell? ⟨w.heap.size, 3, none⟩ = some (.int .u8 (d.toNat : Int)) := hM.cell rfl
      go_wp2_with first | fail | (refine wpList_unbytes rfl (.tmp 50) 48 9 5 rfl Try.underlying48 Try.underlying5 Try.underlying9 g (s.size + 4) cap ml rfl (hlen.trans htl) hrow ?_)
      refine (open_any _ wr (by rw [hms]; omega)).mono ?_
      rintro e w5 ⟨rfl, hb5⟩
      rw [hT]
      have hlr := hM.lt
      have hM5 := hM.below hb5 hlr
      have hbf : Below w.heap.size w w5 := hb.trans (hb5.mono hb.size)
      clear hT HT h0r h1r h2r h3r hrow hM hms hlen hb hb5
      have h0r : w5.cell? ⟨w.heap.size, 0, none⟩ = some (.int .u8 (a.toNat : Int)) := hM5.cell rfl
      have h1r : w5.cell? ⟨w.heap.size, 1, none⟩ = some (.int .u8 (b.toNat : Int)) := hM5.cell rfl
      have h2r : w5.cell? ⟨w.heap.size, 2, none⟩ = some (.int .u8 (c.toNat : Int)) := hM5.cell rfl
      have h3r : w5.cell? ⟨w.heap.size, 3, none⟩ = some (.int .u8 (d.toNat : Int)) := hM5.cell rfl
      have heq : (Op.equalIn 10000 47 (.agg #[.int .u8 (a.toNat : Int), .int .u8 (b.toNat : Int), .int .u8 (c.toNat : Int), .int .u8 (d.toNat : Int)]) (.agg #[.int .u8 0, .int .u8 0, .int .u8 0, .int .u8 0])).run Try.prog w5 = .ok ([a, b, c, d] == [0, 0, 0, 0]) w5 :=
        run_equalIn_bytes (P := Try.prog) w5 9998 47 5 4 Try.underlying47 Try.underlying5 size8 [a, b, c, d] [0, 0, 0, 0] rfl rfl
      by_cases h0 : a = 0 ∧ b = 0 ∧ c = 0 ∧ d = 0
      · rw [if_pos h0]
        obtain ⟨rfl, rfl, rfl, rfl⟩ := h0
        have heq2 : (Op.equalIn 10000 47 (.agg #[.int .u8 0, .int .u8 0, .int .u8 0, .int .u8 0]) (.agg #[.int .u8 0, .int .u8 0, .int .u8 0, .int .u8 0])).run Try.prog w5 = .ok true w5 := heq
        clear heq
        go_wp2
        go_ret
        exact ⟨rfl, hbf⟩
      · rw [if_neg h0]
        rw [show ([a, b, c, d] == [0, 0, 0, 0]) = false by simpa using h0] at heq
        clear h0
        go_wp2
        go_ret
        exact ⟨rfl, hbf⟩

theorem byte_cell {w : World} {r : Reach} {base : Nat} {v : Value} (h : Cell.okWide Try.prog w r base 5 v) : ∃ x : UInt8, v = .int .u8 (x.toNat : Int) := by
  cases v <;> simp [Cell.okWide, Cell.ok, Try.underlying5] at h
  obtain ⟨rfl, h1⟩ := h
  rename_i n
  simp [IntKind.has, IntKind.min, IntKind.max, IntKind.signed, IntKind.bits] at h1
  exact ⟨UInt8.ofNat n.toNat, by rw [UInt8.toNat_ofNat']; congr 1; omega⟩

theorem walk (a0 : ByteArray) (a1 : Int) (v2 : Value) (w : World) {H : Type} {enc : TypeId × Value → H} {base : Nat} {d : DataW H} {p : List MemPlace} (w0 : a0.size ≤ maxLen) (w1 : (Lit.int .u16 a1).wf = true)
    (hv : Value.okWide Try.prog w .any base 47 v2) (_h : DataW.Trod enc Try.prog w 0 (fun _ => true) true 47 v2 d p) (_lt1 : ∀ x ∈ p, x.block < w.heap.size) :
    Calls Try.prog 10 #[.string a0, .int .u16 a1, v2] w fun e w' => e = .returned (.bool true) ∧ Below w.heap.size w w' := by
  have hb := bounds_u16 w1
  obtain ⟨n, rfl⟩ : ∃ n : Nat, a1 = (n : Int) := ⟨a1.toNat, by omega⟩
  simp only [Value.okWide, Try.underlying47] at hv
  obtain ⟨cs, rfl, hsz, ts, hts, _, hc⟩ := hv
  rw [show Try.prog.cellsOf 47 = 4 by kernel_rfl] at hsz
  have ht4 : Try.prog.cellTypes Try.prog.depth 47 = some [5, 5, 5, 5] := by kernel_rfl
  obtain rfl : [5, 5, 5, 5] = ts := Option.some.inj (ht4.symm.trans hts)
  obtain ⟨l, rfl⟩ : ∃ l : List Value, cs = l.toArray := ⟨cs.toList, rfl⟩
  match l, hsz, hc with
  | [x0, x1, x2, x3], _, hc =>
    obtain ⟨u0, h0, k0⟩ := hc 0 x0 rfl
    obtain ⟨u1, h1, k1⟩ := hc 1 x1 rfl
    obtain ⟨u2, h2, k2⟩ := hc 2 x2 rfl
    obtain ⟨u3, h3, k3⟩ := hc 3 x3 rfl
    simp at h0 h1 h2 h3
    subst h0 h1 h2 h3
    obtain ⟨a, rfl⟩ := byte_cell k0
    obtain ⟨b, rfl⟩ := byte_cell k1
    obtain ⟨c, rfl⟩ := byte_cell k2
    obtain ⟨d, rfl⟩ := byte_cell k3
    exact core a0 n a b c d w w0 (by omega)

end Go.Proofs.Ytmaljobfboboeaa.sumTurned
