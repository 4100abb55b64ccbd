/- The walk of WireTurned. -/
import Derived.Test.YtgacphicgglogaaWireU
import Derived.Test.YtgacphicgglogaaMix
import Derived.Stop.BytesEq
import Derived.OpenShut
namespace Go.Proofs.Ytgacphicgglogaa.wireTurned
open Go.RowKit Crc
set_option linter.unusedVariables false

theorem size8 (w : World) : (sizeOf 5).run Try.prog w = .ok 1 w := by kernel_rfl


/-- What Unpack says of the turned datagram. -/
theorem unpack_turned (n : Nat) (load : ByteArray) (a b c d : UInt8) (k : Nat) (hk : k ≤ load.size + 9) (h0 : ¬ (a = 0 ∧ b = 0 ∧ c = 0 ∧ d = 0)) :
    unpackRes ⟨(mix (packB 1 n load).data.toList [a, b, c, d] k 4).toArray⟩ = (0, 0, ByteArray.empty, 13) := by
  have hs := packB_size 1 n load
  unfold packB at hs ⊢
  rw [sealB_size] at hs
  have := open_turned (((⟨[UInt8.ofNat 1].toArray⟩ : ByteArray) ++ ⟨(le8 n).toArray⟩) ++ load) a b c d k (by omega)
  rw [if_neg h0] at this
  unfold unpackRes
  rw [this]
  rfl

set_option maxHeartbeats 2000000 in
set_option maxRecDepth 100000 in
theorem core (n : Nat) (load : ByteArray) (at_ : Nat) (a b c d : UInt8) (w : World) (hn : n < 18446744073709551616) (hm : load.size ≤ maxLen) (hat : at_ < 65536) :
    Calls Try.prog 10 #[.int .u64 (n : Int), .string load, .agg #[.int .u16 (at_ : Int), .int .u8 (a.toNat : Int), .int .u8 (b.toNat : Int), .int .u8 (c.toNat : Int), .int .u8 (d.toNat : Int)]] w fun e w' => e = .returned (.bool true) ∧ Below w.heap.size w w' := by
  have hM0 := Row.of_blk (Blk.new w 74 #[.int .u16 (at_ : Int), .int .u8 (a.toNat : Int), .int .u8 (b.toNat : Int), .int .u8 (c.toNat : Int), .int .u8 (d.toNat : Int)])
  have hb0 : Below w.heap.size w (w.alloc (.cells #[.int .u16 (at_ : Int), .int .u8 (a.toNat : Int), .int .u8 (b.toNat : Int), .int .u8 (c.toNat : Int), .int .u8 (d.toNat : Int)] 74)) := (Below.refl _ _).alloc (Nat.le_refl _) _
  have HM0 := Lib.hid hM0
  have HB0 := Lib.hid hb0
  clear hM0 hb0
  go_enter Try.func10, Try.ntmps10
  go_wp2_with fail
  have hpk := pack_any 1 n load (w.alloc (.cells #[.int .u16 (at_ : Int), .int .u8 (a.toNat : Int), .int .u8 (b.toNat : Int), .int .u8 (c.toNat : Int), .int .u8 (d.toNat : Int)] 74)) hn hm
  generalize w.alloc (.cells #[.int .u16 (at_ : Int), .int .u8 (a.toNat : Int), .int .u8 (b.toNat : Int), .int .u8 (c.toNat : Int), .int .u8 (d.toNat : Int)] 74) = W0 at *
  refine hpk.mono ?_
  clear hpk
  rintro e w1 ⟨rfl, hb1⟩
  have hlt0 := HM0.out.lt
  have hM1 := HM0.out.below hb1 hlt0
  have hb01 := HB0.out.trans (hb1.mono HB0.out.size)
  clear HM0 HB0 hb1
  by_cases hl : 800 < load.size
  · rw [show packRes 1 n load = (ByteArray.empty, 4) by unfold packRes; rw [if_neg (fun h => h (.inl rfl)), if_pos hl]]
    go_wp2_with fail
    refine (wakes16_any w1).mono ?_
    rintro e w2 ⟨rfl, hb2⟩
    go_wp2
    go_ret
    exact ⟨rfl, hb01.trans (hb2.mono hb01.size)⟩
  · rw [show (1 : Int) = ((1 : Nat) : Int) from rfl, packRes_ok 1 n load (.inl rfl) (by omega)]
    have htl := packB_size 1 n load
    have hun := unpack_turned n load a b c d
    obtain ⟨t, ht⟩ : ∃ t, packB 1 n load = t := ⟨_, rfl⟩
    rw [ht] at htl hun ⊢
    have HUN := Lib.hid hun
    clear ht hun
    go_wp2_with fail
    refine (wakes16_any w1).mono ?_
    rintro e w2 ⟨rfl, hb2⟩
    have hlt1 := hM1.lt
    have hM2 := hM1.below hb2 hlt1
    have hb02 := hb01.trans (hb2.mono hb01.size)
    clear hM1 hb01 hb2
    obtain ⟨k, hk⟩ : ∃ k, at_ % (load.size + 10) = k := ⟨_, rfl⟩
    have hks : k ≤ load.size + 9 := by have := Nat.mod_lt at_ (show 0 < load.size + 10 by omega); omega
    have htl2 : (t.size : Int) = (load.size : Int) + 13 := by omega
    have hkm : (at_ : Int) % ((load.size : Int) + 13 - 3) = (k : Int) := by rw [show (load.size : Int) + 13 - 3 = ((load.size + 10 : Nat) : Int) by omega, ← hk, Int.natCast_emod]
    have hwat : IntKind.i64.wrap (at_ : Int) = (at_ : Int) := IntWalk.i64_in _ (by omega)
    have hl8 : load.size ≤ 800 := by omega
    have hcat : w2.cell? ⟨w.heap.size, 0, none⟩ = some (.int .u16 (at_ : Int)) := hM2.cell rfl
    have HKS := Lib.hid hk
    clear hk
    go_wp2_with (refine wpList_bytes rfl (.tmp 31) 9 75 5 rfl Try.underlying9 Try.underlying75 Try.underlying5 t rfl ?_; intro w3 cap hcap hb3 hsz3 hrow3; have hcat3 : w3.cell? ⟨w.heap.size, 0, none⟩ = some (.int .u16 (at_ : Int)) := (hM2.below hb3 hM2.lt).cell rfl)
    have hM3 := hM2.below hb3 hM2.lt
    have hlt2 := hM2.lt
    have hb03 := hb02.trans (hb3.mono hb02.size)
    have hgM : w.heap.size ≠ w2.heap.size := by omega
    have hG : w.heap.size ≤ w2.heap.size := by omega
    clear hM2 hb02 hb3 hsz3 hlt1 hlt0 hcat hcat3
    have hmix3 : Row w3 w2.heap.size 5 (byteVals (mix t.data.toList [a, b, c, d] k 0)) := hrow3
    clear hrow3
    generalize w2.heap.size = g at *
    have htL : t.data.toList.length = t.size := by simp
    generalize t.data.toList = tl at *
    go_loopw [40] (fun i wr => ∃ j : Nat, j ≤ 4 ∧ i = .int .i64 j ∧ Below w.heap.size w wr ∧ Row wr g 5 (byteVals (mix tl [a, b, c, d] k j)) ∧ Row wr w.heap.size 74 [.int .u16 (at_ : Int), .int .u8 (a.toNat : Int), .int .u8 (b.toNat : Int), .int .u8 (c.toNat : Int), .int .u8 (d.toNat : Int)]) (fun i _ => 4 - (intOf i).toNat)
    case atStart => exact ⟨0, Nat.zero_le _, rfl, hb03, hmix3, hM3⟩
    case round =>
      obtain ⟨j, hj, rfl, hb, hrow, hM⟩ := hrel
      by_cases hlt : j < 4
      · have hj4 : (j : Int) < 4 := by omega
        have hlen : (mix tl [a, b, c, d] k j).length = t.size := by rw [mix_len, htL]
        have hkj : k + j < (mix tl [a, b, c, d] k j).length := by rw [hlen]; omega
        have hmg : (mix tl [a, b, c, d] k j)[k + j]? = tl[k + j]? := by rw [mix_get, if_neg (by omega)]
        obtain ⟨x, hx⟩ : ∃ x, tl[k + j]? = some x := ⟨_, List.getElem?_eq_getElem (by omega)⟩
        obtain ⟨y, hy⟩ : ∃ y, [a, b, c, d][j]? = some y := ⟨_, List.getElem?_eq_getElem (by simpa using hlt)⟩
        have hcx : wr.cell? ⟨g, k + j, none⟩ = some (.int .u8 (x.toNat : Int)) := hrow.cell (by simp [byteVals, hmg, hx])
        have hcy : wr.cell? ⟨w.heap.size, 1 + j, none⟩ = some (.int .u8 (y.toNat : Int)) := hM.cell (by
          match j, hlt, hy with
          | 0, _, hy => injection hy with hy; subst hy; rfl
          | 1, _, hy => injection hy with hy; subst hy; rfl
          | 2, _, hy => injection hy with hy; subst hy; rfl
          | 3, _, hy => injection hy with hy; subst hy; rfl)
        have hfz : wr.frozen? ⟨g, k + j, none⟩ = false := hrow.frozen (by simpa [byteVals] using hkj)
        have hxor : bits .xor .u8 (x.toNat : Int) (y.toNat : Int) = ((x ^^^ y).toNat : Int) := by rw [u8_xor_nat _ _ (byte_lt _) (byte_lt _), UInt8.toNat_xor]
        have hrow4 : Row (wr.setCell ⟨g, k + j, none⟩ (.int .u8 ((x ^^^ y).toNat : Int))).drew g 5 (byteVals (mix tl [a, b, c, d] k (j + 1))) := by
          have := hrow.set_ (k + j) (.int .u8 ((x ^^^ y).toNat : Int))
          rw [byteVals_set] at this
          rw [mix, hx, hy]
          exact this
        have hM4 : Row (wr.setCell ⟨g, k + j, none⟩ (.int .u8 ((x ^^^ y).toNat : Int))).drew w.heap.size 74 [.int .u16 (at_ : Int), .int .u8 (a.toNat : Int), .int .u8 (b.toNat : Int), .int .u8 (c.toNat : Int), .int .u8 (d.toNat : Int)] := hM.far hgM _
        have hb4 : Below w.heap.size w (wr.setCell ⟨g, k + j, none⟩ (.int .u8 ((x ^^^ y).toNat : Int))).drew := (hb.setCell hG _).drew
        have hkjt : k + j < t.size := by omega
        have hkjt2 : (k : Int) + (j : Int) < (load.size : Int) + 13 := by omega
        have hwr := IntWalk.i64_in ((k : Int) + (j : Int)) (by omega)
        have hnat : ((k : Int) + (j : Int)).toNat = k + j := by omega
        have hkj0 : k + j < load.size + 13 := by omega
        clear hx hy hrow hM hb hlen hkj hmg
        generalize (x ^^^ y).toNat = z at *
        go_wp2
        refine Reg.wp_chain 12 [] (fun w' => w' = wr.drew) (fun _ _ => True) (by kernel_rfl) (by kernel_rfl) (by kernel_rfl) (by kernel_rfl) (fun _ _ d _ _ h => by cases d <;> exact h) rfl ?_
        simp only [List.take_succ_cons, List.take_zero]
        repeat (refine Reg.chain_plain rfl rfl ?_ ?_ ?_; rotate_left; (focus (rintro w3 rfl _; go_simp; rfl)))
        simp only [Act.put, List.setIfInBounds_toArray, List.set_cons_succ, List.set_cons_zero]
        refine Reg.chain_end (fun w3 hw3 _ => ?_)
        subst hw3
        simp only [List.drop_succ_cons, List.drop_zero]
        go_wp2
        go_roundw
        case rel => exact ⟨j + 1, by omega, by go_num, hb4, hrow4, hM4⟩
        case measure => simp [intOf]; omega
      · obtain rfl : j = 4 := by omega
        have hlen : (mix tl [a, b, c, d] k 4).length = t.size := by rw [mix_len, htL]
        have h0r : wr.cell? ⟨w.heap.size, 1, none⟩ = some (.int .u8 (a.toNat : Int)) := hM.cell rfl
        have h1r : wr.cell? ⟨w.heap.size, 2, none⟩ = some (.int .u8 (b.toNat : Int)) := hM.cell rfl
        have h2r : wr.cell? ⟨w.heap.size, 3, none⟩ = some (.int .u8 (c.toNat : Int)) := hM.cell rfl
        have h3r : wr.cell? ⟨w.heap.size, 4, none⟩ = some (.int .u8 (d.toNat : Int)) := hM.cell rfl
        have heq : (Op.equalIn 10000 72 (.agg #[.int .u8 (a.toNat : Int), .int .u8 (b.toNat : Int), .int .u8 (c.toNat : Int), .int .u8 (d.toNat : Int)]) (.agg #[.int .u8 0, .int .u8 0, .int .u8 0, .int .u8 0])).run Try.prog wr = .ok ([a, b, c, d] == [0, 0, 0, 0]) wr :=
          run_equalIn_bytes (P := Try.prog) wr 9998 72 5 4 Try.underlying72 Try.underlying5 size8 [a, b, c, d] [0, 0, 0, 0] rfl rfl
        by_cases h0 : a = 0 ∧ b = 0 ∧ c = 0 ∧ d = 0
        · obtain ⟨rfl, rfl, rfl, rfl⟩ := h0
          have heq2 : (Op.equalIn 10000 72 (.agg #[.int .u8 0, .int .u8 0, .int .u8 0, .int .u8 0]) (.agg #[.int .u8 0, .int .u8 0, .int .u8 0, .int .u8 0])).run Try.prog wr = .ok true wr := heq
          clear heq
          go_wp2
          go_ret
          exact ⟨rfl, hb⟩
        · rw [show ([a, b, c, d] == [0, 0, 0, 0]) = false by simpa using h0] at heq
          have hU := HUN.out k hks h0
          clear h0 HUN
          generalize mix tl [a, b, c, d] k 4 = ml at *
          have hms : (⟨ml.toArray⟩ : ByteArray).size = load.size + 13 := by show ml.toArray.size = _; rw [List.size_toArray, hlen, htl]
          have HU := Lib.hid hU
          clear hU
          go_wp2_with first | fail | (refine wpList_unbytes rfl (.tmp 61) 75 9 5 rfl Try.underlying75 Try.underlying5 Try.underlying9 g (load.size + 13) cap ml rfl (hlen.trans htl) hrow ?_)
          refine (unpack_any _ wr (by rw [hms]; omega)).mono ?_
          rintro e w5 ⟨rfl, hb5⟩
          rw [HU.out]
          have hbf : Below w.heap.size w w5 := hb.trans (hb5.mono hb.size)
          clear heq h0r h1r h2r h3r hrow hM hms hlen hb hb5
          go_wp2
          go_ret
          exact ⟨rfl, hbf⟩
set_option maxRecDepth 100000 in
theorem byte_cell {w : World} {r : Reach} {base : Nat} {v : Value} (h : Cell.okWide Try.prog w r base 5 v) : ∃ x : UInt8, v = .int .u8 (x.toNat : Int) := by
  cases v <;> simp [Cell.okWide, Cell.ok, Try.underlying5] at h
  obtain ⟨rfl, h1⟩ := h
  rename_i n
  simp [IntKind.has, IntKind.min, IntKind.max, IntKind.signed, IntKind.bits] at h1
  exact ⟨UInt8.ofNat n.toNat, by rw [UInt8.toNat_ofNat']; congr 1; omega⟩


set_option maxRecDepth 100000 in
theorem u16_cell {w : World} {r : Reach} {base : Nat} {v : Value} (h : Cell.okWide Try.prog w r base 71 v) : ∃ n : Nat, v = .int .u16 (n : Int) ∧ n < 65536 := by
  cases v <;> simp [Cell.okWide, Cell.ok, Try.underlying71] at h
  obtain ⟨rfl, h1⟩ := h
  rename_i n
  simp [IntKind.has, IntKind.min, IntKind.max, IntKind.signed, IntKind.bits] at h1
  exact ⟨n.toNat, by congr 1; omega, by omega⟩

set_option maxRecDepth 100000 in
theorem walk (a0 : Int) (a1 : ByteArray) (v2 : Value) (w : World) {H : Type} {enc : TypeId × Value → H} {base : Nat} {d : DataW H} {p : List MemPlace} (w0 : (Lit.int .u64 a0).wf = true) (w1 : a1.size ≤ maxLen)
    (hv : Value.okWide Try.prog w .any base 74 v2) (_h : DataW.Trod enc Try.prog w 0 (fun _ => true) true 74 v2 d p) (_lt1 : ∀ x ∈ p, x.block < w.heap.size) :
    Calls Try.prog 10 #[.int .u64 a0, .string a1, v2] w fun e w' => e = .returned (.bool true) ∧ Below w.heap.size w w' := by
  have hb := bounds_u64 w0
  obtain ⟨n, rfl⟩ : ∃ n : Nat, a0 = (n : Int) := ⟨a0.toNat, by omega⟩
  simp only [Value.okWide, Try.underlying74] at hv
  obtain ⟨cs, rfl, hsz, ts, hts, _, hc⟩ := hv
  rw [show Try.prog.cellsOf 74 = 5 by kernel_rfl] at hsz
  have ht4 : Try.prog.cellTypes Try.prog.depth 74 = some [71, 5, 5, 5, 5] := by kernel_rfl
  obtain rfl : [71, 5, 5, 5, 5] = ts := Option.some.inj (ht4.symm.trans hts)
  obtain ⟨l, rfl⟩ : ∃ l : List Value, cs = l.toArray := ⟨cs.toList, rfl⟩
  match l, hsz, hc with
  | [x4, x0, x1, x2, x3], _, hc =>
    obtain ⟨u4, h4, k4⟩ := hc 0 x4 rfl
    obtain ⟨u0, h0, k0⟩ := hc 1 x0 rfl
    obtain ⟨u1, h1, k1⟩ := hc 2 x1 rfl
    obtain ⟨u2, h2, k2⟩ := hc 3 x2 rfl
    obtain ⟨u3, h3, k3⟩ := hc 4 x3 rfl
    simp at h0 h1 h2 h3 h4
    subst h0 h1 h2 h3 h4
    obtain ⟨a, rfl⟩ := byte_cell k0
    obtain ⟨b, rfl⟩ := byte_cell k1
    obtain ⟨c, rfl⟩ := byte_cell k2
    obtain ⟨d, rfl⟩ := byte_cell k3
    obtain ⟨at_, rfl, hat⟩ := u16_cell k4
    exact core n a1 at_ a b c d w (by omega) w1 hat
end Go.Proofs.Ytgacphicgglogaa.wireTurned
