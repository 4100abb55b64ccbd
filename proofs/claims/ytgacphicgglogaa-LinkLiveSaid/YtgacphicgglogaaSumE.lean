/- The contracts of sum.Of, Seal, Open, and of the reference's Seal and Open. -/
import Derived.Test.YtgacphicgglogaaSumD
namespace Go.Proofs.Ytgacphicgglogaa
open Go.RowKit Crc

theorem maker_new (w : World) : MakerAt (w.alloc (.cells (makerL 0 0 (tabTo 0)).toArray 169)) w.heap.size 0 0 (tabTo 0) := Blk.new _ _ _

theorem zero_maker (w : World) : (zeroValue 169).run Try.prog w = .ok (.agg (makerL 0 0 (tabTo 0)).toArray) w := by kernel_rfl

theorem do_any (g : Nat) (w : World) (h : MakerAt w g 0 0 (tabTo 0) ∨ MakerAt w g 1 0 (tabTo 256)) :
    Calls Try.prog 90 #[.pointer (some ⟨g, 0, none⟩), .func (.func 91) #[.pointer (some ⟨g, 0, none⟩)] #[]] w (SlowEnd g w) := by
  rcases h with h | h
  · exact do_first g w h
  · refine (do_done g w 0 _ h).mono ?_
    rintro e w' ⟨rfl, rfl⟩
    exact ⟨rfl, h, World.grownBy.refl w _⟩

theorem crcB_val {n : Nat} (h : n < 4294967296) (b : UInt8) {x : Nat} (hx : (n % 256) ^^^ b.toNat = x) : bits .xor .u32 ((n : Int) / 256) (stp8 x : Int) = (crcB n b : Int) := by
  have hb := byte_lt b
  have hx2 : x < 256 := by rw [← hx]; exact Nat.xor_lt_two_pow (n := 8) (Nat.mod_lt _ (by decide)) hb
  rw [show (n : Int) / 256 = ((n / 256 : Nat) : Int) from by omega, u32_xor_nat (n / 256) (stp8 x) (by omega) (stps_lt 8 (by omega)), crcB_table, hx]

set_option maxRecDepth 100000 in
set_option maxHeartbeats 1000000 in
theorem of_any (s : ByteArray) (w : World) (hs : s.size ≤ maxLen) :
    Calls Try.prog 87 #[.string s] w fun e w' => e = .returned (.int .u32 (crc s.data.toList)) ∧ Below w.heap.size w w' := by
  unfold maxLen at hs
  go_enter Try.func87, Try.ntmps87
  have hzm := zero_maker
  go_wp2_with fail
  clear hzm
  have hm0 := maker_new w
  have hb0 : Below w.heap.size w (w.alloc (.cells (makerL 0 0 (tabTo 0)).toArray 169)) := (Below.refl _ _).alloc (Nat.le_refl _) _
  generalize w.alloc (.cells (makerL 0 0 (tabTo 0)).toArray 169) = w1 at *
  generalize Value.agg (makerL 0 0 (tabTo 0)).toArray = mv at *
  go_loopw [4, 10] (fun n i wr => ∃ k : Nat, k ≤ s.size ∧ i = .int .i64 k ∧ n = .int .u32 (crcS ones (s.data.toList.take k) : Nat) ∧ Below w.heap.size w wr ∧ (MakerAt wr w.heap.size 0 0 (tabTo 0) ∨ MakerAt wr w.heap.size 1 0 (tabTo 256))) (fun _ i _ => s.size - (intOf i).toNat)
  case atStart => exact ⟨0, Nat.zero_le _, rfl, rfl, hb0, .inl hm0⟩
  case round =>
    obtain ⟨k, hk, rfl, rfl, hb, hm⟩ := hrel
    have hlt32 := crcS_lt ones_lt (s.data.toList.take k)
    by_cases hlt : k < s.size
    · have hsn := crcS_snoc s k hlt
      have HS := Lib.hid hsn
      clear hsn
      generalize crcS ones (s.data.toList.take k) = n at *
      have hby := byte_lt s[k]
      obtain ⟨x, hx⟩ : ∃ x, (n % 256) ^^^ s[k].toNat = x := ⟨_, rfl⟩
      have hx2 : x < 256 := by rw [← hx]; exact Nat.xor_lt_two_pow (n := 8) (Nat.mod_lt _ (by decide)) hby
      have hxor : bits .xor .u8 ((n : Int) % 256) (s[k].toNat : Int) = (x : Int) := by
        rw [show (n : Int) % 256 = ((n % 256 : Nat) : Int) from by omega, u8_xor_nat _ _ (Nat.mod_lt _ (by decide)) hby, hx]
      have hval := crcB_val hlt32 s[k] hx
      have hx3 : (x : Int) < 256 := by omega
      have hk1 : (k : Int) < (s.size : Int) := by omega
      clear hx
      go_wp2_with fail
      refine (do_any w.heap.size wr hm).mono ?_
      rintro e w2 ⟨rfl, hm2, hg2⟩
      have hb2 : Below w.heap.size w w2 := hb.grown hg2 hb.size (fun j hj => by injection hj with hj; omega)
      obtain ⟨_, _, hfz⟩ := maker_cells hm2
      have hcell : w2.cell? ⟨w.heap.size, 3 + x, none⟩ = some (.int .u32 (stp8 x : Nat)) := by
        rw [Blk.cell hm2 (3 + x)]
        have := makerL_tab 1 0 (tabTo 256) x _ (tabTo_full x hx2)
        simpa using this
      clear hm hg2 hfz
      go_wp2
      go_quiet (fail)
      go_wp2
      go_roundw
      case rel => exact ⟨k + 1, by omega, by go_num, by rw [HS.out], below_drewN hb2 nq, .inr (hm2 : MakerAt (w2.drewN nq) _ _ _ _)⟩
      case measure => simp [intOf]; omega
    · have hfin : crcS ones s.data.toList = crcS ones (s.data.toList.take k) := by rw [List.take_of_length_le (by simp; omega)]
      have hfin2 : bits .xor .u32 IntKind.u32.max (crcS ones (s.data.toList.take k) : Nat) = (crc s.data.toList : Int) := by
        rw [show IntKind.u32.max = ((ones : Nat) : Int) from rfl, u32_xor_nat _ _ ones_lt hlt32, Nat.xor_comm]
        unfold crc; rw [hfin]
      clear hfin hm
      generalize crcS ones (s.data.toList.take k) = n at *
      go_wp2
      go_ret
      exact ⟨by first | rfl | (rw [← hfin2]; rfl), hb⟩

end Go.Proofs.Ytgacphicgglogaa
