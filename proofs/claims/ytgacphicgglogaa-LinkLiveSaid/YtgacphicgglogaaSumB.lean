/- The contracts of sum.four and of the maker's fill. -/
import Derived.Test.YtgacphicgglogaaSumA
namespace Go.Proofs.Ytgacphicgglogaa
open Go.RowKit Crc

theorem byteVals_le4 {n : Nat} (_h : n < 4294967296) : byteVals (le4 n) = [.int .u8 ((n : Int) % 256), .int .u8 ((n : Int) / 256 % 256), .int .u8 ((n : Int) / 65536 % 256), .int .u8 ((n : Int) / 16777216)] := by
  have h : ∀ m : Nat, ((UInt8.ofNat m).toNat : Int) = (m : Int) % 256 := fun m => by rw [UInt8.toNat_ofNat']; omega
  have h4 : ((UInt8.ofNat (n / 16777216)).toNat : Int) = (n : Int) / 16777216 := by rw [UInt8.toNat_ofNat']; omega
  simp only [byteVals, le4, List.map_cons, List.map_nil, h4, h]
  rfl

theorem four_any (n : Nat) (w : World) (hn : n < 4294967296) :
    Calls Try.prog 86 #[.int .u32 n] w fun e w' => e = .returned (.string ⟨(le4 n).toArray⟩) ∧ Below w.heap.size w w' := by
  go_enter Try.func86, Try.ntmps86
  have hv := byteVals_le4 hn
  have hrow : Row (w.alloc (.cells #[.int .u8 ((n : Int) % 256), .int .u8 ((n : Int) / 256 % 256), .int .u8 ((n : Int) / 65536 % 256), .int .u8 ((n : Int) / 16777216)] 5)) w.heap.size 5 (byteVals (le4 n)) := by
    rw [hv]; exact Row.of_blk (Blk.new _ _ _)
  clear hv
  go_wp2_with (refine wpList_unbytes rfl (.tmp 14) 75 9 5 rfl Try.underlying75 Try.underlying5 Try.underlying9 w.heap.size 4 4 (le4 n) rfl rfl hrow ?_)
  go_ret
  exact ⟨rfl, (Below.refl _ _).alloc (Nat.le_refl _) _⟩

theorem and1_val {y : Nat} (h : y < 4294967296) : bits .and .u32 (y : Int) 1 = ((y % 2 : Nat) : Int) := by
  rw [show (1 : Int) = ((1 : Nat) : Int) from rfl, u32_and_nat _ _ h (by omega), Nat.and_one_is_mod]

/-- The maker's block: the Once's word, its lock, the table. -/
def makerL (d s : Int) (tab : List Nat) : List Value := [.int .u32 d, .int .i32 s, .int .u32 0] ++ tab.map fun n => .int .u32 n
def tabTo (k : Nat) : List Nat := (List.range k).map stp8 ++ List.replicate (256 - k) 0
theorem tabTo_len (k : Nat) (h : k ≤ 256) : (tabTo k).length = 256 := by simp [tabTo]; omega
theorem tabTo_set (k : Nat) (h : k < 256) : (tabTo k).set k (stp8 k) = tabTo (k + 1) := by
  unfold tabTo
  rw [List.set_append_right _ _ (by simp), List.range_succ, List.map_append, show 256 - k = (256 - (k + 1)) + 1 by omega, List.replicate_succ]
  simp
theorem tabTo_full (i : Nat) (h : i < 256) : (tabTo 256)[i]? = some (stp8 i) := by
  unfold tabTo
  rw [List.getElem?_append_left (by simpa using h)]
  simp [h]
theorem makerL_tab (d s : Int) (tab : List Nat) (i : Nat) (n : Nat) (h : tab[i]? = some n) : (makerL d s tab)[3 + i]? = some (.int .u32 n) := by
  unfold makerL
  rw [List.getElem?_append_right (by simp)]
  simp [h]
theorem makerL_set (d s : Int) (tab : List Nat) (i n : Nat) : (makerL d s tab).set (3 + i) (.int .u32 n) = makerL d s (tab.set i n) := by
  unfold makerL
  rw [List.set_append_right _ _ (by simp)]
  simp [List.map_set]

def MakerAt (w : World) (g : Nat) (d s : Int) (tab : List Nat) : Prop := Blk w g 169 (makerL d s tab).toArray

set_option maxRecDepth 100000 in
set_option maxHeartbeats 400000 in
theorem fill_any (g : Nat) (d s : Int) (w : World) (h : MakerAt w g d s (tabTo 0)) :
    Calls Try.prog 91 #[.pointer (some ⟨g, 0, none⟩)] w fun e w' => e = .returned (.tuple #[]) ∧ MakerAt w' g d s (tabTo 256) ∧ w.grownBy w' (some g) := by
  go_enter Try.func91, Try.ntmps91
  go_wp2_with fail
  go_loopw [5] (fun i wr => ∃ k : Nat, k ≤ 256 ∧ i = .int .i64 k ∧ MakerAt wr g d s (tabTo k) ∧ w.grownBy wr (some g)) (fun i _ => 256 - (intOf i).toNat)
  case atStart => exact ⟨0, by omega, rfl, h, World.grownBy.refl w _⟩
  case round =>
    obtain ⟨k, hk, rfl, hm, hg⟩ := hrel
    by_cases hlt : k < 256
    · go_wp2_with fail
      go_loop [3, 10] (fun n j => ∃ m : Nat, m ≤ 8 ∧ j = .int .i64 m ∧ n = .int .u32 (stps m k : Nat)) (fun _ j => 8 - (intOf j).toNat)
      case atStart => exact ⟨0, by omega, rfl, rfl⟩
      case round =>
        obtain ⟨m, hm8, rfl, rfl⟩ := hrel
        have hyl := stps_lt m (n := k) (by omega)
        have hys := stps_succ' m k
        have HY := Lib.hid hys
        clear hys
        by_cases hlm : m < 8
        · generalize stps m k = y at *
          by_cases hodd : y % 2 = 1
          · have hst : bits .xor .u32 ((y : Int) / 2) 3988292384 = (stp y : Int) := stp_odd_val hyl hodd
            have ho2 : (bits .and .u32 (y : Int) 1 == 1) = true := by rw [and1_val hyl, hodd]; rfl
            clear hodd
            go_wp2
            go_round
            case rel => exact ⟨m + 1, by omega, by go_num, by rw [HY.out]⟩
            case measure => simp [intOf]; omega
          · have hst : (stp y : Int) = (y : Int) / 2 := stp_even_val hodd
            have ho2 : (bits .and .u32 (y : Int) 1 == 1) = false := by rw [and1_val hyl, show y % 2 = 0 by omega]; rfl
            have HST := Lib.hid hst
            clear hst hodd
            go_wp2
            go_round
            case rel => exact ⟨m + 1, by omega, by go_num, by rw [HY.out, HST.out]⟩
            case measure => simp [intOf]; omega
        · obtain rfl : m = 8 := by omega
          have hcell : wr.cell? ⟨g, 3 + k, none⟩ = some (.int .u32 ((tabTo k)[k]'(by rw [tabTo_len k hk]; exact hlt) : Nat)) := by
            rw [Blk.cell hm (3 + k)]
            have := makerL_tab d s (tabTo k) k _ (List.getElem?_eq_getElem (by rw [tabTo_len k hk]; exact hlt))
            simpa using this
          have hfz : wr.frozen? ⟨g, 3 + k, none⟩ = false := Blk.frozen hm (3 + k)
          have hm2 : MakerAt (wr.setCell ⟨g, 3 + k, none⟩ (.int .u32 (stps 8 k : Nat))) g d s (tabTo (k + 1)) := by
            have h1 := Blk.set_ hm (3 + k) (.int .u32 (stp8 k : Nat))
            have h2 := makerL_set d s (tabTo k) k (stp8 k)
            rw [tabTo_set k hlt] at h2
            unfold MakerAt
            rw [← h2]
            simpa [stp8] using h1
          have hg2 : w.grownBy (wr.setCell ⟨g, 3 + k, none⟩ (.int .u32 (stps 8 k : Nat))) (some g) :=
            ⟨hg.os, hg.tape, hg.output, by simpa [World.setCell] using hg.size, fun j hj hne => by rw [Below.heap_setCell _ _ _ _ (by simpa using hne)]; exact hg.block j hj hne⟩
          have hk1 : (k : Int) < 256 := by omega
          clear hm hg
          go_wp2
          go_roundw
          case rel => exact ⟨k + 1, by omega, by go_num, hm2, hg2⟩
          case measure => simp [intOf]; omega
    · go_wp2
      go_end0
      obtain rfl : k = 256 := by omega
      exact ⟨rfl, hm, hg⟩

end Go.Proofs.Ytgacphicgglogaa
