/- The document's wire: 'places' of a list. -/
import Derived.Test.YtgacphicgglogaaWireI
import Derived.Test.YtgacphicgglogaaWireR
namespace Go.Proofs.Ytgacphicgglogaa
open Go.RowKit Crc
set_option linter.unusedVariables false

theorem u8_wrap_in (x : Int) (h0 : 0 ≤ x) (h1 : x < 256) : IntKind.u8.wrap x = x := by
  simp [IntKind.wrap, IntKind.bits, IntKind.signed]
  omega
theorem small_val (x : Int) (h0 : 0 ≤ x) (h1 : x < 256) : byteVals [smallB x] = [.int .u8 x] := by
  simp only [byteVals, List.map_cons, List.map_nil, smallB]
  rw [show ((UInt8.ofNat x.toNat).toNat : Int) = x by rw [UInt8.toNat_ofNat']; omega]
theorem row_small (w : World) (x : Int) (h0 : 0 ≤ x) (h1 : x < 256) : Row (w.alloc (.cells #[.int .u8 x] 5)) w.heap.size 5 (byteVals [smallB x]) := by
  rw [small_val x h0 h1]
  exact Row.of_blk (Blk.new _ _ _)

def placesRes (l : List Int) : ByteArray × Bool := if listOk l then (bs (listB l), true) else (⟨#[]⟩, false)

set_option maxHeartbeats 2000000 in
set_option maxRecDepth 100000 in
theorem refPlaces_any (w : World) (A : Option Addr) (n c : Nat) (l : List Int) (hl : l.length = n) (hr : Reads w w.heap.size 1 A n (intV l)) (hn : n ≤ 9223372036854775807) :
    Calls Try.prog 54 #[.slice A n c] w fun e w' => e = .returned (.tuple #[.string (placesRes l).1, .bool (placesRes l).2]) ∧ Below w.heap.size w w' := by
  go_enter Try.func54, Try.ntmps54
  by_cases h48 : n ≤ 48
  case neg =>
    have hz : (48 : Int) < (n : Int) := by omega
    have HP := Lib.hid (show placesRes l = (⟨#[]⟩, false) by unfold placesRes; rw [if_neg (fun h => h48 (by have := h.1; omega))])
    clear h48 hl hr
    go_wp2
    go_ret2
    exact ⟨by rw [HP.out]; rfl, Below.refl _ _⟩
  have hz : ¬ (48 : Int) < (n : Int) := by omega
  have hnb : (n : Int) < 100 := by omega
  have hwn := u8_wrap_in (n : Int) (by omega) (by omega)
  have hrow := row_small w (n : Int) (by omega) (by omega)
  have hb1 : Below w.heap.size w (w.alloc (.cells #[.int .u8 (n : Int)] 5)) := (Below.refl _ _).alloc (Nat.le_refl _) _
  have HROW := Lib.hid hrow
  have HB1 := Lib.hid hb1
  clear hrow hb1
  go_wp2_with (refine wpList_unbytes rfl (.tmp 12) 75 9 5 rfl Try.underlying75 Try.underlying5 Try.underlying9 w.heap.size 1 1 [smallB (n : Int)] rfl rfl HROW.out ?_)
  go_loopw [4, 5] (fun t i wr => ∃ k : Nat, k ≤ n ∧ i = .int .i64 (k : Int) ∧ t = .string (bs (smallB (n : Int) :: (l.take k).map smallB)) ∧ Below w.heap.size w wr ∧ ∀ x ∈ l.take k, 0 ≤ x ∧ x ≤ 63) (fun _ i _ => n - (intOf i).toNat)
  case atStart => exact ⟨0, Nat.zero_le _, rfl, rfl, HB1.out, fun x hx => by simp at hx⟩
  case round =>
    obtain ⟨k, hk, rfl, rfl, hbk, hall⟩ := hrel
    clear HROW HB1
    by_cases hkn : k < n
    · have hkz : (k : Int) < (n : Int) := by omega
      obtain ⟨ad, u, rfl, _, hu, hcell⟩ := (hr.below hbk).at_ hkn
      rw [intV_at l k (by omega)] at hu
      injection hu with hu
      subst hu
      have hkl : k < l.length := by omega
      obtain ⟨x, hx⟩ : ∃ x, l[k] = x := ⟨_, rfl⟩
      have htake : l.take (k + 1) = l.take k ++ [x] := by rw [List.take_succ_eq_append_getElem hkl, hx]
      rw [hx] at hcell
      by_cases hxo : 0 ≤ x ∧ x ≤ 63
      · have happ : bs (smallB (n : Int) :: (l.take k).map smallB) ++ bs [smallB x] = bs (smallB (n : Int) :: (l.take (k + 1)).map smallB) := bs_ext (by rw [htake]; simp [bs])
        have HA := Lib.hid happ
        have hsz : (bs (smallB (n : Int) :: (l.take k).map smallB)).size ≤ 50 := by rw [bs_size, List.length_cons, List.length_map, List.length_take]; omega
        have hone : (bs [smallB x]).size = 1 := rfl
        have hx0 : ¬ x < 0 := by omega
        have hx1 : ¬ 63 < x := by omega
        have hwx := u8_wrap_in x (by omega) (by omega)
        have HROW := Lib.hid (row_small wr x (by omega) (by omega))
        have HALL := Lib.hid (show ∀ y ∈ l.take (k + 1), 0 ≤ y ∧ y ≤ 63 from fun y hy => by
          rw [htake] at hy
          rcases List.mem_append.1 hy with hy | hy
          · exact hall y hy
          · rw [List.mem_singleton.1 hy]; exact hxo)
        clear happ hxo hall htake hx
        generalize bs (smallB (n : Int) :: (l.take k).map smallB) = t at *
        obtain ⟨t1, ht1⟩ : ∃ t1, bs [smallB x] = t1 := ⟨_, rfl⟩
        rw [ht1] at hone HA
        have HT1 := Lib.hid ht1
        clear ht1
        go_wp2_with (refine wpList_unbytes rfl (.tmp 38) 75 9 5 rfl Try.underlying75 Try.underlying5 Try.underlying9 wr.heap.size 1 1 [smallB x] rfl rfl HROW.out ?_; rw [show (⟨[smallB x].toArray⟩ : ByteArray) = t1 from HT1.out])
        go_roundw
        case rel => exact ⟨k + 1, by omega, by go_num, by rw [← HA.out], hbk.alloc hbk.size _, HALL.out⟩
        case measure => simp [intOf]; omega
      · have HP := Lib.hid (show placesRes l = (⟨#[]⟩, false) by unfold placesRes; rw [if_neg (fun h => hxo (h.2 x (by rw [← hx]; exact List.getElem_mem hkl)))])
        clear hx htake hall
        by_cases hx0 : x < 0
        · clear hxo
          go_wp2
          go_ret2
          exact ⟨by rw [HP.out]; rfl, hbk⟩
        · have hx1 : 63 < x := by omega
          clear hxo
          go_wp2
          go_ret2
          exact ⟨by rw [HP.out]; rfl, hbk⟩
    · obtain rfl : k = n := by omega
      have hkz : ¬ (k : Int) < (k : Int) := by omega
      rw [List.take_of_length_le (by omega)] at hall
      rw [List.take_of_length_le (by omega)]
      have HP := Lib.hid (show placesRes l = (bs (smallB (k : Int) :: l.map smallB), true) by unfold placesRes; rw [if_pos ⟨by omega, hall⟩]; unfold listB; rw [hl])
      clear hall
      generalize bs (smallB (k : Int) :: l.map smallB) = t at *
      go_wp2
      go_ret2
      exact ⟨by rw [HP.out]; rfl, hbk⟩
end Go.Proofs.Ytgacphicgglogaa
