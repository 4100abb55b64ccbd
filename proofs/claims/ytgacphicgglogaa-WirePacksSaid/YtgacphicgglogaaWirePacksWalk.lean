/- The walk of WirePacks. -/
import Derived.Test.YtgacphicgglogaaWireU
import Derived.OpenShut
namespace Go.Proofs.Ytgacphicgglogaa.wirePacks
open Go.RowKit Crc
set_option linter.unusedVariables false

theorem pack_cases (k : Int) (n : Nat) (load : ByteArray) : (∃ j : Nat, k = (j : Int) ∧ (j = 1 ∨ (j = 2 ∧ load = ByteArray.empty)) ∧ load.size ≤ 800 ∧ packRes k n load = (packB j n load, 0)) ∨ ((packRes k n load).2 ≠ 0 ∧ (packRes k n load).1 = ByteArray.empty) := by
  unfold packRes
  by_cases h1 : k = 1 ∨ (k = 2 ∧ load = ByteArray.empty)
  · rw [if_neg (fun h => h h1)]
    by_cases h2 : 800 < load.size
    · rw [if_pos h2]
      exact .inr ⟨by decide, rfl⟩
    · rw [if_neg h2]
      rcases h1 with rfl | ⟨rfl, h3⟩
      · exact .inl ⟨1, rfl, .inl rfl, by omega, rfl⟩
      · exact .inl ⟨2, rfl, .inr ⟨rfl, h3⟩, by omega, rfl⟩
  · rw [if_pos h1]
    exact .inr ⟨by decide, rfl⟩

set_option maxHeartbeats 2000000 in
set_option maxRecDepth 100000 in
theorem core (k : Int) (n : Nat) (load : ByteArray) (w : World) (hn : n < 18446744073709551616) (hm : load.size ≤ maxLen) :
    Calls Try.prog 8 #[.int .i64 k, .int .u64 (n : Int), .string load] w fun e w' => e = .returned (.bool true) ∧ Below w.heap.size w w' := by
  go_enter Try.func8, Try.ntmps8
  go_wp2_with fail
  refine (pack_any k n load w hn hm).mono ?_
  rintro e w1 ⟨rfl, hb1⟩
  go_wp2_with fail
  refine (refPack_any k n load w1 hn hm).mono ?_
  rintro e w2 ⟨rfl, hb2⟩
  have hb12 := hb1.trans (hb2.mono hb1.size)
  clear hb1 hb2
  go_wp2_with fail
  refine (wakes16_any w2).mono ?_
  rintro e w3 ⟨rfl, hb3⟩
  have hb13 := hb12.trans (hb3.mono hb12.size)
  clear hb12 hb3
  have hsz := packRes_size k n load
  have hup := unpack_any (packRes k n load).1 w3 (by omega)
  rcases pack_cases k n load with ⟨j, rfl, hj, hl, hp⟩ | ⟨h2, h1⟩
  · rw [hp] at hup ⊢
    have hu := unpack_pack j n load hj hn hl
    rw [hu] at hup
    have HUP := Lib.hid hup
    clear hup hp hu hsz
    generalize packB j n load = pk at *
    go_wp2_with fail
    refine HUP.out.mono ?_
    rintro e w4 ⟨rfl, hb4⟩
    go_wp2
    go_ret
    exact ⟨rfl, hb13.trans (hb4.mono hb13.size)⟩
  · have HUP := Lib.hid hup
    clear hup hsz h1
    generalize unpackRes (packRes k n load).1 = ur at *
    generalize packRes k n load = pr at *
    obtain ⟨ps, pe⟩ := pr
    dsimp only at h2 HUP ⊢
    go_wp2_with fail
    refine HUP.out.mono ?_
    rintro e w4 ⟨rfl, hb4⟩
    go_wp2
    go_ret
    exact ⟨rfl, hb13.trans (hb4.mono hb13.size)⟩

theorem walk (a0 a1 : Int) (a2 : ByteArray) (w : World) (w0 : (Lit.int .i64 a0).wf = true) (w1 : (Lit.int .u64 a1).wf = true) (w2 : a2.size ≤ maxLen) :
    Calls Try.prog 8 #[.int .i64 a0, .int .u64 a1, .string a2] w fun e w' => e = .returned (.bool true) ∧ Below w.heap.size w w' := by
  have hb := bounds_u64 w1
  obtain ⟨n, rfl⟩ : ∃ n : Nat, a1 = (n : Int) := ⟨a1.toNat, by omega⟩
  exact core a0 n a2 w (by omega) w2
end Go.Proofs.Ytgacphicgglogaa.wirePacks
