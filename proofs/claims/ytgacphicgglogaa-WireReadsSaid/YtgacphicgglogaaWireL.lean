/- 'Same' of lists, of pasts, of messages, where they are alike. -/
import Derived.Test.YtgacphicgglogaaWireI
import Derived.StillTailTactics
namespace Go.Proofs.Ytgacphicgglogaa
open Go.RowKit Crc
set_option linter.unusedVariables false

theorem IntsAt.cellAt {w : World} {B : Nat} {v : Value} {l : List Int} (h : IntsAt w B v l) : ∃ A c, v = .slice A l.length c ∧ l.length ≤ 9223372036854775807 ∧ ∀ i (hi : i < l.length), ∃ ad, A = some ad ∧ ad.block < B ∧ w.cell? (ad.add i) = some (.int .i64 l[i]) := by
  obtain ⟨A, n, c, rfl, rfl, h2, h3⟩ := h
  refine ⟨A, c, rfl, h2, fun i hi => ?_⟩
  obtain ⟨ad, u, e, hb, hu, hc⟩ := h3.at_ hi
  rw [intV_at l i hi] at hu
  injection hu with hu
  subst hu
  exact ⟨ad, e, hb, hc⟩

set_option maxHeartbeats 1000000 in
set_option maxRecDepth 100000 in
theorem sameInts_eq (w : World) (B : Nat) (v1 v2 : Value) (l : List Int) (h1 : IntsAt w B v1 l) (h2 : IntsAt w B v2 l) :
    Calls Try.prog 56 #[v1, v2] w fun e w' => e = .returned (.bool true) ∧ ∃ n, w' = w.drewN n := by
  obtain ⟨A1, c1, rfl, hlen, g1⟩ := h1.cellAt
  obtain ⟨A2, c2, rfl, _, g2⟩ := h2.cellAt
  clear h1 h2
  have HG1 := Lib.hid g1
  have HG2 := Lib.hid g2
  clear g1 g2
  obtain ⟨n, hn⟩ : ∃ n, l.length = n := ⟨_, rfl⟩
  rw [hn] at hlen
  rw [hn]
  have HN := Lib.hid hn
  clear hn
  go_enter Try.func56, Try.ntmps56
  go_wp2
  go_loopw [5] (fun v wr => ∃ k m : Nat, v = .int .i64 (k : Int) ∧ k ≤ n ∧ wr = w.drewN m) (fun v _ => n - (intOf v).toNat)
  case atStart => exact ⟨0, 0, rfl, Nat.zero_le _, rfl⟩
  case round =>
    obtain ⟨k, m, rfl, hk, rfl⟩ := hrel
    by_cases hkn : k < n
    · have hkz : (k : Int) < (n : Int) := by omega
      obtain ⟨a1, rfl, _, hc1⟩ := HG1.out k (by rw [HN.out]; exact hkn)
      obtain ⟨a2, rfl, _, hc2⟩ := HG2.out k (by rw [HN.out]; exact hkn)
      obtain ⟨x, hx⟩ : ∃ x, l[k]'(by rw [HN.out]; exact hkn) = x := ⟨_, rfl⟩
      rw [hx] at hc1 hc2
      clear hx
      go_wp2
      go_quiet (fail)
      go_wp2
      go_roundw
      case rel => exact ⟨k + 1, m + nq, by go_num, by omega, rfl⟩
      case measure => simp [intOf]; omega
    · obtain rfl : k = n := by omega
      have hkz : ¬ (k : Int) < (k : Int) := by omega
      go_wp2
      go_ret
      exact ⟨rfl, m, rfl⟩

set_option maxHeartbeats 2000000 in
set_option maxRecDepth 100000 in
theorem samePasts_eq (w : World) (B : Nat) (v1 v2 : Value) (l : List PastL) (h1 : PastsAt w B v1 l) (h2 : PastsAt w B v2 l) :
    Calls Try.prog 57 #[v1, v2] w fun e w' => e = .returned (.bool true) ∧ ∃ n, w' = w.drewN n := by
  obtain ⟨A1, n, c1, rfl, hln, hlen, g1⟩ := h1
  obtain ⟨A2, n2, c2, rfl, hln2, _, g2⟩ := h2
  obtain rfl : n2 = n := by omega
  have HG1 := Lib.hid g1
  have HG2 := Lib.hid g2
  clear g1 g2
  have HN := Lib.hid hln
  clear hln hln2
  go_enter Try.func57, Try.ntmps57
  go_wp2
  go_loopw [5] (fun v wr => ∃ k m : Nat, v = .int .i64 (k : Int) ∧ k ≤ n2 ∧ wr = w.drewN m) (fun v _ => n2 - (intOf v).toNat)
  case atStart => exact ⟨0, 0, rfl, Nat.zero_le _, rfl⟩
  case round =>
    obtain ⟨k, m, rfl, hk, rfl⟩ := hrel
    by_cases hkn : k < n2
    · have hkz : (k : Int) < (n2 : Int) := by omega
      have hk0 : (0 : Int) ≤ (k : Int) := by omega
      obtain ⟨a1, u1, rfl, _, hc1, hd1, hi1⟩ := HG1.out k (by rw [HN.out]; exact hkn)
      obtain ⟨a2, u2, rfl, _, hc2, hd2, hi2⟩ := HG2.out k (by rw [HN.out]; exact hkn)
      obtain ⟨x, hx⟩ : ∃ x, l[k]'(by rw [HN.out]; exact hkn) = x := ⟨_, rfl⟩
      rw [hx] at hc1 hi1 hc2 hi2
      have hsame : ∀ j, Calls Try.prog 56 #[u1, u2] (w.drewN (m + j)) fun e w'' => e = .returned (.bool true) ∧ ∃ n, w'' = w.drewN (m + n) := fun j =>
        (sameInts_eq (w.drewN (m + j)) B u1 u2 x.set (hi1.below (Tr_below_drewN (Below.refl _ _) _)) (hi2.below (Tr_below_drewN (Below.refl _ _) _))).mono fun e w'' ⟨he, n, hn⟩ => ⟨he, j + n, by rw [hn, World.drewN_drewN, Nat.add_assoc]⟩
      have HSM := Lib.hid hsame
      clear hx hi1 hi2 hsame
      go_wp2
      go_quiet (exact HSM.out _)
      go_wp2
      go_roundw
      case rel => exact ⟨k + 1, m + nq, by go_num, by omega, rfl⟩
      case measure => simp [intOf]; omega
    · obtain rfl : k = n2 := by omega
      have hkz : ¬ (k : Int) < (k : Int) := by omega
      go_wp2
      go_ret
      exact ⟨rfl, m, rfl⟩
end Go.Proofs.Ytgacphicgglogaa
