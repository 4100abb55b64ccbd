/- The walk of BagTurns. -/
import Derived.Test.YtmaljobfboboeaaBagT
import Derived.Test.YtmaljobfboboeaaOpen
namespace Go.Proofs.Ytmaljobfboboeaa.bagTurns
open Go.RowKit

/-- How many of the first k bytes differ. -/
def diffs (s t : ByteArray) : Nat → Nat
  | 0 => 0
  | k + 1 => diffs s t k + if s.data[k]? = t.data[k]? then 0 else 1

theorem diffs_self (s : ByteArray) (k : Nat) : diffs s s k = 0 := by induction k with
  | zero => rfl
  | succ k ih => simp [diffs, ih]

theorem turned_at (s : ByteArray) (n k : Nat) (hk : k < s.size) : (turnBytes s.data.toList n).toArray[k]? = some (if k = n / 8 then s.data[k] ^^^ bitOf (n % 8) else s.data[k]) := by
  have h1 : s.data.toList[k]? = some s.data[k] := by simp [hk]
  simp only [turnBytes, List.getElem?_toArray]
  by_cases h : k = n / 8
  · subst h
    have hl : n / 8 < s.data.toList.length := by simpa using hk
    rw [List.getElem?_set_self hl, h1]
    simp
  · rw [List.getElem?_set_ne (Ne.symm h), h1, if_neg h]

theorem diffs_turned (s : ByteArray) (n : Nat) : ∀ k, k ≤ s.size → diffs s ⟨(turnBytes s.data.toList n).toArray⟩ k ≤ if n / 8 < k then 1 else 0 := by
  intro k
  induction k with
  | zero => intro _; simp [diffs]
  | succ k ih =>
    intro hk
    have h1 := ih (by omega)
    have h2 := turned_at s n k (by omega)
    have h3 : s.data[k]? = some s.data[k] := Array.getElem?_eq_getElem (Nat.lt_of_succ_le hk)
    unfold diffs
    rw [h2, h3]
    by_cases h : k = n / 8
    · rw [if_neg (show ¬ n / 8 < k by omega)] at h1
      rw [if_pos (show n / 8 < k + 1 by omega)]
      have h5 : ∀ (c : Prop) [Decidable c], (if c then 0 else 1) ≤ 1 := fun c _ => by split <;> omega
      have h6 := h5 (some s.data[k] = some (if k = n / 8 then s.data[k] ^^^ bitOf (n % 8) else s.data[k]))
      omega
    · rw [if_neg h, if_pos rfl]
      by_cases h4 : n / 8 < k
      · rw [if_pos h4] at h1; rw [if_pos (by omega)]; omega
      · rw [if_neg h4] at h1; rw [if_neg (by omega)]; omega

theorem diffs_k (s t : ByteArray) : ∀ k, diffs s t k ≤ k := by
  intro k
  induction k with
  | zero => exact Nat.le_refl _
  | succ k ih =>
    have h5 : ∀ (c : Prop) [Decidable c], (if c then 0 else 1) ≤ 1 := fun c _ => by split <;> omega
    have := h5 (s.data[k]? = t.data[k]?)
    show diffs s t k + _ ≤ k + 1
    omega

theorem diffs_le {s t : ByteArray} (h : OneOff s t) : diffs s t s.size ≤ 1 := by
  rcases h with rfl | ⟨n, _, rfl⟩
  · rw [diffs_self]; omega
  · have := diffs_turned s n s.size (Nat.le_refl _)
    split at this <;> omega

theorem xor_form {s t : ByteArray} (h : OneOff s t) (k : Nat) (hk : k < s.size) (hk' : k < t.size) :
    (s[k] ^^^ t[k] = 0 ∧ s.data[k]? = t.data[k]?) ∨ ((∃ r, r < 8 ∧ s[k] ^^^ t[k] = bitOf r) ∧ ¬ s.data[k]? = t.data[k]?) := by
  have e1 : s.data[k]? = some s[k] := Array.getElem?_eq_getElem hk
  have e2 : t.data[k]? = some t[k] := Array.getElem?_eq_getElem hk'
  rcases h with rfl | ⟨n, _, rfl⟩
  · exact .inl ⟨by simp, rfl⟩
  · have h2 := turned_at s n k hk
    rw [e2] at h2
    injection h2 with h2
    have e0 : s[k] = s.data[k] := rfl
    by_cases h : k = n / 8
    · rw [if_pos h] at h2
      have hb : ∀ r, r < 8 → bitOf r ≠ 0 := by decide
      have hx : s[k] ^^^ (⟨(turnBytes s.data.toList n).toArray⟩ : ByteArray)[k] = bitOf (n % 8) := by
        rw [h2, e0, ← UInt8.xor_assoc, UInt8.xor_self, UInt8.zero_xor]
      refine .inr ⟨⟨n % 8, by omega, hx⟩, fun he => ?_⟩
      rw [e1, e2] at he
      injection he with he
      rw [he, UInt8.xor_self] at hx
      exact hb _ (by omega) hx.symm
    · rw [if_neg h] at h2
      refine .inl ⟨by rw [h2, e0, UInt8.xor_self], ?_⟩
      rw [e1, e2, h2, e0]

theorem and_pow : ∀ r, r < 8 → bits .and .u8 ((bitOf r).toNat : Int) (((bitOf r).toNat : Int) - 1) = 0 ∧ 1 ≤ (bitOf r).toNat ∧ (bitOf r).toNat ≤ 128 := by decide

set_option maxHeartbeats 1000000 in
set_option maxRecDepth 100000 in
theorem walk (a0 : ByteArray) (v1 : Value) (w : World) (w0 : a0.size ≤ maxLen) {H : Type} {enc : TypeId × Value → H} {base : Nat} {d : DataW H} {p : List MemPlace}
    (hv : Value.okWide Try.prog w .any base 22 v1) (h1 : DataW.Trod enc Try.prog w 0 (fun _ => true) true 22 v1 d p) (_lt1 : ∀ x ∈ p, x.block < w.heap.size) :
    Calls Try.prog 3 #[.string a0, v1] w fun e w' => e = .returned (.bool true) ∧ Below w.heap.size w w' := by
  obtain ⟨A, n, c, zs, rfl, hzn, hnc, hcm, hr, hwf⟩ := open_ints_reads Try.underlying22 Try.underlying3 (by kernel_rfl) hv h1
  clear hv h1 _lt1 hwf
  unfold maxLen at w0 hcm
  by_cases hbig : 50 < n
  · have hb' : (50 : Int) < (n : Int) := by omega
    go_enter Try.func3, Try.ntmps3
    go_wp2_with (go_at_call 12; refine (wakes17_any w).mono ?_; rintro e w1 ⟨rfl, hw1⟩)
    go_ret
    exact ⟨rfl, hw1⟩
  by_cases hbig2 : 2000 < a0.size
  · have hb' : ¬ (50 : Int) < (n : Int) := by omega
    have hb'' : (2000 : Int) < (a0.size : Int) := by omega
    go_enter Try.func3, Try.ntmps3
    go_wp2_with (go_at_call 12; refine (wakes17_any w).mono ?_; rintro e w1 ⟨rfl, hw1⟩)
    go_ret
    exact ⟨rfl, hw1⟩
  have hb' : ¬ (50 : Int) < (n : Int) := by omega
  have hb'' : ¬ (2000 : Int) < (a0.size : Int) := by omega
  go_enter Try.func3, Try.ntmps3
  go_wp2_with fail
  refine (wakes17_any w).mono ?_
  rintro e w1 ⟨rfl, hw1⟩
  go_wp2_with fail
  refine (new_any w1 w.heap.size hw1.size).mono ?_
  rintro e w2 ⟨rfl, hb2, hw2⟩
  have hw2' : Below w.heap.size w1 w2 := hw2.mono hw1.size
  clear hw2
  generalize w1.heap.size = p at *
  go_wp2_with fail
  refine (put_any w2 _ _ _ _ hb2 (by decide) a0 (Nat.le_trans hw1.size hw2'.size)).mono ?_
  rintro e w3 ⟨rfl, hw3, v3, hb3⟩
  have hnear : Near a0 (putL [] a0) := ⟨by simp [putL], fun x hx => by simp [putL] at hx; subst hx; exact ⟨fun _ => rfl, .inl rfl⟩⟩
  have hw13 : Below w.heap.size w w3 := (hw1.trans hw2').trans hw3
  generalize putL [] a0 = l3 at *
  go_wp2_with fail
  go_loopw [28] (fun i wr => ∃ (m : Nat) (v : Value) (l : List Item), m ≤ n ∧ i = .int .i64 m ∧ Below w.heap.size w wr ∧ BagAt wr w.heap.size p v l ∧ Near a0 l) (fun i _ => n - (intOf i).toNat)
  case atStart => exact ⟨0, _, _, Nat.zero_le _, rfl, hw13, hb3, hnear⟩
  case round =>
    obtain ⟨m, v, l, hm, rfl, hb, hbag, hnr⟩ := hrel
    by_cases hlt : m < n
    · obtain ⟨ad, u, rfl, hadb, hu, hc⟩ := (hr.keep (w' := wr) fun q hq => hb.cell hq).at_ hlt
      obtain ⟨z, rfl⟩ : ∃ z, u = .int .i64 z := by
        simp at hu; obtain ⟨z, _, rfl⟩ := hu; exact ⟨z, rfl⟩
      have hlt' : (m : Int) < (n : Int) := by omega
      go_wp2_with fail
      refine (turn_any wr _ _ _ _ hbag _ _ hb.size (hnr.sizes (by omega))).mono ?_
      rintro e w4 ⟨r4, l4, rfl, ht4, hw4, v4, hb4⟩
      have hn4 := hnr.turn ht4
      go_wp2_with fail
      refine (twice_any w4 _ _ _ _ hb4 hn4.1 _ (Nat.le_trans hb.size hw4.size)).mono ?_
      rintro e w5 ⟨r5, l5, rfl, ht5, hw5, v5, hb5⟩
      have hn5 := hn4.twice ht5
      go_wp2
      go_roundw
      case rel => exact ⟨m + 1, v5, l5, by omega, by go_num, (hb.trans hw4).trans hw5, hb5, hn5⟩
      case measure => simp [intOf]; omega
    · go_wp2_with fail
      refine (all_any wr _ _ _ _ hbag hnr.1 hb.size).mono ?_
      rintro e w4 ⟨v4, rfl, hw4, ho4⟩
      obtain ⟨A4, c4, rfl⟩ := own_form ho4
      have hr4 := reads_own ho4
      have hW4 : Below w.heap.size w w4 := hb.trans (hw4.mono hb.size)
      clear hb hbag hw4 ho4
      have hll := hnr.1
      go_wp2_with fail
      go_loopw [45] (fun i wr => ∃ (m q : Nat), m ≤ l.length ∧ i = .int .i64 m ∧ wr = w4.drewN q) (fun i _ => l.length - (intOf i).toNat)
      case atStart => exact ⟨0, 0, Nat.zero_le _, rfl, rfl⟩
      case round =>
        obtain ⟨m, q, hm, rfl, rfl⟩ := hrel
        by_cases hlt : m < l.length
        · obtain ⟨ad, u, rfl, hadb, hu, hc⟩ := hr4.at_ hlt
          have hu' : (texts l)[m]? = some (.string l[m].1) := by simp [texts, hlt]
          rw [hu'] at hu
          injection hu with hu
          subst hu
          have hone := (hnr.2 _ (List.getElem_mem hlt)).2
          have hlt' : (m : Int) < (l.length : Int) := by omega
          generalize l[m].1 = t at *
          have hts : t.size = a0.size := hone.size
          have hneq : ((t.size : Int) != (a0.size : Int)) = false := by simp [hts]
          have HT := Lib.hid hts
          clear hts hu'
          go_wp2_with fail
          go_loopw [9, 56] (fun c i wr => ∃ (k q : Nat), k ≤ a0.size ∧ i = .int .i64 k ∧ c = .int .i64 (diffs a0 t k) ∧ wr = w4.drewN q) (fun _ i _ => a0.size - (intOf i).toNat)
          case atStart => exact ⟨0, q, Nat.zero_le _, rfl, rfl, rfl⟩
          case round =>
            obtain ⟨k, q, hk, rfl, rfl, rfl⟩ := hrel
            by_cases hlk : k < a0.size
            · have hlk2 : k < t.size := by rw [HT.out]; exact hlk
              have hk1 : (k : Int) < (a0.size : Int) := by omega
              have hk2 : (k : Int) < (t.size : Int) := by omega
              obtain ⟨dd, hdd⟩ : ∃ dd, (a0[k] ^^^ t[k]).toNat = dd := ⟨_, rfl⟩
              have hxor : bits .xor .u8 (a0[k].toNat : Int) (t[k].toNat : Int) = (dd : Int) := by
                rw [u8_xor_nat _ _ (UInt8.toNat_lt _) (UInt8.toNat_lt _), ← UInt8.toNat_xor, hdd]
              have hform := xor_form hone k hlk hlk2
              have hsucc : diffs a0 t (k + 1) = diffs a0 t k + if dd = 0 then 0 else 1 := by
                show diffs a0 t k + _ = _
                rcases hform with ⟨h1, h2⟩ | ⟨⟨r, hr8, h1⟩, h2⟩
                · rw [h1] at hdd; rw [if_pos h2, if_pos (by rw [← hdd]; rfl)]
                · rw [h1] at hdd; rw [if_neg h2, if_neg (by have := (and_pow r hr8).2.1; omega)]
              have hand : dd ≠ 0 → bits .and .u8 (dd : Int) ((dd : Int) - 1) = 0 ∧ dd ≤ 128 := by
                intro h0
                rcases hform with ⟨h1, h2⟩ | ⟨⟨r, hr8, h1⟩, h2⟩
                · rw [h1] at hdd; exact absurd hdd.symm h0
                · rw [h1] at hdd; have := and_pow r hr8; rw [hdd] at this; exact ⟨this.1, this.2.2⟩
              have HS := Lib.hid hsucc
              clear hdd hform hsucc
              go_wp2
              go_quiet (fail)
              go_wp2
              have hdk := diffs_k a0 t k
              generalize hD : diffs a0 t k = D at *
              have hnq : (w4.drewN q).drewN nq = w4.drewN (q + nq) := by simp
              rw [hnq]
              have HD := Lib.hid hD
              clear hD hnq
              by_cases h0 : dd = 0
              · subst h0
                go_loop [9, 11] (fun c x => x = .int .u8 0 ∧ c = .int .i64 D) (fun _ _ => 0)
                case atStart => exact ⟨rfl, rfl⟩
                case round =>
                  obtain ⟨rfl, rfl⟩ := hrel
                  go_wp2
                  go_roundw
                  case rel => exact ⟨k + 1, q + nq, by omega, by go_num, by rw [HS.out]; rfl, rfl⟩
                  case measure => simp [intOf]; omega
              · obtain ⟨hand1, hand2⟩ := hand h0
                have hd0 : ((dd : Int) != 0) = true := by simp [h0]
                have hd1 : 1 ≤ (dd : Int) := by omega
                have hd2 : (dd : Int) ≤ 128 := by omega
                clear hand hxor
                go_loop [9, 11] (fun c x => (x = .int .u8 dd ∧ c = .int .i64 D) ∨ (x = .int .u8 0 ∧ c = .int .i64 (D + 1 : Nat))) (fun _ x => (intOf x).toNat)
                case atStart => exact .inl ⟨rfl, rfl⟩
                case round =>
                  rcases hrel with ⟨rfl, rfl⟩ | ⟨rfl, rfl⟩
                  · go_wp2
                    go_round
                    case rel => exact .inr ⟨by first | rfl | (rw [hand1]), by go_num⟩
                    case measure => simp [intOf]; omega
                  · go_wp2
                    go_roundw
                    case rel => exact ⟨k + 1, q + nq, by omega, by go_num, by rw [HS.out, if_neg h0], rfl⟩
                    case measure => simp [intOf]; omega
            · have hle := diffs_le hone
              have hks : k = a0.size := by omega
              rw [← hks] at hle
              have hle' : ¬ (1 : Int) < (diffs a0 t k : Int) := by omega
              clear hks
              generalize diffs a0 t k = dk at *
              go_wp2
              go_roundw
              case rel => exact ⟨m + 1, q, by omega, by go_num, rfl⟩
              case measure => simp [intOf]; omega
        · go_wp2
          go_ret
          exact ⟨rfl, below_drewN hW4 q⟩

end Go.Proofs.Ytmaljobfboboeaa.bagTurns
