/- The protocol's plain law: what every step of two ends keeps. -/
import Derived.Test.YtgacphicgglogaaLinkX
import Derived.Test.YtgacphicgglogaaMix

/-! ## The protocol's plain law, one direction: what a sender and a receiver know of one another. -/
namespace Go.Proofs.Ytgacphicgglogaa
open Go.RowKit Crc
set_option linter.unusedVariables false

/-- A datagram that an end may have sent: a load of its own, or how far it came. -/
def GenL (E : LK) (S : List ByteArray) (x : ByteArray) : Prop :=
  (∃ n y, 1 ≤ n ∧ n ≤ E.out ∧ S[n - 1]? = some y ∧ y.size ≤ 800 ∧ x = packB 1 n y) ∨ (∃ n, n ≤ E.came ∧ x = packB 2 n ByteArray.empty)
theorem GenL.more {E E' : LK} {S S' : List ByteArray} {x : ByteArray} (h : GenL E S x) (ho : E.out ≤ E'.out) (hc : E.came ≤ E'.came) (hS : ∀ (n : Nat) (y : ByteArray), S[n]? = some y → S'[n]? = some y) : GenL E' S' x := by
  rcases h with ⟨n, y, h1, h2, h3, h4, h5⟩ | ⟨n, h1, h2⟩
  · exact .inl ⟨n, y, h1, Nat.le_trans h2 ho, hS _ _ h3, h4, h5⟩
  · exact .inr ⟨n, Nat.le_trans h1 hc, h2⟩
theorem GenL.size {E : LK} {S : List ByteArray} {x : ByteArray} (h : GenL E S x) : 13 ≤ x.size ∧ x.size ≤ 813 := by
  rcases h with ⟨n, y, _, _, _, h4, rfl⟩ | ⟨n, _, rfl⟩
  · rw [packB_size]
    omega
  · rw [packB_size]
    exact ⟨by omega, by decide⟩

/-- What the sender E (it sent S) and the receiver F (it read R) know of one another. -/
structure Dir (E F : LK) (S R : List ByteArray) : Prop where
  last : E.last = S.length
  loads : E.loads = S.drop E.told
  told : E.told ≤ F.came
  came : F.came ≤ E.out
  read : R = S.take F.taken
  slots : ∀ n x, F.taken < n → n ≤ F.taken + 8 → F.slots[n % 8]? = some (some x) → n ≤ E.out ∧ S[n - 1]? = some x
  full : ∀ n, F.taken < n → n ≤ F.came → (F.slots[n % 8]?.getD none).isSome = true

/-! ### what the sender's acts do to what is to go -/
/-- The load of a number, packed. -/
def LK.pk (l : LK) (n : Nat) : ByteArray := (packRes (1 : Nat) n (l.loads[n - l.told - 1]?.getD ByteArray.empty)).1
theorem LK.put_mem {l : LK} {k n : Nat} {s x : ByteArray} (h : x ∈ (l.put k n s).goes) : x ∈ l.goes ∨ x = (packRes k n s).1 := by
  unfold LK.put at h
  dsimp only at h
  split at h
  · exact .inl h
  · rcases List.mem_append.1 h with h | h
    · exact .inl h
    · exact .inr (List.mem_singleton.1 h)
theorem LK.onF_goes : ∀ (f : Nat) (l : LK), l.told ≤ l.out → l.out ≤ (onF f l).out ∧ ∀ x ∈ (onF f l).goes, x ∈ l.goes ∨ ∃ n, l.out < n ∧ n ≤ (onF f l).out ∧ x = l.pk n
  | 0, l, _ => ⟨Nat.le_refl _, fun x hx => .inl hx⟩
  | f + 1, l, h => by
    unfold onF
    split
    · obtain ⟨h1, h2⟩ := LK.onF_goes f (({ l with out := l.out + 1 } : LK).load (l.out + 1)) (Nat.le_succ_of_le h)
      have h1' : l.out + 1 ≤ (onF f (({ l with out := l.out + 1 } : LK).load (l.out + 1))).out := h1
      refine ⟨by omega, fun x hx => ?_⟩
      rcases h2 x hx with h3 | ⟨n, h3, h4, h5⟩
      · rcases LK.put_mem h3 with h6 | h6
        · exact .inl h6
        · exact .inr ⟨l.out + 1, by omega, h1', h6⟩
      · exact .inr ⟨n, by have : l.out + 1 < n := h3; omega, h4, h5⟩
    · exact ⟨Nat.le_refl _, fun x hx => .inl hx⟩
theorem LK.tickTo_goes (l : LK) : ∀ k, ∀ x ∈ (tickTo l k).goes, x ∈ l.goes ∨ ∃ n, l.told < n ∧ n ≤ l.told + k ∧ x = l.pk n
  | 0, x, hx => .inl hx
  | k + 1, x, hx => by
    have hk := LK.tickTo_keep l k
    rcases LK.put_mem hx with h | h
    · rcases LK.tickTo_goes l k x h with h | ⟨n, h1, h2, h3⟩
      · exact .inl h
      · exact .inr ⟨n, h1, by omega, h3⟩
    · refine .inr ⟨l.told + 1 + k, by omega, by omega, ?_⟩
      rw [h]
      unfold LK.pk
      rw [hk.2.1, hk.2.2.2.2.2.1]
/-- A load that is packed is such as may have been sent. -/
theorem pk_gen {l E : LK} {S : List ByteArray} (hloads : l.loads = S.drop l.told) (hshort : ∀ s ∈ l.loads, s.size ≤ 800) {n : Nat} (h1 : l.told < n) (h2 : n ≤ S.length) (h3 : n ≤ E.out) : GenL E S (l.pk n) := by
  have hs : S[n - 1]? = some (S[n - 1]'(by omega)) := List.getElem?_eq_getElem (by omega)
  have hl : l.loads[n - l.told - 1]? = some (S[n - 1]'(by omega)) := by
    rw [hloads, List.getElem?_drop, show l.told + (n - l.told - 1) = n - 1 by omega]
    exact hs
  have hy := hshort _ (List.mem_of_getElem? hl)
  refine .inl ⟨n, _, by omega, h3, hs, hy, ?_⟩
  unfold LK.pk
  rw [hl, Option.getD_some, packRes_ok 1 n _ (.inl rfl) hy]

/-! ### one bit turned -/
theorem turned_bad {k n : Nat} {load : ByteArray} {m : Nat} (hm : m < 8 * (packB k n load).size) : (unpackRes ⟨(Bag.turnBytes (packB k n load).data.toList m).toArray⟩).2.2.2 ≠ 0 := by
  have hsz := packB_size k n load
  have hs4 : (packB k n load).size = ((((⟨[UInt8.ofNat k].toArray⟩ : ByteArray) ++ ⟨(le8 n).toArray⟩) ++ load)).size + 4 := by unfold packB; rw [sealB_size]
  obtain ⟨u, hu⟩ : ∃ u, (((⟨[UInt8.ofNat k].toArray⟩ : ByteArray) ++ ⟨(le8 n).toArray⟩) ++ load) = u := ⟨_, rfl⟩
  have hp : packB k n load = sealB u := by rw [← hu]; rfl
  rw [hu] at hs4
  have hlen : (packB k n load).data.toList.length = u.size + 4 := by rw [← hs4]; simp
  have hj : m / 8 < u.size + 4 := by omega
  obtain ⟨q, r, hq, hr, hqr⟩ : ∃ q r, q ≤ u.size ∧ r < 4 ∧ m / 8 = q + r := by
    by_cases h : m / 8 ≤ u.size
    · exact ⟨m / 8, 0, h, by omega, rfl⟩
    · exact ⟨u.size, m / 8 - u.size, Nat.le_refl _, by omega, by omega⟩
  have hbit : Bag.bitOf (m % 8) ≠ 0 := by
    have : ∀ r, r < 8 → Bag.bitOf r ≠ 0 := by decide
    exact this _ (Nat.mod_lt _ (by omega))
  have hmix : Bag.turnBytes (packB k n load).data.toList m = mix (sealB u).data.toList [if r = 0 then Bag.bitOf (m % 8) else 0, if r = 1 then Bag.bitOf (m % 8) else 0, if r = 2 then Bag.bitOf (m % 8) else 0, if r = 3 then Bag.bitOf (m % 8) else 0] q 4 := by
    rw [← hp]
    apply List.ext_getElem?
    intro j
    rw [mix_get]
    unfold Bag.turnBytes
    rw [List.getElem?_set, hqr, hlen]
    by_cases hjr : q + r = j
    · rw [if_pos hjr, if_pos (by omega), if_pos (by omega)]
      congr 2
      · rw [hjr]
      · match r, hr with
        | 0, _ => rw [show j - q = 0 by omega]; rfl
        | 1, _ => rw [show j - q = 1 by omega]; rfl
        | 2, _ => rw [show j - q = 2 by omega]; rfl
        | 3, _ => rw [show j - q = 3 by omega]; rfl
    · rw [if_neg hjr]
      by_cases hin : q ≤ j ∧ j < q + 4 ∧ j < u.size + 4
      · rw [if_pos hin, List.getElem?_eq_getElem (show j < (packB k n load).data.toList.length by omega)]
        congr 1
        have hz : ([if r = 0 then Bag.bitOf (m % 8) else 0, if r = 1 then Bag.bitOf (m % 8) else 0, if r = 2 then Bag.bitOf (m % 8) else 0, if r = 3 then Bag.bitOf (m % 8) else 0] : List UInt8)[j - q]?.getD 0 = 0 := by
          have hd : j - q < 4 := by omega
          have hne : r ≠ j - q := by omega
          match hjq : j - q, hd with
          | 0, _ => rw [hjq] at hne; simp [hne]
          | 1, _ => rw [hjq] at hne; simp [hne]
          | 2, _ => rw [hjq] at hne; simp [hne]
          | 3, _ => rw [hjq] at hne; simp [hne]
        rw [hz]
        simp
      · rw [if_neg hin]
  have hno : ¬ ((if r = 0 then Bag.bitOf (m % 8) else 0) = 0 ∧ (if r = 1 then Bag.bitOf (m % 8) else 0) = 0 ∧ (if r = 2 then Bag.bitOf (m % 8) else 0) = 0 ∧ (if r = 3 then Bag.bitOf (m % 8) else 0) = 0) := fun h => hbit (by
    match r, hr, h with
    | 0, _, h => exact h.1
    | 1, _, h => exact h.2.1
    | 2, _, h => exact h.2.2.1
    | 3, _, h => exact h.2.2.2)
  have ht := (open_turned u (if r = 0 then Bag.bitOf (m % 8) else 0) (if r = 1 then Bag.bitOf (m % 8) else 0) (if r = 2 then Bag.bitOf (m % 8) else 0) (if r = 3 then Bag.bitOf (m % 8) else 0) q hq).trans (if_neg hno)
  rw [hmix]
  unfold unpackRes
  rw [ht]
  decide
end Go.Proofs.Ytgacphicgglogaa

/-! ## The protocol's plain law: what each act of an end keeps. -/
namespace Go.Proofs.Ytgacphicgglogaa
open Go.RowKit Crc
set_option linter.unusedVariables false

section
variable {E F E' F' : LK} {S R : List ByteArray}
theorem Dir.grow (h : Dir E F S R) (h1 : E'.last = E.last) (h2 : E'.told = E.told) (h3 : E'.loads = E.loads) (h4 : E.out ≤ E'.out) : Dir E' F S R :=
  ⟨h1.trans h.last, by rw [h3, h2]; exact h.loads, by rw [h2]; exact h.told, Nat.le_trans h.came h4, h.read, fun n x a b c => ⟨Nat.le_trans (h.slots n x a b c).1 h4, (h.slots n x a b c).2⟩, h.full⟩
theorem Dir.other (h : Dir E F S R) (h1 : F'.came = F.came) (h2 : F'.taken = F.taken) (h3 : F'.slots = F.slots) : Dir E F' S R :=
  ⟨h.last, h.loads, by rw [h1]; exact h.told, by rw [h1]; exact h.came, by rw [h2]; exact h.read, fun n x a b c => h.slots n x (by rw [← h2]; exact a) (by rw [← h2]; exact b) (by rw [← h3]; exact c), fun n a b => by rw [h3]; exact h.full n (by rw [← h2]; exact a) (by rw [← h1]; exact b)⟩
theorem Dir.sent (h : Dir E F S R) (okE : E.Ok) (okF : F.Ok) (x : ByteArray) : Dir { E with last := E.last + 1, loads := E.loads ++ [x] } F (S ++ [x]) R := by
  have h1 := h.last
  have h2 := okE.out
  have h3 := h.came
  have h4 := okF.taken
  have h5 := okE.told
  refine ⟨by show E.last + 1 = _; rw [List.length_append, h1]; rfl, ?_, h.told, h.came, ?_, fun n y a b c => ?_, h.full⟩
  · show E.loads ++ [x] = (S ++ [x]).drop E.told
    rw [List.drop_append_of_le_length (by omega), h.loads]
  · rw [List.take_append_of_le_length (by omega)]
    exact h.read
  · obtain ⟨h6, h7⟩ := h.slots n y a b c
    refine ⟨h6, ?_⟩
    rw [List.getElem?_append_left (by have := (List.getElem?_eq_some_iff.1 h7).1; exact this)]
    exact h7
theorem Dir.tell (h : Dir E F S R) {n : Nat} (h1 : E.told < n) (h2 : n ≤ F.came) : Dir { E with loads := E.loads.drop (n - E.told), told := n } F S R :=
  ⟨h.last, by show E.loads.drop (n - E.told) = S.drop n; rw [h.loads, List.drop_drop]; congr 1; omega, h2, h.came, h.read, h.slots, h.full⟩
theorem Dir.recv (h : Dir E F S R) (okF : F.Ok) (okE : E.Ok) (hc : F.came ≠ F.taken) : Dir E F.recv.1 S (R ++ [F.recv.2.1]) ∧ F.recv.2.2 = true := by
  have h1 := okF.taken
  have h2 := okF.slots
  have h3 := h.came
  have h4 := okE.out
  have h5 := h.last
  have h6 := h.full (F.taken + 1) (by omega) (by omega)
  obtain ⟨x, hx⟩ : ∃ x, F.slots[(F.taken + 1) % 8]? = some (some x) := by
    cases hg : F.slots[(F.taken + 1) % 8]? with
    | none => rw [hg] at h6; cases h6
    | some o =>
      cases o with
      | none => rw [hg] at h6; cases h6
      | some x => exact ⟨x, rfl⟩
  obtain ⟨h7, h8⟩ := h.slots (F.taken + 1) x (by omega) (by omega) hx
  have hr : F.recv = ({ F with taken := F.taken + 1, slots := F.slots.set ((F.taken + 1) % 8) none }, x, true) := by
    unfold LK.recv
    rw [if_neg hc, hx]
    rfl
  rw [hr]
  refine ⟨⟨h.last, h.loads, h.told, h.came, ?_, fun n y a b c => ?_, fun n a b => ?_⟩, rfl⟩
  · show R ++ [x] = S.take (F.taken + 1)
    have h9 : F.taken < S.length := by omega
    rw [List.take_succ_eq_append_getElem h9, ← h.read]
    congr 2
    rw [Nat.add_sub_cancel, List.getElem?_eq_getElem h9] at h8
    exact (Option.some.inj h8).symm
  · have a' : F.taken + 1 < n := a
    have b' : n ≤ F.taken + 1 + 8 := b
    have c' : (F.slots.set ((F.taken + 1) % 8) none)[n % 8]? = some (some y) := c
    rw [List.getElem?_set] at c'
    split at c'
    · split at c' <;> cases c'
    · refine h.slots n y (by omega) ?_ c'
      rename_i hne
      omega
  · have a' : F.taken + 1 < n := a
    have b' : n ≤ F.came := b
    have hok := okF.came
    show ((F.slots.set ((F.taken + 1) % 8) none)[n % 8]?.getD none).isSome = true
    rw [List.getElem?_set, if_neg (by omega)]
    exact h.full n (by omega) b'
theorem Dir.slotIn (h : Dir E F S R) (okF : F.Ok) {n : Nat} {y : ByteArray} (h1 : F.came < n) (h2 : n ≤ F.taken + 8) (h3 : n ≤ E.out) (h4 : S[n - 1]? = some y) : Dir E (F.slotIn n y) S R := by
  have hs := okF.slots
  have ht := okF.taken
  unfold LK.slotIn
  split
  · exact h
  · refine ⟨h.last, h.loads, h.told, h.came, h.read, fun k x a b c => ?_, fun k a b => ?_⟩
    · have a' : F.taken < k := a
      have b' : k ≤ F.taken + 8 := b
      have c' : (F.slots.set (n % 8) (some y))[k % 8]? = some (some x) := c
      rw [List.getElem?_set] at c'
      split at c'
      · rename_i he
        have : k = n := by omega
        subst this
        split at c'
        · injection c' with c'
          injection c' with c'
          subst c'
          exact ⟨h3, h4⟩
        · cases c'
      · exact h.slots k x a' b' c'
    · have a' : F.taken < k := a
      have b' : k ≤ F.came := b
      show ((F.slots.set (n % 8) (some y))[k % 8]?.getD none).isSome = true
      rw [List.getElem?_set]
      split
      · split
        · rfl
        · rename_i h9
          omega
      · exact h.full k a' b'
theorem Dir.comeF : ∀ (f : Nat) (F : LK), F.taken ≤ F.came → Dir E F S R → Dir E (LK.comeF f F) S R
  | 0, F, _, h => h
  | f + 1, F, ht, h => by
    unfold LK.comeF
    split
    · rename_i hc
      refine Dir.comeF f _ (Nat.le_succ_of_le ht) ?_
      obtain ⟨x, hx⟩ : ∃ x, F.slots[(F.came + 1) % 8]? = some (some x) := by
        have h6 := hc.2
        cases hg : F.slots[(F.came + 1) % 8]? with
        | none => rw [hg] at h6; cases h6
        | some o =>
          cases o with
          | none => rw [hg] at h6; cases h6
          | some x => exact ⟨x, rfl⟩
      have h7 := h.slots (F.came + 1) x (by omega) (by have := hc.1; omega) hx
      refine ⟨h.last, h.loads, Nat.le_succ_of_le h.told, h7.1, h.read, h.slots, fun k a b => ?_⟩
      have a' : F.taken < k := a
      have b' : k ≤ F.came + 1 := b
      by_cases hk : k ≤ F.came
      · exact h.full k a' hk
      · obtain rfl : k = F.came + 1 := by omega
        exact hc.2
    · exact h
theorem Dir.arrived (h : Dir E F S R) (okF : F.Ok) {n : Nat} {y : ByteArray} (h3 : n ≤ E.out) (h4 : S[n - 1]? = some y) : Dir E (F.arrived n y) S R := by
  have h5 : Dir E (F.arrive n y) S R := by
    unfold LK.arrive
    split
    · rename_i hc
      exact Dir.comeF _ _ (LK.slotIn_ok okF n y).taken (h.slotIn okF hc.1 hc.2 h3 h4)
    · exact h
  exact h5.other rfl rfl rfl
end

theorem LK.comeF_came : ∀ (f : Nat) (l : LK), l.came ≤ (comeF f l).came
  | 0, l => Nat.le_refl _
  | f + 1, l => by
    unfold LK.comeF
    split
    · exact Nat.le_trans (Nat.le_succ _) (LK.comeF_came f { l with came := l.came + 1 })
    · exact Nat.le_refl _
/-- What an arrival leaves of an end as a sender. -/
theorem LK.arrived_keep (l : LK) (n : Nat) (y : ByteArray) : (l.arrived n y).last = l.last ∧ (l.arrived n y).told = l.told ∧ (l.arrived n y).out = l.out ∧ (l.arrived n y).loads = l.loads ∧ l.came ≤ (l.arrived n y).came ∧ (l.arrived n y).taken = l.taken ∧
    ∀ x ∈ (l.arrived n y).goes, x ∈ l.goes ∨ x = packB 2 (l.arrived n y).came ByteArray.empty := by
  have hsl : (l.slotIn n y).last = l.last ∧ (l.slotIn n y).told = l.told ∧ (l.slotIn n y).out = l.out ∧ (l.slotIn n y).loads = l.loads ∧ (l.slotIn n y).came = l.came ∧ (l.slotIn n y).taken = l.taken ∧ (l.slotIn n y).goes = l.goes := by
    unfold LK.slotIn
    split <;> exact ⟨rfl, rfl, rfl, rfl, rfl, rfl, rfl⟩
  have har : (l.arrive n y).last = l.last ∧ (l.arrive n y).told = l.told ∧ (l.arrive n y).out = l.out ∧ (l.arrive n y).loads = l.loads ∧ l.came ≤ (l.arrive n y).came ∧ (l.arrive n y).taken = l.taken ∧ (l.arrive n y).goes = l.goes := by
    unfold LK.arrive
    split
    · have hk := LK.comeF_keep ((l.slotIn n y).taken + 8 - (l.slotIn n y).came) (l.slotIn n y)
      have hcm := LK.comeF_came ((l.slotIn n y).taken + 8 - (l.slotIn n y).came) (l.slotIn n y)
      unfold LK.come
      exact ⟨hk.1.trans hsl.1, hk.2.1.trans hsl.2.1, hk.2.2.1.trans hsl.2.2.1, hk.2.2.2.2.1.trans hsl.2.2.2.1, by rw [← hsl.2.2.2.2.1]; exact hcm, hk.2.2.2.1.trans hsl.2.2.2.2.2.1, hk.2.2.2.2.2.2.trans hsl.2.2.2.2.2.2⟩
    · exact ⟨rfl, rfl, rfl, rfl, Nat.le_refl _, rfl, rfl⟩
  refine ⟨har.1, har.2.1, har.2.2.1, har.2.2.2.1, har.2.2.2.2.1, har.2.2.2.2.2.1, fun x hx => ?_⟩
  rcases LK.put_mem (k := 2) hx with h | h
  · rw [har.2.2.2.2.2.2] at h
    exact .inl h
  · refine .inr ?_
    rw [h, packRes_ok 2 _ ByteArray.empty (.inr ⟨rfl, rfl⟩) (by decide)]
    rfl
end Go.Proofs.Ytgacphicgglogaa

/-! ## The protocol's plain law: what every step of two ends keeps. -/
namespace Go.Proofs.Ytgacphicgglogaa
open Go.RowKit Crc
set_option linter.unusedVariables false

/-- An item on its way from an end: as it was sent, or with one bit of it turned. -/
def ItemOk (E : LK) (S : List ByteArray) (x : Bag.Item) : Prop := (x.2 = false ∧ GenL E S x.1) ∨ (x.2 = true ∧ ∃ y n, GenL E S y ∧ n < 8 * y.size ∧ x.1 = ⟨(Bag.turnBytes y.data.toList n).toArray⟩)
theorem ItemOk.more {E E' : LK} {S S' : List ByteArray} {x : Bag.Item} (h : ItemOk E S x) (ho : E.out ≤ E'.out) (hc : E.came ≤ E'.came) (hS : ∀ (n : Nat) (y : ByteArray), S[n]? = some y → S'[n]? = some y) : ItemOk E' S' x := by
  rcases h with ⟨h1, h2⟩ | ⟨h1, y, n, h2, h3⟩
  · exact .inl ⟨h1, h2.more ho hc hS⟩
  · exact .inr ⟨h1, y, n, h2.more ho hc hS, h3⟩
theorem ItemOk.size {E : LK} {S : List ByteArray} {x : Bag.Item} (h : ItemOk E S x) : x.1.size ≤ 2000 := by
  rcases h with ⟨_, h2⟩ | ⟨_, y, n, h2, _, h4⟩
  · have := h2.size
    omega
  · rw [h4]
    show (Bag.turnBytes y.data.toList n).toArray.size ≤ 2000
    rw [List.size_toArray, Bag.turnBytes_length]
    have := h2.size
    simp
    omega
theorem ItemOk.turn {E : LK} {S : List ByteArray} {x : Bag.Item} (h : ItemOk E S x) (bit : Int) : ItemOk E S (Bag.turnI x bit) := by
  unfold Bag.turnI
  split
  · rename_i hc
    rcases h with ⟨h1, h2⟩ | ⟨h1, _⟩
    · exact .inr ⟨rfl, x.1, _, h2, Nat.mod_lt _ (by omega), rfl⟩
    · rw [h1] at hc
      exact absurd hc.2.2 (by decide)
  · exact h
/-- What an end makes of an item on its way to it. -/
theorem ItemOk.unpack {E : LK} {S : List ByteArray} {x : Bag.Item} (h : ItemOk E S x) (hE : E.out < 1000000) (hC : E.came < 1000000) :
    (unpackRes x.1).2.2.2 ≠ 0 ∨ (∃ n y, 1 ≤ n ∧ n ≤ E.out ∧ S[n - 1]? = some y ∧ unpackRes x.1 = (1, n, y, 0)) ∨ (∃ n, n ≤ E.came ∧ unpackRes x.1 = (2, n, ByteArray.empty, 0)) := by
  rcases h with ⟨h1, ⟨n, y, h2, h3, h4, h5, h6⟩ | ⟨n, h2, h3⟩⟩ | ⟨h1, y, n, h2, h3, h4⟩
  · exact .inr (.inl ⟨n, y, h2, h3, h4, by rw [h6, unpack_pack 1 n y (.inl rfl) (by omega) h5]; rfl⟩)
  · exact .inr (.inr ⟨n, h2, by rw [h3, unpack_pack 2 n ByteArray.empty (.inr ⟨rfl, rfl⟩) (by omega) (by decide)]; rfl⟩)
  · refine .inl ?_
    rw [h4]
    rcases h2 with ⟨k, z, _, _, _, _, rfl⟩ | ⟨k, _, rfl⟩
    · exact turned_bad h3
    · exact turned_bad h3

structure InvP (s : PS) (N : Nat) : Prop where
  ok : ∀ j, j < 2 → (s.ends j).Ok
  dir : ∀ j, j < 2 → Dir (s.ends j) (s.ends (1 - j)) (s.sent j) (s.read (1 - j))
  goes : ∀ j, j < 2 → ∀ x ∈ (s.ends j).goes, GenL (s.ends j) (s.sent j) x
  bags : ∀ j, j < 2 → (s.bags j).length ≤ 16
  items : ∀ j, j < 2 → ∀ x ∈ s.bags j, ItemOk (s.ends j) (s.sent j) x
  few : ∀ j, j < 2 → (s.sent j).length ≤ N
theorem two (v : Nat) (hv : v < 2) (j : Nat) (hj : j < 2) : j = v ∨ j = 1 - v := by omega

theorem InvP.new : InvP PS.new 0 := by
  refine ⟨fun j _ => LK.new_ok, fun j _ => ⟨rfl, rfl, Nat.le_refl _, Nat.le_refl _, rfl, fun n x _ _ h => ?_, fun n a b => ?_⟩, fun j _ x hx => (by cases hx), fun j _ => Nat.zero_le _, fun j _ x hx => (by cases hx), fun j _ => Nat.le_refl _⟩
  · have h' : (List.replicate 8 (none : Option ByteArray))[n % 8]? = some (some x) := h
    rw [List.getElem?_replicate] at h'
    split at h' <;> cases h'
  · have a' : 0 < n := a
    have b' : n ≤ 0 := b
    omega
/-- One end changes. -/
theorem InvP.step {s s' : PS} {N N' v : Nat} (h : InvP s N) (hv : v < 2) (hN : N ≤ N') (he : s'.ends (1 - v) = s.ends (1 - v)) (hs : s'.sent (1 - v) = s.sent (1 - v)) (hr : s'.read (1 - v) = s.read (1 - v)) (hb : s'.bags = s.bags)
    (ok : (s'.ends v).Ok) (d1 : Dir (s'.ends v) (s.ends (1 - v)) (s'.sent v) (s.read (1 - v))) (d2 : Dir (s.ends (1 - v)) (s'.ends v) (s.sent (1 - v)) (s'.read v)) (hg : ∀ x ∈ (s'.ends v).goes, GenL (s'.ends v) (s'.sent v) x)
    (ho : (s.ends v).out ≤ (s'.ends v).out) (hc : (s.ends v).came ≤ (s'.ends v).came) (hS : ∀ (n : Nat) (y : ByteArray), (s.sent v)[n]? = some y → (s'.sent v)[n]? = some y) (hfew : (s'.sent v).length ≤ N') : InvP s' N' := by
  have h11 : 1 - (1 - v) = v := by omega
  refine ⟨fun j hj => ?_, fun j hj => ?_, fun j hj => ?_, fun j hj => ?_, fun j hj => ?_, fun j hj => ?_⟩
  · rcases two v hv j hj with rfl | rfl
    · exact ok
    · rw [he]; exact h.ok _ hj
  · rcases two v hv j hj with rfl | rfl
    · rw [he, hr]; exact d1
    · rw [h11, he, hs]; exact d2
  · rcases two v hv j hj with rfl | rfl
    · exact hg
    · rw [he, hs]; exact h.goes _ hj
  · rw [hb]; exact h.bags j hj
  · rw [hb]
    rcases two v hv j hj with rfl | rfl
    · exact fun x hx => (h.items _ hj x hx).more ho hc hS
    · rw [he, hs]; exact h.items _ hj
  · rcases two v hv j hj with rfl | rfl
    · exact hfew
    · rw [hs]; exact Nat.le_trans (h.few _ hj) hN
/-- One bag changes. -/
theorem InvP.bag {s : PS} {N v : Nat} (h : InvP s N) (hv : v < 2) {l : List Bag.Item} (hl : l.length ≤ 16) (hi : ∀ x ∈ l, ItemOk (s.ends v) (s.sent v) x) : InvP { s with bags := upd s.bags v l } N := by
  refine ⟨h.ok, h.dir, h.goes, fun j hj => ?_, fun j hj => ?_, h.few⟩
  · show (upd s.bags v l j).length ≤ 16
    unfold upd
    split
    · exact hl
    · exact h.bags j hj
  · show ∀ x ∈ upd s.bags v l j, ItemOk (s.ends j) (s.sent j) x
    unfold upd
    split
    · rename_i e
      subst e
      exact hi
    · exact h.items j hj
theorem InvP.more {s : PS} {N N' : Nat} (h : InvP s N) (hN : N ≤ N') : InvP s N' := ⟨h.ok, h.dir, h.goes, h.bags, h.items, fun j hj => Nat.le_trans (h.few j hj) hN⟩
theorem InvP.right {s : PS} {N : Nat} (h : InvP s N) : s.Right := fun i hi => by
  have hd := h.dir i hi
  have h1 := (h.ok (1 - i) (by omega)).taken
  have h2 := hd.came
  have h3 := (h.ok i hi).out
  have h4 := hd.last
  have hlen : (s.read (1 - i)).length = (s.ends (1 - i)).taken := by rw [hd.read, List.length_take]; omega
  exact ⟨by omega, by rw [hlen]; exact hd.read⟩
theorem InvP.small {s : PS} {N : Nat} (h : InvP s N) (j : Nat) (hj : j < 2) : (s.ends j).last ≤ N ∧ (s.ends j).out ≤ N ∧ (s.ends j).came ≤ N ∧ (s.ends j).taken ≤ N ∧ (s.read j).length ≤ N := by
  have h11 : 1 - (1 - j) = j := by omega
  have hd := h.dir j hj
  have hd2 := h.dir (1 - j) (by omega)
  rw [h11] at hd2
  have h1 := (h.ok j hj).out
  have h2 := hd.last
  have h3 := h.few j hj
  have h4 := hd2.came
  have h5 := (h.ok (1 - j) (by omega)).out
  have h6 := hd2.last
  have h7 := h.few (1 - j) (by omega)
  have h8 := (h.ok j hj).taken
  refine ⟨by omega, by omega, by omega, by omega, ?_⟩
  rw [hd2.read, List.length_take]
  omega
theorem InvP.fit {s : PS} {N : Nat} (h : InvP s N) (hN : N ≤ 100000) : s.Fit :=
  ⟨h.ok, fun j hj => by have := (h.small j hj).1; omega, fun j hj => by have := (h.small j hj).2.2.2.1; omega, h.bags, fun j hj x hx => (h.items j hj x hx).size, fun j hj => Nat.le_trans (h.few j hj) hN, fun j hj => Nat.le_trans (h.small j hj).2.2.2.2 hN⟩
theorem InvP.flushW {s : PS} {N v : Nat} (h : InvP s N) (hv : v < 2) : InvP (s.flushW v) N := by
  have hput : ∀ (g : List ByteArray) (l : List Bag.Item), (∀ x ∈ g, GenL (s.ends v) (s.sent v) x) → (∀ x ∈ l, ItemOk (s.ends v) (s.sent v) x) → ∀ x ∈ g.foldl Bag.putL l, ItemOk (s.ends v) (s.sent v) x := by
    intro g
    induction g with
    | nil => intro l _ hl; exact hl
    | cons y g ih =>
      intro l hg hl
      refine ih _ (fun x hx => hg x (.tail _ hx)) (fun x hx => ?_)
      unfold Bag.putL at hx
      split at hx
      · rcases List.mem_append.1 hx with hx | hx
        · exact hl x hx
        · rw [List.mem_singleton.1 hx]
          exact .inl ⟨rfl, hg y (.head _)⟩
      · exact hl x hx
  have h1 := h.bag hv (foldPut_le _ _ (h.bags v hv)) (hput _ _ (h.goes v hv) (h.items v hv))
  have okv := h.ok v hv
  refine h1.step (v := v) hv (Nat.le_refl _) ?_ rfl rfl rfl ?_ ?_ ?_ ?_ ?_ ?_ (fun _ _ h => h) (h.few v hv)
  · show upd s.ends v _ (1 - v) = s.ends (1 - v)
    unfold upd
    rw [if_neg (by omega)]
  · show (upd s.ends v { s.ends v with goes := [] } v).Ok
    rw [upd_same]
    exact ⟨okv.told, okv.out, okv.ahead, okv.room, okv.loads, okv.taken, okv.came, okv.slots, Nat.zero_le _, okv.short⟩
  · show Dir (upd s.ends v { s.ends v with goes := [] } v) (s.ends (1 - v)) (s.sent v) (s.read (1 - v))
    rw [upd_same]
    exact (h.dir v hv).grow rfl rfl rfl (Nat.le_refl _)
  · show Dir (s.ends (1 - v)) (upd s.ends v { s.ends v with goes := [] } v) (s.sent (1 - v)) (s.read v)
    rw [upd_same]
    have := h.dir (1 - v) (by omega)
    rw [show 1 - (1 - v) = v by omega] at this
    exact this.other rfl rfl rfl
  · show ∀ x ∈ (upd s.ends v { s.ends v with goes := [] } v).goes, _
    rw [upd_same]
    intro x hx
    cases hx
  · show (s.ends v).out ≤ (upd s.ends v { s.ends v with goes := [] } v).out
    rw [upd_same]
    exact Nat.le_refl _
  · show (s.ends v).came ≤ (upd s.ends v { s.ends v with goes := [] } v).came
    rw [upd_same]
    exact Nat.le_refl _
theorem InvP.flushS {s : PS} {N : Nat} (h : InvP s N) : InvP s.flushS N := (h.flushW (v := 0) (by omega)).flushW (v := 1) (by omega)
end Go.Proofs.Ytgacphicgglogaa

/-! ## The protocol's plain law: every step keeps the invariant. -/
namespace Go.Proofs.Ytgacphicgglogaa
open Go.RowKit Crc
set_option linter.unusedVariables false

theorem InvP.endOnly {s : PS} {N v : Nat} (h : InvP s N) (hv : v < 2) (E' : LK) (ok : E'.Ok) (d1 : Dir E' (s.ends (1 - v)) (s.sent v) (s.read (1 - v))) (d2 : Dir (s.ends (1 - v)) E' (s.sent (1 - v)) (s.read v)) (hg : ∀ x ∈ E'.goes, GenL E' (s.sent v) x)
    (ho : (s.ends v).out ≤ E'.out) (hc : (s.ends v).came ≤ E'.came) : InvP { s with ends := upd s.ends v E' } N := by
  refine h.step (v := v) hv (Nat.le_refl _) ?_ rfl rfl rfl ?_ ?_ ?_ ?_ ?_ ?_ (fun _ _ h => h) (h.few v hv)
  · show upd s.ends v E' (1 - v) = s.ends (1 - v)
    unfold upd
    rw [if_neg (by omega)]
  · show (upd s.ends v E' v).Ok
    rw [upd_same]
    exact ok
  · show Dir (upd s.ends v E' v) _ _ _
    rw [upd_same]
    exact d1
  · show Dir _ (upd s.ends v E' v) _ _
    rw [upd_same]
    exact d2
  · show ∀ x ∈ (upd s.ends v E' v).goes, GenL (upd s.ends v E' v) _ x
    rw [upd_same]
    exact hg
  · show _ ≤ (upd s.ends v E' v).out
    rw [upd_same]
    exact ho
  · show _ ≤ (upd s.ends v E' v).came
    rw [upd_same]
    exact hc
theorem InvP.dir2 {s : PS} {N v : Nat} (h : InvP s N) (hv : v < 2) : Dir (s.ends (1 - v)) (s.ends v) (s.sent (1 - v)) (s.read v) := by
  have := h.dir (1 - v) (by omega)
  rw [show 1 - (1 - v) = v by omega] at this
  exact this
theorem InvP.same {s : PS} {N v : Nat} (h : InvP s N) (hv : v < 2) : InvP { s with ends := upd s.ends v (s.ends v) } N :=
  h.endOnly hv _ (h.ok v hv) (h.dir v hv) (h.dir2 hv) (h.goes v hv) (Nat.le_refl _) (Nat.le_refl _)
/-- What 'on' puts is such as may be sent. -/
theorem on_gen {l : LK} {S : List ByteArray} (okl : l.Ok) (hlast : l.last = S.length) (hloads : l.loads = S.drop l.told) (hold : ∀ x ∈ l.goes, GenL l.on S x) : ∀ x ∈ l.on.goes, GenL l.on S x := fun x hx => by
  have hk := LK.on_keep l
  have hok := LK.on_ok okl
  rcases (LK.onF_goes (l.told + 8 - l.out) l okl.told).2 x hx with h | ⟨n, h1, h2, rfl⟩
  · exact hold x h
  · have h2' : n ≤ l.on.out := h2
    have h3 := hok.out
    have h4 := okl.told
    exact pk_gen hloads okl.short (by omega) (by rw [← hlast, ← hk.1]; omega) h2'
theorem on_out (l : LK) (okl : l.Ok) : l.out ≤ l.on.out := (LK.onF_goes (l.told + 8 - l.out) l okl.told).1

theorem InvP.send {s : PS} {N v : Nat} (h : InvP s N) (hv : v < 2) (x : ByteArray) : InvP (if ((s.ends v).send x).2 = 0 then ({ s with ends := upd s.ends v ((s.ends v).send x).1 } : PS).addRow v x else { s with ends := upd s.ends v ((s.ends v).send x).1 }) (N + 1) := by
  have okv := h.ok v hv
  by_cases hlong : 800 < x.size
  · have e : (s.ends v).send x = (s.ends v, 4) := by unfold LK.send; rw [if_pos hlong]
    rw [e, if_neg (show ¬ (4 : Int) = 0 by decide)]
    exact (h.same hv).more (Nat.le_succ _)
  by_cases hfull : (s.ends v).last - (s.ends v).told = 64
  · have e : (s.ends v).send x = (s.ends v, 10) := by unfold LK.send; rw [if_neg hlong, if_pos hfull]
    rw [e, if_neg (show ¬ (10 : Int) = 0 by decide)]
    exact (h.same hv).more (Nat.le_succ _)
  have e : (s.ends v).send x = (({ s.ends v with last := (s.ends v).last + 1, loads := (s.ends v).loads ++ [x] } : LK).on, 0) := by unfold LK.send; rw [if_neg hlong, if_neg hfull]
  rw [e, if_pos rfl]
  have ok1 := LK.more_ok okv x (by omega) hfull
  have d1 := (h.dir v hv).sent okv (h.ok (1 - v) (by omega)) x
  obtain ⟨E1, hE1⟩ : ∃ E1, ({ s.ends v with last := (s.ends v).last + 1, loads := (s.ends v).loads ++ [x] } : LK) = E1 := ⟨_, rfl⟩
  have h1 : E1.told = (s.ends v).told ∧ E1.out = (s.ends v).out ∧ E1.came = (s.ends v).came ∧ E1.taken = (s.ends v).taken ∧ E1.slots = (s.ends v).slots ∧ E1.goes = (s.ends v).goes := by rw [← hE1]; exact ⟨rfl, rfl, rfl, rfl, rfl, rfl⟩
  rw [hE1] at ok1 d1 ⊢
  have hk := LK.on_keep E1
  have hoo := on_out E1 ok1
  have hpre : ∀ (n : Nat) (y : ByteArray), (s.sent v)[n]? = some y → (s.sent v ++ [x])[n]? = some y := fun n y hy => by
    rw [List.getElem?_append_left (List.getElem?_eq_some_iff.1 hy).1]
    exact hy
  have hadd : ({ s with ends := upd s.ends v E1.on } : PS).addRow v x = ({ s with ends := upd s.ends v E1.on, sent := upd s.sent v (s.sent v ++ [x]) } : PS) := by
    unfold PS.addRow
    rw [if_pos hv]
  rw [hadd]
  have hsv : upd s.sent v (s.sent v ++ [x]) v = s.sent v ++ [x] := upd_same _ _ _
  refine h.step (v := v) hv (Nat.le_succ _) ?_ ?_ rfl rfl ?_ ?_ ?_ ?_ ?_ ?_ ?_ ?_
  · show upd s.ends v _ (1 - v) = s.ends (1 - v)
    unfold upd
    rw [if_neg (by omega)]
  · show upd s.sent v _ (1 - v) = s.sent (1 - v)
    unfold upd
    rw [if_neg (by omega)]
  · show (upd s.ends v E1.on v).Ok
    rw [upd_same]
    exact LK.on_ok ok1
  · show Dir (upd s.ends v E1.on v) _ (upd s.sent v _ v) _
    rw [upd_same, hsv]
    exact d1.grow hk.1 hk.2.1 hk.2.2.2.2.1 hoo
  · show Dir _ (upd s.ends v E1.on v) _ _
    rw [upd_same]
    exact (h.dir2 hv).other (hk.2.2.1.trans h1.2.2.1) (hk.2.2.2.1.trans h1.2.2.2.1) (hk.2.2.2.2.2.trans h1.2.2.2.2.1)
  · show ∀ y ∈ (upd s.ends v E1.on v).goes, GenL (upd s.ends v E1.on v) (upd s.sent v _ v) y
    rw [upd_same, hsv]
    refine on_gen ok1 d1.last d1.loads (fun y hy => ?_)
    rw [h1.2.2.2.2.2] at hy
    exact (h.goes v hv y hy).more (by rw [← h1.2.1]; exact hoo) (by rw [hk.2.2.1, h1.2.2.1]; exact Nat.le_refl _) hpre
  · show _ ≤ (upd s.ends v E1.on v).out
    rw [upd_same, ← h1.2.1]
    exact hoo
  · show _ ≤ (upd s.ends v E1.on v).came
    rw [upd_same, hk.2.2.1, h1.2.2.1]
    exact Nat.le_refl _
  · show ∀ (n : Nat) (y : ByteArray), (s.sent v)[n]? = some y → (upd s.sent v _ v)[n]? = some y
    rw [hsv]
    exact hpre
  · show (upd s.sent v _ v).length ≤ N + 1
    rw [hsv, List.length_append]
    have := h.few v hv
    simp
    omega
theorem InvP.tick {s : PS} {N v : Nat} (h : InvP s N) (hv : v < 2) : InvP { s with ends := upd s.ends v (s.ends v).tick } N := by
  have okv := h.ok v hv
  have hk := LK.tickTo_keep (s.ends v) ((s.ends v).out - (s.ends v).told)
  have hd := h.dir v hv
  refine h.endOnly hv _ (LK.tickTo_ok okv _) (hd.grow hk.1 hk.2.1 hk.2.2.2.2.2.1 (Nat.le_of_eq hk.2.2.1.symm)) ((h.dir2 hv).other hk.2.2.2.1 hk.2.2.2.2.1 hk.2.2.2.2.2.2) (fun x hx => ?_) (Nat.le_of_eq hk.2.2.1.symm) (Nat.le_of_eq hk.2.2.2.1.symm)
  have h1 := okv.told
  have h2 := okv.out
  have h3 := hd.last
  have h4 : (s.ends v).tick.out = (s.ends v).out := hk.2.2.1
  have h5 : (s.ends v).tick.came = (s.ends v).came := hk.2.2.2.1
  rcases LK.tickTo_goes (s.ends v) _ x hx with h6 | ⟨n, h7, h8, rfl⟩
  · exact (h.goes v hv x h6).more (Nat.le_of_eq h4.symm) (Nat.le_of_eq h5.symm) (fun _ _ h => h)
  · exact pk_gen hd.loads okv.short h7 (by omega) (by omega)
theorem InvP.recv {s : PS} {N v : Nat} (h : InvP s N) (hv : v < 2) : InvP (s.recvS v) N := by
  have okv := h.ok v hv
  have h11 : 1 - (1 - v) = v := by omega
  unfold PS.recvS
  by_cases hc : (s.ends v).came = (s.ends v).taken
  · have e : (s.ends v).recv = (s.ends v, ByteArray.empty, false) := by unfold LK.recv; rw [if_pos hc]
    rw [e, if_neg (show ¬ false = true by decide)]
    exact h.same hv
  · obtain ⟨d2, hb⟩ := (h.dir2 hv).recv okv (h.ok (1 - v) (by omega)) hc
    rw [if_pos hb]
    have hkeep : (s.ends v).recv.1.last = (s.ends v).last ∧ (s.ends v).recv.1.told = (s.ends v).told ∧ (s.ends v).recv.1.out = (s.ends v).out ∧ (s.ends v).recv.1.came = (s.ends v).came ∧ (s.ends v).recv.1.loads = (s.ends v).loads ∧ (s.ends v).recv.1.goes = (s.ends v).goes := by
      unfold LK.recv
      rw [if_neg hc]
      exact ⟨rfl, rfl, rfl, rfl, rfl, rfl⟩
    have hadd : ({ s with ends := upd s.ends v (s.ends v).recv.1 } : PS).addRow (2 + v) (s.ends v).recv.2.1 = ({ s with ends := upd s.ends v (s.ends v).recv.1, read := upd s.read v (s.read v ++ [(s.ends v).recv.2.1]) } : PS) := by
      unfold PS.addRow
      rw [if_neg (by omega), Nat.add_sub_cancel_left]
    rw [hadd]
    refine h.step (v := v) hv (Nat.le_refl _) ?_ rfl ?_ rfl ?_ ?_ ?_ ?_ ?_ ?_ (fun _ _ h => h) (h.few v hv)
    · show upd s.ends v _ (1 - v) = s.ends (1 - v)
      unfold upd
      rw [if_neg (by omega)]
    · show upd s.read v _ (1 - v) = s.read (1 - v)
      unfold upd
      rw [if_neg (by omega)]
    · show (upd s.ends v (s.ends v).recv.1 v).Ok
      rw [upd_same]
      exact LK.recv_ok okv
    · show Dir (upd s.ends v (s.ends v).recv.1 v) _ _ _
      rw [upd_same]
      exact (h.dir v hv).grow hkeep.1 hkeep.2.1 hkeep.2.2.2.2.1 (Nat.le_of_eq hkeep.2.2.1.symm)
    · show Dir _ (upd s.ends v (s.ends v).recv.1 v) _ (upd s.read v _ v)
      rw [upd_same, upd_same]
      exact d2
    · show ∀ x ∈ (upd s.ends v (s.ends v).recv.1 v).goes, GenL (upd s.ends v (s.ends v).recv.1 v) _ x
      rw [upd_same, hkeep.2.2.2.2.2]
      exact fun x hx => (h.goes v hv x hx).more (Nat.le_of_eq hkeep.2.2.1.symm) (Nat.le_of_eq hkeep.2.2.2.1.symm) (fun _ _ h => h)
    · show _ ≤ (upd s.ends v (s.ends v).recv.1 v).out
      rw [upd_same]
      exact Nat.le_of_eq hkeep.2.2.1.symm
    · show _ ≤ (upd s.ends v (s.ends v).recv.1 v).came
      rw [upd_same]
      exact Nat.le_of_eq hkeep.2.2.2.1.symm
/-- An item of the other end's bag arrives. -/
theorem InvP.get {s : PS} {N u : Nat} (h : InvP s N) (hu : u < 2) (hN : N < 100000) {x : Bag.Item} (hx : ItemOk (s.ends (1 - u)) (s.sent (1 - u)) x) : InvP { s with ends := upd s.ends u ((s.ends u).get x.1).1 } N := by
  have oku := h.ok u hu
  have hd := h.dir u hu
  have hd2 := h.dir2 hu
  have hsm := h.small (1 - u) (by omega)
  rcases hx.unpack (by omega) (by omega) with he | ⟨n, y, h1, h2, h3, h4⟩ | ⟨n, h1, h2⟩
  · have e : ((s.ends u).get x.1).1 = s.ends u := by unfold LK.get; rw [if_pos he]
    rw [e]
    exact h.same hu
  · have e : ((s.ends u).get x.1).1 = (s.ends u).arrived n y := by unfold LK.get; rw [h4]; rfl
    rw [e]
    have hk := LK.arrived_keep (s.ends u) n y
    refine h.endOnly hu _ (LK.arrived_ok oku n y) (hd.grow hk.1 hk.2.1 hk.2.2.2.1 (Nat.le_of_eq hk.2.2.1.symm)) (hd2.arrived oku h2 h3) (fun z hz => ?_) (Nat.le_of_eq hk.2.2.1.symm) hk.2.2.2.2.1
    rcases hk.2.2.2.2.2.2 z hz with h5 | h5
    · exact (h.goes u hu z h5).more (Nat.le_of_eq hk.2.2.1.symm) hk.2.2.2.2.1 (fun _ _ h => h)
    · exact .inr ⟨_, Nat.le_refl _, h5⟩
  · have e : ((s.ends u).get x.1).1 = if (s.ends u).out < n then s.ends u else if (s.ends u).told < n then ({ s.ends u with loads := (s.ends u).loads.drop (n - (s.ends u).told), told := n } : LK).on else s.ends u := by
      unfold LK.get
      rw [h2]
      rw [if_neg (show ¬ (0 : Int) ≠ 0 by decide), if_neg (show ¬ (2 : Int) = 1 by decide)]
      split
      · rfl
      · split <;> rfl
    rw [e]
    split
    · exact h.same hu
    · rename_i hno
      split
      · rename_i hlt
        have ok1 := LK.tell_ok oku n (by omega) hlt
        have d1 := hd.tell hlt h1
        obtain ⟨E1, hE1⟩ : ∃ E1, ({ s.ends u with loads := (s.ends u).loads.drop (n - (s.ends u).told), told := n } : LK) = E1 := ⟨_, rfl⟩
        have h5 : E1.out = (s.ends u).out ∧ E1.came = (s.ends u).came ∧ E1.taken = (s.ends u).taken ∧ E1.slots = (s.ends u).slots ∧ E1.goes = (s.ends u).goes := by rw [← hE1]; exact ⟨rfl, rfl, rfl, rfl, rfl⟩
        rw [hE1] at ok1 d1 ⊢
        have hk := LK.on_keep E1
        have hoo := on_out E1 ok1
        refine h.endOnly hu _ (LK.on_ok ok1) (d1.grow hk.1 hk.2.1 hk.2.2.2.2.1 hoo) (hd2.other (hk.2.2.1.trans h5.2.1) (hk.2.2.2.1.trans h5.2.2.1) (hk.2.2.2.2.2.trans h5.2.2.2.1)) (on_gen ok1 d1.last d1.loads (fun z hz => ?_)) (by rw [← h5.1]; exact hoo) (by rw [hk.2.2.1, h5.2.1]; exact Nat.le_refl _)
        rw [h5.2.2.2.2] at hz
        exact (h.goes u hu z hz).more (by rw [← h5.1]; exact hoo) (by rw [hk.2.2.1, h5.2.1]; exact Nat.le_refl _) (fun _ _ h => h)
      · exact h.same hu
theorem Bag.takeL_mem {l : List Bag.Item} {i : Int} {x : Bag.Item} (h : x ∈ Bag.takeL l i) : x ∈ l := by
  unfold Bag.takeL at h
  split at h
  · exact List.mem_of_mem_eraseIdx h
  · exact h

/-- Every step keeps it. -/
theorem InvP.doS {s : PS} {N : Nat} (h : InvP s N) (hN : N < 10000) (t : StepL) : InvP (s.doS t) (N + 1) := by
  have hv := (who_val t.who).1
  unfold PS.doS
  refine InvP.flushS ?_
  unfold PS.act
  obtain ⟨v, hvv⟩ : ∃ v, whoN t.who = v := ⟨_, rfl⟩
  rw [hvv] at hv ⊢
  have htake : InvP { s with bags := upd s.bags v (Bag.takeL (s.bags v) t.i) } (N + 1) := (h.bag hv (Bag.takeL_le _ _ (h.bags v hv)) (fun x hx => h.items v hv x (Bag.takeL_mem hx))).more (Nat.le_succ _)
  split
  · exact h.send hv t.load
  · split
    · split
      · rename_i h0
        have hin : Bag.inB (s.bags v) t.i := by
          refine Classical.byContradiction fun hno => ?_
          unfold Bag.takeR at h0
          rw [if_neg hno] at h0
          exact absurd h0 (by decide)
        have hlt : t.i.toNat < (s.bags v).length := by have := hin.1; have := hin.2; omega
        have hx : (Bag.takeR (s.bags v) t.i).1 = ((s.bags v)[t.i.toNat]).1 := by
          unfold Bag.takeR
          rw [if_pos hin]
          simp [hlt]
        have hit := h.items v hv _ (List.getElem_mem hlt)
        have h11 : 1 - (1 - v) = v := by omega
        have := htake.get (u := 1 - v) (by omega) (by omega) (x := (s.bags v)[t.i.toNat]) (by rw [h11]; exact hit)
        rw [hx]
        exact this
      · exact htake
    · split
      · exact htake
      · split
        · refine (h.bag hv (Bag.twiceL_le _ _ (h.bags v hv)) (fun x hx => ?_)).more (Nat.le_succ _)
          unfold Bag.twiceL at hx
          split at hx
          · rcases List.mem_append.1 hx with hx | hx
            · exact h.items v hv x hx
            · rw [Option.mem_toList] at hx
              exact h.items v hv x (List.mem_of_getElem? hx)
          · exact h.items v hv x hx
        · split
          · refine (h.bag hv (Bag.turnL_le _ _ _ (h.bags v hv)) (fun x hx => ?_)).more (Nat.le_succ _)
            unfold Bag.turnL at hx
            split at hx
            · obtain ⟨j, hj⟩ := List.mem_iff_getElem?.1 hx
              rw [List.getElem?_modify] at hj
              cases hg : (s.bags v)[j]? with
              | none => rw [hg] at hj; simp at hj
              | some y =>
                rw [hg] at hj
                have hy := h.items v hv y (List.mem_of_getElem? hg)
                simp only [Option.map_eq_map, Option.map_some] at hj
                injection hj with hj
                rw [← hj]
                split
                · exact hy.turn _
                · exact hy
            · exact h.items v hv x hx
          · split
            · exact (h.tick hv).more (Nat.le_succ _)
            · exact (h.recv hv).more (Nat.le_succ _)
end Go.Proofs.Ytgacphicgglogaa

/-! ## What LinkCounts compares: the counts of two ends, that they never fall; a box beside the pair is written. -/
namespace Go.Proofs.Ytgacphicgglogaa
open Go.RowKit Crc
set_option linter.unusedVariables false

/-- The counts of an end. -/
def LK.cnt (l : LK) (i : Nat) : Nat := if i = 0 then l.last else if i = 1 then l.told else if i = 2 then l.came else l.taken
def LK.Le (a b : LK) : Prop := a.last ≤ b.last ∧ a.told ≤ b.told ∧ a.came ≤ b.came ∧ a.taken ≤ b.taken
theorem LK.Le.cnt {a b : LK} (h : LK.Le a b) (i : Nat) : a.cnt i ≤ b.cnt i := by
  unfold LK.cnt
  split
  · exact h.1
  · split
    · exact h.2.1
    · split
      · exact h.2.2.1
      · exact h.2.2.2
theorem LK.Le.refl (a : LK) : LK.Le a a := ⟨Nat.le_refl _, Nat.le_refl _, Nat.le_refl _, Nat.le_refl _⟩
theorem LK.Le.trans {a b c : LK} (h : LK.Le a b) (k : LK.Le b c) : LK.Le a c := ⟨Nat.le_trans h.1 k.1, Nat.le_trans h.2.1 k.2.1, Nat.le_trans h.2.2.1 k.2.2.1, Nat.le_trans h.2.2.2 k.2.2.2⟩
theorem LK.le_on (l : LK) : LK.Le l l.on := by
  have := LK.on_keep l
  exact ⟨Nat.le_of_eq this.1.symm, Nat.le_of_eq this.2.1.symm, Nat.le_of_eq this.2.2.1.symm, Nat.le_of_eq this.2.2.2.1.symm⟩
theorem LK.le_send (l : LK) (x : ByteArray) : LK.Le l (l.send x).1 := by
  unfold LK.send
  split
  · exact LK.Le.refl _
  · split
    · exact LK.Le.refl _
    · exact LK.Le.trans (b := { l with last := l.last + 1, loads := l.loads ++ [x] }) ⟨Nat.le_succ _, Nat.le_refl _, Nat.le_refl _, Nat.le_refl _⟩ (LK.le_on _)
theorem LK.le_recv (l : LK) : LK.Le l l.recv.1 := by
  unfold LK.recv
  split
  · exact LK.Le.refl _
  · exact ⟨Nat.le_refl _, Nat.le_refl _, Nat.le_refl _, Nat.le_succ _⟩
theorem LK.le_tick (l : LK) : LK.Le l l.tick := by
  have := LK.tickTo_keep l (l.out - l.told)
  exact ⟨Nat.le_of_eq this.1.symm, Nat.le_of_eq this.2.1.symm, Nat.le_of_eq this.2.2.2.1.symm, Nat.le_of_eq this.2.2.2.2.1.symm⟩
theorem LK.le_get (l : LK) (x : ByteArray) : LK.Le l (l.get x).1 := by
  unfold LK.get
  split
  · exact LK.Le.refl _
  split
  · have := LK.arrived_keep l (unpackRes x).2.1 (unpackRes x).2.2.1
    exact ⟨Nat.le_of_eq this.1.symm, Nat.le_of_eq this.2.1.symm, this.2.2.2.2.1, Nat.le_of_eq this.2.2.2.2.2.1.symm⟩
  split
  · exact LK.Le.refl _
  split
  · rename_i h
    exact LK.Le.trans (b := { l with loads := l.loads.drop ((unpackRes x).2.1 - l.told), told := (unpackRes x).2.1 }) ⟨Nat.le_refl _, Nat.le_of_lt h, Nat.le_refl _, Nat.le_refl _⟩ (LK.le_on _)
  · exact LK.Le.refl _
theorem upd_le {f : Nat → LK} {i : Nat} {a : LK} (h : LK.Le (f i) a) (j : Nat) : LK.Le (f j) (upd f i a j) := by
  unfold upd
  split
  · rename_i e
    subst e
    exact h
  · exact LK.Le.refl _
theorem act_le (s : PS) (t : StepL) (j : Nat) : LK.Le (s.ends j) ((s.act t).ends j) := by
  unfold PS.act
  split
  · split
    · rw [(addRow_ends _ _ _).1]
      exact upd_le (LK.le_send _ _) j
    · exact upd_le (LK.le_send _ _) j
  split
  · split
    · exact upd_le (LK.le_get _ _) j
    · exact LK.Le.refl _
  split
  · exact LK.Le.refl _
  split
  · exact LK.Le.refl _
  split
  · exact LK.Le.refl _
  split
  · exact upd_le (LK.le_tick _) j
  · unfold PS.recvS
    split
    · rw [(addRow_ends _ _ _).1]
      exact upd_le (LK.le_recv _) j
    · exact upd_le (LK.le_recv _) j
theorem doS_le (s : PS) (t : StepL) (j : Nat) : LK.Le (s.ends j) ((s.doS t).ends j) := by
  refine LK.Le.trans (act_le s t j) ?_
  unfold PS.doS PS.flushS
  rw [flushK_ends]
  split
  · exact LK.Le.refl _
  · exact LK.Le.refl _

/-- The counts of both ends, one behind the other. -/
def cntC (s : PS) : List Value := [.int .u64 (s.ends 0).last, .int .u64 (s.ends 0).told, .int .u64 (s.ends 0).came, .int .u64 (s.ends 0).taken, .int .u64 (s.ends 1).last, .int .u64 (s.ends 1).told, .int .u64 (s.ends 1).came, .int .u64 (s.ends 1).taken]
/-- What holds of them. -/
theorem InvP.counts {s : PS} {N : Nat} (h : InvP s N) {v : Nat} (hv : v < 2) : (s.ends v).told ≤ (s.ends (1 - v)).came ∧ (s.ends (1 - v)).came ≤ (s.ends v).last ∧ (s.ends v).taken ≤ (s.ends v).came ∧ (s.ends v).came - (s.ends v).taken ≤ 8 ∧ (s.ends v).told ≤ (s.ends v).last ∧ (s.ends v).last - (s.ends v).told ≤ 64 := by
  have hd := h.dir v hv
  have ok := h.ok v hv
  have h1 := hd.told
  have h2 := hd.came
  have h3 := ok.out
  have h4 := ok.told
  have h5 := ok.room
  have h6 := ok.taken
  have h7 := ok.came
  omega

section
variable {w w' : World} {B : Nat} {P : Ptrs} {s : PS} {n : Nat} {X : Nat → Th B}
/-- The box is written whole. -/
theorem PairX.boxSet {q t : Nat} {cs cs' : List Value} (h : PairX w B P s (n + 1) (boxX X n q t cs)) (hn : 5 ≤ n) (ht : Touch (fun k => k = q) w w') (hb : Blk w' q t cs'.toArray) : PairX w' B P s (n + 1) (boxX X n q t cs') := by
  have hat := h.boxAt hn
  obtain ⟨h5, h⟩ := h
  obtain ⟨F, hF, step⟩ := Sys.step h n (by omega)
  dsimp only [boxX] at hF
  rw [if_neg (show ¬ n < 5 by omega), if_pos rfl] at hF
  obtain ⟨_, rfl⟩ := hF
  refine ⟨h5, (step w' (objTh B q t cs' []) (FootR q []) (ht.more (fun k hk => .inl hk)) ⟨⟨hat.base, hb, fun x hx => (by cases hx), fun x hx => (by cases hx), fun i j x y hi => (by simp at hi)⟩, rfl⟩ (fun k hk => .inl hk)).congr fun j hj => ?_⟩
  unfold boxX
  by_cases hjn : j = n
  · rw [if_pos hjn, if_neg (by omega), if_pos hjn]
  · rw [if_neg hjn]
    by_cases h5 : j < 5
    · rw [if_pos h5, if_pos h5]
    · rw [if_neg h5, if_neg h5, if_neg hjn, if_neg hjn]
end
end Go.Proofs.Ytgacphicgglogaa
