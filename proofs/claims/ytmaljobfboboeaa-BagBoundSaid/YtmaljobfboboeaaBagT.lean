/- What Put, Twice and Turn do to any bag, as functions of its items. -/
import Derived.Test.YtmaljobfboboeaaBagW
namespace Go.Proofs.Ytmaljobfboboeaa
open Go.RowKit

def putL (l : List Item) (s : ByteArray) : List Item := if l.length < 16 then l ++ [(s, false)] else l
def putB (l : List Item) : Bool := decide (l.length < 16)

theorem putL_le (l : List Item) (s : ByteArray) (h : l.length ≤ 16) : (putL l s).length ≤ 16 := by
  unfold putL; split
  · rw [List.length_append]; simp; omega
  · exact h

/-- The bag behind a call. -/
def BagEnd (w : World) (B p : Nat) (r : Value) (l : List Item) (e : Ending) (w' : World) : Prop := e = .returned r ∧ Below B w w' ∧ ∃ v', BagAt w' B p v' l

theorem put_any (w : World) (B p : Nat) (v : Value) (l : List Item) (h : BagAt w B p v l) (hl : l.length ≤ 16) (s : ByteArray) (hB : B ≤ w.heap.size) :
    Calls Try.prog 14 #[.pointer (some ⟨p, 0, none⟩), .string s] w (BagEnd w B p (.bool (putB l)) (putL l s)) := by
  by_cases hlt : l.length < 16
  · refine (put_room w B p v l h hlt s hB).mono ?_
    rintro e w' ⟨rfl, h1, h2⟩
    exact ⟨by simp [putB, hlt], h1, by simpa [putL, hlt] using h2⟩
  · refine (put_full w B p v l h (by omega) s).mono ?_
    rintro e w' ⟨rfl, rfl⟩
    exact ⟨by simp [putB, hlt], Below.refl _ _, v, by simpa [putL, hlt] using h⟩

/-- What a turn may do. -/
def TurnTo (l l' : List Item) : Prop :=
  l' = l ∨ ∃ (i : Nat) (h : i < l.length) (n : Nat), n < 8 * l[i].1.size ∧ l[i].2 = false ∧ l' = l.set i (⟨(turnBytes l[i].1.data.toList n).toArray⟩, true)

def TurnEnd (w : World) (B p : Nat) (l : List Item) (e : Ending) (w' : World) : Prop := ∃ (r : Int) (l' : List Item), e = .returned (.int .i64 r) ∧ TurnTo l l' ∧ Below B w w' ∧ ∃ v', BagAt w' B p v' l'

theorem turn_any (w : World) (B p : Nat) (v : Value) (l : List Item) (h : BagAt w B p v l) (i bit : Int) (hB : B ≤ w.heap.size) (hsz : ∀ x ∈ l, x.1.size ≤ 2000) :
    Calls Try.prog 15 #[.pointer (some ⟨p, 0, none⟩), .int .i64 i, .int .i64 bit] w (TurnEnd w B p l) := by
  by_cases hout : i < 0 ∨ (l.length : Int) ≤ i
  · refine (turn_out w B p v l h i bit hout).mono ?_
    rintro e w' ⟨rfl, rfl⟩
    exact ⟨_, l, rfl, .inl rfl, Below.refl _ _, v, h⟩
  · obtain ⟨k, rfl⟩ := Int.eq_ofNat_of_zero_le (show 0 ≤ i by omega)
    have hk : k < l.length := by omega
    by_cases hneg : bit < 0
    · refine (turn_neg w B p v l h k hk bit hneg).mono ?_
      rintro e w' ⟨rfl, rfl⟩
      exact ⟨_, l, rfl, .inl rfl, Below.refl _ _, v, h⟩
    · obtain ⟨b, rfl⟩ := Int.eq_ofNat_of_zero_le (show 0 ≤ bit by omega)
      by_cases h0 : l[k].1.size = 0
      · refine (turn_empty w B p v l h k hk b h0).mono ?_
        rintro e w' ⟨rfl, rfl⟩
        exact ⟨_, l, rfl, .inl rfl, Below.refl _ _, v, h⟩
      · by_cases ht : l[k].2 = true
        · refine (turn_twice w B p v l h k hk b (by omega) ht).mono ?_
          rintro e w' ⟨rfl, rfl⟩
          exact ⟨_, l, rfl, .inl rfl, Below.refl _ _, v, h⟩
        · refine (turn_in w B p v l h k hk b hB (by omega) (by simpa using ht) (hsz _ (List.getElem_mem hk))).mono ?_
          rintro e w' ⟨rfl, h1, h2⟩
          exact ⟨_, _, rfl, .inr ⟨k, hk, _, Nat.mod_lt _ (by omega), by simpa using ht, rfl⟩, h1, h2⟩

/-- What a doubling may do. -/
def TwiceTo (l l' : List Item) : Prop := l' = l ∨ ∃ (i : Nat) (h : i < l.length), l.length < 16 ∧ l' = l ++ [l[i]]
def TwiceEnd (w : World) (B p : Nat) (l : List Item) (e : Ending) (w' : World) : Prop := ∃ (r : Int) (l' : List Item), e = .returned (.int .i64 r) ∧ TwiceTo l l' ∧ Below B w w' ∧ ∃ v', BagAt w' B p v' l'

theorem twice_any (w : World) (B p : Nat) (v : Value) (l : List Item) (h : BagAt w B p v l) (hl : l.length ≤ 16) (i : Int) (hB : B ≤ w.heap.size) :
    Calls Try.prog 16 #[.pointer (some ⟨p, 0, none⟩), .int .i64 i] w (TwiceEnd w B p l) := by
  by_cases hout : i < 0 ∨ (l.length : Int) ≤ i
  · refine (twice_out w B p v l h i hout).mono ?_
    rintro e w' ⟨rfl, rfl⟩
    exact ⟨_, l, rfl, .inl rfl, Below.refl _ _, v, h⟩
  · obtain ⟨k, rfl⟩ := Int.eq_ofNat_of_zero_le (show 0 ≤ i by omega)
    have hk : k < l.length := by omega
    by_cases hf : l.length < 16
    · refine (twice_room w B p v l h hf k hk hB).mono ?_
      rintro e w' ⟨rfl, h1, h2⟩
      exact ⟨_, _, rfl, .inr ⟨k, hk, hf, rfl⟩, h1, h2⟩
    · refine (twice_full w B p v l h (by omega) k (by omega) (by omega)).mono ?_
      rintro e w' ⟨rfl, rfl⟩
      exact ⟨_, l, rfl, .inl rfl, Below.refl _ _, v, h⟩

theorem bag_below {w w' : World} {B p : Nat} {v : Value} {l : List Item} (h : BagAt w B p v l) (hb : Below w.heap.size w w') : BagAt w' B p v l :=
  ⟨h.1, Blk.below h.2.1 hb (Blk.lt h.2.1), ownsRow_below h.2.2 hb⟩

theorem ownsRow_keep {W w : World} {X base e size : Nat} {v : Value} {n : Nat} {xs : List Value} (h : W.ownsRow base e size v n xs) (hb : Below X W w) (hv : ∀ k, v.ownBlock = some k → k < X) : w.ownsRow base e size v n xs := by
  refine ⟨h.1, ?_⟩
  rcases h.2 with h2 | ⟨g, cap, cur, hv', hg, hh, r⟩
  · exact .inl h2
  · exact .inr ⟨g, cap, cur, hv', hg, by rw [hb.block g (hv g (by rw [hv']; rfl))]; exact hh, r⟩

theorem bag_keep {w w' : World} {X B p : Nat} {v : Value} {l : List Item} (h : BagAt w B p v l) (hb : Below X w w') (hp : p < X) (hv : ∀ k, v.ownBlock = some k → k < X) : BagAt w' B p v l :=
  ⟨h.1, Blk.below h.2.1 hb hp, ownsRow_keep h.2.2 hb hv⟩

/-! ### one bit at most -/
/-- The text t is s, but for one bit at most. -/
def OneOff (s t : ByteArray) : Prop := t = s ∨ ∃ n, n < 8 * s.size ∧ t = ⟨(turnBytes s.data.toList n).toArray⟩
/-- What may be in a bag into which s alone was put. -/
def Near (s : ByteArray) (l : List Item) : Prop := l.length ≤ 16 ∧ ∀ x ∈ l, (x.2 = false → x.1 = s) ∧ OneOff s x.1

theorem OneOff.size {s t : ByteArray} (h : OneOff s t) : t.size = s.size := by
  rcases h with rfl | ⟨n, _, rfl⟩
  · rfl
  · show (turnBytes s.data.toList n).toArray.size = s.data.size
    rw [List.size_toArray, turnBytes_length, Array.length_toList]

theorem Near.turn {s : ByteArray} {l l' : List Item} (h : Near s l) (ht : TurnTo l l') : Near s l' := by
  rcases ht with rfl | ⟨i, hi, n, hn, hf, rfl⟩
  · exact h
  · refine ⟨by simpa using h.1, fun x hx => ?_⟩
    rcases List.mem_or_eq_of_mem_set hx with hx | rfl
    · exact h.2 x hx
    · have he := (h.2 _ (List.getElem_mem hi)).1 hf
      refine ⟨(fun h => by cases h), .inr ⟨n, ?_, ?_⟩⟩
      · rw [he] at hn; exact hn
      · rw [he]

theorem Near.twice {s : ByteArray} {l l' : List Item} (h : Near s l) (ht : TwiceTo l l') : Near s l' := by
  rcases ht with rfl | ⟨i, hi, hlt, rfl⟩
  · exact h
  · refine ⟨by simp; omega, fun x hx => ?_⟩
    rcases List.mem_append.1 hx with hx | hx
    · exact h.2 x hx
    · simp at hx; subst hx; exact h.2 _ (List.getElem_mem hi)

theorem Near.sizes {s : ByteArray} {l : List Item} (h : Near s l) (hs : s.size ≤ 2000) : ∀ x ∈ l, x.1.size ≤ 2000 := fun x hx => by rw [(h.2 x hx).2.size]; exact hs

end Go.Proofs.Ytmaljobfboboeaa
