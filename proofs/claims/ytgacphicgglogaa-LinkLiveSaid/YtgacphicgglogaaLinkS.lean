/- Two ends and what is between them, in memory: things side by side, made, recv, flush. -/
import Derived.Test.YtgacphicgglogaaLinkH
import Derived.Test.YtgacphicgglogaaBags
import Derived.Test.YtgacphicgglogaaRegP
import Derived.Test.YtgacphicgglogaaWireS

/-! ## Things side by side in memory: two ends, two bags, the pair that holds them. -/
namespace Go.Proofs.Ytgacphicgglogaa
open Go.RowKit Crc
set_option linter.unusedVariables false

/-- A thing in memory above block B: where it is, its blocks. -/
structure Th (B : Nat) where
  at_ : World → (Nat → Prop) → Prop
  keep : ∀ {w w' : World} {S F : Nat → Prop}, at_ w F → Touch S w w' → (∀ k, F k → ¬ S k) → at_ w' F
  foot : ∀ {w : World} {F : Nat → Prop}, at_ w F → ∀ k, F k → B ≤ k ∧ k < w.heap.size
def Sys {B : Nat} (w : World) (n : Nat) (T : Nat → Th B) : Prop := ∃ F : Nat → Nat → Prop, (∀ i, i < n → (T i).at_ w (F i)) ∧ ∀ i j k, i < n → j < n → i ≠ j → F i k → ¬ F j k
section
variable {B n : Nat} {w w' : World} {T : Nat → Th B}
theorem Sys.congr {T' : Nat → Th B} (h : Sys w n T) (he : ∀ i, i < n → T i = T' i) : Sys w n T' := by
  obtain ⟨F, h1, h2⟩ := h
  exact ⟨F, fun i hi => he i hi ▸ h1 i hi, h2⟩
theorem Sys.touch {S : Nat → Prop} (h : Sys w n T) (ht : Touch S w w') (hS : ∀ k, S k → w.heap.size ≤ k) : Sys w' n T := by
  obtain ⟨F, h1, h2⟩ := h
  exact ⟨F, fun i hi => (T i).keep (h1 i hi) ht (fun k hk hs => by have := ((T i).foot (h1 i hi) k hk).2; have := hS k hs; omega), h2⟩
theorem Sys.below (h : Sys w n T) (hb : Below w.heap.size w w') : Sys w' n T := h.touch (S := fun _ => False) (Touch.of_below hb) (fun _ h => h.elim)
/-- One of them changes. -/
theorem Sys.step (h : Sys w n T) (i : Nat) (hi : i < n) : ∃ F, (T i).at_ w F ∧ ∀ (w' : World) (t' : Th B) (F' : Nat → Prop), Touch F w w' → t'.at_ w' F' → (∀ k, F' k → F k ∨ w.heap.size ≤ k) → Sys w' n (fun j => if j = i then t' else T j) := by
  obtain ⟨F, h1, h2⟩ := h
  refine ⟨F i, h1 i hi, fun w' t' F' ht ha hf => ⟨fun j => if j = i then F' else F j, fun j hj => ?_, fun a b k ha hb hab hk hk2 => ?_⟩⟩
  · by_cases hji : j = i
    · subst hji
      simp only [if_true]
      exact ha
    · simp only [if_neg hji]
      exact (T j).keep (h1 j hj) ht (fun k hk => h2 j i k hj hi hji hk)
  · dsimp only at hk hk2
    by_cases hai : a = i
    · subst hai
      rw [if_pos rfl] at hk
      rw [if_neg (fun e => hab e.symm)] at hk2
      rcases hf k hk with h3 | h3
      · exact h2 a b k ha hb hab h3 hk2
      · have := ((T b).foot (h1 b hb) k hk2).2
        omega
    · rw [if_neg hai] at hk
      by_cases hbi : b = i
      · subst hbi
        rw [if_pos rfl] at hk2
        rcases hf k hk2 with h3 | h3
        · exact h2 a b k ha hb hab hk h3
        · have := ((T a).foot (h1 a ha) k hk).2
          omega
      · rw [if_neg hbi] at hk2
        exact h2 a b k ha hb hab hk hk2
/-- One of them parts in two. -/
theorem Sys.part (h : Sys w n T) (i : Nat) (hi : i < n) : ∃ F, (T i).at_ w F ∧ ∀ (w' : World) (t1 t2 : Th B) (F1 F2 : Nat → Prop), Touch F w w' → t1.at_ w' F1 → t2.at_ w' F2 → (∀ k, F1 k → F k ∨ w.heap.size ≤ k) → (∀ k, F2 k → F k ∨ w.heap.size ≤ k) → (∀ k, F1 k → ¬ F2 k) →
    Sys w' (n + 1) (fun j => if j = n then t2 else if j = i then t1 else T j) := by
  obtain ⟨F, h1, h2⟩ := h
  refine ⟨F i, h1 i hi, fun w' t1 t2 F1 F2 ht ha1 ha2 hf1 hf2 hap => ⟨fun j => if j = n then F2 else if j = i then F1 else F j, fun j hj => ?_, ?_⟩⟩
  · by_cases hjn : j = n
    · simp only [if_pos hjn]
      exact ha2
    · simp only [if_neg hjn]
      by_cases hji : j = i
      · simp only [if_pos hji]
        exact ha1
      · simp only [if_neg hji]
        exact (T j).keep (h1 j (by omega)) ht (fun k hk => h2 j i k (by omega) hi hji hk)
  · have far : ∀ a, a < n → a ≠ i → ∀ k, F a k → ¬ F1 k ∧ ¬ F2 k := fun a ha hai k hk => ⟨fun h3 => by
      rcases hf1 k h3 with h4 | h4
      · exact h2 a i k ha hi hai hk h4
      · have := ((T a).foot (h1 a ha) k hk).2
        omega, fun h3 => by
      rcases hf2 k h3 with h4 | h4
      · exact h2 a i k ha hi hai hk h4
      · have := ((T a).foot (h1 a ha) k hk).2
        omega⟩
    intro a b k ha hb hab hk hk2
    by_cases han : a = n
    · rw [if_pos han] at hk
      have hbn : ¬ b = n := fun e => hab (han.trans e.symm)
      rw [if_neg hbn] at hk2
      by_cases hbi : b = i
      · rw [if_pos hbi] at hk2
        exact hap k hk2 hk
      · rw [if_neg hbi] at hk2
        exact (far b (by omega) hbi k hk2).2 hk
    · rw [if_neg han] at hk
      by_cases hbn : b = n
      · rw [if_pos hbn] at hk2
        by_cases hai : a = i
        · rw [if_pos hai] at hk
          exact hap k hk hk2
        · rw [if_neg hai] at hk
          exact (far a (by omega) hai k hk).2 hk2
      · rw [if_neg hbn] at hk2
        by_cases hai : a = i
        · rw [if_pos hai] at hk
          have hbi : ¬ b = i := fun e => hab (hai.trans e.symm)
          rw [if_neg hbi] at hk2
          exact (far b (by omega) hbi k hk2).1 hk
        · rw [if_neg hai] at hk
          by_cases hbi : b = i
          · rw [if_pos hbi] at hk2
            exact (far a (by omega) hai k hk).1 hk2
          · rw [if_neg hbi] at hk2
            exact h2 a b k (by omega) (by omega) hab hk hk2
/-- One more, made anew. -/
theorem Sys.add (h : Sys w n T) (t : Th B) (F' : Nat → Prop) (hb : Below w.heap.size w w') (ht : t.at_ w' F') (hf : ∀ k, F' k → w.heap.size ≤ k) : Sys w' (n + 1) (fun j => if j = n then t else T j) := by
  have hlt : ∀ k, ∀ i, i < n → ∀ F, (T i).at_ w F → F k → k < w.heap.size := fun k i hi F hF hk => ((T i).foot hF k hk).2
  obtain ⟨F, h1, h2⟩ := h
  refine ⟨fun j => if j = n then F' else F j, fun j hj => ?_, fun a b k ha hb2 hab hk hk2 => ?_⟩
  · by_cases hjn : j = n
    · simp only [if_pos hjn]
      exact ht
    · simp only [if_neg hjn]
      exact (T j).keep (S := fun _ => False) (h1 j (by omega)) (Touch.of_below hb) (fun _ _ h => h)
  · dsimp only at hk hk2
    by_cases han : a = n
    · rw [if_pos han] at hk
      have hbn : ¬ b = n := fun e => hab (han.trans e.symm)
      rw [if_neg hbn] at hk2
      have := hlt k b (by omega) _ (h1 b (by omega)) hk2
      have := hf k hk
      omega
    · rw [if_neg han] at hk
      by_cases hbn : b = n
      · rw [if_pos hbn] at hk2
        have := hlt k a (by omega) _ (h1 a (by omega)) hk
        have := hf k hk2
        omega
      · rw [if_neg hbn] at hk2
        exact h2 a b k (by omega) (by omega) hab hk hk2
theorem Sys.less (h : Sys w (n + 1) T) : Sys w n T := by
  obtain ⟨F, h1, h2⟩ := h
  exact ⟨F, fun i hi => h1 i (by omega), fun i j k hi hj => h2 i j k (by omega) (by omega)⟩
theorem Sys.nil (w : World) (T : Nat → Th B) : Sys w 0 T := ⟨fun _ _ => False, fun i hi => absurd hi (by omega), fun i j k hi => absurd hi (by omega)⟩
end

def linkTh (B p : Nat) (l : LK) : Th B where
  at_ w F := ∃ vL vG, LinkAt w B p vL vG l ∧ F = Foot p vL vG
  keep := fun ⟨vL, vG, h, e⟩ ht hS => ⟨vL, vG, h.touch ht (fun k hk => hS k (e ▸ hk)), e⟩
  foot := fun ⟨vL, vG, h, e⟩ k hk => h.foot (e ▸ hk)
theorem Bag.BagAt.touch {w w' : World} {B p : Nat} {v : Value} {l : List Bag.Item} {S : Nat → Prop} (h : Bag.BagAt w B p v l) (ht : Touch S w w') (hS : ∀ k, Bag.BF p v k → ¬ S k) : Bag.BagAt w' B p v l :=
  ⟨h.1, ht.blk (cs := #[v]) h.2.1 (hS p (.inl rfl)), ht.own h.2.2 (fun k hk => hS k (.inr hk))⟩
def bagTh (B p : Nat) (l : List Bag.Item) : Th B where
  at_ w F := ∃ v, Bag.BagAt w B p v l ∧ F = Bag.BF p v
  keep := fun ⟨v, h, e⟩ ht hS => ⟨v, h.touch ht (fun k hk => hS k (e ▸ hk)), e⟩
  foot := fun ⟨v, h, e⟩ k hk => by
    rw [e] at hk
    rcases hk with rfl | hk
    · exact ⟨h.1, Blk.lt h.2.1⟩
    · exact h.2.2.lt k hk
def objTh (B p t : Nat) (cs : List Value) (R : List RowV) : Th B where
  at_ w F := ObjAt w B p t cs R ∧ F = FootR p R
  keep := fun ⟨h, e⟩ ht hS => ⟨h.touch ht (fun k hk => hS k (e ▸ hk)), e⟩
  foot := fun ⟨h, e⟩ k hk => h.foot (e ▸ hk)
/-- The pair: who is where, what each sent and read. -/
def pairTh (B p : Nat) (pe pb : Nat → Nat) (sent read : Nat → List ByteArray) : Th B where
  at_ w F := ∃ vs : Nat → Value, (objTh B p 91 [.pointer (some ⟨pe 0, 0, none⟩), .pointer (some ⟨pe 1, 0, none⟩), .pointer (some ⟨pb 0, 0, none⟩), .pointer (some ⟨pb 1, 0, none⟩), vs 0, vs 1, vs 2, vs 3]
    [⟨9, vs 0, strs (sent 0)⟩, ⟨9, vs 1, strs (sent 1)⟩, ⟨9, vs 2, strs (read 0)⟩, ⟨9, vs 3, strs (read 1)⟩]).at_ w F
  keep := fun ⟨vs, h⟩ ht hS => ⟨vs, (objTh ..).keep h ht hS⟩
  foot := fun ⟨vs, h⟩ k hk => (objTh ..).foot h k hk
def rowTh (B : Nat) (v : Value) (xs : List Value) : Th B where
  at_ w F := w.ownsRow B 9 1 v xs.length xs ∧ F = fun k => v.ownBlock = some k
  keep := fun ⟨h, e⟩ ht hS => ⟨ht.own h (fun k hk => hS k (by rw [e]; exact hk)), e⟩
  foot := fun ⟨h, e⟩ k hk => h.lt k (by rw [e] at hk; exact hk)

/-- What two ends and what is between them hold. -/
structure PS where
  ends : Nat → LK
  bags : Nat → List Bag.Item
  sent : Nat → List ByteArray
  read : Nat → List ByteArray
/-- Where they are. -/
structure Ptrs where
  p : Nat
  pe : Nat → Nat
  pb : Nat → Nat
def upd {α : Type} (f : Nat → α) (i : Nat) (a : α) : Nat → α := fun j => if j = i then a else f j
def PS.things (B : Nat) (P : Ptrs) (s : PS) : Nat → Th B := fun i => if i < 2 then linkTh B (P.pe i) (s.ends i) else if i < 4 then bagTh B (P.pb (i - 2)) (s.bags (i - 2)) else pairTh B P.p P.pe P.pb s.sent s.read
/-- The pair in memory, and whatever else (n - 5 things X). -/
def PairX (w : World) (B : Nat) (P : Ptrs) (s : PS) (n : Nat) (X : Nat → Th B) : Prop := 5 ≤ n ∧ Sys w n (fun i => if i < 5 then s.things B P i else X i)
def PS.row (s : PS) (r : Nat) : List ByteArray := if r < 2 then s.sent r else s.read (r - 2)
def PS.addRow (s : PS) (r : Nat) (x : ByteArray) : PS := if r < 2 then { s with sent := upd s.sent r (s.sent r ++ [x]) } else { s with read := upd s.read (r - 2) (s.read (r - 2) ++ [x]) }
section
variable {w w' : World} {B : Nat} {P : Ptrs} {s : PS} {n : Nat} {X : Nat → Th B}
theorem PairX.below (h : PairX w B P s n X) (hb : Below w.heap.size w w') : PairX w' B P s n X := ⟨h.1, h.2.below hb⟩
theorem PairX.less (h : PairX w B P s (n + 1) X) (hn : 5 ≤ n) : PairX w B P s n X := ⟨hn, h.2.less⟩
theorem PairX.link (h : PairX w B P s n X) (hB : B ≤ w.heap.size) (i : Nat) (hi : i < 2) : ∃ vL vG, LinkAt w B (P.pe i) vL vG (s.ends i) ∧ ∀ (l' : LK) (w' : World), LinkEnd w B (P.pe i) vL vG l' w' → PairX w' B P { s with ends := upd s.ends i l' } n X ∧ Below B w w' := by
  obtain ⟨hn, h⟩ := h
  obtain ⟨F, hF, hst⟩ := Sys.step h i (by omega)
  have hT : s.things B P i = linkTh B (P.pe i) (s.ends i) := by unfold PS.things; rw [if_pos hi]
  rw [if_pos (show i < 5 by omega), hT] at hF
  obtain ⟨vL, vG, hl, rfl⟩ := hF
  refine ⟨vL, vG, hl, fun l' w' ⟨vL', vG', h1, h2, h3⟩ => ⟨⟨hn, ?_⟩, h2.below hB (fun k hk => (hl.foot hk).1)⟩⟩
  refine (hst w' (linkTh B (P.pe i) l') (Foot (P.pe i) vL' vG') h2 ⟨vL', vG', h1, rfl⟩ h3).congr fun j hj => ?_
  by_cases hji : j = i
  · subst hji
    rw [if_pos rfl, if_pos (show j < 5 by omega)]
    unfold PS.things
    rw [if_pos hi]
    simp [upd]
  · rw [if_neg hji]
    by_cases h5 : j < 5
    · rw [if_pos h5, if_pos h5]
      unfold PS.things
      simp [upd, hji]
    · rw [if_neg h5, if_neg h5]
theorem PairX.bag (h : PairX w B P s n X) (hB : B ≤ w.heap.size) (i : Nat) (hi : i < 2) : ∃ v, Bag.BagAt w B (P.pb i) v (s.bags i) ∧ ∀ (l' : List Bag.Item) (w' : World), Bag.BagEnd w B (P.pb i) v l' w' → PairX w' B P { s with bags := upd s.bags i l' } n X ∧ Below B w w' := by
  obtain ⟨hn, h⟩ := h
  obtain ⟨F, hF, hst⟩ := Sys.step h (2 + i) (by omega)
  have hT : s.things B P (2 + i) = bagTh B (P.pb i) (s.bags i) := by unfold PS.things; rw [if_neg (by omega), if_pos (by omega), Nat.add_sub_cancel_left]
  rw [if_pos (show 2 + i < 5 by omega), hT] at hF
  obtain ⟨v, hl, rfl⟩ := hF
  refine ⟨v, hl, fun l' w' ⟨v', h1, h2, h3⟩ => ⟨⟨hn, ?_⟩, h2.below hB (fun k hk => ((bagTh B (P.pb i) (s.bags i)).foot ⟨v, hl, rfl⟩ k hk).1)⟩⟩
  refine (hst w' (bagTh B (P.pb i) l') (Bag.BF (P.pb i) v') h2 ⟨v', h1, rfl⟩ (fun k hk => ?_)).congr fun j hj => ?_
  · rcases hk with rfl | hk
    · exact .inl (.inl rfl)
    · exact (h3 k hk).imp .inr id
  · by_cases hji : j = 2 + i
    · subst hji
      rw [if_pos rfl, if_pos (show 2 + i < 5 by omega)]
      unfold PS.things
      rw [if_neg (by omega), if_pos (by omega), Nat.add_sub_cancel_left]
      simp [upd]
    · rw [if_neg hji]
      by_cases h5 : j < 5
      · rw [if_pos h5, if_pos h5]
        unfold PS.things
        by_cases h2 : j < 2
        · simp [h2]
        · by_cases h4 : j < 4
          · have : ¬ j - 2 = i := by omega
            simp [h2, h4, upd, this]
          · simp [h2, h4]
      · rw [if_neg h5, if_neg h5]
/-- 'Out': the row of what was to go becomes a thing of its own. -/
theorem PairX.out (h : PairX w B P s n X) (hB : B ≤ w.heap.size) (i : Nat) (hi : i < 2) : ∃ vL vG, LinkAt w B (P.pe i) vL vG (s.ends i) ∧
    PairX (w.setCell ⟨P.pe i, 22, none⟩ (.slice none 0 0)) B P { s with ends := upd s.ends i { s.ends i with goes := [] } } (n + 1) (fun j => if j = n then rowTh B vG (strs (s.ends i).goes) else X j) ∧ Below B w (w.setCell ⟨P.pe i, 22, none⟩ (.slice none 0 0)) := by
  obtain ⟨hn, h⟩ := h
  obtain ⟨F, hF, hst⟩ := Sys.part h i (by omega)
  have hT : s.things B P i = linkTh B (P.pe i) (s.ends i) := by unfold PS.things; rw [if_pos hi]
  rw [if_pos (show i < 5 by omega), hT] at hF
  obtain ⟨vL, vG, hl, rfl⟩ := hF
  obtain ⟨g1, g2, g3⟩ := out_end hl
  refine ⟨vL, vG, hl, ⟨by omega, ?_⟩, g3.below hB (fun k hk => by subst hk; exact hl.base)⟩
  refine (hst _ (linkTh B (P.pe i) { s.ends i with goes := [] }) (rowTh B vG (strs (s.ends i).goes)) (Foot (P.pe i) vL (.slice none 0 0)) (fun k => vG.ownBlock = some k) (g3.more (fun k hk => .inl hk)) ⟨vL, _, g1, rfl⟩ ⟨by rw [strs_len]; exact g2, rfl⟩ (fun k hk => ?_) (fun k hk => .inl (.inr (.inr hk))) (fun k hk hk2 => ?_)).congr fun j hj => ?_
  · rcases hk with hk | hk | hk
    · exact .inl (.inl hk)
    · exact .inl (.inr (.inl hk))
    · cases hk
  · rcases hk with hk | hk | hk
    · exact hl.pG (hk ▸ hk2)
    · exact hl.apart k hk hk2
    · cases hk
  · by_cases hjn : j = n
    · have : ¬ j < 5 := by omega
      rw [if_pos hjn, if_neg this]
      exact (if_pos hjn).symm
    · rw [if_neg hjn]
      by_cases hji : j = i
      · subst hji
        rw [if_pos rfl, if_pos (show j < 5 by omega)]
        unfold PS.things
        rw [if_pos hi]
        simp [upd]
      · rw [if_neg hji]
        by_cases h5 : j < 5
        · rw [if_pos h5, if_pos h5]
          unfold PS.things
          simp [upd, hji]
        · rw [if_neg h5, if_neg h5]
          exact (if_neg hjn).symm
/-- The pair's own cells. -/
theorem PairX.pair (h : PairX w B P s n X) (hB : B ≤ w.heap.size) : (∀ i, i < 2 → w.cell? ⟨P.p, i, none⟩ = some (.pointer (some ⟨P.pe i, 0, none⟩)) ∧ w.cell? ⟨P.p, 2 + i, none⟩ = some (.pointer (some ⟨P.pb i, 0, none⟩))) ∧ P.p < w.heap.size ∧ B ≤ P.p ∧
    ∀ r, r < 4 → ∃ A c, w.cell? ⟨P.p, 4 + r, none⟩ = some (.slice A (s.row r).length c) ∧ w.ownsRow B 9 1 (.slice A (s.row r).length c) (s.row r).length (strs (s.row r)) ∧
      ∀ (x : ByteArray) (v' : Value) (w2 : World), Touch (fun k => (Value.slice A (s.row r).length c).ownBlock = some k) w w2 → w2.ownsRow B 9 1 v' ((s.row r).length + 1) (strs (s.row r ++ [x])) → (∀ k, v'.ownBlock = some k → (Value.slice A (s.row r).length c).ownBlock = some k ∨ w.heap.size ≤ k) →
        w2.cell? ⟨P.p, 4 + r, none⟩ = some (.slice A (s.row r).length c) ∧ w2.frozen? ⟨P.p, 4 + r, none⟩ = false ∧ P.p < w2.heap.size ∧ PairX (w2.setCell ⟨P.p, 4 + r, none⟩ v') B P (s.addRow r x) n X ∧ Below B w (w2.setCell ⟨P.p, 4 + r, none⟩ v') := by
  obtain ⟨hn, h⟩ := h
  obtain ⟨F, hF, hst⟩ := Sys.step h 4 (by omega)
  rw [if_pos (show 4 < 5 by omega), show s.things B P 4 = pairTh B P.p P.pe P.pb s.sent s.read from rfl] at hF
  obtain ⟨vs, ho, rfl⟩ := hF
  have hrow : ∀ r, r < 4 → [(⟨9, vs 0, strs (s.sent 0)⟩ : RowV), ⟨9, vs 1, strs (s.sent 1)⟩, ⟨9, vs 2, strs (s.read 0)⟩, ⟨9, vs 3, strs (s.read 1)⟩][r]? = some ⟨9, vs r, strs (s.row r)⟩ := fun r hr => by
    match r, hr with
    | 0, _ => rfl
    | 1, _ => rfl
    | 2, _ => rfl
    | 3, _ => rfl
  refine ⟨fun i hi => ?_, ho.blk.lt, ho.base, fun r hr => ?_⟩
  · rw [ho.cell, ho.cell]
    match i, hi with
    | 0, _ => exact ⟨rfl, rfl⟩
    | 1, _ => exact ⟨rfl, rfl⟩
  · have hr1 := ho.rows _ (List.mem_of_getElem? (hrow r hr))
    dsimp only at hr1
    rw [strs_len] at hr1
    obtain ⟨A, c, hv⟩ := own_form hr1
    have hcell : w.cell? ⟨P.p, 4 + r, none⟩ = some (vs r) := by
      rw [ho.cell]
      match r, hr with
      | 0, _ => rfl
      | 1, _ => rfl
      | 2, _ => rfl
      | 3, _ => rfl
    rw [hv] at hr1 hcell
    refine ⟨A, c, hcell, hr1, fun x v' w2 ht ho2 hbl => ?_⟩
    have hpn : ¬ (Value.slice A (s.row r).length c).ownBlock = some P.p := by
      rw [← hv]
      exact ho.off _ (List.mem_of_getElem? (hrow r hr))
    have hblk2 := ht.blk ho.blk hpn
    have hcell2 : w2.cell? ⟨P.p, 4 + r, none⟩ = w.cell? ⟨P.p, 4 + r, none⟩ := by rw [hblk2.cell, ho.blk.cell]
    have hR := ho.row_ r _ ⟨9, v', strs (s.row r ++ [x])⟩ (hrow r hr) (w' := w2) (by rw [hv]; exact ht) (by dsimp only; rw [strs_len, List.length_append]; exact ho2) (by dsimp only; rw [hv]; exact hbl)
    have hR2 := hR.set_ (4 + r) v'
    have hts := Touch.of_set (w := w2) (S := fun k => k = P.p) ⟨P.p, 4 + r, none⟩ v' rfl
    have hF0 : ∀ k, (Value.slice A (s.row r).length c).ownBlock = some k → FootR P.p [(⟨9, vs 0, strs (s.sent 0)⟩ : RowV), ⟨9, vs 1, strs (s.sent 1)⟩, ⟨9, vs 2, strs (s.read 0)⟩, ⟨9, vs 3, strs (s.read 1)⟩] k := fun k hk => .inr ⟨_, List.mem_of_getElem? (hrow r hr), by dsimp only; rw [hv]; exact hk⟩
    have hta : Touch (FootR P.p [(⟨9, vs 0, strs (s.sent 0)⟩ : RowV), ⟨9, vs 1, strs (s.sent 1)⟩, ⟨9, vs 2, strs (s.read 0)⟩, ⟨9, vs 3, strs (s.read 1)⟩]) w (w2.setCell ⟨P.p, 4 + r, none⟩ v') := (ht.more hF0).trans hts (fun k hk => .inl (.inl hk))
    refine ⟨by rw [hcell2]; exact hcell, hblk2.frozen _, hblk2.lt, ⟨hn, ?_⟩, hta.below hB (fun k hk => (ho.foot hk).1)⟩
    refine (hst _ (pairTh B P.p P.pe P.pb (s.addRow r x).sent (s.addRow r x).read) _ hta ⟨upd vs r v', ?_, rfl⟩ ?_).congr fun j hj => ?_
    · match r, hr, hR2 with
      | 0, _, hR2 => exact hR2
      | 1, _, hR2 => exact hR2
      | 2, _, hR2 => exact hR2
      | 3, _, hR2 => exact hR2
    · intro k hk
      rcases hk with hk | ⟨y, hy, hk⟩
      · exact .inl (.inl hk)
      · have hmem : ∀ r', r' < 4 → r' ≠ r → (vs r').ownBlock = some k → FootR P.p [(⟨9, vs 0, strs (s.sent 0)⟩ : RowV), ⟨9, vs 1, strs (s.sent 1)⟩, ⟨9, vs 2, strs (s.read 0)⟩, ⟨9, vs 3, strs (s.read 1)⟩] k := fun r' hr' _ hk => .inr ⟨_, List.mem_of_getElem? (hrow r' hr'), hk⟩
        have hall : ∀ r', r' < 4 → (upd vs r v' r').ownBlock = some k → FootR P.p [(⟨9, vs 0, strs (s.sent 0)⟩ : RowV), ⟨9, vs 1, strs (s.sent 1)⟩, ⟨9, vs 2, strs (s.read 0)⟩, ⟨9, vs 3, strs (s.read 1)⟩] k ∨ w.heap.size ≤ k := fun r' hr' hk => by
          by_cases hrr : r' = r
          · subst hrr
            simp only [upd, if_true] at hk
            exact (hbl k hk).imp (hF0 k) id
          · simp only [upd, if_neg hrr] at hk
            exact .inl (hmem r' hr' hrr hk)
        simp only [List.mem_cons, List.not_mem_nil, or_false] at hy
        rcases hy with rfl | rfl | rfl | rfl
        · exact hall 0 (by omega) hk
        · exact hall 1 (by omega) hk
        · exact hall 2 (by omega) hk
        · exact hall 3 (by omega) hk
    · by_cases hj4 : j = 4
      · subst hj4
        rw [if_pos rfl]
        rfl
      · rw [if_neg hj4]
        by_cases h5 : j < 5
        · rw [if_pos h5, if_pos h5]
          have e1 : (s.addRow r x).ends = s.ends ∧ (s.addRow r x).bags = s.bags := by unfold PS.addRow; split <;> exact ⟨rfl, rfl⟩
          unfold PS.things
          have h4 : j < 4 := by omega
          simp [h4, e1.1, e1.2]
        · rw [if_neg h5, if_neg h5]
/-- The cell of a row's slice stays while the row itself is written. -/
theorem PairX.stay (h : PairX w B P s n X) (hB : B ≤ w.heap.size) (r : Nat) (hr : r < 4) {A : Option Addr} {m c : Nat} (hc : w.cell? ⟨P.p, 4 + r, none⟩ = some (.slice A m c)) {w3 : World} (ht : Touch (fun k => (Value.slice A m c).ownBlock = some k) w w3) : w3.cell? ⟨P.p, 4 + r, none⟩ = some (.slice A m c) := by
  obtain ⟨_, h⟩ := h
  obtain ⟨F, hF, _⟩ := Sys.step h 4 (by omega)
  rw [if_pos (show 4 < 5 by omega), show s.things B P 4 = pairTh B P.p P.pe P.pb s.sent s.read from rfl] at hF
  obtain ⟨vs, ho, rfl⟩ := hF
  have hcell : w.cell? ⟨P.p, 4 + r, none⟩ = some (vs r) := by
    rw [ho.cell]
    match r, hr with
    | 0, _ => rfl
    | 1, _ => rfl
    | 2, _ => rfl
    | 3, _ => rfl
  have hv : vs r = .slice A m c := Option.some.inj (hcell.symm.trans hc)
  have hmem : (⟨9, vs r, strs (s.row r)⟩ : RowV) ∈ [(⟨9, vs 0, strs (s.sent 0)⟩ : RowV), ⟨9, vs 1, strs (s.sent 1)⟩, ⟨9, vs 2, strs (s.read 0)⟩, ⟨9, vs 3, strs (s.read 1)⟩] := by
    match r, hr with
    | 0, _ => exact .head _
    | 1, _ => exact .tail _ (.head _)
    | 2, _ => exact .tail _ (.tail _ (.head _))
    | 3, _ => exact .tail _ (.tail _ (.tail _ (.head _)))
  have hpn : ¬ (Value.slice A m c).ownBlock = some P.p := by
    rw [← hv]
    exact ho.off _ hmem
  rw [(ht.blk ho.blk hpn).cell, ← ho.blk.cell]
  exact hc
end
end Go.Proofs.Ytgacphicgglogaa

/-! ## The pair: 'made', 'recv'. -/
namespace Go.Proofs.Ytgacphicgglogaa
open Go.RowKit Crc
set_option linter.unusedVariables false

def PS.new : PS := ⟨fun _ => LK.new, fun _ => [], fun _ => [], fun _ => []⟩

set_option maxHeartbeats 2000000 in
set_option maxRecDepth 100000 in
theorem made_any (w : World) : Calls Try.prog 41 #[] w fun e w' => ∃ P : Ptrs, e = .returned (.pointer (some ⟨P.p, 0, none⟩)) ∧ PairX w' w.heap.size P PS.new 5 (fun _ => rowTh w.heap.size (.slice none 0 0) []) ∧ Below w.heap.size w w' := by
  obtain ⟨R, hR⟩ : ∃ R : Ending → World → Prop, R = fun e w' => ∃ P : Ptrs, e = .returned (.pointer (some ⟨P.p, 0, none⟩)) ∧ PairX w' w.heap.size P PS.new 5 (fun _ => rowTh w.heap.size (.slice none 0 0) []) ∧ Below w.heap.size w w' := ⟨_, rfl⟩
  rw [← hR]
  have HR := Lib.hid hR
  clear hR
  have hz91 : ∀ w, (zeroValue 91).run Try.prog w = .ok (.agg #[.pointer none, .pointer none, .pointer none, .pointer none, .slice none 0 0, .slice none 0 0, .slice none 0 0, .slice none 0 0]) w := fun _ => by kernel_rfl
  obtain ⟨B, hB⟩ : ∃ B, w.heap.size = B := ⟨_, rfl⟩
  have HB := Lib.hid hB
  clear hB
  go_enter Try.func41, Try.ntmps41
  go_wp2_with fail
  refine (new_any w B (Nat.le_of_eq HB.out.symm)).mono ?_
  rintro e w1 ⟨rfl, hl0, hb1⟩
  have hs1 := (Sys.nil (B := B) w (fun _ => rowTh B (.slice none 0 0) [])).add (linkTh B w.heap.size LK.new) _ hb1 ⟨_, _, hl0, rfl⟩ (fun k hk => by
    rcases hk with hk | hk | hk
    · omega
    · cases hk
    · cases hk)
  have HS1 := Lib.hid hs1
  have HB1 := Lib.hid hb1
  clear hl0 hb1 hs1
  go_wp2_with fail
  refine (new_any w1 B (by have := HB1.out.size; have := HB.out; omega)).mono ?_
  rintro e w2 ⟨rfl, hl0, hb1⟩
  have HS2 := Lib.hid (HS1.out.add (linkTh B w1.heap.size LK.new) _ hb1 ⟨_, _, hl0, rfl⟩ (fun k hk => by
    rcases hk with hk | hk | hk
    · omega
    · cases hk
    · cases hk))
  have HB2 := Lib.hid (HB1.out.trans (hb1.mono HB1.out.size))
  clear hl0 hb1 HS1 HB1
  go_wp2_with fail
  refine (Bag.new_any w2 B (by have := HB2.out.size; have := HB.out; omega)).mono ?_
  rintro e w3 ⟨rfl, hl0, hb1⟩
  have HS3 := Lib.hid (HS2.out.add (bagTh B w2.heap.size []) _ hb1 ⟨_, hl0, rfl⟩ (fun k hk => by
    rcases hk with hk | hk
    · omega
    · cases hk))
  have HB3 := Lib.hid (HB2.out.trans (hb1.mono HB2.out.size))
  clear hl0 hb1 HS2 HB2
  go_wp2_with fail
  refine (Bag.new_any w3 B (by have := HB3.out.size; have := HB.out; omega)).mono ?_
  rintro e w4 ⟨rfl, hl0, hb1⟩
  have HS4 := Lib.hid (HS3.out.add (bagTh B w3.heap.size []) _ hb1 ⟨_, hl0, rfl⟩ (fun k hk => by
    rcases hk with hk | hk
    · omega
    · cases hk))
  have HB4 := Lib.hid (HB3.out.trans (hb1.mono HB3.out.size))
  clear hl0 hb1 HS3 HB3
  have hal := (Below.refl w4.heap.size w4).alloc (Nat.le_refl _) (.cells #[.pointer (some ⟨w.heap.size, 0, none⟩), .pointer (some ⟨w1.heap.size, 0, none⟩), .pointer (some ⟨w2.heap.size, 0, none⟩), .pointer (some ⟨w3.heap.size, 0, none⟩), .slice none 0 0, .slice none 0 0, .slice none 0 0, .slice none 0 0] 91)
  have hB4 : B ≤ w4.heap.size := by have := HB4.out.size; have := HB.out; omega
  have hpair : (pairTh B w4.heap.size (fun i => if i = 0 then w.heap.size else w1.heap.size) (fun i => if i = 0 then w2.heap.size else w3.heap.size) (fun _ => []) (fun _ => [])).at_ (w4.alloc (.cells #[.pointer (some ⟨w.heap.size, 0, none⟩), .pointer (some ⟨w1.heap.size, 0, none⟩), .pointer (some ⟨w2.heap.size, 0, none⟩), .pointer (some ⟨w3.heap.size, 0, none⟩), .slice none 0 0, .slice none 0 0, .slice none 0 0, .slice none 0 0] 91)) (FootR w4.heap.size [⟨9, .slice none 0 0, []⟩, ⟨9, .slice none 0 0, []⟩, ⟨9, .slice none 0 0, []⟩, ⟨9, .slice none 0 0, []⟩]) := by
    have hnil : ∀ x ∈ ([⟨9, .slice none 0 0, []⟩, ⟨9, .slice none 0 0, []⟩, ⟨9, .slice none 0 0, []⟩, ⟨9, .slice none 0 0, []⟩] : List RowV), x = ⟨9, .slice none 0 0, []⟩ := fun x hx => by
      simp only [List.mem_cons, List.not_mem_nil, or_false, or_self] at hx
      exact hx
    refine ⟨fun _ => .slice none 0 0, ⟨hB4, Blk.new _ _ _, fun x hx => ?_, fun x hx => ?_, fun i j x y hi hj _ k hk => ?_⟩, rfl⟩
    · rw [hnil x hx]
      exact World.ownsRow_nil _ _ _ _
    · rw [hnil x hx]
      intro h
      cases h
    · rw [hnil x (List.mem_of_getElem? hi)] at hk
      cases hk
  have HS5 := Lib.hid (HS4.out.add _ _ hal hpair (fun k hk => by
    rcases hk with hk | ⟨x, hx, hk⟩
    · omega
    · simp only [List.mem_cons, List.not_mem_nil, or_false, or_self] at hx
      subst hx
      cases hk))
  have HB5 := Lib.hid (HB4.out.trans (hal.mono HB4.out.size))
  clear hal hpair hB4 HS4 HB4
  go_wp2
  rw [HR.out]
  refine ⟨⟨w4.heap.size, fun i => if i = 0 then w.heap.size else w1.heap.size, fun i => if i = 0 then w2.heap.size else w3.heap.size⟩, rfl, ⟨Nat.le_refl _, ?_⟩, HB5.out⟩
  rw [HB.out]
  have := HS5.out
  rw [HB.out] at this
  refine this.congr fun j hj => ?_
  match j, hj with
  | 0, _ => rfl
  | 1, _ => rfl
  | 2, _ => rfl
  | 3, _ => rfl
  | 4, _ => rfl
end Go.Proofs.Ytgacphicgglogaa

/-! ## The pair: 'recv'. -/
namespace Go.Proofs.Ytgacphicgglogaa
open Go.RowKit Crc
set_option linter.unusedVariables false

/-- 'p.x[w] = append(p.x[w], s)': what its two effects leave. -/
def AS (A : Option Addr) (m c : Nat) (k : Nat) : Prop := (Value.slice A m c).ownBlock = some k
def APre (W : World) (i j : Nat) : Nat → World → Prop := fun n w' => if n = i ∨ n = j then Touch (fun _ => False) W w' else True
def AMade (W : World) (x : ByteArray) (v : Value) (w' : World) : Prop := ∃ g, v = .slice (some ⟨g, 0, none⟩) 1 1 ∧ W.heap.size ≤ g ∧ Blk w' g 9 #[.string x]
def AGrown (W : World) (B : Nat) (A : Option Addr) (m c : Nat) (xs : List Value) (v : Value) (w' : World) : Prop := w'.ownsRow B 9 1 v (m + 1) xs ∧ ∀ k, v.ownBlock = some k → AS A m c k ∨ W.heap.size ≤ k
theorem AMade.keep {W wa wb : World} {B m c : Nat} {A : Option Addr} {x : ByteArray} {v : Value} {xs : List Value} (h : AMade W x v wa) (ho : W.ownsRow B 9 1 (.slice A m c) m xs) (ht : Touch (AS A m c) wa wb) : AMade W x v wb := by
  obtain ⟨g, e, hg, hb⟩ := h
  exact ⟨g, e, hg, ht.blk hb (fun hk => by have := (ho.lt g hk).2; omega)⟩

def PS.recvS (s : PS) (i : Nat) : PS := if (s.ends i).recv.2.2 = true then ({ s with ends := upd s.ends i (s.ends i).recv.1 } : PS).addRow (2 + i) (s.ends i).recv.2.1 else { s with ends := upd s.ends i (s.ends i).recv.1 }

set_option maxHeartbeats 2000000 in
set_option maxRecDepth 100000 in
theorem recv_ps {w : World} {B n : Nat} {P : Ptrs} {s : PS} {X : Nat → Th B} (h : PairX w B P s n X) (hB : B ≤ w.heap.size) (i : Nat) (hi : i < 2) (ok : (s.ends i).Ok) (ht : (s.ends i).taken < 1099511627776) (hrow : (s.read i).length ≤ 100000) :
    Calls Try.prog 72 #[.pointer (some ⟨P.p, 0, none⟩), .int .i64 (i : Int)] w fun e w' => e = .returned (.tuple #[]) ∧ PairX w' B P (s.recvS i) n X ∧ Below B w w' := by
  obtain ⟨i0, hi0, hz0, hz1, hz2⟩ := info_parts str_info
  obtain ⟨vL, vG, hl, hst⟩ := h.link hB i hi
  have hcon := recv_any w B (P.pe i) vL vG (s.ends i) hl hB ok ht
  obtain ⟨hcells, hpl, hBp, -⟩ := h.pair hB
  have hce := (hcells i hi).1
  have hi2 : (i : Int) < 2 := by omega
  have HC := Lib.hid hcon
  have HST := Lib.hid hst
  clear hcon hst hcells h hl
  obtain ⟨l', hl'⟩ : ∃ l', (s.ends i).recv.1 = l' := ⟨_, rfl⟩
  obtain ⟨x, hx⟩ : ∃ x, (s.ends i).recv.2.1 = x := ⟨_, rfl⟩
  obtain ⟨b, hb⟩ : ∃ b, (s.ends i).recv.2.2 = b := ⟨_, rfl⟩
  have HR := Lib.hid (show s.recvS i = if b = true then ({ s with ends := upd s.ends i l' } : PS).addRow (2 + i) x else { s with ends := upd s.ends i l' } by unfold PS.recvS; rw [hl', hx, hb])
  rw [hl', hx, hb] at HC
  clear hl' hx hb
  go_enter Try.func72, Try.ntmps72
  go_wp2_with fail
  refine HC.out.mono ?_
  rintro e w1 ⟨rfl, he⟩
  obtain ⟨hp1, hb1⟩ := HST.out l' w1 he
  have HP1 := Lib.hid hp1
  have HB1 := Lib.hid hb1
  clear he hp1 hb1 HC HST hce
  cases b with
  | false =>
    go_wp2
    go_end0
    rw [HR.out]
    exact ⟨rfl, HP1.out, HB1.out⟩
  | true =>
    have hB1 : B ≤ w1.heap.size := Nat.le_trans hB HB1.out.size
    obtain ⟨-, hpl1, -, hrows⟩ := HP1.out.pair hB1
    obtain ⟨A, c, hc, hown, hfin⟩ := hrows (2 + i) (by omega)
    obtain ⟨m, hm⟩ : ∃ m, (({ s with ends := upd s.ends i l' } : PS).row (2 + i)).length = m := ⟨_, rfl⟩
    have hml : m ≤ 100000 := by
      rw [← hm]
      unfold PS.row
      rw [if_neg (by omega), Nat.add_sub_cancel_left]
      exact hrow
    rw [hm] at hc hown hfin
    have hc' : w1.cell? ⟨P.p, 6 + i, none⟩ = some (.slice A m c) := by rw [← hc]; congr 2; omega
    have HOWN := Lib.hid hown
    have HFIN := Lib.hid hfin
    have HCELL := Lib.hid (fun (w3 : World) (ht : Touch (AS A m c) w1 w3) => HP1.out.stay hB1 (2 + i) (by omega) hc ht)
    rw [show 4 + (2 + i) = 6 + i by omega] at HCELL
    clear hrows hc hown hfin hm
    have hcell : ∀ w3, Touch (AS A m c) w1 w3 → w3.cell? ⟨P.p, 6 + i, none⟩ = some (.slice A m c) := HCELL.out
    go_wp2_with fail
    clear hc'
    refine RegP.wp_chain 13 [(9, AMade w1 x), (10, AGrown w1 B A m c (strs (({ s with ends := upd s.ends i l' } : PS).row (2 + i) ++ [x])))] [9, 10] (fun w' => Touch (AS A m c) w1 w') (APre w1 9 10) (fun _ _ => False) (fun _ wa wb => Touch (AS A m c) wa wb) (by kernel_rfl) (by kernel_rfl) (by kernel_rfl) rfl (by kernel_rfl) (by kernel_rfl) (fun _ _ _ _ _ h => h.elim) ((Touch.refl _ _).drewN 1) ?hpre (by decide) ?_
    case hpre =>
      intro k hk
      have hk' : k = 9 := by simpa using hk.symm
      subst hk'
      exact (Touch.refl _ _).drewN 1
    simp only [List.take_succ_cons, List.take_zero]
    repeat (refine RegP.chain_plain rfl rfl ?_ ?_ ?_; rotate_left; (focus (intro w3 hI _; have hcx := hcell _ hI; clear hI; go_simp; rfl)))
    simp only [Act.put, List.setIfInBounds_toArray, List.set_cons_succ, List.set_cons_zero]
    refine RegP.chain_eff rfl rfl (fun _ _ _ _ _ _ hs h => h.keep HOWN.out hs) (fun w3 hI hP _ KK hKK => ?_) (fun v9 => ?_)
    · have hP' : Touch (fun _ => False) w1 w3 := hP
      have hal := (Below.refl w3.heap.size w3).alloc (Nat.le_refl _) (.cells #[.string x] 9)
      have HA := Lib.hid (show AMade w1 x (.slice (some ⟨w3.heap.size, 0, none⟩) 1 1) (w3.alloc (.cells #[.string x] 9)) from ⟨_, rfl, hP'.size, Blk.new _ _ _⟩)
      have HP2 := Lib.hid (show APre w1 9 10 10 (w3.alloc (.cells #[.string x] 9)) from hP'.trans (Touch.of_below (S := fun _ => False) hal) (fun _ h => h.elim))
      clear hP hcell
      go_simp
      exact hKK _ _ _ (by go_simp) HA.out (hI.trans (Touch.of_below (S := fun _ => False) hal) (fun _ h => h.elim)) (Touch.of_below hal) HP2.out
    repeat (refine RegP.chain_plain rfl rfl ?_ ?_ ?_; rotate_left; (focus (intro w3 hI _; have hcx := hcell _ hI; clear hI; go_simp; rfl)))
    simp only [Act.put, List.setIfInBounds_toArray, List.set_cons_succ, List.set_cons_zero]
    refine RegP.chain_eff rfl rfl (fun j v wa wb hj hne _ _ => (hne (by simp only [Reg.Rof]; rw [if_neg (by omega), if_neg (by omega)])).elim) (fun w3 hI hP hF KK hKK => ?_) (fun v10 => ?_)
    · have hP' : Touch (fun _ => False) w1 w3 := hP
      have f9 := hF _ (List.mem_cons_self ..) (by kernel_rfl)
      dsimp only at f9
      obtain ⟨g, rfl, hg, hbg⟩ := f9
      have hown3 := hP'.own HOWN.out (fun _ _ h => h)
      have hrx : Reads w3 (g + 1) 1 (some ⟨g, 0, none⟩) 1 (strs [x]) := ⟨rfl, fun _ => ⟨_, rfl, Nat.lt_succ_self _, fun j u hu => by
        rw [show (⟨g, 0, none⟩ : Addr).add j = ⟨g, j, none⟩ by unfold Addr.add; split <;> simp_all, hbg.cell j]
        simpa [strs] using hu⟩⟩
      have hszz : B ≤ w3.heap.size := Nat.le_trans hB1 hP'.size
      clear hcell hF hP
      refine wp_append_any _ _ _ _ rfl B 9 i0 _ 1 16 Try.underlying34 hi0 hz0 hz1 hz2 rfl (by decide) _ _ _ (by go_simp) hown3 _ (some ⟨g, 0, none⟩) 1 1 _ (by go_simp) hrx (strs_one _) ?c3 ?c4 ?c5 ?_
      case c3 => unfold maxLen; omega
      case c4 => omega
      case c5 => omega
      intro v' w4 hown4 hg4 hbl
      have hT5 : Touch (AS A m c) w3 w4 := Touch.of_grown hg4 (fun k h => h)
      refine hKK v' _ _ (by go_simp) ⟨by unfold strs at hown4 ⊢; rw [List.map_append]; exact hown4, fun k hk => ?_⟩ (hI.trans hT5 (fun k h => .inl h)) hT5 trivial
      rcases hbl with h | h
      · exact .inl (h.symm.trans hk)
      · rw [h] at hk
        injection hk with hk
        have := hP'.size
        exact .inr (by omega)
    repeat (refine RegP.chain_plain rfl rfl ?_ ?_ ?_; rotate_left; (focus (intro w3 hI _; have hcx := hcell _ hI; clear hI; go_simp; rfl)))
    simp only [Act.put, List.setIfInBounds_toArray, List.set_cons_succ, List.set_cons_zero]
    refine RegP.chain_end (fun w3 hI hF => ?_)
    have f10 := hF _ (List.mem_cons_self ..)
    dsimp only at f10
    obtain ⟨hown3, hbl⟩ := f10
    clear hF hcell
    simp only [List.drop_succ_cons, List.drop_zero]
    obtain ⟨A', c', rfl⟩ := own_form hown3
    obtain ⟨q1, q2, q3, q4, q5⟩ := HFIN.out x (.slice A' (m + 1) c') w3 hI hown3 hbl
    rw [show 4 + (2 + i) = 6 + i by omega] at q1 q2 q4 q5
    have HQ4 := Lib.hid q4
    have HQ5 := Lib.hid (HB1.out.trans q5)
    clear q4 q5 hown3 hbl hI
    go_wp2
    refine RegP.Held.normal ?_
    go_wp2
    go_end0
    rw [HR.out]
    exact ⟨rfl, HQ4.out, HQ5.out⟩
end Go.Proofs.Ytgacphicgglogaa

/-! ## The pair: 'flush'. -/
namespace Go.Proofs.Ytgacphicgglogaa
open Go.RowKit Crc
set_option linter.unusedVariables false

def PS.flushW (s : PS) (i : Nat) : PS := { s with ends := upd s.ends i { s.ends i with goes := [] }, bags := upd s.bags i ((s.ends i).goes.foldl Bag.putL (s.bags i)) }
def PS.flushK (s : PS) : Nat → PS
  | 0 => s
  | k + 1 => (s.flushK k).flushW k
def PS.flushS (s : PS) : PS := s.flushK 2
theorem foldPut_le : ∀ (g : List ByteArray) (l : List Bag.Item), l.length ≤ 16 → (g.foldl Bag.putL l).length ≤ 16
  | [], l, h => h
  | x :: g, l, h => foldPut_le g _ (Bag.putL_le l x h)
theorem flushK_bags (s : PS) (h : ∀ j, j < 2 → (s.bags j).length ≤ 16) : ∀ k j, j < 2 → ((s.flushK k).bags j).length ≤ 16
  | 0, j, hj => h j hj
  | k + 1, j, hj => by
    show (upd (s.flushK k).bags k _ j).length ≤ 16
    unfold upd
    split
    · rename_i e
      subst e
      exact foldPut_le _ _ (flushK_bags s h j j hj)
    · exact flushK_bags s h k j hj
theorem flushK_ends (s : PS) : ∀ k j, (s.flushK k).ends j = if j < k then { s.ends j with goes := [] } else s.ends j
  | 0, j => by rw [if_neg (by omega)]; rfl
  | k + 1, j => by
    show upd (s.flushK k).ends k _ j = _
    unfold upd
    by_cases h : j = k
    · subst h
      rw [if_pos rfl, if_pos (by omega), flushK_ends s j j, if_neg (by omega)]
    · rw [if_neg h, flushK_ends s k j]
      by_cases h2 : j < k
      · rw [if_pos h2, if_pos (by omega)]
      · rw [if_neg h2, if_neg (by omega)]

theorem PairX.rowAt {w : World} {B n : Nat} {P : Ptrs} {s : PS} {X : Nat → Th B} {v : Value} {xs : List Value} (h : PairX w B P s (n + 1) (fun j => if j = n then rowTh B v xs else X j)) (hn : 5 ≤ n) : w.ownsRow B 9 1 v xs.length xs := by
  obtain ⟨_, F, h1, _⟩ := h
  have h2 := h1 n (by omega)
  dsimp only at h2
  rw [if_neg (show ¬ n < 5 by omega), if_pos rfl] at h2
  exact h2.1
theorem PairX.same {w : World} {B n : Nat} {P : Ptrs} {s : PS} {X X' : Nat → Th B} (h : PairX w B P s n X) (he : ∀ j, 5 ≤ j → j < n → X j = X' j) : PairX w B P s n X' :=
  ⟨h.1, h.2.congr fun j hj => by
    by_cases h5 : j < 5
    · rw [if_pos h5, if_pos h5]
    · rw [if_neg h5, if_neg h5]
      exact he j (by omega) hj⟩

set_option maxHeartbeats 4000000 in
set_option maxRecDepth 100000 in
theorem flush_ps {w : World} {B n : Nat} {P : Ptrs} {s : PS} {X : Nat → Th B} (h : PairX w B P s n X) (hB : B ≤ w.heap.size) (hbag : ∀ j, j < 2 → (s.bags j).length ≤ 16) (hgo : ∀ j, j < 2 → (s.ends j).goes.length ≤ 64) :
    Calls Try.prog 73 #[.pointer (some ⟨P.p, 0, none⟩)] w fun e w' => e = .returned (.tuple #[]) ∧ PairX w' B P s.flushS n X ∧ Below B w w' := by
  have H := Lib.hid h
  clear h
  go_enter Try.func73, Try.ntmps73
  go_wp2_with fail
  go_loopw [5] (fun v wr => ∃ k : Nat, k ≤ 2 ∧ v = .int .i64 (k : Int) ∧ PairX wr B P (s.flushK k) n X ∧ Below B w wr) (fun v _ => 2 - (intOf v).toNat)
  case atStart => exact ⟨0, by omega, rfl, H.out, Below.refl _ _⟩
  case round =>
    obtain ⟨i, hi2, rfl, hp, hb⟩ := hrel
    by_cases hi : i < 2
    · have hiz : (i : Int) < 2 := by omega
      have hBr : B ≤ wr.heap.size := Nat.le_trans hB hb.size
      obtain ⟨hcells, hpl, -, -⟩ := hp.pair hBr
      have hce := (hcells i hi).1
      obtain ⟨vL, vG, hl, hp1, hb1⟩ := hp.out hBr i hi
      have hge : ((s.flushK i).ends i).goes.length ≤ 64 := by
        rw [flushK_ends, if_neg (by omega)]
        exact hgo i hi
      have hbl : ((s.flushK i).bags i).length ≤ 16 := flushK_bags s hbag i i hi
      have HC := Lib.hid (out_any wr B (P.pe i) vL vG _ hl)
      have HP1 := Lib.hid hp1
      have HB1 := Lib.hid (hb.trans hb1)
      have hn := hp.1
      obtain ⟨A, c, hv⟩ := own_form hl.goes
      subst hv
      obtain ⟨goes, hgs⟩ : ∃ goes, ((s.flushK i).ends i).goes = goes := ⟨_, rfl⟩
      rw [hgs] at HC HP1 hge
      have HGS := Lib.hid hgs
      have HHB := Lib.hid hb
      clear hcells hl hp1 hb1 hp hgs hb
      go_wp2_with fail
      refine HC.out.mono ?_
      rintro e w1 ⟨rfl, rfl⟩
      clear hce HC
      generalize wr.setCell ⟨P.pe i, 22, none⟩ (.slice none 0 0) = w1 at *
      go_wp2_with fail
      go_loopw [16] (fun v wr => ∃ j : Nat, j ≤ goes.length ∧ v = .int .i64 (j : Int) ∧ PairX wr B P { (s.flushK i) with ends := upd (s.flushK i).ends i { (s.flushK i).ends i with goes := [] }, bags := upd (s.flushK i).bags i ((goes.take j).foldl Bag.putL ((s.flushK i).bags i)) } (n + 1) (fun j => if j = n then rowTh B (.slice A goes.length c) (strs goes) else X j) ∧ Below B w wr) (fun v _ => goes.length - (intOf v).toNat)
      case atStart =>
        refine ⟨0, Nat.zero_le _, rfl, ?_, HB1.out⟩
        have e0 : upd (s.flushK i).bags i ((goes.take 0).foldl Bag.putL ((s.flushK i).bags i)) = (s.flushK i).bags := by
          funext j
          unfold upd
          split
          · rename_i e
            rw [e]
            rfl
          · rfl
        rw [e0]
        exact HP1.out
      case round =>
        obtain ⟨j, hj, rfl, hpj, hbj⟩ := hrel
        have hBr2 : B ≤ wr.heap.size := Nat.le_trans hB hbj.size
        by_cases hjl : j < goes.length
        · have hjz : (j : Int) < (goes.length : Int) := by omega
          have hrow := hpj.rowAt hn
          rw [strs_len] at hrow
          obtain ⟨ad, u, hA, _, hu, hcell⟩ := (Reads.of_own hrow).at_ hjl
          subst hA
          have hu2 : u = .string goes[j] := by
            unfold strs at hu
            rw [List.getElem?_map, List.getElem?_eq_getElem hjl] at hu
            exact (Option.some.inj hu).symm
          subst hu2
          obtain ⟨hcells, hpl2, -, -⟩ := hpj.pair hBr2
          have hcb := (hcells i hi).2
          obtain ⟨vb, hbag2, hst⟩ := hpj.bag hBr2 i hi
          have hitem : upd (s.flushK i).bags i ((goes.take j).foldl Bag.putL ((s.flushK i).bags i)) i = (goes.take j).foldl Bag.putL ((s.flushK i).bags i) := by simp [upd]
          have hbag3 : Bag.BagAt wr B (P.pb i) vb ((goes.take j).foldl Bag.putL ((s.flushK i).bags i)) := by rw [← hitem]; exact hbag2
          have HC := Lib.hid (Bag.put_any wr B (P.pb i) vb _ hbag3 (foldPut_le _ _ hbl) goes[j] hBr2)
          have HST := Lib.hid hst
          have HBJ := Lib.hid hbj
          have htk : goes.take (j + 1) = goes.take j ++ [goes[j]] := List.take_succ_eq_append_getElem hjl
          have HTK := Lib.hid htk
          clear hrow hu hcells hst hpj hbag2 hbag3 hitem hbj htk
          obtain ⟨x, hx⟩ : ∃ x, goes[j] = x := ⟨_, rfl⟩
          rw [hx] at hcell HC HTK
          clear hx
          go_wp2_with fail
          refine HC.out.mono ?_
          rintro e w3 ⟨⟨bb, rfl⟩, he⟩
          obtain ⟨hp3, hb3⟩ := HST.out _ w3 he
          have HP3 := Lib.hid hp3
          have HB3 := Lib.hid (HBJ.out.trans hb3)
          clear he hp3 hb3 HC HST hcb hcell HBJ
          go_wp2
          go_roundw
          case rel =>
            refine ⟨j + 1, by omega, by go_num, ?_, HB3.out⟩
            have := HP3.out
            have e1 : upd (upd (s.flushK i).bags i ((goes.take j).foldl Bag.putL ((s.flushK i).bags i))) i (Bag.putL ((goes.take j).foldl Bag.putL ((s.flushK i).bags i)) x) = upd (s.flushK i).bags i ((goes.take (j + 1)).foldl Bag.putL ((s.flushK i).bags i)) := by
              rw [HTK.out, List.foldl_append]
              funext q
              simp only [upd]
              split <;> rfl
            rw [← e1]
            exact this
          case measure => simp [intOf]; omega
        · obtain rfl : j = goes.length := by omega
          have hjz : ¬ (goes.length : Int) < (goes.length : Int) := by omega
          have HPF := Lib.hid (show PairX wr B P (s.flushK (i + 1)) n X by
            have h1 := hpj.less hn
            rw [List.take_length] at h1
            have h2 : PairX wr B P (s.flushK (i + 1)) n (fun j => if j = n then rowTh B (.slice A goes.length c) (strs goes) else X j) := by
              show PairX wr B P ((s.flushK i).flushW i) n _
              unfold PS.flushW
              rw [HGS.out]
              exact h1
            exact h2.same fun q _ hq => if_neg (by omega))
          have HBF := Lib.hid hbj
          clear hpj hbj
          go_wp2
          go_roundw
          case rel => exact ⟨i + 1, by omega, by go_num, HPF.out, HBF.out⟩
          case measure => simp [intOf]; omega
    · obtain rfl : i = 2 := by omega
      have hiz : ¬ (2 : Int) < 2 := by omega
      have HPF := Lib.hid hp
      have HBF := Lib.hid hb
      clear hp hb
      go_wp2
      go_end0
      exact ⟨rfl, HPF.out, HBF.out⟩
end Go.Proofs.Ytgacphicgglogaa
