/- Two ends side by side: the contracts of the acts on one of them. -/
import Derived.Test.YtgacphicgglogaaLinkG
namespace Go.Proofs.Ytgacphicgglogaa
open Go.RowKit Crc
set_option linter.unusedVariables false

def Keep (G : Nat → Prop) (w w' : World) : Prop := ∀ k, G k → w'.heap[k]? = w.heap[k]?
theorem Keep.refl (G : Nat → Prop) (w : World) : Keep G w w := fun _ _ => rfl
theorem Keep.trans {G : Nat → Prop} {a b c : World} (h : Keep G a b) (k : Keep G b c) : Keep G a c := fun j hj => (k j hj).trans (h j hj)
theorem Keep.less {G G' : Nat → Prop} {a b : World} (h : Keep G a b) (hs : ∀ k, G' k → G k) : Keep G' a b := fun j hj => h j (hs j hj)
theorem Keep.blk {G : Nat → Prop} {a b : World} (h : Keep G a b) {g t : Nat} {cs : Array Value} (hb : Blk a g t cs) (hg : G g) : Blk b g t cs := (h g hg).trans hb
theorem Keep.own {G : Nat → Prop} {a b : World} {B e size n : Nat} {v : Value} {xs : List Value} (h : Keep G a b) (ho : a.ownsRow B e size v n xs) (hv : ∀ k, v.ownBlock = some k → G k) : b.ownsRow B e size v n xs := by
  refine ⟨ho.1, ?_⟩
  rcases ho.2 with h1 | ⟨g, cap, cur, rfl, hb, hg, h3⟩
  · exact .inl h1
  · exact .inr ⟨g, cap, cur, rfl, hb, (h g (hv g rfl)).trans hg, h3⟩

/-- Two ends, and whatever else (G) must stay. -/
def Pair (w : World) (B p q : Nat) (la lb : LK) (G : Nat → Prop) : Prop :=
  ∃ vL vG uL uG, LinkAt w B p vL vG la ∧ LinkAt w B q uL uG lb ∧ Apart (Foot p vL vG) (Foot q uL uG) ∧ Apart (Foot p vL vG) G ∧ Apart (Foot q uL uG) G ∧ ∀ k, G k → k < w.heap.size

section
variable {w w' : World} {B p q : Nat} {la lb la' : LK} {G : Nat → Prop}
theorem Pair.symm (h : Pair w B p q la lb G) : Pair w B q p lb la G := by
  obtain ⟨vL, vG, uL, uG, h1, h2, h3, h4, h5, h6⟩ := h
  exact ⟨uL, uG, vL, vG, h2, h1, h3.symm, h5, h4, h6⟩
theorem Pair.below (h : Pair w B p q la lb G) (hb : Below w.heap.size w w') : Pair w' B p q la lb G := by
  obtain ⟨vL, vG, uL, uG, h1, h2, h3, h4, h5, h6⟩ := h
  exact ⟨vL, vG, uL, uG, h1.below hb, h2.below hb, h3, h4, h5, fun k hk => Nat.lt_of_lt_of_le (h6 k hk) hb.size⟩
theorem Pair.less {G' : Nat → Prop} (h : Pair w B p q la lb G) (hs : ∀ k, G' k → G k) : Pair w B p q la lb G' := by
  obtain ⟨vL, vG, uL, uG, h1, h2, h3, h4, h5, h6⟩ := h
  exact ⟨vL, vG, uL, uG, h1, h2, h3, fun k hk hg => h4 k hk (hs k hg), fun k hk hg => h5 k hk (hs k hg), fun k hk => h6 k (hs k hk)⟩
/-- A new block is beside both. -/
theorem Pair.alloc (h : Pair w B p q la lb G) (o : Obj) : Pair (w.alloc o) B p q la lb (fun k => G k ∨ k = w.heap.size) := by
  obtain ⟨vL, vG, uL, uG, h1, h2, h3, h4, h5, h6⟩ := h
  refine ⟨vL, vG, uL, uG, h1.alloc o, h2.alloc o, h3, fun k hk hg => ?_, fun k hk hg => ?_, fun k hk => ?_⟩
  · rcases hg with hg | rfl
    · exact h4 k hk hg
    · exact absurd (h1.foot hk).2 (Nat.lt_irrefl _)
  · rcases hg with hg | rfl
    · exact h5 k hk hg
    · exact absurd (h2.foot hk).2 (Nat.lt_irrefl _)
  · rw [World.size_alloc]
    rcases hk with hk | rfl
    · exact Nat.lt_succ_of_lt (h6 k hk)
    · exact Nat.lt_succ_self _
theorem Pair.step (h : Pair w B p q la lb G) (hB : B ≤ w.heap.size) : ∃ vL vG, LinkAt w B p vL vG la ∧ ∀ la' w', LinkEnd w B p vL vG la' w' → Pair w' B p q la' lb G ∧ Below B w w' ∧ Keep G w w' := by
  obtain ⟨vL, vG, uL, uG, h1, h2, h3, h4, h5, h6⟩ := h
  refine ⟨vL, vG, h1, fun la' w' he => ?_⟩
  obtain ⟨vL', vG', h1', hap, ht, hf⟩ := he.apart h3 (fun k hk => (h2.foot hk).2)
  refine ⟨⟨vL', vG', uL, uG, h1', h2.touch ht h3.symm, hap, fun k hk hg => ?_, h5, fun k hk => Nat.lt_of_lt_of_le (h6 k hk) ht.size⟩, ht.below hB (fun k hk => (h1.foot hk).1), fun k hk => ht.block k (h6 k hk) (fun hf => h4 k hf hk)⟩
  rcases hf k hk with h7 | h7
  · exact h4 k h7 hg
  · have := h6 k hg
    omega

theorem pair_send (h : Pair w B p q la lb G) (hB : B ≤ w.heap.size) (ok : la.Ok) (hl : la.last < 1099511627776) (s : ByteArray) :
    Calls Try.prog 17 #[.pointer (some ⟨p, 0, none⟩), .string s] w fun e w' => e = .returned (.int .i64 (la.send s).2) ∧ Pair w' B p q (la.send s).1 lb G ∧ Below B w w' ∧ Keep G w w' := by
  obtain ⟨vL, vG, h1, hs⟩ := h.step hB
  exact (send_any w B p vL vG la h1 hB ok hl s).mono fun e w' ⟨he, h2⟩ => ⟨he, hs _ _ h2⟩
theorem pair_tick (h : Pair w B p q la lb G) (hB : B ≤ w.heap.size) (ok : la.Ok) (hl : la.last ≤ 1099511627776) :
    Calls Try.prog 18 #[.pointer (some ⟨p, 0, none⟩)] w fun e w' => e = .returned (.tuple #[]) ∧ Pair w' B p q la.tick lb G ∧ Below B w w' ∧ Keep G w w' := by
  obtain ⟨vL, vG, h1, hs⟩ := h.step hB
  exact (tick_any w B p vL vG la h1 hB ok hl).mono fun e w' ⟨he, h2⟩ => ⟨he, hs _ _ h2⟩
theorem pair_recv (h : Pair w B p q la lb G) (hB : B ≤ w.heap.size) (ok : la.Ok) (hl : la.taken < 1099511627776) :
    Calls Try.prog 19 #[.pointer (some ⟨p, 0, none⟩)] w fun e w' => e = .returned (.tuple #[.string la.recv.2.1, .bool la.recv.2.2]) ∧ Pair w' B p q la.recv.1 lb G ∧ Below B w w' ∧ Keep G w w' := by
  obtain ⟨vL, vG, h1, hs⟩ := h.step hB
  exact (recv_any w B p vL vG la h1 hB ok hl).mono fun e w' ⟨he, h2⟩ => ⟨he, hs _ _ h2⟩
theorem pair_get (h : Pair w B p q la lb G) (hB : B ≤ w.heap.size) (ok : la.Ok) (hl : la.last ≤ 1099511627776) (htk : la.taken < 1099511627776) (s : ByteArray) (hs : s.size ≤ 140737488351232) :
    Calls Try.prog 22 #[.pointer (some ⟨p, 0, none⟩), .string s] w fun e w' => e = .returned (.int .i64 (la.get s).2) ∧ Pair w' B p q (la.get s).1 lb G ∧ Below B w w' ∧ Keep G w w' := by
  obtain ⟨vL, vG, h1, hst⟩ := h.step hB
  exact (get_any w B p vL vG la h1 hB ok hl htk s hs).mono fun e w' ⟨he, h2⟩ => ⟨he, hst _ _ h2⟩
theorem pair_out (h : Pair w B p q la lb G) (hB : B ≤ w.heap.size) :
    Calls Try.prog 20 #[.pointer (some ⟨p, 0, none⟩)] w fun e w' => ∃ v, e = .returned v ∧ Pair w' B p q { la with goes := [] } lb (fun k => G k ∨ v.ownBlock = some k) ∧ Below B w w' ∧ Keep G w w' ∧ w'.ownsRow B 9 1 v la.goes.length (strs la.goes) := by
  obtain ⟨vL, vG, uL, uG, h1, h2, h3, h4, h5, h6⟩ := h
  refine (out_any w B p vL vG la h1).mono fun e w' ⟨he, hw⟩ => ⟨vG, he, ?_⟩
  obtain ⟨h7, h8, h9⟩ := out_end h1
  rw [← hw] at h7 h8 h9
  refine ⟨⟨vL, .slice none 0 0, uL, uG, h7, h2.touch h9 (fun k hk e => by subst e; exact h3 k (.inl rfl) hk), fun k hk hg => ?_, fun k hk hg => ?_, fun k hk hg => ?_, fun k hk => ?_⟩, h9.below hB (fun k hk => by subst hk; exact h1.base), fun k hk => h9.block k (h6 k hk) (fun e => h4 k (.inl e) hk), h8⟩
  · rcases hk with hk | hk | hk
    · exact h3 k (.inl hk) hg
    · exact h3 k (.inr (.inl hk)) hg
    · cases hk
  · rcases hk with hk | hk | hk
    · rcases hg with hg | hg
      · exact h4 k (.inl hk) hg
      · exact h1.pG (hk ▸ hg)
    · rcases hg with hg | hg
      · exact h4 k (.inr (.inl hk)) hg
      · exact h1.apart k hk hg
    · cases hk
  · rcases hg with hg | hg
    · exact h5 k hk hg
    · exact h3 k (.inr (.inr hg)) hk
  · rcases hk with hk | hk
    · exact Nat.lt_of_lt_of_le (h6 k hk) h9.size
    · exact Nat.lt_of_lt_of_le (h1.goes.lt k hk).2 h9.size
end

/-- Two new ends. -/
theorem Pair.new {w w1 w2 : World} {B : Nat} (h1 : LinkAt w1 B w.heap.size (.slice none 0 0) (.slice none 0 0) LK.new) (hb : Below w1.heap.size w1 w2) (h2 : LinkAt w2 B w1.heap.size (.slice none 0 0) (.slice none 0 0) LK.new) : Pair w2 B w.heap.size w1.heap.size LK.new LK.new (fun _ => False) := by
  refine ⟨_, _, _, _, h1.below hb, h2, fun k hk hg => ?_, fun _ _ h => h, fun _ _ h => h, fun _ h => h.elim⟩
  have g1 := (h1.foot hk).2
  rcases hg with rfl | hg | hg
  · exact Nat.lt_irrefl _ g1
  · cases hg
  · cases hg

/-! ### what comes twice -/
namespace LK
theorem comeF_stop : ∀ (f : Nat) (l : LK), l.taken + 8 - l.came ≤ f → ¬ ((comeF f l).came < (comeF f l).taken + 8 ∧ ((comeF f l).slots[((comeF f l).came + 1) % 8]?.getD none).isSome = true)
  | 0, l, hf => fun h => by have := h.1; unfold comeF at this; omega
  | f + 1, l, hf => by
    unfold comeF
    split
    · rename_i hc
      exact comeF_stop f { l with came := l.came + 1 } (by show l.taken + 8 - (l.came + 1) ≤ f; omega)
    · rename_i hc
      exact hc
theorem comeF_same (f : Nat) (l : LK) (h : ¬ (l.came < l.taken + 8 ∧ (l.slots[(l.came + 1) % 8]?.getD none).isSome = true)) : comeF f l = l := by
  cases f with
  | zero => rfl
  | succ f => rw [comeF, if_neg h]
theorem come_same (l : LK) : l.come.come = l.come := comeF_same _ _ (comeF_stop _ l (Nat.le_refl _))
theorem arrive_twice {l : LK} (h : l.Ok) (n : Nat) (s : ByteArray) : (l.arrive n s).arrive n s = l.arrive n s := by
  by_cases hin : l.came < n ∧ n ≤ l.taken + 8
  · have he : l.arrive n s = (l.slotIn n s).come := by unfold arrive; rw [if_pos hin]
    rw [he]
    unfold arrive
    split
    · have hk := comeF_keep ((l.slotIn n s).taken + 8 - (l.slotIn n s).came) (l.slotIn n s)
      have hs : (l.slotIn n s).come.slotIn n s = (l.slotIn n s).come := by
        have hfull : ((l.slotIn n s).come.slots[n % 8]?.getD none).isSome = true := by
          show ((comeF _ (l.slotIn n s)).slots[n % 8]?.getD none).isSome = true
          rw [hk.2.2.2.2.2.1]
          unfold slotIn
          split
          · assumption
          · have h8 : n % 8 < l.slots.length := by rw [h.slots]; exact Nat.mod_lt _ (by omega)
            simp [h8]
        rw [slotIn, if_pos hfull]
      rw [hs, come_same]
    · rfl
  · have he : l.arrive n s = l := by unfold arrive; rw [if_neg hin]
    rw [he, he]
theorem put_goes' (l : LK) (g : List ByteArray) (k n : Nat) (s : ByteArray) : ({ l with goes := g } : LK).put k n s = { l with goes := if g.length = 64 then g else g ++ [(packRes k n s).1] } := rfl
theorem comeF_goes : ∀ (f : Nat) (l : LK) (g : List ByteArray), comeF f { l with goes := g } = { comeF f l with goes := g }
  | 0, l, g => rfl
  | f + 1, l, g => by
    unfold comeF
    by_cases hc : l.came < l.taken + 8 ∧ (l.slots[(l.came + 1) % 8]?.getD none).isSome = true
    · rw [if_pos hc, if_pos hc]
      exact comeF_goes f { l with came := l.came + 1 } g
    · rw [if_neg hc, if_neg hc]
theorem arrive_goes (l : LK) (g : List ByteArray) (n : Nat) (s : ByteArray) : ({ l with goes := g } : LK).arrive n s = { l.arrive n s with goes := g } := by
  unfold arrive
  by_cases hin : l.came < n ∧ n ≤ l.taken + 8
  · rw [if_pos hin, if_pos hin]
    have : ({ l with goes := g } : LK).slotIn n s = { l.slotIn n s with goes := g } := by
      unfold slotIn
      by_cases hf : (l.slots[n % 8]?.getD none).isSome = true
      · rw [if_pos hf, if_pos hf]
      · rw [if_neg hf, if_neg hf]
    rw [this]
    exact comeF_goes _ (l.slotIn n s) g
  · rw [if_neg hin, if_neg hin]
theorem recv_goes (l : LK) (g : List ByteArray) : ({ l with goes := g } : LK).recv = ({ l.recv.1 with goes := g }, l.recv.2) := by
  unfold recv
  by_cases hc : l.came = l.taken
  · rw [if_pos hc, if_pos hc]
  · rw [if_neg hc, if_neg hc]
end LK
end Go.Proofs.Ytgacphicgglogaa
