/- Law 'copied': a message of its own. -/
import Derived.Test.YtgacphicgglogaaWireU
namespace Go.Proofs.Ytgacphicgglogaa
open Go.RowKit Crc
set_option linter.unusedVariables false

theorem add_struct (ad : Addr) (k r : Nat) (hr : r ≠ 0) : ({ block := (ad.add k).block, off := (ad.add k).off + r } : Addr) = ad.add (k + r) := by
  unfold Addr.add
  by_cases hk : k = 0
  · subst hk
    simp [hr]
  · simp [hk, Nat.add_assoc]
section
variable {w : World} {B : Nat} {v : Value}
theorem IntsAt.reads {l : List Int} (h : IntsAt w B v l) : ∃ A c, v = .slice A l.length c ∧ Reads w B 1 A l.length (intV l) := by
  obtain ⟨A, n, c, rfl, rfl, _, h3⟩ := h
  exact ⟨A, c, rfl, h3⟩
theorem SetsAt.reads {l : List SetL} (h : SetsAt w B v l) : ∃ A c, v = .slice A l.length c ∧ Reads w B 4 A l.length (setsV l) := by
  obtain ⟨A, n, c, rfl, rfl, _, h3⟩ := h
  refine ⟨A, c, rfl, setsV_len l, fun hn => ?_⟩
  obtain ⟨ad, rfl, hb, _⟩ := h3 0 hn
  refine ⟨ad, rfl, hb, fun j u hu => ?_⟩
  have hj : j < l.length * 4 := by
    have := (List.getElem?_eq_some_iff.1 hu).1
    rwa [setsV_len] at this
  obtain ⟨i, r, hr, rfl⟩ : ∃ i r, r < 4 ∧ j = i * 4 + r := ⟨j / 4, j % 4, by omega, by omega⟩
  have hi : i < l.length := by omega
  rw [setsV_at l i r hi hr] at hu
  obtain ⟨ad', e, _, c0, c1, c2, c3⟩ := h3 i hi
  injection e with e
  subst e
  rw [add_struct _ _ _ (by decide)] at c1 c2 c3
  match r, hr, hu with
  | 0, _, hu => injection hu with hu; subst hu; exact c0
  | 1, _, hu => injection hu with hu; subst hu; exact c1
  | 2, _, hu => injection hu with hu; subst hu; exact c2
  | 3, _, hu => injection hu with hu; subst hu; exact c3
theorem PastsAt.reads {l : List PastL} (h : PastsAt w B v l) : ∃ A c ps, v = .slice A l.length c ∧ ps.map (·.1) = l ∧ Reads w B 2 A l.length (pastsV ps) ∧ ∀ x ∈ ps, IntsAt w B x.2 x.1.set := by
  obtain ⟨A, n, c, rfl, rfl, _, h3⟩ := h
  have hall : ∀ i : Nat, ∃ x : PastL × Value, ∀ hi : i < l.length, x.1 = l[i] ∧ IntsAt w B x.2 x.1.set ∧ ∃ ad, A = some ad ∧ ad.block < B ∧ w.cell? (ad.add (i * 2)) = some (.int .i64 x.1.state) ∧ w.cell? (ad.add (i * 2 + 1)) = some x.2 := by
    intro i
    by_cases hi : i < l.length
    · obtain ⟨ad, u, e1, e2, e3, e4, e5⟩ := h3 i hi
      rw [add_struct _ _ _ (by decide)] at e4
      exact ⟨(l[i], u), fun _ => ⟨rfl, e5, ad, e1, e2, e3, e4⟩⟩
    · exact ⟨(⟨0, []⟩, .bool false), fun h => absurd h hi⟩
  obtain ⟨g, hg⟩ := Classical.axiomOfChoice hall
  have hlen : ((List.range l.length).map g).length = l.length := by simp
  refine ⟨A, c, (List.range l.length).map g, rfl, ?_, ⟨by rw [pastsV_len, hlen], fun hn => ?_⟩, fun x hx => ?_⟩
  · refine List.ext_getElem (by simp) fun i h1 h2 => ?_
    have hi : i < l.length := h2
    simp [(hg i hi).1]
  · obtain ⟨_, _, ad, rfl, hb, _⟩ := hg 0 hn
    refine ⟨ad, rfl, hb, fun j u hu => ?_⟩
    have hj : j < l.length * 2 := by
      have := (List.getElem?_eq_some_iff.1 hu).1
      rwa [pastsV_len, hlen] at this
    obtain ⟨i, r, hr, rfl⟩ : ∃ i r, r < 2 ∧ j = i * 2 + r := ⟨j / 2, j % 2, by omega, by omega⟩
    have hi : i < l.length := by omega
    rw [pastsV_at _ i r (by rw [hlen]; exact hi) hr] at hu
    obtain ⟨_, _, ad', e, _, c0, c1⟩ := hg i hi
    injection e with e
    subst e
    have hgi : ((List.range l.length).map g)[i]'(by rw [hlen]; exact hi) = g i := by simp
    rw [hgi] at hu
    match r, hr, hu with
    | 0, _, hu => injection hu with hu; subst hu; exact c0
    | 1, _, hu => injection hu with hu; subst hu; exact c1
  · obtain ⟨i, hi, rfl⟩ := List.mem_map.1 hx
    exact (hg i (by have := List.mem_range.1 hi; omega)).2.1
end
theorem pastsV_one {w : World} {B : Nat} {ps : List (PastL × Value)} (h : ∀ x ∈ ps, IntsAt w B x.2 x.1.set) : ∀ u ∈ pastsV ps, u.oneCell' = true := fun u hu => by
  obtain ⟨x, hx, hu⟩ := List.mem_flatMap.1 hu
  simp only [List.mem_cons, List.not_mem_nil, or_false] at hu
  rcases hu with rfl | rfl
  · rfl
  · obtain ⟨A, n, c, e, _⟩ := h x hx
    rw [e]
    rfl
/-- The lists of a message are such as fit a memory. -/
structure Fits (m : MsgL) : Prop where
  trans : m.trans.length * 8 ≤ 140737488355328
  states : m.states.length * 8 ≤ 140737488355328
  enter : m.enter.length * 8 ≤ 140737488355328
  vars : m.vars.length * 8 ≤ 140737488355328
  sets : m.sets.length * 32 ≤ 140737488355328
  pasts : m.pasts.length * 32 ≤ 140737488355328
/-- The cells of a message of nought. -/
def zeroC : Array Value := #[.int .i64 0, .int .u64 0, .string ⟨#[]⟩, .slice none 0 0, .slice none 0 0, .slice none 0 0, .slice none 0 0, .slice none 0 0, .slice none 0 0]
/-- Law 'copied' under way: the box at B, the result's cells behind it. -/
structure Cp (w W : World) (B : Nat) (cs : Array Value) : Prop where
  bel : Below B w W
  box : Blk W B 54 cs
  res : Blk W (B + 1) 54 zeroC
  sz : B + 2 ≤ W.heap.size
theorem Cp.new (w : World) (B : Nat) (hB : w.heap.size = B) (cs : Array Value) : Cp w ((w.alloc (.cells cs 54)).alloc (.cells zeroC 54)) B cs := by
  subst hB
  have h2 := Blk.new (w.alloc (.cells cs 54)) 54 zeroC
  rw [World.size_alloc] at h2
  exact ⟨((Below.refl _ _).alloc (Nat.le_refl _) _).alloc (by rw [World.size_alloc]; omega) _, (Blk.new w _ _).alloc _, h2, by simp only [World.size_alloc]; omega⟩
theorem Cp.grow {w W w3 : World} {B H E e size n : Nat} {cs : Array Value} {v : Value} {xs : List Value} (h : Cp w W B cs) (hH : W.heap.size = H) (hg : (W.alloc (.cells #[] E)).grownBy w3 (some H)) (ho : w3.ownsRow H e size v n xs) :
    Touch (fun k => k = B) W w3 ∧ Blk w3 B 54 cs ∧ Blk w3 (B + 1) 54 zeroC := by
  subst hH
  have ht : Touch (fun k => k = B) W w3 := by
    refine ((Touch.of_below (S := fun k => k = B) ((Below.refl _ W).alloc (Nat.le_refl _) _)).trans (Touch.of_grown (S := fun k => k = W.heap.size) hg ?_) ?_)
    · intro k hk
      injection hk with hk
      exact hk.symm
    · intro k hk
      exact .inr (Nat.le_of_eq hk.symm)
  exact ⟨ht, (h.box.alloc (.cells #[] E)).grown hg (by have := h.box.lt; intro e; injection e with e; omega), (h.res.alloc (.cells #[] E)).grown hg (by have := h.sz; intro e; injection e with e; omega)⟩
theorem Cp.step {w W w3 : World} {B H E e size n : Nat} {cs : Array Value} {v : Value} {xs : List Value} (h : Cp w W B cs) (hH : W.heap.size = H) (hg : (W.alloc (.cells #[] E)).grownBy w3 (some H)) (ho : w3.ownsRow H e size v n xs) (i : Nat) :
    Cp w (w3.setCell ⟨B, i, none⟩ v) B (cs.setIfInBounds i v) ∧ (w3.setCell ⟨B, i, none⟩ v).ownsRow H e size v n xs ∧ Touch (fun k => k = B) W (w3.setCell ⟨B, i, none⟩ v) := by
  obtain ⟨ht, hb, hres⟩ := h.grow hH hg ho
  subst hH
  have ht2 : Touch (fun k => k = B) w3 (w3.setCell ⟨B, i, none⟩ v) := Touch.of_set (S := fun k => k = B) _ _ rfl
  have ht3 := ht.trans ht2 (fun k hk => .inl hk)
  refine ⟨⟨h.bel.trans (ht3.below (by have := h.sz; omega) (fun k hk => by omega)), hb.set_ i v, hres.far (by show B + 1 ≠ B; omega) _, Nat.le_trans h.sz ht3.size⟩, ht2.own ho (fun k hk => ?_), ht3⟩
  have := (ho.lt k hk).1
  have := h.sz
  omega
theorem nine_ex {w : World} {B t : Nat} {y0 y1 y2 y3 y4 y5 y6 y7 y8 : Value} (x0 x1 x2 x3 x4 x5 x6 x7 x8 : Value) (h : Blk w B t #[y0, y1, y2, y3, y4, y5, y6, y7, y8]) :
    ∃ W, W = (((((((((w.setCell ⟨B, 0, none⟩ x0).setCell ⟨B, 1, none⟩ x1).setCell ⟨B, 2, none⟩ x2).setCell ⟨B, 3, none⟩ x3).setCell ⟨B, 4, none⟩ x4).setCell ⟨B, 5, none⟩ x5).setCell ⟨B, 6, none⟩ x6).setCell ⟨B, 7, none⟩ x7).setCell ⟨B, 8, none⟩ x8) ∧ Blk W B t #[x0, x1, x2, x3, x4, x5, x6, x7, x8] ∧ Touch (fun k => k = B) w W :=
  ⟨_, rfl, nine x0 x1 x2 x3 x4 x5 x6 x7 x8 h⟩
end Go.Proofs.Ytgacphicgglogaa
