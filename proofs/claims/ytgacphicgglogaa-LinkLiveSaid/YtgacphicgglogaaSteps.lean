/- An argument that is a list of steps. -/
import Derived.Test.YtgacphicgglogaaActs
import Derived.Test.YtgacphicgglogaaLinkX
namespace Go.Proofs.Ytgacphicgglogaa
set_option linter.unusedVariables false
open Go.ChangeShapes Go.WideShapes Go.ChangeAt Go.RowKit Go.Deep Go.Joins

def StepL.wf (a : StepL) : Prop := (-9223372036854775808 ≤ a.kind ∧ a.kind ≤ 9223372036854775807) ∧ (-9223372036854775808 ≤ a.who ∧ a.who ≤ 9223372036854775807) ∧ (-9223372036854775808 ≤ a.i ∧ a.i ≤ 9223372036854775807) ∧ (-9223372036854775808 ≤ a.bit ∧ a.bit ≤ 9223372036854775807) ∧ a.load.size ≤ maxLen
def stepsCells (l : List StepL) : List Value := l.flatMap StepL.cells
theorem stepsCells_len : ∀ l : List StepL, (stepsCells l).length = l.length * 5
  | [] => rfl
  | x :: l => by
    have := stepsCells_len l
    unfold stepsCells at this ⊢
    rw [List.flatMap_cons, List.length_append, this, List.length_cons, Nat.succ_mul]
    show 5 + _ = _
    omega
/-- A list of steps in memory. -/
def Steps (w : World) (B : Nat) (A : Option Addr) (n : Nat) (l : List StepL) : Prop := l.length = n ∧ (∀ a ∈ l, a.wf) ∧ Reads w B 5 A n (stepsCells l)
theorem stepsCells_at : ∀ (l : List StepL) (i j : Nat) (h : i < l.length), j < 5 → (stepsCells l)[i * 5 + j]? = (l[i]'h).cells[j]?
  | [], i, j, h, _ => absurd h (by simp)
  | a :: l, 0, j, _, hj => by
    unfold stepsCells
    rw [List.flatMap_cons, List.getElem?_append_left (by show _ < 5; omega)]
    simp
  | a :: l, i + 1, j, h, hj => by
    have := stepsCells_at l i j (by simpa using h) hj
    unfold stepsCells at this ⊢
    rw [List.flatMap_cons, List.getElem?_append_right (by show 5 ≤ _; omega), show (StepL.cells a).length = 5 from rfl, show (i + 1) * 5 + j - 5 = i * 5 + j by omega, this]
    simp
theorem Steps.below {w w' : World} {B n : Nat} {A : Option Addr} {l : List StepL} (h : Steps w B A n l) (hb : Below B w w') : Steps w' B A n l := ⟨h.1, h.2.1, h.2.2.below hb⟩
theorem Steps.at_ {w : World} {B n i : Nat} {A : Option Addr} {l : List StepL} (h : Steps w B A n l) (hi : i < n) : ∃ ad a, A = some ad ∧ l[i]? = some a ∧ a.wf ∧ w.cell? (ad.add (i * 5)) = some (.int .i64 a.kind) ∧ w.cell? { block := (ad.add (i * 5)).block, off := (ad.add (i * 5)).off + 1 } = some (.int .i64 a.who) ∧
    w.cell? { block := (ad.add (i * 5)).block, off := (ad.add (i * 5)).off + 2 } = some (.int .i64 a.i) ∧ w.cell? { block := (ad.add (i * 5)).block, off := (ad.add (i * 5)).off + 3 } = some (.int .i64 a.bit) ∧ w.cell? { block := (ad.add (i * 5)).block, off := (ad.add (i * 5)).off + 4 } = some (.string a.load) := by
  obtain ⟨hl, hw, hr⟩ := h
  obtain ⟨ad, e, _, hc⟩ := hr.2 (by omega)
  have hil : i < l.length := by omega
  refine ⟨ad, l[i], e, List.getElem?_eq_getElem hil, hw _ (List.getElem_mem hil), ?_⟩
  have h0 := hc _ _ ((stepsCells_at l i 0 hil (by omega)).trans rfl)
  rw [Nat.add_zero] at h0
  show _ ∧ w.cell? ((ad.add (i * 5)).add 1) = _ ∧ w.cell? ((ad.add (i * 5)).add 2) = _ ∧ w.cell? ((ad.add (i * 5)).add 3) = _ ∧ w.cell? ((ad.add (i * 5)).add 4) = _
  rw [add_of_add, add_of_add, add_of_add, add_of_add]
  exact ⟨h0, hc _ _ ((stepsCells_at l i 1 hil (by omega)).trans rfl), hc _ _ ((stepsCells_at l i 2 hil (by omega)).trans rfl), hc _ _ ((stepsCells_at l i 3 hil (by omega)).trans rfl), hc _ _ ((stepsCells_at l i 4 hil (by omega)).trans rfl)⟩

set_option maxRecDepth 100000 in
theorem open_steps {H : Type} {enc : TypeId × Value → H} {w : World} {base : Nat} {v : Value} {d : DataW H} {p : List MemPlace}
    (hv : Value.okWide Try.prog w .any base 78 v) (h : DataW.Trod enc Try.prog w 0 (fun _ => true) true 78 v d p) :
    ∃ (A : Option Addr) (n c : Nat) (l : List StepL), v = .slice A n c ∧ n ≤ c ∧ c ≤ maxLen ∧ Steps w w.heap.size A n l := by
  obtain ⟨A, n, c, rfl⟩ := okWide_slice Try.underlying78 hv
  obtain ⟨fuel, hf⟩ := h
  rcases open_slice_fields Try.underlying78 Try.underlying82 (by kernel_rfl) (by kernel_rfl) hf with ⟨hcs, _⟩ | ⟨a, len, cap, m, D, Pl, hcs, _, hl, hm, hmm, hx, hi⟩
  · simp [Value.cells] at hcs
    obtain ⟨rfl, rfl, rfl⟩ := hcs
    exact ⟨none, 0, 0, [], rfl, Nat.le_refl _, Nat.zero_le _, rfl, (fun a ha => by cases ha), Reads.none_⟩
  · simp [Value.cells] at hcs
    obtain ⟨rfl, rfl, rfl⟩ := hcs
    simp only [if_true] at hmm
    subst hmm
    have hall : ∀ i, ∃ g : StepL, i < m → (w.cell? (a.add (i * 5 + 0)) = some (.int .i64 g.kind) ∧ w.cell? (a.add (i * 5 + 1)) = some (.int .i64 g.who) ∧ w.cell? (a.add (i * 5 + 2)) = some (.int .i64 g.i) ∧ w.cell? (a.add (i * 5 + 3)) = some (.int .i64 g.bit) ∧ w.cell? (a.add (i * 5 + 4)) = some (.string g.load)) ∧ g.wf := by
      intro i
      by_cases him : i < m
      · obtain ⟨ys, k, _, _, _, hf6⟩ := hi i him
        obtain ⟨v0, y0, hc0, _, t0⟩ := hf6 0 _ rfl
        obtain ⟨v1, y1, hc1, _, t1⟩ := hf6 1 _ rfl
        obtain ⟨v2, y2, hc2, _, t2⟩ := hf6 2 _ rfl
        obtain ⟨v3, y3, hc3, _, t3⟩ := hf6 3 _ rfl
        obtain ⟨v4, y4, hc4, _, t4⟩ := hf6 4 _ rfl
        obtain ⟨z0, e0, _, w0⟩ := DataW.trod_int Try.underlying3 t0
        obtain ⟨z1, e1, _, w1⟩ := DataW.trod_int Try.underlying3 t1
        obtain ⟨z2, e2, _, w2⟩ := DataW.trod_int Try.underlying3 t2
        obtain ⟨z3, e3, _, w3⟩ := DataW.trod_int Try.underlying3 t3
        obtain ⟨s4, e4, _, w4⟩ := DataW.trod_string Try.underlying9 t4
        obtain rfl : v0 = _ := List.head_eq_of_cons_eq e0
        obtain rfl : v1 = _ := List.head_eq_of_cons_eq e1
        obtain rfl : v2 = _ := List.head_eq_of_cons_eq e2
        obtain rfl : v3 = _ := List.head_eq_of_cons_eq e3
        obtain rfl : v4 = _ := List.head_eq_of_cons_eq e4
        exact ⟨⟨z0, z1, z2, z3, s4⟩, fun _ => ⟨⟨hc0, hc1, hc2, hc3, hc4⟩, bounds_i64 w0, bounds_i64 w1, bounds_i64 w2, bounds_i64 w3, w4⟩⟩
      · exact ⟨⟨0, 0, 0, 0, ByteArray.empty⟩, fun h => absurd h him⟩
    obtain ⟨g, hg⟩ := Classical.axiomOfChoice hall
    clear hall hi
    refine ⟨some a, n, m, (List.range n).map g, rfl, hl, hm, by simp, fun x hx => ?_, ?_, fun hn => ⟨a, rfl, ?_, fun j u hu => ?_⟩⟩
    · obtain ⟨i, hi, rfl⟩ := List.mem_map.1 hx
      exact (hg i (by have := List.mem_range.1 hi; omega)).2
    · rw [stepsCells_len]; simp
    · have := World.block_lt_of_cell? w _ (hg 0 (by omega)).1.1
      rwa [block_of_add] at this
    · have hj : j < n * 5 := by
        have := (List.getElem?_eq_some_iff.1 hu).1
        rw [stepsCells_len] at this
        simpa using this
      obtain ⟨q, r, hr, rfl⟩ : ∃ q r, r < 5 ∧ j = q * 5 + r := ⟨j / 5, j % 5, by omega, by omega⟩
      have hql : q < ((List.range n).map g).length := by simp; omega
      have hj2 := stepsCells_at ((List.range n).map g) q r hql hr
      rw [hu] at hj2
      have hgq : ((List.range n).map g)[q] = g q := by simp
      rw [hgq] at hj2
      obtain ⟨⟨h0, h1, h2, h3, h4⟩, _⟩ := hg q (by omega)
      match r, hr with
      | 0, _ => rw [Option.some.inj hj2]; exact h0
      | 1, _ => rw [Option.some.inj hj2]; exact h1
      | 2, _ => rw [Option.some.inj hj2]; exact h2
      | 3, _ => rw [Option.some.inj hj2]; exact h3
      | 4, _ => rw [Option.some.inj hj2]; exact h4

end Go.Proofs.Ytgacphicgglogaa
