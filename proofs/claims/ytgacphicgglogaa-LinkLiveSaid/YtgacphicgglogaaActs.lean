/- An argument that is a list of acts. -/
import Derived.Test.YtgacphicgglogaaLinkH
import Derived.ProofKit
import Derived.OpenShut
import Derived.Deep.Slices
import Derived.Deep.Fields
import Derived.ChangeSame
import Derived.Lib.SmallJoins
namespace Go.Proofs.Ytgacphicgglogaa
set_option linter.unusedVariables false
open Go.ChangeShapes Go.WideShapes Go.ChangeAt Go.RowKit Go.Deep Go.Joins

section
variable {H : Type} {enc : TypeId × Value → H} {P : Program} {w : World} {base : Nat} {spare : Nat → Bool} {held : Bool}
theorem open_slice_fields {t e : TypeId} {fs : Array Field} {fuel : Nat} {cs : List Value} {x : DataW H × List MemPlace} (ht : P.underlying t = some (.slice e)) (he : P.underlying e = some (.struct fs))
    (hone : oneCellFields P fs = true) (hC : P.cellsOf e = fs.size) (h : DataW.trod enc P w base spare held fuel t cs = some x) :
    (cs = [.slice none 0 0] ∧ x = (.nil, [])) ∨
    ∃ (a : Addr) (len cap m : Nat) (D : Nat → DataW H) (Pl : Nat → List MemPlace), cs = [.slice (some a) len cap] ∧ base ≤ a.block ∧ len ≤ cap ∧ cap ≤ maxLen ∧ m = (if spare a.block then cap else len) ∧
      x = (.slice ((List.range len).map D) ((List.range (m - len)).map fun j => D (len + j)), MemPlace.row a (m * fs.size) ++ (List.range m).flatMap Pl) ∧
      ∀ i, i < m → ∃ (ys : List (DataW H × List MemPlace)) (n : Nat), D i = .agg (ys.map (·.1)) ∧ Pl i = ys.flatMap (·.2) ∧ ys.length = fs.size ∧
        ∀ (j : Nat) (f : Field), fs[j]? = some f → ∃ (v : Value) (y : DataW H × List MemPlace), w.cell? (a.add (i * fs.size + j)) = some v ∧ ys[j]? = some y ∧ DataW.trod enc P w base spare held n f.type [v] = some y := by
  rcases open_slice ht h with h0 | ⟨a, len, cap, m, n, D, Pl, hcs, hb, hl, hm, hmm, hx, hi⟩
  · exact .inl h0
  · refine .inr ⟨a, len, cap, m, D, Pl, hcs, hb, hl, hm, hmm, by rw [hC] at hx; exact hx, fun i him => ?_⟩
    obtain ⟨cs', hc, ht'⟩ := hi i him
    rw [hC] at hc
    obtain ⟨ys, n', hn', hy, hlen, hyl, hf⟩ := DataW.trod_struct he ht'
    obtain ⟨_, hcl, hat⟩ := World.cells?_some hc
    simp only [Prod.mk.injEq] at hy
    refine ⟨ys, n', hy.1, hy.2, hyl, fun j f hj => ?_⟩
    obtain ⟨ho, hk⟩ := hone_of hone j f hj
    have hjl : j < fs.size := (Array.getElem?_eq_some_iff.1 hj).1
    have hcell := hat j hjl
    have hv : cs'[j]? = some (cs'[j]'(by omega)) := List.getElem?_eq_getElem (by omega)
    have h1 := hf j f hj
    rw [ho, hk] at h1
    have hone' : (cs'.drop j).take 1 = [cs'[j]'(by omega)] := by
      rw [List.drop_eq_getElem_cons (by omega)]
      rfl
    rw [hone'] at h1
    have hys : ys[j]? = some (ys[j]'(by omega)) := List.getElem?_eq_getElem (by omega)
    refine ⟨_, _, ?_, hys, h1.trans hys⟩
    rw [← Go.Deep.add_add, hcell, hv]
end

theorem flat_len (f : Nat → List Value) (s : Nat) (hf : ∀ i, (f i).length = s) : ∀ n, ((List.range n).flatMap f).length = n * s
  | 0 => by simp
  | n + 1 => by rw [List.range_succ, List.flatMap_append, List.length_append, flat_len f s hf n, List.flatMap_cons, List.flatMap_nil, List.append_nil, hf, Nat.succ_mul]
theorem flat_at (f : Nat → List Value) (s : Nat) (hf : ∀ i, (f i).length = s) : ∀ n i j, i < n → j < s → ((List.range n).flatMap f)[i * s + j]? = (f i)[j]?
  | 0, i, j, hi, _ => absurd hi (by omega)
  | n + 1, i, j, hi, hj => by
    have hl := flat_len f s hf n
    rw [List.range_succ, List.flatMap_append, List.flatMap_cons, List.flatMap_nil, List.append_nil]
    by_cases h : i < n
    · have : i * s + j < n * s := by
        have := Nat.mul_le_mul_right s (show i + 1 ≤ n by omega)
        rw [Nat.succ_mul] at this
        omega
      rw [List.getElem?_append_left (by omega), flat_at f s hf n i j h hj]
    · obtain rfl : i = n := by omega
      rw [List.getElem?_append_right (by omega), hl, Nat.add_sub_cancel_left]


structure ActL where
  kind : Int
  text : ByteArray
  data : Int
  number : Nat

def ActL.wf (a : ActL) : Prop := (-9223372036854775808 ≤ a.kind ∧ a.kind ≤ 9223372036854775807) ∧ (-9223372036854775808 ≤ a.data ∧ a.data ≤ 9223372036854775807) ∧ a.number < 18446744073709551616 ∧ a.text.size ≤ maxLen
def ActL.cells (a : ActL) : List Value := [.int .i64 a.kind, .string a.text, .int .i64 a.data, .int .u64 (a.number : Int)]
def actsCells (l : List ActL) : List Value := l.flatMap ActL.cells
/-- A list of acts in memory. -/
def Acts (w : World) (B : Nat) (A : Option Addr) (n : Nat) (l : List ActL) : Prop := l.length = n ∧ (∀ a ∈ l, a.wf) ∧ Reads w B 4 A n (actsCells l)
theorem actsCells_at : ∀ (l : List ActL) (i j : Nat) (h : i < l.length), j < 4 → (actsCells l)[i * 4 + j]? = (l[i]'h).cells[j]?
  | [], i, j, h, _ => absurd h (by simp)
  | a :: l, 0, j, _, hj => by
    unfold actsCells
    rw [List.flatMap_cons, List.getElem?_append_left (by show _ < 4; omega)]
    simp
  | a :: l, i + 1, j, h, hj => by
    have := actsCells_at l i j (by simpa using h) hj
    unfold actsCells at this ⊢
    rw [List.flatMap_cons, List.getElem?_append_right (by show 4 ≤ _; omega), show (ActL.cells a).length = 4 from rfl, show (i + 1) * 4 + j - 4 = i * 4 + j by omega, this]
    simp
theorem Acts.below {w w' : World} {B n : Nat} {A : Option Addr} {l : List ActL} (h : Acts w B A n l) (hb : Below B w w') : Acts w' B A n l := ⟨h.1, h.2.1, h.2.2.below hb⟩
theorem Acts.at_ {w : World} {B n i : Nat} {A : Option Addr} {l : List ActL} (h : Acts w B A n l) (hi : i < n) : ∃ ad a, A = some ad ∧ l[i]? = some a ∧ a.wf ∧ w.cell? (ad.add (i * 4)) = some (.int .i64 a.kind) ∧ w.cell? { block := (ad.add (i * 4)).block, off := (ad.add (i * 4)).off + 1 } = some (.string a.text) ∧
    w.cell? { block := (ad.add (i * 4)).block, off := (ad.add (i * 4)).off + 2 } = some (.int .i64 a.data) ∧ w.cell? { block := (ad.add (i * 4)).block, off := (ad.add (i * 4)).off + 3 } = some (.int .u64 (a.number : Int)) := by
  obtain ⟨hl, hw, hr⟩ := h
  obtain ⟨ad, e, _, hc⟩ := hr.2 (by omega)
  have hil : i < l.length := by omega
  refine ⟨ad, l[i], e, List.getElem?_eq_getElem hil, hw _ (List.getElem_mem hil), ?_⟩
  have h0 := hc _ _ ((actsCells_at l i 0 hil (by omega)).trans rfl)
  rw [Nat.add_zero] at h0
  show _ ∧ w.cell? ((ad.add (i * 4)).add 1) = _ ∧ w.cell? ((ad.add (i * 4)).add 2) = _ ∧ w.cell? ((ad.add (i * 4)).add 3) = _
  rw [add_of_add, add_of_add, add_of_add]
  exact ⟨h0, hc _ _ ((actsCells_at l i 1 hil (by omega)).trans rfl), hc _ _ ((actsCells_at l i 2 hil (by omega)).trans rfl), hc _ _ ((actsCells_at l i 3 hil (by omega)).trans rfl)⟩

set_option maxRecDepth 100000 in
theorem open_acts {H : Type} {enc : TypeId × Value → H} {w : World} {base : Nat} {v : Value} {d : DataW H} {p : List MemPlace}
    (hv : Value.okWide Try.prog w .any base 22 v) (h : DataW.Trod enc Try.prog w 0 (fun _ => true) true 22 v d p) :
    ∃ (A : Option Addr) (n c : Nat) (l : List ActL), v = .slice A n c ∧ n ≤ c ∧ c ≤ maxLen ∧ Acts w w.heap.size A n l := by
  obtain ⟨A, n, c, rfl⟩ := okWide_slice Try.underlying22 hv
  obtain ⟨fuel, hf⟩ := h
  rcases open_slice_fields Try.underlying22 Try.underlying28 (by kernel_rfl) (by kernel_rfl) hf with ⟨hcs, _⟩ | ⟨a, len, cap, m, D, Pl, hcs, _, hl, hm, hmm, hx, hi⟩
  · simp [Value.cells] at hcs
    obtain ⟨rfl, rfl, rfl⟩ := hcs
    exact ⟨none, 0, 0, [], rfl, Nat.le_refl _, Nat.zero_le _, rfl, (fun a ha => by cases ha), Reads.none_⟩
  · simp [Value.cells] at hcs
    obtain ⟨rfl, rfl, rfl⟩ := hcs
    simp only [if_true] at hmm
    subst hmm
    have hall : ∀ i, ∃ g : ActL, i < m → (w.cell? (a.add (i * 4 + 0)) = some (.int .i64 g.kind) ∧ w.cell? (a.add (i * 4 + 1)) = some (.string g.text) ∧ w.cell? (a.add (i * 4 + 2)) = some (.int .i64 g.data) ∧ w.cell? (a.add (i * 4 + 3)) = some (.int .u64 (g.number : Int))) ∧ g.wf := by
      intro i
      by_cases him : i < m
      · obtain ⟨ys, k, _, _, _, hf6⟩ := hi i him
        obtain ⟨v0, y0, hc0, _, t0⟩ := hf6 0 _ rfl
        obtain ⟨v1, y1, hc1, _, t1⟩ := hf6 1 _ rfl
        obtain ⟨v2, y2, hc2, _, t2⟩ := hf6 2 _ rfl
        obtain ⟨v3, y3, hc3, _, t3⟩ := hf6 3 _ rfl
        obtain ⟨z0, e0, _, w0⟩ := DataW.trod_int Try.underlying3 t0
        obtain ⟨s1, e1, _, w1⟩ := DataW.trod_string Try.underlying9 t1
        obtain ⟨z2, e2, _, w2⟩ := DataW.trod_int Try.underlying3 t2
        obtain ⟨z3, e3, _, w3⟩ := DataW.trod_int Try.underlying23 t3
        obtain rfl : v0 = _ := List.head_eq_of_cons_eq e0
        obtain rfl : v1 = _ := List.head_eq_of_cons_eq e1
        obtain rfl : v2 = _ := List.head_eq_of_cons_eq e2
        obtain rfl : v3 = _ := List.head_eq_of_cons_eq e3
        have hb3 := bounds_u64 w3
        refine ⟨⟨z0, s1, z2, z3.toNat⟩, fun _ => ⟨⟨hc0, hc1, hc2, ?_⟩, bounds_i64 w0, bounds_i64 w2, by show z3.toNat < _; omega, w1⟩⟩
        rw [show ((z3.toNat : Nat) : Int) = z3 by omega]
        exact hc3
      · exact ⟨⟨0, ByteArray.empty, 0, 0⟩, fun h => absurd h him⟩
    obtain ⟨g, hg⟩ := Classical.axiomOfChoice hall
    clear hall hi
    refine ⟨some a, n, m, (List.range n).map g, rfl, hl, hm, by simp, fun x hx => ?_, ?_, fun hn => ⟨a, rfl, ?_, fun j u hu => ?_⟩⟩
    · obtain ⟨i, hi, rfl⟩ := List.mem_map.1 hx
      exact (hg i (by have := List.mem_range.1 hi; omega)).2
    · have hlen : ∀ l : List ActL, (actsCells l).length = l.length * 4 := fun l => by
        induction l with
        | nil => rfl
        | cons x l ih =>
          unfold actsCells at ih ⊢
          rw [List.flatMap_cons, List.length_append, ih, List.length_cons, Nat.succ_mul]
          show 4 + _ = _
          omega
      rw [hlen]; simp
    · have := World.block_lt_of_cell? w _ (hg 0 (by omega)).1.1
      rwa [block_of_add] at this
    · have hlen : ∀ l : List ActL, (actsCells l).length = l.length * 4 := fun l => by
        induction l with
        | nil => rfl
        | cons x l ih =>
          unfold actsCells at ih ⊢
          rw [List.flatMap_cons, List.length_append, ih, List.length_cons, Nat.succ_mul]
          show 4 + _ = _
          omega
      have hj : j < n * 4 := by
        have := (List.getElem?_eq_some_iff.1 hu).1
        rw [hlen] at this
        simpa using this
      obtain ⟨q, r, hr, rfl⟩ : ∃ q r, r < 4 ∧ j = q * 4 + r := ⟨j / 4, j % 4, by omega, by omega⟩
      have hql : q < ((List.range n).map g).length := by simp; omega
      have hj2 := actsCells_at ((List.range n).map g) q r hql hr
      rw [hu] at hj2
      have hgq : ((List.range n).map g)[q] = g q := by simp
      rw [hgq] at hj2
      obtain ⟨⟨h0, h1, h2, h3⟩, _⟩ := hg q (by omega)
      match r, hr with
      | 0, _ => rw [Option.some.inj hj2]; exact h0
      | 1, _ => rw [Option.some.inj hj2]; exact h1
      | 2, _ => rw [Option.some.inj hj2]; exact h2
      | 3, _ => rw [Option.some.inj hj2]; exact h3

end Go.Proofs.Ytgacphicgglogaa
