/- The evaluator's values in memory: what a value is there ('DR'), what a heap is ('HRel'); what is read, written, made. -/
import Derived.Test.YtgmhkjmnfafccaaGreatDoorEvA
import Derived.Test.YtgmhkjmnfafccaaGreatDoorWords
import Derived.Laws.CopyRow
import Derived.Laws.Cells
import Derived.Deep.MidRow
namespace Go.Proofs.YtgmhkjmnfafccaaGreatDoor
open Go.RowKit
namespace Ev
set_option linter.unusedVariables false

/-! ### the trie -/
theorem Tr.get_nil {α : Type} (d j : Nat) : Tr.get d (.nil : Tr α) j = none := by cases d <;> rfl
theorem Tr.get_kids {α : Type} (d : Nat) (t : Tr α) (j : Nat) : Tr.get (d + 1) t j = bif j % 2 == 0 then Tr.get d t.kids.1 (j / 2) else Tr.get d t.kids.2 (j / 2) := by
  cases t with
  | node l r => rfl
  | nil => cases hb : (j % 2 == 0) <;> cases d <;> rfl
  | leaf x => cases hb : (j % 2 == 0) <;> simp only [Tr.kids, Tr.get_nil, cond_true, cond_false] <;> rfl
theorem Tr.get_lt {α : Type} : ∀ (d : Nat) (t : Tr α) (k : Nat) (x : α), Tr.get d t k = some x → k < 2 ^ d
  | 0, t, k, x, h => by
    cases t with
    | leaf y =>
      cases k with
      | zero => decide
      | succ k => cases h
    | nil => cases h
    | node l r => cases h
  | d + 1, t, k, x, h => by
    rw [Tr.get_kids] at h
    rw [Nat.pow_succ]
    cases hb : (k % 2 == 0) with
    | true =>
      rw [hb] at h
      have := Tr.get_lt d _ _ _ h
      omega
    | false =>
      rw [hb] at h
      have := Tr.get_lt d _ _ _ h
      omega
theorem Tr.get_set {α : Type} : ∀ (d : Nat) (t : Tr α) (k j : Nat) (x : Option α), k < 2 ^ d → Tr.get d (Tr.set d t k x) j = if j = k then x else Tr.get d t j
  | 0, t, k, j, x, hk => by
    have h1 : k = 0 := by omega
    subst h1
    cases j with
    | zero => rw [if_pos rfl]; cases x <;> rfl
    | succ j =>
      rw [if_neg (by omega)]
      cases x <;> cases t <;> rfl
  | d + 1, t, k, j, x, hk => by
    have hk' : k / 2 < 2 ^ d := by rw [Nat.pow_succ] at hk; omega
    rw [Tr.get_kids d _ j, Tr.get_kids d t j]
    unfold Tr.set
    by_cases hkb : k % 2 = 0
    · have e1 : (k % 2 == 0) = true := by simp [hkb]
      rw [e1]
      simp only [cond_true, Tr.kids]
      by_cases hjb : j % 2 = 0
      · have e2 : (j % 2 == 0) = true := by simp [hjb]
        rw [e2]
        simp only [cond_true]
        rw [Tr.get_set d _ _ _ x hk']
        by_cases hjk : j = k
        · rw [if_pos hjk, if_pos (by omega)]
        · rw [if_neg hjk, if_neg (by omega)]
      · have e2 : (j % 2 == 0) = false := by simp [hjb]
        rw [e2]
        simp only [cond_false]
        rw [if_neg (by omega)]
    · have e1 : (k % 2 == 0) = false := by simp [hkb]
      rw [e1]
      simp only [cond_false, Tr.kids]
      by_cases hjb : j % 2 = 0
      · have e2 : (j % 2 == 0) = true := by simp [hjb]
        rw [e2]
        simp only [cond_true]
        rw [if_neg (by omega)]
      · have e2 : (j % 2 == 0) = false := by simp [hjb]
        rw [e2]
        simp only [cond_false]
        rw [Tr.get_set d _ _ _ x hk']
        by_cases hjk : j = k
        · rw [if_pos hjk, if_pos (by omega)]
        · rw [if_neg hjk, if_neg (by omega)]
theorem evens_get {α : Type} : ∀ (l : List α) (k : Nat), (evens l)[k]? = l[2 * k]?
  | [], k => by simp [evens]
  | [x], k => by cases k <;> simp [evens]
  | x :: y :: l, 0 => rfl
  | x :: y :: l, k + 1 => by
    show (evens l)[k]? = (x :: y :: l)[2 * k + 1 + 1]?
    rw [evens_get l k]
    rfl
theorem Tr.get_build {α : Type} : ∀ (d : Nat) (l : List α) (k : Nat), k < 2 ^ d → Tr.get d (Tr.build d l) k = l[k]?
  | 0, [], k, h => by simp [Tr.build, Tr.get]
  | 0, x :: l, k, h => by
    obtain rfl : k = 0 := by omega
    rfl
  | d + 1, l, k, h => by
    have h2 : k / 2 < 2 ^ d := by rw [Nat.pow_succ] at h; omega
    unfold Tr.build Tr.get
    cases hb : (k % 2 == 0) with
    | true =>
      simp only [cond_true]
      rw [Tr.get_build d _ _ h2, evens_get]
      have : k % 2 = 0 := by simpa using hb
      congr 1
      omega
    | false =>
      simp only [cond_false]
      have : k % 2 ≠ 0 := by simpa using hb
      rw [Tr.get_build d _ _ h2, evens_get, List.getElem?_tail]
      congr 1
      omega
theorem AH.get_put (H : AH) (b j : Nat) (x : Option AB) (hb : b < 2 ^ depth) (hj : j < 2 ^ depth) : (H.put b x).get j = if j = b then x else H.get j := Tr.get_set depth H.t b j x hb
theorem AH.get_alloc (H : AH) (j : Nat) (x : AB) (hb : H.next < 2 ^ depth) (hj : j < 2 ^ depth) : (H.alloc x).get j = if j = H.next then some x else H.get j := Tr.get_set depth H.t H.next j (some x) hb

/-! ### values -/
/-- Where the blocks stand: a block's number in memory, where its cells begin there, and how many cells that row has. -/
abbrev Env := Nat → Option (Nat × Nat × Nat)
def ELe (e e' : Env) : Prop := ∀ b p, e b = some p → e' b = some p
theorem ELe.refl (e : Env) : ELe e e := fun _ _ h => h
theorem ELe.trans {e e' e'' : Env} (h : ELe e e') (k : ELe e' e'') : ELe e e'' := fun b p hp => k b p (h b p hp)
/-- What a slice's room is in memory. -/
def CpR (o z off : Nat) (c : Nat) : Cp → Prop
  | .at c' => c = c'
  | .to s => o + off + c * s = z

/-- What is left of a slice behind its last part: where there is no room, it stands where the slice stood. -/
def TlR (o z off len s p k : Nat) : Prop := ∃ c, o + off + c * s = z ∧ len ≤ c ∧ 0 < s ∧ ((c = len ∧ p = o + off ∧ k = 0) ∨ (c ≠ len ∧ p = o + off + len * s ∧ k = c - len))
theorem TlR.same {o z off len s p k p' k' : Nat} (h : TlR o z off len s p k) (h' : TlR o z off len s p' k') : p = p' ∧ k = k' := by
  obtain ⟨c, h1, h2, h3, h4⟩ := h
  obtain ⟨c', h1', h2', h3', h4'⟩ := h'
  have hc : c = c' := Nat.eq_of_mul_eq_mul_right h3 (by omega)
  subst hc
  rcases h4 with ⟨a, b, d⟩ | ⟨a, b, d⟩ <;> rcases h4' with ⟨a', b', d'⟩ | ⟨a', b', d'⟩ <;> first
    | exact absurd a a'
    | exact absurd a' a
    | exact ⟨b.trans b'.symm, d.trans d'.symm⟩
mutual
inductive DR (e : Env) : AV → Value → Prop where
  | v (x : Value) : DR e (.v x) x
  | ptr {b off g o z : Nat} : e b = some (g, o, z) → DR e (.ptr b off) (.pointer (some ⟨g, o + off, none⟩))
  | slc {b off len g o z c : Nat} {cap : Cp} : e b = some (g, o, z) → CpR o z off c cap → len ≤ c → DR e (.slc b off len cap) (.slice (some ⟨g, o + off, none⟩) len c)
  | mp {b g o z : Nat} : e b = some (g, o, z) → DR e (.mp b) (.map (some g))
  | tl {b off len s g o z p k : Nat} : e b = some (g, o, z) → TlR o z off len s p k → DR e (.tl b off len s) (.slice (some ⟨g, p, none⟩) 0 k)
  | agg {l : List AV} {xs : List Value} : DRL e l xs → DR e (.agg l) (.agg xs.toArray)
  | tup {l : List AV} {xs : List Value} : DRL e l xs → DR e (.tup l) (.tuple xs.toArray)
  | iface {t : TypeId} {x : AV} {y : Value} : DR e x y → DR e (.iface t x) (.iface t y)
  | fn {f : Fn} {a c : List AV} {xs ys : List Value} : DRL e a xs → DRL e c ys → DR e (.fn f a c) (.func f xs.toArray ys.toArray)
inductive DRL (e : Env) : List AV → List Value → Prop where
  | nil : DRL e [] []
  | cons {x : AV} {y : Value} {l : List AV} {ys : List Value} : DR e x y → DRL e l ys → DRL e (x :: l) (y :: ys)
end
mutual
theorem DR.mono {e e' : Env} (h : ELe e e') : ∀ {x : AV} {y : Value}, DR e x y → DR e' x y
  | _, _, .v x => .v x
  | _, _, .ptr hb => .ptr (h _ _ hb)
  | _, _, .slc hb hc hl => .slc (h _ _ hb) hc hl
  | _, _, .mp hb => .mp (h _ _ hb)
  | _, _, .tl hb ht => .tl (h _ _ hb) ht
  | _, _, .agg hl => .agg (DRL.mono h hl)
  | _, _, .tup hl => .tup (DRL.mono h hl)
  | _, _, .iface hx => .iface (DR.mono h hx)
  | _, _, .fn ha hc => .fn (DRL.mono h ha) (DRL.mono h hc)
theorem DRL.mono {e e' : Env} (h : ELe e e') : ∀ {l : List AV} {ys : List Value}, DRL e l ys → DRL e' l ys
  | _, _, .nil => .nil
  | _, _, .cons hx hl => .cons (DR.mono h hx) (DRL.mono h hl)
end
section
variable {e : Env}
theorem DRL.length {l : List AV} {ys : List Value} (h : DRL e l ys) : ys.length = l.length := by
  induction l generalizing ys with
  | nil => cases h; rfl
  | cons x l ih =>
    cases h with
    | cons hx hl => rw [List.length_cons, List.length_cons, ih hl]
theorem DRL.get {l : List AV} {ys : List Value} (h : DRL e l ys) {i : Nat} {x : AV} (hx : l[i]? = some x) : ∃ y, ys[i]? = some y ∧ DR e x y := by
  induction l generalizing ys i with
  | nil => cases hx
  | cons a l ih =>
    cases h with
    | cons h1 h2 =>
      cases i with
      | zero => cases hx; exact ⟨_, rfl, h1⟩
      | succ i => exact ih h2 hx
theorem DRL.none {l : List AV} {ys : List Value} (h : DRL e l ys) {i : Nat} (hx : l[i]? = none) : ys[i]? = none := by
  rw [List.getElem?_eq_none_iff] at hx ⊢
  rw [h.length]
  exact hx
theorem DRL.append {l l' : List AV} {ys ys' : List Value} (h : DRL e l ys) (h' : DRL e l' ys') : DRL e (l ++ l') (ys ++ ys') := by
  induction l generalizing ys with
  | nil => cases h; exact h'
  | cons a l ih =>
    cases h with
    | cons h1 h2 => exact .cons h1 (ih h2)
theorem DRL.take {l : List AV} {ys : List Value} (h : DRL e l ys) (n : Nat) : DRL e (l.take n) (ys.take n) := by
  induction l generalizing ys n with
  | nil => cases h; simp; exact .nil
  | cons a l ih =>
    cases h with
    | cons h1 h2 =>
      cases n with
      | zero => exact .nil
      | succ n => exact .cons h1 (ih h2 n)
theorem DRL.drop {l : List AV} {ys : List Value} (h : DRL e l ys) (n : Nat) : DRL e (l.drop n) (ys.drop n) := by
  induction l generalizing ys n with
  | nil => cases h; simp; exact .nil
  | cons a l ih =>
    cases h with
    | cons h1 h2 =>
      cases n with
      | zero => exact .cons h1 h2
      | succ n => exact ih h2 n
theorem DRL.set {l : List AV} {ys : List Value} (h : DRL e l ys) (i : Nat) {x : AV} {y : Value} (hx : DR e x y) : DRL e (l.set i x) (ys.set i y) := by
  induction l generalizing ys i with
  | nil => cases h; exact .nil
  | cons a l ih =>
    cases h with
    | cons h1 h2 =>
      cases i with
      | zero => exact .cons hx h2
      | succ i => exact .cons h1 (ih h2 i)
theorem DRL.map {α : Type} {f : α → AV} {g : α → Value} : ∀ (l : List α), (∀ x ∈ l, DR e (f x) (g x)) → DRL e (l.map f) (l.map g)
  | [], _ => .nil
  | x :: l, h => .cons (h x (.head _)) (DRL.map l fun y hy => h y (.tail _ hy))
theorem DRL.flat (l : List Value) : DRL e (l.map .v) l := by
  induction l with
  | nil => exact .nil
  | cons x l ih => exact .cons (.v x) ih
theorem flat_eq {x : AV} {y z : Value} (h : DR e x y) (hf : x.flat = some z) : y = z := by
  cases h with
  | v x => cases hf; rfl
  | fn ha hc =>
    rename_i f a c xs ys
    cases a with
    | cons _ _ => cases hf
    | nil =>
      cases c with
      | cons _ _ => cases hf
      | nil => cases ha; cases hc; cases hf; rfl
  | _ => cases hf
theorem flat_dr {x : AV} {z : Value} (hf : x.flat = some z) : DR e x z := by
  cases x with
  | v x => cases hf; exact .v _
  | fn f a c =>
    cases a with
    | cons _ _ => cases hf
    | nil =>
      cases c with
      | cons _ _ => cases hf
      | nil => cases hf; exact .fn .nil .nil
  | _ => cases hf
theorem allFlat_eq {l : List AV} {ys : List Value} (h : DRL e l ys) : ∀ {r : List Value}, allFlat l = some r → ys = r := by
  induction l generalizing ys with
  | nil => intro r hr; cases h; cases hr; rfl
  | cons x l ih =>
    intro r hr
    cases h with
    | cons h1 h2 =>
      unfold allFlat at hr
      split at hr
      · rename_i a b hx hl
        cases hr
        rw [flat_eq h1 hx, ih h2 hl]
      · cases hr
theorem mkAgg_dr {l : List AV} {ys : List Value} (h : DRL e l ys) : DR e (mkAgg l) (.agg ys.toArray) := by
  unfold mkAgg
  split
  · rename_i r hr
    rw [allFlat_eq h hr]
    exact .v _
  · exact .agg h
theorem mkTup_dr {l : List AV} {ys : List Value} (h : DRL e l ys) : DR e (mkTup l) (.tuple ys.toArray) := by
  unfold mkTup
  split
  · rename_i r hr
    rw [allFlat_eq h hr]
    exact .v _
  · exact .tup h
theorem cells_dr {x : AV} {y : Value} (h : DR e x y) : DRL e x.cells y.cells.toList := by
  cases h with
  | v _ =>
    cases y <;> first
      | exact DRL.flat _
      | exact .cons (.v _) .nil
  | agg hl => exact hl
  | ptr hb => exact .cons (.ptr hb) .nil
  | slc hb hc hl => exact .cons (.slc hb hc hl) .nil
  | mp hb => exact .cons (.mp hb) .nil
  | tl hb ht => exact .cons (.tl hb ht) .nil
  | tup hl => exact .cons (.tup hl) .nil
  | iface hx => exact .cons (.iface hx) .nil
  | fn ha hc => exact .cons (.fn ha hc) .nil
theorem one_dr {x : AV} {y : Value} (h : DR e x y) (h1 : oneB x = true) : y.oneCell' = true := by
  cases h with
  | v _ => cases y <;> first | rfl | cases h1
  | agg _ => cases h1
  | tup _ => cases h1
  | _ => rfl
end

/-! ### the heap -/
/-- What a block is in memory. -/
def BlkR (e : Env) (w : World) (g o z : Nat) : AB → Prop
  | .cells l t => ∃ cs : Array Value, w.heap[g]? = some (.cells cs t (0, 0)) ∧ cs.size = z ∧ o + l.length ≤ z ∧ DRL e l ((cs.toList.drop o).take l.length)
  | .map es c => ∃ es' : List MapEntry, w.heap[g]? = some (.map es'.toArray c) ∧ DRL e (es.map (·.1)) (es'.map (·.key)) ∧ DRL e (es.map (·.2.1)) (es'.map (·.val)) ∧ es.map (·.2.2) = es'.map (·.born)
  | .iter m since seen last => o = 0 ∧ ∃ g' o' z', e m = some (g', o', z') ∧ w.heap[g]? = some (.mapIter (some g') since seen.toArray last)
  | .froz l => ∃ (cs : Array Value) (t : TypeId) (m : Nat × Nat), w.heap[g]? = some (.cells cs t m) ∧ cs.size = z ∧ o + l.length ≤ z ∧ DRL e l ((cs.toList.drop o).take l.length)
theorem BlkR.mono {e e' : Env} {w : World} {g o z : Nat} {x : AB} (h : BlkR e w g o z x) (he : ELe e e') : BlkR e' w g o z x := by
  cases x with
  | cells l t => obtain ⟨cs, h1, h2, h3, h4⟩ := h; exact ⟨cs, h1, h2, h3, h4.mono he⟩
  | map es c => obtain ⟨es', h1, h2, h3, h4⟩ := h; exact ⟨es', h1, h2.mono he, h3.mono he, h4⟩
  | iter m c s l => obtain ⟨h0, g', o', z', h1, h2⟩ := h; exact ⟨h0, g', o', z', he _ _ h1, h2⟩
  | froz l => obtain ⟨cs, t, m, h1, h2, h3, h4⟩ := h; exact ⟨cs, t, m, h1, h2, h3, h4.mono he⟩
theorem BlkR.heap {e : Env} {w w' : World} {g o z : Nat} {x : AB} (h : BlkR e w g o z x) (hw : w'.heap[g]? = w.heap[g]?) : BlkR e w' g o z x := by
  cases x with
  | cells l t => obtain ⟨cs, h1, h2⟩ := h; exact ⟨cs, hw.trans h1, h2⟩
  | map es c => obtain ⟨es', h1, h2⟩ := h; exact ⟨es', hw.trans h1, h2⟩
  | iter m c s l => obtain ⟨h0, g', o', z', h1, h2⟩ := h; exact ⟨h0, g', o', z', h1, hw.trans h2⟩
  | froz l => obtain ⟨cs, t, m, h1, h2⟩ := h; exact ⟨cs, t, m, hw.trans h1, h2⟩
theorem BlkR.lt {e : Env} {w : World} {g o z : Nat} {x : AB} (h : BlkR e w g o z x) : g < w.heap.size := by
  have : ∃ y, w.heap[g]? = some y := by
    cases x with
    | cells l t => obtain ⟨cs, h1, _⟩ := h; exact ⟨_, h1⟩
    | map es c => obtain ⟨es', h1, _⟩ := h; exact ⟨_, h1⟩
    | iter m c s l => obtain ⟨_, g', o', z', _, h1⟩ := h; exact ⟨_, h1⟩
    | froz l => obtain ⟨cs, t, m, h1, _⟩ := h; exact ⟨_, h1⟩
  obtain ⟨y, hy⟩ := this
  exact (Array.getElem?_eq_some_iff.1 hy).1
structure HRel (base : Nat) (e : Env) (H : AH) (w : World) : Prop where
  size : base ≤ w.heap.size
  next : H.next ≤ 2 ^ depth
  fresh : ∀ b, H.next ≤ b → e b = none
  blk : ∀ b x, b < 2 ^ depth → H.get b = some x → ∃ g o z, e b = some (g, o, z) ∧ base ≤ g ∧ BlkR e w g o z x
  inj : ∀ b b' x x' p p', b < 2 ^ depth → b' < 2 ^ depth → H.get b = some x → H.get b' = some x' → e b = some p → e b' = some p' → b ≠ b' → p.1 ≠ p'.1
theorem HRel.lt {base : Nat} {e : Env} {H : AH} {w : World} (h : HRel base e H w) {b : Nat} {p : Nat × Nat × Nat} (hb : e b = some p) : b < H.next := by
  refine Nat.lt_of_not_le fun hle => ?_
  rw [h.fresh b hle] at hb
  cases hb
theorem HRel.lt2 {base : Nat} {e : Env} {H : AH} {w : World} (h : HRel base e H w) {b : Nat} {p : Nat × Nat × Nat} (hb : e b = some p) : b < 2 ^ depth := Nat.lt_of_lt_of_le (h.lt hb) h.next
theorem HRel.drew {base : Nat} {e : Env} {H : AH} {w : World} (h : HRel base e H w) : HRel base e H w.drew := ⟨h.size, h.next, h.fresh, fun b x hb hx => by obtain ⟨g, o, z, h1, h2, h3⟩ := h.blk b x hb hx; exact ⟨g, o, z, h1, h2, h3.heap rfl⟩, h.inj⟩

/-! ### what is read, written, made -/
section
variable {base : Nat} {e : Env} {H H' : AH} {w : World} {P : Program}
theorem load_of {g o z off n : Nat} {l0 : List AV} {cs : Array Value} {t : TypeId} {m : Nat × Nat} (h3 : w.heap[g]? = some (.cells cs t m)) (h5 : o + l0.length ≤ z) (h4 : cs.size = z) (h6 : DRL e l0 ((cs.toList.drop o).take l0.length)) (hle : off + n ≤ l0.length) :
    ∃ ys, DRL e ((l0.drop off).take n) ys ∧ ys.length = n ∧ w.rangeAt g (o + off) ys := by
  refine ⟨_, (h6.drop off).take n, ?_, fun j v hv => ?_⟩
  · have := h6.length
    rw [List.length_take, List.length_drop, this]
    omega
  · rw [List.getElem?_take] at hv
    split at hv
    · rw [List.getElem?_drop, List.getElem?_take] at hv
      split at hv
      · rw [List.getElem?_drop] at hv
        rw [cell_of_row w g _ cs t m h3, show o + off + j = o + (off + j) by omega]
        simpa using hv
      · cases hv
    · cases hv
theorem load_ok (h : HRel base e H w) {b off n g o z : Nat} {l : List AV} (hl : loadN H b off n = some l) (hb : e b = some (g, o, z)) :
    ∃ ys, DRL e l ys ∧ ys.length = n ∧ w.rangeAt g (o + off) ys := by
  unfold loadN at hl
  split at hl
  · rename_i l0 t hg
    have hlt := h.lt2 hb
    obtain ⟨g', o', z', h1, h2, cs, h3, h4, h5, h6⟩ := h.blk b _ hlt hg
    rw [hb] at h1
    cases h1
    cases hc : (off + n).ble l0.length with
    | false => rw [hc] at hl; cases hl
    | true =>
      rw [hc] at hl
      cases hl
      exact load_of h3 h5 h4 h6 (Nat.le_of_ble_eq_true hc)
  · rename_i l0 hg
    have hlt := h.lt2 hb
    obtain ⟨g', o', z', h1, h2, cs, t, m, h3, h4, h5, h6⟩ := h.blk b _ hlt hg
    rw [hb] at h1
    cases h1
    cases hc : (off + n).ble l0.length with
    | false => rw [hc] at hl; cases hl
    | true =>
      rw [hc] at hl
      cases hl
      exact load_of h3 h5 h4 h6 (Nat.le_of_ble_eq_true hc)
  · cases hl
theorem take_drop_mid {α : Type} (cs : List α) (ys : List α) (o off n : Nat) (h : o + off + ys.length ≤ cs.length) (hn : off + ys.length ≤ n) (hn2 : o + n ≤ cs.length) :
    ((cs.take (o + off) ++ ys ++ cs.drop (o + off + ys.length)).drop o).take n = ((cs.drop o).take n).take off ++ (ys ++ ((cs.drop o).take n).drop (off + ys.length)) := by
  apply List.ext_getElem?
  intro j
  rw [List.getElem?_take, List.append_assoc]
  by_cases hj : j < n
  · rw [if_pos hj, List.getElem?_drop]
    by_cases h1 : j < off
    · rw [List.getElem?_append_left (by rw [List.length_take]; omega), List.getElem?_append_left (by rw [List.length_take, List.length_take, List.length_drop]; omega), List.getElem?_take, if_pos (by omega), List.getElem?_take, if_pos h1, List.getElem?_take, if_pos hj, List.getElem?_drop]
    · rw [List.getElem?_append_right (l₁ := cs.take (o + off)) (by rw [List.length_take]; omega), List.getElem?_append_right (l₁ := ((cs.drop o).take n).take off) (by rw [List.length_take, List.length_take, List.length_drop]; omega)]
      have e1 : (cs.take (o + off)).length = o + off := by rw [List.length_take]; omega
      have e2 : (((cs.drop o).take n).take off).length = off := by rw [List.length_take, List.length_take, List.length_drop]; omega
      rw [e1, e2, show o + j - (o + off) = j - off by omega]
      by_cases h2 : j - off < ys.length
      · rw [List.getElem?_append_left h2, List.getElem?_append_left h2]
      · rw [List.getElem?_append_right (by omega), List.getElem?_append_right (by omega), List.getElem?_drop, List.getElem?_drop, List.getElem?_take, if_pos (by omega), List.getElem?_drop]
        congr 1
        omega
  · rw [if_neg hj, List.getElem?_eq_none]
    rw [List.length_append, List.length_append, List.length_take, List.length_take, List.length_drop, List.length_drop, List.length_take, List.length_drop]
    omega
theorem store_ok (h : HRel base e H w) {b off g o z : Nat} {vs : List AV} {ys : List Value} (hs : storeN H b off vs = some H') (hb : e b = some (g, o, z)) (hv : DRL e vs ys) :
    ∃ w', (storeCells ⟨g, o + off, none⟩ ys).run P w = .ok () w' ∧ HRel base e H' w' ∧ Below base w w' ∧ H'.next = H.next := by
  unfold storeN at hs
  split at hs
  · rename_i l0 t hg
    have hlt := h.lt2 hb
    obtain ⟨g', o', z', h1, h2, cs, h3, h4, h5, h6⟩ := h.blk b _ hlt hg
    rw [hb] at h1
    cases h1
    cases hc : (off + vs.length).ble l0.length && vs.all oneB with
    | false => rw [hc] at hs; cases hs
    | true =>
      rw [hc] at hs
      cases hs
      rw [Bool.and_eq_true] at hc
      have hle := Nat.le_of_ble_eq_true hc.1
      have hyl := hv.length
      have hone : ∀ v ∈ ys, v.oneCell' = true := fun v hvm => by
        obtain ⟨i, hi⟩ := List.mem_iff_getElem?.1 hvm
        have hlt : i < vs.length := by rw [← hyl]; exact (List.getElem?_eq_some_iff.1 hi).1
        obtain ⟨y, hy, hd⟩ := hv.get (List.getElem?_eq_getElem hlt)
        rw [hy] at hi
        cases hi
        exact one_dr hd (List.all_eq_true.1 hc.2 _ (List.getElem_mem hlt))
      have hr := run_storeCells_at (P := P) g (o + off) t ys 0 cs w h3 (by omega) hone
      rw [Nat.add_zero] at hr
      obtain ⟨R, hR⟩ : ∃ R, (cs.toList.take (o + off) ++ ys ++ cs.toList.drop (o + off + ys.length)).toArray = R := ⟨_, rfl⟩
      rw [hR] at hr
      have hnew : (w.setRow g R).heap[g]? = some (.cells R t (0, 0)) := setRow_heap w g cs R t (0, 0) h3
      have hfar : ∀ k, k ≠ g → (w.setRow g R).heap[k]? = w.heap[k]? := fun k hk => setRow_other w g k R hk
      have hsz : (w.setRow g R).heap.size = w.heap.size := setRow_size w g R
      refine ⟨_, hr, ⟨by rw [hsz]; exact h.size, h.next, h.fresh, fun b' x hb' hx => ?_, fun b1 b2 x1 x2 p1 p2 hb1 hb2 hx1 hx2 hp1 hp2 hne => ?_⟩, ⟨rfl, rfl, rfl, by rw [hsz]; exact Nat.le_refl _, fun k hk => setRow_other w g k R (by omega)⟩, rfl⟩
      · rw [AH.get_put _ _ _ _ hlt hb'] at hx
        by_cases hbb : b' = b
        · rw [if_pos hbb] at hx
          cases hx
          refine ⟨g, o, z, by rw [hbb]; exact hb, h2, R, hnew, ?_, ?_, ?_⟩
          · rw [← hR]
            simp
            omega
          · rw [List.length_append, List.length_append, List.length_take, List.length_drop]
            omega
          · rw [← hR]
            show DRL e _ (((cs.toList.take (o + off) ++ ys ++ cs.toList.drop (o + off + ys.length)).drop o).take _)
            have hlen : (l0.take off ++ (vs ++ l0.drop (off + vs.length))).length = l0.length := by
              rw [List.length_append, List.length_append, List.length_take, List.length_drop]
              omega
            rw [hlen, take_drop_mid cs.toList ys o off l0.length (by simp; omega) (by omega) (by simp; omega), hyl]
            exact (h6.take off).append (hv.append (h6.drop _))
        · rw [if_neg hbb] at hx
          obtain ⟨g2, o2, z2, k1, k2, k3⟩ := h.blk b' x hb' hx
          exact ⟨g2, o2, z2, k1, k2, k3.heap (hfar g2 (h.inj b' b x _ _ _ hb' hlt hx hg k1 hb hbb))⟩
      · have alive : ∀ b', b' < 2 ^ depth → ∀ x, (H.put b (some (.cells (l0.take off ++ (vs ++ l0.drop (off + vs.length))) t))).get b' = some x → ∃ x', H.get b' = some x' := fun b' hb' x hx => by
          rw [AH.get_put _ _ _ _ hlt hb'] at hx
          by_cases hbb : b' = b
          · exact ⟨_, by rw [hbb]; exact hg⟩
          · rw [if_neg hbb] at hx
            exact ⟨_, hx⟩
        obtain ⟨y1, hy1⟩ := alive b1 hb1 _ hx1
        obtain ⟨y2, hy2⟩ := alive b2 hb2 _ hx2
        exact h.inj b1 b2 _ _ _ _ hb1 hb2 hy1 hy2 hp1 hp2 hne
  · cases hs
/-- A new block. -/
def Env.new (e : Env) (n : Nat) (p : Nat × Nat × Nat) : Env := fun b => if b = n then some p else e b
theorem new_le (h : HRel base e H w) (p : Nat × Nat × Nat) : ELe e (Env.new e H.next p) := fun b q hb => by
  unfold Env.new
  rw [if_neg (Nat.ne_of_lt (h.lt hb))]
  exact hb
theorem alloc_ok (h : HRel base e H w) (x : AB) (hn : H.next + 1 ≤ 2 ^ depth) (obj : Obj) (o z : Nat) (hx : BlkR (Env.new e H.next (w.heap.size, o, z)) (w.alloc obj) w.heap.size o z x) :
    HRel base (Env.new e H.next (w.heap.size, o, z)) (H.alloc x) (w.alloc obj) ∧ Below base w (w.alloc obj) := by
  have hle := new_le h (w.heap.size, o, z)
  have hsz : (w.alloc obj).heap.size = w.heap.size + 1 := World.size_alloc _ _
  refine ⟨⟨by rw [hsz]; have := h.size; omega, hn, fun b hb => ?_, fun b y hb hy => ?_, fun b1 b2 x1 x2 p1 p2 hb1 hb2 hx1 hx2 hp1 hp2 hne => ?_⟩, (Below.refl _ _).alloc h.size _⟩
  · have hb' : H.next + 1 ≤ b := hb
    unfold Env.new
    rw [if_neg (by omega)]
    exact h.fresh b (by omega)
  · rw [AH.get_alloc _ _ _ (by omega) hb] at hy
    by_cases hbn : b = H.next
    · rw [if_pos hbn] at hy
      cases hy
      exact ⟨w.heap.size, o, z, by unfold Env.new; rw [if_pos hbn], h.size, hx⟩
    · rw [if_neg hbn] at hy
      obtain ⟨g2, o2, z2, k1, k2, k3⟩ := h.blk b y hb hy
      exact ⟨g2, o2, z2, hle _ _ k1, k2, (k3.mono hle).heap (Below.heap_alloc w obj g2 k3.lt)⟩
  · rw [AH.get_alloc _ _ _ (by omega) hb1] at hx1
    rw [AH.get_alloc _ _ _ (by omega) hb2] at hx2
    by_cases e1 : b1 = H.next
    · have e2 : b2 ≠ H.next := fun h2 => hne (e1.trans h2.symm)
      rw [if_neg e2] at hx2
      obtain ⟨g2, o2, z2, k1, k2, k3⟩ := h.blk b2 _ hb2 hx2
      rw [hle _ _ k1] at hp2
      unfold Env.new at hp1
      rw [if_pos e1] at hp1
      cases hp1
      cases hp2
      have := k3.lt
      exact fun he => by
        have he' : w.heap.size = g2 := he
        omega
    · rw [if_neg e1] at hx1
      obtain ⟨g1, o1, z1, k1, k2, k3⟩ := h.blk b1 _ hb1 hx1
      rw [hle _ _ k1] at hp1
      cases hp1
      by_cases e2 : b2 = H.next
      · unfold Env.new at hp2
        rw [if_pos e2] at hp2
        cases hp2
        have := k3.lt
        exact fun he => by
          have he' : g1 = w.heap.size := he
          omega
      · rw [if_neg e2] at hx2
        obtain ⟨g2, o2, z2, m1, m2, m3⟩ := h.blk b2 _ hb2 hx2
        rw [hle _ _ m1] at hp2
        cases hp2
        exact h.inj b1 b2 _ _ _ _ hb1 hb2 hx1 hx2 k1 m1 hne
/-- A new row of these cells, and more behind them. -/
theorem row_ok (h : HRel base e H w) {l : List AV} {ys more : List Value} (t : TypeId) (hn : H.next + 1 ≤ 2 ^ depth) (hl : DRL e l ys) :
    HRel base (Env.new e H.next (w.heap.size, 0, (ys ++ more).length)) (H.alloc (.cells l t)) (w.alloc (.cells (ys ++ more).toArray t)) ∧ Below base w (w.alloc (.cells (ys ++ more).toArray t)) := by
  refine alloc_ok h _ hn _ 0 _ ⟨(ys ++ more).toArray, Blk.new _ _ _, by simp, ?_, ?_⟩
  · rw [List.length_append, hl.length]
    omega
  · show DRL _ l (((ys ++ more).drop 0).take l.length)
    rw [List.drop_zero, ← hl.length, List.take_left]
    exact hl.mono (new_le h _)
end
end Ev
end Go.Proofs.YtgmhkjmnfafccaaGreatDoor
