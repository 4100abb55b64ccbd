/- A law for a region that draws its order: it is walked ONCE, in the text's order; each operation is shown at whatever world its forebears may have left. -/
import Derived.Orders
import Derived.Tactics
import Derived.WalkKit
import Derived.StillTail
namespace Go.Proofs.YtgmhkjmnfafccaaGreatDoor
namespace Reg

/-! ### forebears, as bit masks -/
def maskOf (ms : List Nat) (o : Oper) : Nat :=
  o.after.toList.foldl (fun m e => if Region.binds .any e then (m ||| 2 ^ e.on) ||| (ms[e.on]?.getD 0) else m) 0
def masksGo : List Oper → List Nat → List Nat
  | [], acc => acc
  | o :: r, acc => masksGo r (acc ++ [maskOf acc o])
def bit (ms : List Nat) (j i : Nat) : Bool := (ms[i]?.getD 0).testBit j
def anc (ops : Array Oper) (j i : Nat) : Bool := bit (masksGo ops.toList []) j i

theorem foldl_bit (ms : List Nat) (j : Nat) : ∀ (es : List Edge) (m : Nat),
    (es.foldl (fun m e => if Region.binds .any e then (m ||| 2 ^ e.on) ||| (ms[e.on]?.getD 0) else m) m).testBit j = true →
    m.testBit j = true ∨ ∃ e ∈ es, Region.binds .any e = true ∧ (e.on = j ∨ bit ms j e.on = true) := by
  intro es
  induction es with
  | nil => intro m h; exact .inl h
  | cons e es ih =>
    intro m h
    rw [List.foldl_cons] at h
    rcases ih _ h with h1 | ⟨e', he', hb, h2⟩
    · split at h1
      · rename_i hbe
        rw [Nat.testBit_or, Nat.testBit_or, Bool.or_eq_true, Bool.or_eq_true] at h1
        rcases h1 with (h1 | h1) | h1
        · exact .inl h1
        · refine .inr ⟨e, by simp, hbe, .inl ?_⟩
          rw [Nat.testBit_two_pow] at h1
          exact of_decide_eq_true h1
        · exact .inr ⟨e, by simp, hbe, .inr h1⟩
      · exact .inl h1
    · exact .inr ⟨e', by simp [he'], hb, h2⟩

theorem masksGo_at : ∀ (l : List Oper) (acc : List Nat), (∃ s, masksGo l acc = acc ++ s) ∧
    ∀ i o, l[i]? = some o → ∃ pre s, masksGo l acc = pre ++ maskOf pre o :: s ∧ pre.length = acc.length + i := by
  intro l
  induction l with
  | nil => intro acc; exact ⟨⟨[], by simp [masksGo]⟩, by simp⟩
  | cons o l ih =>
    intro acc
    obtain ⟨⟨s, hs⟩, h2⟩ := ih (acc ++ [maskOf acc o])
    refine ⟨⟨maskOf acc o :: s, by rw [masksGo, hs]; simp⟩, fun i o' hi => ?_⟩
    cases i with
    | zero =>
      simp at hi
      subst hi
      exact ⟨acc, s, by rw [masksGo, hs]; simp, by simp⟩
    | succ i =>
      obtain ⟨pre, s', h3, h4⟩ := h2 i o' (by simpa using hi)
      exact ⟨pre, s', by rw [masksGo, h3], by rw [h4]; simp; omega⟩

theorem masksGo_length : ∀ (l : List Oper) (acc : List Nat), (masksGo l acc).length = acc.length + l.length := by
  intro l
  induction l with
  | nil => intro acc; simp [masksGo]
  | cons o l ih => intro acc; rw [masksGo, ih]; simp; omega

theorem anc_spec {ops : Array Oper} {j i : Nat} (h : anc ops j i = true) : ∃ o, ops[i]? = some o ∧ ∃ e ∈ o.after, Region.binds .any e = true ∧ (e.on = j ∨ anc ops j e.on = true) := by
  rcases Nat.lt_or_ge i ops.size with hi | hi
  · have ho : ops.toList[i]? = some ops[i] := by simp [hi]
    obtain ⟨pre, s, h3, h4⟩ := (masksGo_at ops.toList []).2 i _ ho
    refine ⟨ops[i], by simp [hi], ?_⟩
    unfold anc bit at h
    rw [h3] at h
    simp only [List.length_nil, Nat.zero_add] at h4
    rw [List.getElem?_append_right (by omega), h4, Nat.sub_self] at h
    simp only [List.getElem?_cons_zero, Option.getD_some] at h
    rcases foldl_bit pre j _ _ h with h5 | ⟨e, he, hb, h5⟩
    · simp at h5
    · refine ⟨e, by simpa using he, hb, ?_⟩
      rcases h5 with h5 | h5
      · exact .inl h5
      · right
        unfold anc bit
        unfold bit at h5
        rw [h3]
        rcases Nat.lt_or_ge e.on pre.length with hl | hl
        · rw [List.getElem?_append_left hl]; exact h5
        · rw [List.getElem?_eq_none hl] at h5; simp at h5
  · unfold anc bit at h
    rw [List.getElem?_eq_none (by rw [masksGo_length]; simpa using hi)] at h
    simp at h

/-! ### what the region's text must show -/
def plainOp : Op → Bool
  | .select .. | .defer _ | .go _ => false
  | _ => true
def dstApart (x y : Option Tmp) : Bool := match x, y with | some d, some d' => d != d' | _, _ => true
def okOp (ops : Array Oper) (ms : List Nat) (n i : Nat) (o : Oper) : Bool :=
  o.after.all (fun e => !Region.binds .any e || decide (e.on < i)) && plainOp o.op &&
  (List.range n).all fun k => match ops[k]? with
    | none => true
    | some ok => k == i || (dstApart o.dst ok.dst && match ok.dst with
      | none => true
      | some d => !(o.looksAt ops).contains d || bit ms k i || bit ms i k)
/-- A bare copy that nothing is in the way of: it may be run at any time. -/
def floats (ops : Array Oper) (j : Nat) : Bool :=
  match ops[j]? with
  | none => false
  | some o => (match o.op with | .move _ => true | _ => false) && o.guard.isNone && (List.range ops.size).all fun k => k == j || match ops[k]? with
    | none => true
    | some ok => ok.after.any (fun e => Region.binds .any e && e.on == j) || o.apart ops ok
/-- From m on the order is forced. -/
def okTail (ops : Array Oper) (ms : List Nat) (n m : Nat) : Bool := (List.range n).all fun k => decide (k < m) || ((k == 0 || bit ms (k - 1) k) && (k != m || (List.range m).all fun j => bit ms j k || floats ops j))
def ok (ops : Array Oper) (m : Nat) : Bool :=
  let ms := masksGo ops.toList []
  decide (m ≤ ops.size) && okTail ops ms ops.size m && (List.range ops.size).all fun i => match ops[i]? with | none => true | some o => okOp ops ms ops.size i o

structure Ok (ops : Array Oper) (m : Nat) : Prop where
  le : m ≤ ops.size
  edge : ∀ (i : Nat) (o : Oper), ops[i]? = some o → ∀ e ∈ o.after, Region.binds .any e = true → e.on < i
  plain : ∀ (i : Nat) (o : Oper), ops[i]? = some o → plainOp o.op = true
  apart : ∀ (i : Nat) (o : Oper) (k : Nat) (o' : Oper), ops[i]? = some o → ops[k]? = some o' → k ≠ i → ∀ d, o.dst = some d → o'.dst ≠ some d
  look : ∀ (i : Nat) (o : Oper) (k : Nat) (o' : Oper) (d : Tmp), ops[i]? = some o → ops[k]? = some o' → k ≠ i → o'.dst = some d → d ∈ o.looksAt ops → anc ops k i = true ∨ anc ops i k = true
  tail1 : ∀ k, m ≤ k → k < ops.size → 0 < k → anc ops (k - 1) k = true
  tail2 : ∀ j, j < m → m < ops.size → anc ops j m = true ∨ floats ops j = true

theorem Ok.of {ops : Array Oper} {m : Nat} (h : ok ops m = true) : Ok ops m := by
  unfold ok at h
  simp only [Bool.and_eq_true, decide_eq_true_eq] at h
  obtain ⟨⟨hle, ht⟩, ha⟩ := h
  have hi : ∀ (i : Nat) (o : Oper), ops[i]? = some o → okOp ops (masksGo ops.toList []) ops.size i o = true := fun i o ho => by
    have hlt : i < ops.size := (Array.getElem?_eq_some_iff.1 ho).1
    have := List.all_eq_true.1 ha i (List.mem_range.2 hlt)
    simpa [ho] using this
  have hk : ∀ (i : Nat) (o : Oper) (k : Nat) (o' : Oper), ops[i]? = some o → ops[k]? = some o' → k ≠ i → (dstApart o.dst o'.dst && match o'.dst with
      | none => true
      | some d => !(o.looksAt ops).contains d || bit (masksGo ops.toList []) k i || bit (masksGo ops.toList []) i k) = true := fun i o k o' ho ho' hne => by
    have h1 := hi i o ho
    unfold okOp at h1
    rw [Bool.and_eq_true] at h1
    have hlt : k < ops.size := (Array.getElem?_eq_some_iff.1 ho').1
    have h2 := List.all_eq_true.1 h1.2 k (List.mem_range.2 hlt)
    simp only [ho'] at h2
    rw [Bool.or_eq_true] at h2
    rcases h2 with h2 | h2
    · exact absurd (by simpa using h2) hne
    · exact h2
  refine ⟨hle, fun i o ho e he hb => ?_, fun i o ho => ?_, fun i o k o' ho ho' hne d hd hd' => ?_, fun i o k o' d ho ho' hne hd hl => ?_, fun k hmk hks hk0 => ?_, fun j hj hms => ?_⟩
  · have h1 := hi i o ho
    unfold okOp at h1
    rw [Bool.and_eq_true, Bool.and_eq_true] at h1
    have h2 := Array.all_eq_true_iff_forall_mem.1 h1.1.1 e he
    simpa [hb] using h2
  · have h1 := hi i o ho
    unfold okOp at h1
    rw [Bool.and_eq_true, Bool.and_eq_true] at h1
    exact h1.1.2
  · have h1 := hk i o k o' ho ho' hne
    rw [Bool.and_eq_true] at h1
    have := h1.1
    simp [dstApart, hd, hd'] at this
  · have h1 := hk i o k o' ho ho' hne
    rw [Bool.and_eq_true] at h1
    have h2 := h1.2
    simp only [hd] at h2
    rw [Bool.or_eq_true, Bool.or_eq_true] at h2
    rcases h2 with (h2 | h2) | h2
    · simp [hl] at h2
    · exact .inl h2
    · exact .inr h2
  · have h1 := List.all_eq_true.1 ht k (List.mem_range.2 hks)
    simp only [Bool.or_eq_true, Bool.and_eq_true, decide_eq_true_eq, beq_iff_eq] at h1
    rcases h1 with h1 | ⟨h1 | h1, _⟩
    · omega
    · omega
    · exact h1
  · have h1 := List.all_eq_true.1 ht m (List.mem_range.2 hms)
    simp only [Bool.or_eq_true, Bool.and_eq_true, decide_eq_true_eq, bne_self_eq_false, Bool.false_eq_true, false_or] at h1
    rcases h1 with h1 | ⟨_, h1⟩
    · omega
    · have := List.all_eq_true.1 h1 j (List.mem_range.2 hj)
      rwa [Bool.or_eq_true] at this

theorem floats_spec {ops : Array Oper} {j : Nat} (h : floats ops j = true) : ∃ o x, ops[j]? = some o ∧ o.op = .move x ∧ o.guard = none ∧
    ∀ k ok, ops[k]? = some ok → k ≠ j → (∀ e ∈ ok.after, Region.binds .any e = true → e.on ≠ j) → o.apart ops ok = true := by
  unfold floats at h
  split at h
  · cases h
  · rename_i o ho
    rw [Bool.and_eq_true, Bool.and_eq_true] at h
    obtain ⟨⟨h1, h2⟩, h3⟩ := h
    split at h1
    · rename_i x hx
      refine ⟨o, x, ho, hx, by simpa using h2, fun k ok hk hne hno => ?_⟩
      have h4 := List.all_eq_true.1 h3 k (List.mem_range.2 (Array.getElem?_eq_some_iff.1 hk).1)
      simp only [hk, Bool.or_eq_true, beq_iff_eq] at h4
      rcases h4 with h4 | h4 | h4
      · exact absurd h4 hne
      · obtain ⟨e, he, hb⟩ := Array.any_eq_true'.1 h4
        simp only [Bool.and_eq_true, beq_iff_eq] at hb
        exact absurd hb.2 (hno e he hb.1)
      · exact h4
    · cases h1

/-! ### the chain: the region's text, walked once -/
section
variable (P : Program) (ops : Array Oper) (Inv : World → Prop) (Step : World → World → Prop) (R : Nat → Option (Value → World → Prop)) (C : Nat → Option Value) (Fin : Act → World → Prop)

def FactsAt (F : List (Nat × (World → Prop))) (i : Nat) (w : World) : Prop := ∀ f ∈ F, anc ops f.1 i = true → f.2 w

def Pure1 (F : List (Nat × (World → Prop))) (o : Oper) (i : Nat) (a : Act) (c : Value) : Prop :=
  ∀ w, Inv w → FactsAt ops F i w → if Region.wanted o (yielded ops a.tmps) = true then (execOp a.eval o).run P w = .ok (.value c) w else c = undef
def Eff1 (F : List (Nat × (World → Prop))) (o : Oper) (i : Nat) (a : Act) (Ri : Value → World → Prop) : Prop :=
  Region.wanted o (yielded ops a.tmps) = true ∧ (∀ v w w', Step w w' → Ri v w → Ri v w') ∧
  ∀ w, Inv w → FactsAt ops F i w → o.wp P a w (fun a' w' => ∃ v, a' = a.put o.dst v ∧ (∀ c, C i = some c → v = c) ∧ Ri v w' ∧ Inv w' ∧ Step w w') (fun _ _ _ => False)

def Chain : List Oper → Nat → List (Nat × (World → Prop)) → Act → Prop
  | [], _, F, a => ∀ w, Inv w → (∀ f ∈ F, f.2 w) → Fin a w
  | o :: rest, i, F, a =>
    match R i with
    | none => ∃ c, Pure1 P ops Inv F o i a c ∧ Chain rest (i + 1) F (a.put o.dst c)
    | some Ri => Eff1 P ops Inv Step C F o i a Ri ∧ ∀ v, (∀ c, C i = some c → v = c) → Chain rest (i + 1) ((i, Ri v) :: F) (a.put o.dst v)

def Good (ev vals : Nat → Value) : List Oper → Nat → List (Nat × (World → Prop)) → Act → Prop
  | [], _, F, a => ∀ w, Inv w → (∀ f ∈ F, f.2 w) → Fin a w
  | o :: rest, i, F, a =>
    match R i with
    | none => Pure1 P ops Inv F o i a (vals i) ∧ Good ev vals rest (i + 1) F (a.put o.dst (vals i))
    | some Ri => Eff1 P ops Inv Step C F o i a Ri ∧ vals i = (C i).getD (ev i) ∧ Good ev vals rest (i + 1) ((i, Ri (vals i)) :: F) (a.put o.dst (vals i))

variable {P ops Inv Step R C Fin}

theorem Good.congr {ev vals vals' : Nat → Value} : ∀ (l : List Oper) (i : Nat) (F : List (Nat × (World → Prop))) (a : Act), (∀ k, i ≤ k → vals' k = vals k) →
    Good P ops Inv Step R C Fin ev vals l i F a → Good P ops Inv Step R C Fin ev vals' l i F a := by
  intro l
  induction l with
  | nil => intro i F a _ h; exact h
  | cons o l ih =>
    intro i F a he h
    unfold Good at h ⊢
    cases hR : R i with
    | none =>
      simp only [hR] at h ⊢
      rw [he i (Nat.le_refl _)]
      exact ⟨h.1, ih _ _ _ (fun k hk => he k (by omega)) h.2⟩
    | some Ri =>
      simp only [hR] at h ⊢
      rw [he i (Nat.le_refl _)]
      exact ⟨h.1, h.2.1, ih _ _ _ (fun k hk => he k (by omega)) h.2.2⟩

theorem Chain.good : ∀ (l : List Oper) (i : Nat) (F : List (Nat × (World → Prop))) (a : Act), Chain P ops Inv Step R C Fin l i F a → ∀ ev, ∃ vals, Good P ops Inv Step R C Fin ev vals l i F a := by
  intro l
  induction l with
  | nil => intro i F a h ev; exact ⟨ev, h⟩
  | cons o l ih =>
    intro i F a h ev
    unfold Chain at h
    cases hR : R i with
    | none =>
      simp only [hR] at h
      obtain ⟨c, hp, hc⟩ := h
      obtain ⟨vals, hv⟩ := ih _ _ _ hc ev
      refine ⟨fun k => if k = i then c else vals k, ?_⟩
      unfold Good
      simp only [hR, if_true]
      exact ⟨hp, Good.congr _ _ _ _ (fun k hk => by rw [if_neg (by omega)]) hv⟩
    | some Ri =>
      simp only [hR] at h
      obtain ⟨vals, hv⟩ := ih _ _ _ (h.2 ((C i).getD (ev i)) (fun c hc => by rw [hc]; rfl)) ev
      refine ⟨fun k => if k = i then (C i).getD (ev i) else vals k, ?_⟩
      unfold Good
      simp only [hR, if_true]
      exact ⟨h.1, trivial, Good.congr _ _ _ _ (fun k hk => by rw [if_neg (by omega)]) hv⟩

/-! ### what the slots hold -/
structure Slots (ops : Array Oper) (a0 a : Act) (L : Nat → Prop) (vals : Nat → Value) : Prop where
  defers : a.defers = a0.defers
  size : a.tmps.size = a0.tmps.size
  hit : ∀ t j o, L j → ops[j]? = some o → o.dst = some t → t < a0.tmps.size → a.tmps[t]? = some (vals j)
  miss : ∀ t, (∀ j o, L j → ops[j]? = some o → o.dst ≠ some t) → a.tmps[t]? = a0.tmps[t]?

theorem Slots.put {a0 a : Act} {L L' : Nat → Prop} {vals vals' : Nat → Value} {i m : Nat} {o : Oper} (hok : Ok ops m) (h : Slots ops a0 a L vals) (hi : ops[i]? = some o)
    (hL : ∀ j, L' j ↔ L j ∨ j = i) (hv : ∀ j, L j → vals' j = vals j) (hn : ¬ L i) : Slots ops a0 (a.put o.dst (vals' i)) L' vals' := by
  cases hd : o.dst with
  | none =>
    refine ⟨h.defers, h.size, fun t j oj hj hoj ht hlt => ?_, fun t hm => h.miss t fun j oj hj hoj => hm j oj ((hL j).2 (.inl hj)) hoj⟩
    rcases (hL j).1 hj with hj | rfl
    · rw [hv j hj]; exact h.hit t j oj hj hoj ht hlt
    · rw [hi] at hoj; cases hoj; rw [hd] at ht; cases ht
  | some d =>
    refine ⟨h.defers, by simp [Act.put, h.size], fun t j oj hj hoj ht hlt => ?_, fun t hm => ?_⟩
    · rcases (hL j).1 hj with hj | rfl
      · have hne : j ≠ i := fun e => hn (e ▸ hj)
        have hdt : d ≠ t := fun e => hok.apart i o j oj hi hoj hne d hd (e ▸ ht)
        simp only [Act.put, Array.getElem?_setIfInBounds_ne hdt]
        rw [hv j hj]
        exact h.hit t j oj hj hoj ht hlt
      · rw [hi] at hoj
        cases hoj
        rw [hd] at ht
        cases ht
        simp [Act.put, h.size, hlt]
    · have hdt : d ≠ t := fun e => hm i o ((hL i).2 (.inr rfl)) hi (by rw [hd, e])
      simp only [Act.put, Array.getElem?_setIfInBounds_ne hdt]
      exact h.miss t fun j oj hj hoj => hm j oj ((hL j).2 (.inl hj)) hoj

/-- Two acts that agree where an operation looks. -/
theorem Slots.look {a0 a a' : Act} {L L' : Nat → Prop} {vals vals' : Nat → Value} {t : Tmp} (h : Slots ops a0 a L vals) (h' : Slots ops a0 a' L' vals')
    (hk : ∀ k o, ops[k]? = some o → o.dst = some t → (L k ↔ L' k) ∧ (L k → vals k = vals' k)) : a.tmps[t]? = a'.tmps[t]? := by
  rcases Nat.lt_or_ge t a0.tmps.size with hlt | hge
  · by_cases hx : ∃ k o, L k ∧ ops[k]? = some o ∧ o.dst = some t
    · obtain ⟨k, o, hL, ho, hd⟩ := hx
      obtain ⟨h1, h2⟩ := hk k o ho hd
      rw [h.hit t k o hL ho hd hlt, h'.hit t k o (h1.1 hL) ho hd hlt, h2 hL]
    · rw [h.miss t fun j o hj ho hd => hx ⟨j, o, hj, ho, hd⟩, h'.miss t fun j o hj ho hd => hx ⟨j, o, (hk j o ho hd).1.2 hj, ho, hd⟩]
  · rw [Array.getElem?_eq_none (by rw [h.size]; exact hge), Array.getElem?_eq_none (by rw [h'.size]; exact hge)]

theorem Slots.same {a0 a a' : Act} {L L' : Nat → Prop} {vals : Nat → Value} (h : Slots ops a0 a L vals) (h' : Slots ops a0 a' L' vals) (hL : ∀ k o, ops[k]? = some o → (L k ↔ L' k)) : a = a' := by
  obtain ⟨ts, ds⟩ := a
  obtain ⟨ts', ds'⟩ := a'
  have e1 : ds = ds' := h.defers.trans h'.defers.symm
  have e2 : ts = ts' := Array.ext_getElem? fun t => h.look h' fun k o ho _ => ⟨hL k o ho, fun _ => rfl⟩
  rw [e1, e2]

theorem exec_look {o : Oper} {a a' : Act} (hp : plainOp o.op = true) (h : ∀ t ∈ o.looksAt ops, a.tmps[t]? = a'.tmps[t]?) : execOp a.eval o = execOp a'.eval o := by
  refine execOp_congr o (fun cs b e => by rw [e] at hp; cases hp) fun x hx => ?_
  cases x with
  | tmp t =>
    have ht : t ∈ o.looksAt ops := List.mem_append_left _ (List.mem_filterMap.2 ⟨.tmp t, by simpa using hx, rfl⟩)
    simp only [Act.eval, Array.getD_eq_getD_getElem?, h t ht]
  | const v => rfl
  | global g => rfl
  | func f => rfl

theorem wanted_look {o : Oper} {a a' : Act} (h : ∀ t ∈ o.looksAt ops, a.tmps[t]? = a'.tmps[t]?) : Region.wanted o (yielded ops a.tmps) = Region.wanted o (yielded ops a'.tmps) := by
  unfold Region.wanted
  cases hg : o.guard with
  | none => rfl
  | some gw =>
    obtain ⟨g, want⟩ := gw
    have hy : yielded ops a.tmps g = yielded ops a'.tmps g := by
      unfold yielded
      cases ht : (ops[g]?).bind (·.dst) with
      | none => rfl
      | some t =>
        have hl : t ∈ o.looksAt ops := by simp [Oper.looksAt, hg, ht]
        simp only [Option.bind_some, h t hl]
    simp only [hy]

theorem put_same {a a' : Act} {d : Option Tmp} {u v : Value} (hs : a.tmps.size = a'.tmps.size) (h : a.put d u = a.put d v) : a'.put d u = a'.put d v := by
  cases d with
  | none => rfl
  | some d =>
    rcases Nat.lt_or_ge d a.tmps.size with hlt | hge
    · have h1 := congrArg (fun b : Act => b.tmps[d]?) h
      simp [Act.put, hlt] at h1
      rw [h1]
    · have hge' : a'.tmps.size ≤ d := by omega
      simp [Act.put, Array.setIfInBounds_eq_of_size_le hge']

/-- An operation's run, carried from one act to another that agrees where it looks. -/
theorem wp_look {o : Oper} {a a' : Act} {w : World} {T : Value → World → Prop} (hp : plainOp o.op = true) (hs : a.tmps.size = a'.tmps.size) (h : ∀ t ∈ o.looksAt ops, a.tmps[t]? = a'.tmps[t]?)
    (hh : o.wp P a w (fun b w' => ∃ v, b = a.put o.dst v ∧ T v w') (fun _ _ _ => False)) {K : Act → World → Prop} {Q : Exit → Act → World → Prop} (hK : ∀ v w', T v w' → K (a'.put o.dst v) w') :
    o.wp P a' w K Q := by
  unfold Oper.wp at *
  rw [← exec_look hp h]
  have key : ∀ u w', (∃ v, a.put o.dst u = a.put o.dst v ∧ T v w') → K (a'.put o.dst u) w' := fun u w' ⟨v, hv, ht⟩ => by rw [put_same hs hv]; exact hK v w' ht
  generalize (execOp a.eval o).run P w = r at *
  cases r with
  | ok n w' =>
    cases n <;> simp only [Oper.upon] at hh ⊢
    case value u => exact key _ _ hh
    case skip => exact key _ _ hh
    case defer d =>
      obtain ⟨v, hv, _⟩ := hh
      have := congrArg (fun b : Act => b.defers.length) hv
      cases hd : o.dst <;> simp [Act.put, hd] at this
    case enter f args =>
      refine Calls.mono hh fun e w'' he => ?_
      cases e with
      | returned u => exact key _ _ he
      | panicked c => exact he.elim
      | outgrown => obtain ⟨_, _, hf⟩ := he; exact hf.elim
    case row row args => exact Rows.mono hh fun u w'' he => key _ _ he
  | halt x w' => cases x <;> simp only [Oper.upon] at hh ⊢

end
end Reg
end Go.Proofs.YtgmhkjmnfafccaaGreatDoor
