/- The region law, part 2: the chain serves every order. -/
import Derived.Test.YtgmhkjmnfafccaaGreatDoorReg
namespace Go.Proofs.YtgmhkjmnfafccaaGreatDoor
namespace Reg
section
variable {P : Program} {ops : Array Oper} {Inv : World → Prop} {Step : World → World → Prop} {R : Nat → Option (Value → World → Prop)} {C : Nat → Option Value} {Fin : Act → World → Prop} {m : Nat} {a0 : Act}

def FOk (R : Nat → Option (Value → World → Prop)) (vals : Nat → Value) (F : List (Nat × (World → Prop))) (i : Nat) : Prop :=
  ∀ f ∈ F, ∃ Rj, R f.1 = some Rj ∧ f.1 < i ∧ f.2 = Rj (vals f.1)

/-- What the chain says of operation k. -/
def SpecAt (P : Program) (ops : Array Oper) (Inv : World → Prop) (Step : World → World → Prop) (R : Nat → Option (Value → World → Prop)) (C : Nat → Option Value) (a0 : Act) (ev vals : Nat → Value) (k : Nat) (o : Oper) : Prop :=
  ∃ Fk ak, FOk R vals Fk k ∧ Slots ops a0 ak (· < k) vals ∧
    (R k = none → Pure1 P ops Inv Fk o k ak (vals k)) ∧ (∀ Ri, R k = some Ri → Eff1 P ops Inv Step C Fk o k ak Ri ∧ vals k = (C k).getD (ev k))

theorem Good.at_ (hok : Ok ops m) {ev vals : Nat → Value} : ∀ (l : List Oper) (i : Nat) (F : List (Nat × (World → Prop))) (a : Act), Good P ops Inv Step R C Fin ev vals l i F a →
    (∀ k o, l[k]? = some o → ops[i + k]? = some o) → Slots ops a0 a (· < i) vals → FOk R vals F i →
    (∀ k o, l[k]? = some o → SpecAt P ops Inv Step R C a0 ev vals (i + k) o) ∧
    (∃ Fn an, FOk R vals Fn (i + l.length) ∧ Slots ops a0 an (· < i + l.length) vals ∧ ∀ w, Inv w → (∀ f ∈ Fn, f.2 w) → Fin an w) := by
  intro l
  induction l with
  | nil => intro i F a h _ hs hF; exact ⟨by simp, F, a, hF, hs, h⟩
  | cons o l ih =>
    intro i F a h hl hs hF
    have hoi : ops[i]? = some o := by simpa using hl 0 o (by simp)
    have hl' : ∀ k o', l[k]? = some o' → ops[i + 1 + k]? = some o' := fun k o' hk => by
      have := hl (k + 1) o' (by simpa using hk)
      rw [show i + 1 + k = i + (k + 1) from by omega]; exact this
    have hs' : Slots ops a0 (a.put o.dst (vals i)) (· < i + 1) vals := hs.put hok hoi (fun j => by omega) (fun _ _ => rfl) (by omega)
    have shift : ∀ (k : Nat), i + 1 + k = i + (k + 1) := by intro k; omega
    unfold Good at h
    cases hR : R i with
    | none =>
      simp only [hR] at h
      have hF' : FOk R vals F (i + 1) := fun f hf => by obtain ⟨Rj, h1, h2, h3⟩ := hF f hf; exact ⟨Rj, h1, by omega, h3⟩
      obtain ⟨h1, h2⟩ := ih (i + 1) F _ h.2 hl' hs' hF'
      refine ⟨fun k o' hk => ?_, ?_⟩
      · cases k with
        | zero =>
          simp at hk
          subst hk
          exact ⟨F, a, hF, hs, fun _ => h.1, fun Ri hRi => by rw [Nat.add_zero, hR] at hRi; cases hRi⟩
        | succ k => rw [← shift]; exact h1 k o' (by simpa using hk)
      · rw [List.length_cons, ← shift]; exact h2
    | some Ri =>
      simp only [hR] at h
      have hF' : FOk R vals ((i, Ri (vals i)) :: F) (i + 1) := fun f hf => by
        rcases List.mem_cons.1 hf with rfl | hf
        · exact ⟨Ri, hR, Nat.lt_succ_self _, rfl⟩
        · obtain ⟨Rj, h1, h2, h3⟩ := hF f hf; exact ⟨Rj, h1, by omega, h3⟩
      obtain ⟨h1, h2⟩ := ih (i + 1) _ _ h.2.2 hl' hs' hF'
      refine ⟨fun k o' hk => ?_, ?_⟩
      · cases k with
        | zero =>
          simp at hk
          subst hk
          exact ⟨F, a, hF, hs, (fun hn => by rw [Nat.add_zero, hR] at hn; cases hn), fun Rk hRk => by rw [Nat.add_zero, hR] at hRk; cases hRk; exact ⟨h.1, h.2.1⟩⟩
        | succ k => rw [← shift]; exact h1 k o' (by simpa using hk)
      · rw [List.length_cons, ← shift]; exact h2

theorem anc_lt (hok : Ok ops m) : ∀ k j, anc ops j k = true → j < k := by
  intro k
  induction k using Nat.strongRecOn with
  | _ k ih =>
    intro j h
    obtain ⟨o, ho, e, he, hb, h1⟩ := anc_spec h
    have hlt := hok.edge k o ho e he hb
    rcases h1 with h1 | h1
    · omega
    · have := ih e.on hlt j h1; omega

def On (listed : Array Bool) (k : Nat) : Prop := listed.getD k false = true
theorem On.not {listed : Array Bool} {k : Nat} (h : ¬ On listed k) : listed.getD k false = false := by
  unfold On at h; revert h; cases listed.getD k false <;> simp

/-- What holds of a state of the run, while its head is run. -/
structure St (P : Program) (ops : Array Oper) (Inv : World → Prop) (Step : World → World → Prop) (R : Nat → Option (Value → World → Prop)) (m : Nat) (a0 : Act) (V : (Nat → Value) → Nat → Value) (listed : Array Bool) (a : Act) (w : World) (ev : Nat → Value) : Prop where
  sz : listed.size = ops.size
  closed : ∀ k, On listed k → ∀ j, anc ops j k = true → On listed j
  head : ∀ k, On listed k → k < m
  inv : Inv w
  slots : Slots ops a0 a (On listed) (V ev)
  facts : ∀ i Ri, On listed i → R i = some Ri → Ri (V ev i) w

theorem stable (hok : Ok ops m) {V : (Nat → Value) → Nat → Value} (hV : ∀ ev k o, k < m → ops[k]? = some o → SpecAt P ops Inv Step R C a0 ev (V ev) k o) {listed : Array Bool} {w : World} {ev ev' : Nat → Value}
    (hc : ∀ k, On listed k → ∀ j, anc ops j k = true → On listed j) (hh : ∀ k, On listed k → k < m) (hI : Inv w) (hf : ∀ i Ri, On listed i → R i = some Ri → Ri (V ev i) w)
    (he : ∀ j, On listed j → ev j = ev' j) : ∀ j, On listed j → V ev' j = V ev j := by
  intro j
  induction j using Nat.strongRecOn with
  | _ j ih =>
    intro hj
    have hjm := hh j hj
    have hjs : j < ops.size := Nat.lt_of_lt_of_le hjm hok.le
    have hoj : ops[j]? = some ops[j] := by simp [hjs]
    obtain ⟨F1, a1, hF1, hs1, hp1, he1⟩ := hV ev j _ hjm hoj
    obtain ⟨F2, a2, hF2, hs2, hp2, he2⟩ := hV ev' j _ hjm hoj
    cases hR : R j with
    | some Ri => rw [(he1 Ri hR).2, (he2 Ri hR).2, he j hj]
    | none =>
      have look : ∀ t ∈ (ops[j]).looksAt ops, a1.tmps[t]? = a2.tmps[t]? := fun t ht => hs1.look hs2 fun k o hk hd => ⟨Iff.rfl, fun hkj => by
        rcases hok.look j _ k o t hoj hk (by omega) hd ht with h | h
        · exact (ih k hkj (hc j hj k h)).symm
        · have := anc_lt hok _ _ h; omega⟩
      have fa1 : FactsAt ops F1 j w := fun f hfm ha => by
        obtain ⟨Rj, h1, h2, h3⟩ := hF1 f hfm
        rw [h3]; exact hf _ _ (hc j hj _ ha) h1
      have fa2 : FactsAt ops F2 j w := fun f hfm ha => by
        obtain ⟨Rj, h1, h2, h3⟩ := hF2 f hfm
        rw [h3, ih f.1 h2 (hc j hj _ ha)]; exact hf _ _ (hc j hj _ ha) h1
      have g1 := hp1 hR w hI fa1
      have g2 := hp2 hR w hI fa2
      rw [wanted_look look, exec_look (hok.plain j _ hoj) look] at g1
      split at g1
      · rename_i hw
        rw [if_pos hw] at g2
        rw [g2] at g1
        injection g1 with g1
        injection g1
      · rename_i hw
        rw [if_neg hw] at g2
        rw [g1, g2]

theorem countP_lt {p q : Nat → Bool} (h : ∀ x, q x = true → p x = true) {i : Nat} (hp : p i = true) (hq : q i = false) : ∀ (l : List Nat), i ∈ l → l.countP q < l.countP p := by
  have le : ∀ (l : List Nat), l.countP q ≤ l.countP p := fun l => List.countP_mono_left fun x _ => h x
  intro l
  induction l with
  | nil => intro hi; cases hi
  | cons x l ih =>
    intro hi
    rw [List.countP_cons, List.countP_cons]
    rcases List.mem_cons.1 hi with rfl | hi
    · have := le l
      simp [hp, hq]; omega
    · have h1 := ih hi
      have h2 := h x
      cases hqx : q x <;> cases hpx : p x <;> simp_all <;> omega

def left (ops : Array Oper) (listed : Array Bool) : Nat := (List.range ops.size).countP fun k => !listed.getD k false

theorem left_set {listed : Array Bool} {i : Nat} (hs : listed.size = ops.size) (hi : i < ops.size) (hu : ¬ On listed i) : left ops (listed.setIfInBounds i true) < left ops listed := by
  refine countP_lt (fun x hx => ?_) (i := i) ?_ ?_ _ (List.mem_range.2 hi)
  · by_cases hxi : i = x
    · subst hxi
      simp [hs, hi] at hx
    · rw [getD_set_ne false hxi] at hx; exact hx
  · rw [On.not hu]; rfl
  · simp [hs, hi]

theorem ready_of {listed : Array Bool} (hs : listed.size = ops.size) (hok : Ok ops m) {i : Nat} (hi : i < ops.size) (hu : ¬ On listed i) : ∃ k, k ∈ Region.ready .any ops listed := by
  induction i using Nat.strongRecOn with
  | _ i ih =>
    have hoi : ops[i]? = some ops[i] := by simp [hi]
    by_cases hall : ∀ e ∈ (ops[i]).after, Region.binds .any e = true → listed.getD e.on false = true
    · refine ⟨i, mem_ready.2 ⟨getD_in (by omega) (On.not hu), _, hoi, hall⟩⟩
    · have ⟨e, he⟩ := Classical.not_forall.1 hall
      have ⟨hem, he2⟩ := Classical.not_imp.1 he
      have ⟨hb, he3⟩ := Classical.not_imp.1 he2
      have hlt := hok.edge i _ hoi e hem hb
      exact ih e.on hlt (by omega) he3

/-- Behind the head the order is forced. -/
theorem tail_any {Q : Exit → Act → World → Prop} (hok : Ok ops m) : ∀ (n fuel t : Nat) (listed : Array Bool) (a : Act) (w : World), ops.size - t = n → m ≤ t → t ≤ ops.size → left ops listed ≤ fuel → listed.size = ops.size →
    (∀ k, On listed k ↔ k < t) → wpList P ops Q (ops.toList.drop t) a w → wpAny P .any ops Q fuel listed a w := by
  intro n
  induction n with
  | zero =>
    intro fuel t listed a w hn _ ht _ hs hL h
    have hte : t = ops.size := by omega
    subst hte
    have hr : Region.ready .any ops listed = [] := by
      refine List.eq_nil_iff_forall_not_mem.2 fun k hk => ?_
      obtain ⟨h0, o, ho, _⟩ := mem_ready.1 hk
      have hlt : k < ops.size := (Array.getElem?_eq_some_iff.1 ho).1
      have := (hL k).2 hlt
      unfold On at this
      rw [getD_both h0] at this
      cases this
    rw [List.drop_eq_nil_of_le (by simp)] at h
    exact wpAny_done hr h _
  | succ n ih =>
    intro fuel t listed a w hn hmt ht hf hs hL h
    have htl : t < ops.size := by omega
    have hot : ops[t]? = some ops[t] := by simp [htl]
    have hnt : ¬ On listed t := fun h => by have := (hL t).1 h; omega
    have hr : ∀ k, k ∈ Region.ready .any ops listed → k = t := by
      intro k hk
      obtain ⟨h0, o, ho, hall⟩ := mem_ready.1 hk
      have hkl : k < ops.size := (Array.getElem?_eq_some_iff.1 ho).1
      have hkt : ¬ k < t := fun hlt => by have := (hL k).2 hlt; unfold On at this; rw [getD_both h0] at this; cases this
      rcases Nat.lt_or_ge t k with h1 | h1
      · have h2 := hok.tail1 k (by omega) hkl (by omega)
        -- the one ahead of k is listed, yet it isn't below t
        obtain ⟨o', ho', e, he, hb, h3⟩ := anc_spec h2
        rw [ho] at ho'
        cases ho'
        have h4 : e.on < t := (hL e.on).1 (hall e he hb)
        rcases h3 with h3 | h3
        · omega
        · have := anc_lt hok _ _ h3; omega
      · omega
    have hlf : left ops (listed.setIfInBounds t true) < left ops listed := left_set hs htl hnt
    cases fuel with
    | zero => omega
    | succ fuel =>
      refine ⟨fun h0 => ?_, fun k hk => ?_⟩
      · obtain ⟨k, hk⟩ := ready_of hs hok htl hnt
        rw [h0] at hk; cases hk
      · rw [hr k hk]
        have hd : ops.toList.drop t = ops[t] :: ops.toList.drop (t + 1) := by
          rw [List.drop_eq_getElem_cons (by simpa using htl)]; simp
        rw [hd] at h
        have hstep : ∀ a w, wpList P ops Q (ops.toList.drop (t + 1)) a w → wpAny P .any ops Q fuel (listed.setIfInBounds t true) a w := fun a w h => by
          refine ih fuel (t + 1) _ a w (by omega) (by omega) htl (by omega) (by simp [hs]) (fun k => ?_) h
          by_cases hkt : t = k
          · subst hkt
            simp [On, hs, htl]
          · unfold On
            rw [getD_set_ne false hkt]
            have := hL k
            unfold On at this
            rw [this]; omega
        unfold wpOp
        simp only [hot]
        simp only [wpList] at h
        split
        · rename_i hw
          simp only [hw, if_true] at h
          exact h.imp (Oper.wp_mono hstep) id
        · rename_i hw
          simp only [hw] at h
          exact hstep _ _ h

theorem On.set {listed : Array Bool} {i : Nat} (hi : i < listed.size) (j : Nat) : On (listed.setIfInBounds i true) j ↔ On listed j ∨ j = i := by
  by_cases hji : i = j
  · subst hji
    simp [On, hi]
  · unfold On
    rw [getD_set_ne false hji]
    simp [show j ≠ i from fun e => hji e.symm]

/-- One operation of the head is ready: what it finds. -/
theorem St.found (hok : Ok ops m) {V : (Nat → Value) → Nat → Value} (hV : ∀ ev k o, k < m → ops[k]? = some o → SpecAt P ops Inv Step R C a0 ev (V ev) k o) {listed : Array Bool} {a : Act} {w : World} {ev : Nat → Value}
    (st : St P ops Inv Step R m a0 V listed a w ev) {i : Nat} {o : Oper} (hoi : ops[i]? = some o) (him : i < m) (hni : ¬ On listed i) (hanc : ∀ j, anc ops j i = true → On listed j) :
    ∃ Fi ai, FactsAt ops Fi i w ∧ (∀ t ∈ o.looksAt ops, ai.tmps[t]? = a.tmps[t]?) ∧ ai.tmps.size = a.tmps.size ∧
      (R i = none → Pure1 P ops Inv Fi o i ai (V ev i)) ∧ (∀ Ri, R i = some Ri → Eff1 P ops Inv Step C Fi o i ai Ri ∧ V ev i = (C i).getD (ev i)) := by
  obtain ⟨Fi, ai, hFi, hsi, hpi, hei⟩ := hV ev i o him hoi
  refine ⟨Fi, ai, fun f hfm ha => ?_, fun t ht => hsi.look st.slots fun k o' hk hd => ?_, hsi.size.trans st.slots.size.symm, hpi, hei⟩
  · obtain ⟨Rj, g1, _, g3⟩ := hFi f hfm
    rw [g3]; exact st.facts _ _ (hanc _ ha) g1
  · by_cases hki : k = i
    · subst hki
      exact ⟨⟨fun h => absurd h (Nat.lt_irrefl _), fun h => absurd h hni⟩, fun _ => rfl⟩
    · rcases hok.look i o k o' t hoi hk hki hd ht with h | h
      · exact ⟨⟨fun _ => hanc k h, fun _ => anc_lt hok _ _ h⟩, fun _ => rfl⟩
      · have hlt := anc_lt hok _ _ h
        exact ⟨⟨fun h' => by omega, fun h' => absurd (st.closed k h' i h) hni⟩, fun _ => rfl⟩

/-- The state behind a pure operation. -/
theorem St.pure (hok : Ok ops m) {V : (Nat → Value) → Nat → Value} {listed : Array Bool} {a : Act} {w : World} {ev : Nat → Value}
    (st : St P ops Inv Step R m a0 V listed a w ev) {i : Nat} {o : Oper} (hoi : ops[i]? = some o) (him : i < m) (hni : ¬ On listed i) (hanc : ∀ j, anc ops j i = true → On listed j) (hR : R i = none) :
    St P ops Inv Step R m a0 V (listed.setIfInBounds i true) (a.put o.dst (V ev i)) w ev := by
  have hOn := On.set (listed := listed) (i := i) (by rw [st.sz]; exact (Array.getElem?_eq_some_iff.1 hoi).1)
  refine ⟨by simp [st.sz], fun k hk j hj => ?_, fun k hk => ?_, st.inv, st.slots.put hok hoi hOn (fun _ _ => rfl) hni, fun j Rj hj hRj => ?_⟩
  · rcases (hOn k).1 hk with hk | rfl
    · exact (hOn j).2 (.inl (st.closed k hk j hj))
    · exact (hOn j).2 (.inl (hanc j hj))
  · rcases (hOn k).1 hk with hk | rfl
    · exact st.head k hk
    · exact him
  · rcases (hOn j).1 hj with hj | rfl
    · exact st.facts j Rj hj hRj
    · rw [hR] at hRj; cases hRj

/-- All of the head is run, but for some bare copies. -/
theorem float_any {Q : Exit → Act → World → Prop} (hok : Ok ops m) (hns : Region.noSelect ops = true) (hQ : ∀ c a d v w, Q (.panic c) (a.put d v) w → Q (.panic c) a w) {V : (Nat → Value) → Nat → Value} (hV : ∀ ev k o, k < m → ops[k]? = some o → SpecAt P ops Inv Step R C a0 ev (V ev) k o)
    (hRf : ∀ i, floats ops i = true → R i = none)
    (hFin : ∀ ev, ∃ Fn an, FOk R (V ev) Fn m ∧ Slots ops a0 an (· < m) (V ev) ∧ ∀ w, Inv w → (∀ f ∈ Fn, f.2 w) → wpList P ops Q (ops.toList.drop m) an w) :
    ∀ (n fuel : Nat) (listed : Array Bool) (a : Act) (w : World) (ev : Nat → Value), left ops listed ≤ n → left ops listed ≤ fuel → (∀ k, k < m → On listed k ∨ floats ops k = true) → St P ops Inv Step R m a0 V listed a w ev → wpAny P .any ops Q fuel listed a w := by
  intro n
  induction n with
  | zero =>
    intro fuel listed a w ev hn hf _ st
    have hall : ∀ k, k < ops.size → On listed k := fun k hk => Classical.byContradiction fun hx => by
      have := left_set st.sz hk hx; omega
    obtain ⟨Fn, an, h1, h2, h3⟩ := hFin ev
    have hm : ∀ k, On listed k ↔ k < m := fun k => ⟨st.head k, fun hk => hall k (Nat.lt_of_lt_of_le hk hok.le)⟩
    have ha : an = a := h2.same st.slots fun k o _ => (hm k).symm
    subst ha
    refine tail_any hok _ fuel m listed an w rfl (Nat.le_refl _) hok.le hf st.sz hm (h3 w st.inv fun f hfm => ?_)
    obtain ⟨Rj, g1, g2, g3⟩ := h1 f hfm
    rw [g3]; exact st.facts _ _ ((hm _).2 g2) g1
  | succ n ih =>
    intro fuel listed a w ev hn hf hfl st
    by_cases hall : ∀ k, k < m → On listed k
    · obtain ⟨Fn, an, h1, h2, h3⟩ := hFin ev
      have hm : ∀ k, On listed k ↔ k < m := fun k => ⟨st.head k, hall k⟩
      have ha : an = a := h2.same st.slots fun k o _ => (hm k).symm
      subst ha
      refine tail_any hok _ fuel m listed an w rfl (Nat.le_refl _) hok.le hf st.sz hm (h3 w st.inv fun f hfm => ?_)
      obtain ⟨Rj, g1, g2, g3⟩ := h1 f hfm
      rw [g3]; exact st.facts _ _ ((hm _).2 g2) g1
    · -- the first copy that is left
      have ⟨u, hu⟩ := Classical.not_forall.1 hall
      have ⟨hum, hun⟩ := Classical.not_imp.1 hu
      have first : ∀ u, u < m → ¬ On listed u → ∃ i, i < m ∧ ¬ On listed i ∧ ∀ j, j < i → On listed j := by
        intro u
        induction u using Nat.strongRecOn with
        | _ u ih =>
          intro hum hun
          by_cases hx : ∀ j, j < u → On listed j
          · exact ⟨u, hum, hun, hx⟩
          · have ⟨j, hj⟩ := Classical.not_forall.1 hx
            have ⟨hj1, hj2⟩ := Classical.not_imp.1 hj
            exact ih j hj1 (by omega) hj2
      obtain ⟨i, him, hni, hlt⟩ := first u hum hun
      have hfi : floats ops i = true := (hfl i him).resolve_left hni
      obtain ⟨o, x, hoi, hop, hgd, hfree⟩ := floats_spec hfi
      have his : i < ops.size := (Array.getElem?_eq_some_iff.1 hoi).1
      have hlf := left_set st.sz his hni
      have hanc : ∀ j, anc ops j i = true → On listed j := fun j hj => hlt j (anc_lt hok _ _ hj)
      have hR := hRf i hfi
      obtain ⟨Fi, ai, fa, look, hsz, hpi, _⟩ := st.found hok hV hoi him hni hanc
      have hready : i ∈ Region.ready .any ops listed := mem_ready.2 ⟨getD_in (by rw [st.sz]; exact his) (On.not hni), o, hoi, fun e he hb => hlt e.on (hok.edge i o hoi e he hb)⟩
      have hw : ∀ b : Act, Region.wanted o (yielded ops b.tmps) = true := fun b => by simp [Region.wanted, hgd]
      have hrun : ∀ w', (execOp a.eval o).run P w' = .ok (.value (a.eval x)) w' := fun w' => by simp [execOp, hop, Sem.run_pure]
      have hval : V ev i = a.eval x := by
        have g := hpi hR w st.inv fa
        rw [if_pos (hw ai), exec_look (hok.plain i _ hoi) look, hrun w] at g
        injection g with g
        injection g with g
        exact g.symm
      cases fuel with
      | zero => omega
      | succ fuel =>
        have st' := st.pure hok hoi him hni hanc hR
        rw [hval] at st'
        refine wpAny_first hoi (Region.noSelect_spec hns) (fun c a w => hQ c a _ _ w) fuel listed a w (fun k ok hk hne _ hno => hfree k ok hk hne hno) hready (.inl ⟨hw a, hrun⟩) (ih fuel _ _ w ev (by omega) (by omega) (fun k hk => ?_) st')
        rcases hfl k hk with h | h
        · exact .inl ((On.set (by rw [st.sz]; exact his) k).2 (.inl h))
        · exact .inr h

theorem head_any {Q : Exit → Act → World → Prop} (hok : Ok ops m) (hns : Region.noSelect ops = true) (hQ : ∀ c a d v w, Q (.panic c) (a.put d v) w → Q (.panic c) a w) {V : (Nat → Value) → Nat → Value} (hV : ∀ ev k o, k < m → ops[k]? = some o → SpecAt P ops Inv Step R C a0 ev (V ev) k o)
    (hRf : ∀ i, floats ops i = true → R i = none)
    (hFin : ∀ ev, ∃ Fn an, FOk R (V ev) Fn m ∧ Slots ops a0 an (· < m) (V ev) ∧ ∀ w, Inv w → (∀ f ∈ Fn, f.2 w) → wpList P ops Q (ops.toList.drop m) an w) :
    ∀ (fuel : Nat) (listed : Array Bool) (a : Act) (w : World) (ev : Nat → Value), left ops listed ≤ fuel → St P ops Inv Step R m a0 V listed a w ev → wpAny P .any ops Q fuel listed a w := by
  intro fuel
  induction fuel with
  | zero =>
    intro listed a w ev hf st
    have hall : ∀ k, k < ops.size → On listed k := fun k hk => Classical.byContradiction fun hn => by
      have := left_set st.sz hk hn; omega
    exact float_any hok hns hQ hV hRf hFin 0 0 listed a w ev hf hf (fun k hk => .inl (hall k (Nat.lt_of_lt_of_le hk hok.le))) st
  | succ fuel ih =>
    intro listed a w ev hf st
    by_cases hall : ∀ k, k < m → On listed k ∨ (m < ops.size ∧ floats ops k = true)
    · exact float_any hok hns hQ hV hRf hFin _ (fuel + 1) listed a w ev (Nat.le_refl _) hf (fun k hk => (hall k hk).imp id And.right) st
    · have ⟨u, hu⟩ := Classical.not_forall.1 hall
      have ⟨hum, hun'⟩ := Classical.not_imp.1 hu
      have hun : ¬ On listed u := fun h => hun' (.inl h)
      have hus : u < ops.size := Nat.lt_of_lt_of_le hum hok.le
      refine ⟨fun h0 => ?_, fun i hi => ?_⟩
      · obtain ⟨k, hk⟩ := ready_of st.sz hok hus hun
        rw [h0] at hk; cases hk
      · obtain ⟨h0, o, hoi, hedges⟩ := mem_ready.1 hi
        have his : i < ops.size := (Array.getElem?_eq_some_iff.1 hoi).1
        have hni : ¬ On listed i := fun h => by unfold On at h; rw [getD_both h0] at h; cases h
        -- its forebears are listed
        have hanc : ∀ j, anc ops j i = true → On listed j := fun j hj => by
          obtain ⟨o', ho', e, he, hb, h3⟩ := anc_spec hj
          rw [hoi] at ho'
          cases ho'
          have hon := hedges e he hb
          rcases h3 with h3 | h3
          · rw [← h3]; exact hon
          · exact st.closed e.on hon j h3
        have him : i < m := by
          rcases Nat.lt_or_ge i m with h | h
          · exact h
          · exfalso
            rcases Nat.lt_or_ge m i with h1 | h1
            · have := st.head _ (hanc _ (hok.tail1 i h his (by omega))); omega
            · have hme : i = m := by omega
              subst hme
              rcases hok.tail2 u hum his with h2 | h2
              · exact hun (hanc u h2)
              · exact hun' (.inr ⟨his, h2⟩)
        obtain ⟨Fi, ai, fa, look, hsz, hpi, hei⟩ := st.found hok hV hoi him hni hanc
        have hleft : left ops (listed.setIfInBounds i true) ≤ fuel := by have := left_set st.sz his hni; omega
        have hOn := On.set (listed := listed) (i := i) (by rw [st.sz]; exact his)
        unfold wpOp
        simp only [hoi]
        cases hR : R i with
        | none =>
          have g := hpi hR w st.inv fa
          rw [wanted_look look, exec_look (hok.plain i _ hoi) look] at g
          have fin := ih _ _ _ ev hleft (st.pure hok hoi him hni hanc hR)
          split
          · rename_i hw
            rw [if_pos hw] at g
            refine .inl ?_
            unfold Oper.wp
            rw [g]
            exact fin
          · rename_i hw
            rw [if_neg hw] at g
            rw [g] at fin
            exact fin
        | some Ri =>
          obtain ⟨⟨hw, hmono, heff⟩, _⟩ := hei Ri hR
          have g := heff w st.inv fa
          rw [wanted_look look] at hw
          rw [if_pos hw]
          refine .inl (wp_look (hok.plain i _ hoi) hsz look g fun v w' ⟨r0, r1, r2, r3⟩ => ?_)
          have hev : ∀ j, On listed j → ev j = (fun k => if k = i then v else ev k) j := fun j hj => by
            have : j ≠ i := fun e => hni (e ▸ hj)
            simp [this]
          have hst := stable hok hV st.closed st.head st.inv st.facts hev
          obtain ⟨_, _, _, _, _, hei'⟩ := hV (fun k => if k = i then v else ev k) i o him hoi
          have hvi : V (fun k => if k = i then v else ev k) i = v := by
            rw [(hei' Ri hR).2]
            cases hC : C i with
            | none => simp
            | some c => rw [r0 c hC]; rfl
          have hsl := st.slots.put (vals' := V (fun k => if k = i then v else ev k)) hok hoi hOn hst hni
          rw [hvi] at hsl
          refine ih _ _ _ (fun k => if k = i then v else ev k) hleft ⟨by simp [st.sz], fun k hk j hj => ?_, fun k hk => ?_, r2, hsl, fun j Rj hj hRj => ?_⟩
          · rcases (hOn k).1 hk with hk | rfl
            · exact (hOn j).2 (.inl (st.closed k hk j hj))
            · exact (hOn j).2 (.inl (hanc j hj))
          · rcases (hOn k).1 hk with hk | rfl
            · exact st.head k hk
            · exact him
          rcases (hOn j).1 hj with hj | rfl
          · rw [hst j hj]
            have hjm := st.head j hj
            have hjs : j < ops.size := Nat.lt_of_lt_of_le hjm hok.le
            obtain ⟨_, _, _, _, _, hej⟩ := hV ev j ops[j] hjm (by simp [hjs])
            exact (hej Rj hRj).1.2.1 _ _ _ r3 (st.facts j Rj hj hRj)
          · rw [hvi]
            rw [hR] at hRj
            cases hRj
            exact r1

/-- THE LAW: a region that draws its order, by one walk in the text's order. 'm': how many operations the chain takes; behind them the order is forced, and they are walked as a plain list. -/
theorem wp_region_chain {id : Nat} {Q : Exit → Act → World → Prop} {w : World} (m : Nat) (Inv : World → Prop) (Step : World → World → Prop) (R : Nat → Option (Value → World → Prop)) (C : Nat → Option Value)
    (hm : P.follows .mixedOrders = true) (hok : ok ops m = true) (hns : Region.noSelect ops = true) (hQ : ∀ c a d v w, Q (.panic c) (a.put d v) w → Q (.panic c) a w) (hRf : ∀ i, floats ops i = true → R i = none) (h0 : Inv w.drew)
    (hc : Chain P ops Inv Step R C (wpList P ops Q (ops.toList.drop m)) (ops.toList.take m) 0 [] a0) : (Code.region id ops true).wp P Q a0 w := by
  have hok := Ok.of hok
  have hgood := Chain.good _ _ _ _ hc
  have hlen : (ops.toList.take m).length = m := by rw [List.length_take, Array.length_toList]; exact Nat.min_eq_left hok.le
  have hget : ∀ k o, (ops.toList.take m)[k]? = some o → ops[0 + k]? = some o := fun k o h => by
    rw [List.getElem?_take] at h
    split at h
    · simpa using h
    · cases h
  have h00 : ∀ vals, Slots ops a0 a0 (· < 0) vals := fun vals => ⟨rfl, rfl, fun t j o hj => absurd hj (by omega), fun t _ => rfl⟩
  let V : (Nat → Value) → Nat → Value := fun ev => (hgood ev).choose
  have hVg : ∀ ev, Good P ops Inv Step R C (wpList P ops Q (ops.toList.drop m)) ev (V ev) (ops.toList.take m) 0 [] a0 := fun ev => (hgood ev).choose_spec
  have hat := fun ev => Good.at_ (a0 := a0) hok _ _ _ _ (hVg ev) hget (h00 _) (fun f hf => by cases hf)
  refine wp_region_any hm ?_
  refine head_any (Inv := Inv) (Step := Step) (R := R) (C := C) (a0 := a0) (V := V) hok hns hQ (fun ev k o hk ho => ?_) hRf (fun ev => ?_) ops.size (Array.replicate ops.size false) a0 w.drew (fun _ => undef) ?_ ⟨by simp, fun k hk => ?_, fun k hk => ?_, h0, ?_, fun i Ri hi => ?_⟩
  · have := (hat ev).1 k o (by rw [List.getElem?_take, if_pos hk]; simpa using ho)
    simpa using this
  · have := (hat ev).2
    rw [hlen, Nat.zero_add] at this
    exact this
  · unfold left
    exact Nat.le_trans List.countP_le_length (by simp)
  · unfold On at hk; rw [getD_replicate_false] at hk; cases hk
  · unfold On at hk; rw [getD_replicate_false] at hk; cases hk
  · refine ⟨rfl, rfl, fun t j o hj => ?_, fun t _ => rfl⟩
    unfold On at hj; rw [getD_replicate_false] at hj; cases hj
  · unfold On at hi; rw [getD_replicate_false] at hi; cases hi

/-- The operations that make or write, each with what is known of its value. -/
def Rof (l : List (Nat × (Value → World → Prop))) (i : Nat) : Option (Value → World → Prop) := match l with
  | [] => none
  | x :: r => if x.1 = i then some x.2 else Rof r i

theorem Rof_some {l : List (Nat × (Value → World → Prop))} {i : Nat} {T : Value → World → Prop} (h : Rof l i = some T) : ∃ x ∈ l, x.1 = i := by
  induction l with
  | nil => cases h
  | cons x l ih =>
    unfold Rof at h
    split at h
    · rename_i hx; exact ⟨x, by simp, hx⟩
    · obtain ⟨y, hy, e⟩ := ih h; exact ⟨y, by simp [hy], e⟩

theorem wp_chain_of {id : Nat} {Q : Exit → Act → World → Prop} {w : World} (m : Nat) (l : List (Nat × (Value → World → Prop))) (Inv : World → Prop) (Step : World → World → Prop)
    (hm : P.follows .mixedOrders = true) (hok : ok ops m = true) (hns : Region.noSelect ops = true) (hl : (l.map (·.1)).all (fun i => !floats ops i) = true)
    (hQ : ∀ c a d v w, Q (.panic c) (a.put d v) w → Q (.panic c) a w) (h0 : Inv w.drew)
    (hc : Chain P ops Inv Step (Rof l) C (wpList P ops Q (ops.toList.drop m)) (ops.toList.take m) 0 [] a0) : (Code.region id ops true).wp P Q a0 w := by
  refine wp_region_chain m Inv Step (Rof l) C hm hok hns hQ (fun i hi => ?_) h0 hc
  cases hR : Rof l i with
  | none => rfl
  | some T =>
    obtain ⟨x, hx, e⟩ := Rof_some hR
    have := List.all_eq_true.1 hl i (List.mem_map.2 ⟨x, hx, e⟩)
    rw [hi] at this
    cases this

/-- The same, no value being known ahead. -/
theorem wp_chain {id : Nat} {Q : Exit → Act → World → Prop} {w : World} (m : Nat) (l : List (Nat × (Value → World → Prop))) (Inv : World → Prop) (Step : World → World → Prop)
    (hm : P.follows .mixedOrders = true) (hok : ok ops m = true) (hns : Region.noSelect ops = true) (hl : (l.map (·.1)).all (fun i => !floats ops i) = true)
    (hQ : ∀ c a d v w, Q (.panic c) (a.put d v) w → Q (.panic c) a w) (h0 : Inv w.drew)
    (hc : Chain P ops Inv Step (Rof l) (fun _ => none) (wpList P ops Q (ops.toList.drop m)) (ops.toList.take m) 0 [] a0) : (Code.region id ops true).wp P Q a0 w :=
  wp_chain_of m l Inv Step hm hok hns hl hQ h0 hc

/-- The values that are known ahead. -/
def Cof (l : List (Nat × Value)) (i : Nat) : Option Value := match l with
  | [] => none
  | x :: r => if x.1 = i then some x.2 else Cof r i

/-- Calls (and allocations) whose values are known ahead: 'cs'; of the others ('l') a predicate. -/
theorem wp_chain_known {id : Nat} {Q : Exit → Act → World → Prop} {w : World} (m : Nat) (cs : List (Nat × Value)) (l : List (Nat × (Value → World → Prop))) (Inv : World → Prop) (Step : World → World → Prop)
    (hm : P.follows .mixedOrders = true) (hok : ok ops m = true) (hns : Region.noSelect ops = true) (hl : (l.map (·.1)).all (fun i => !floats ops i) = true)
    (hQ : ∀ c a d v w, Q (.panic c) (a.put d v) w → Q (.panic c) a w) (h0 : Inv w.drew)
    (hc : Chain P ops Inv Step (Rof l) (Cof cs) (wpList P ops Q (ops.toList.drop m)) (ops.toList.take m) 0 [] a0) : (Code.region id ops true).wp P Q a0 w :=
  wp_chain_of m l Inv Step hm hok hns hl hQ h0 hc

/-! ### the chain's steps -/
/-- An operation that computes or reads, without a guard. -/
theorem chain_plain {o : Oper} {rest : List Oper} {i : Nat} {F : List (Nat × (World → Prop))} {a : Act} (hR : R i = none) (hg : o.guard = none) (c : Value)
    (h : ∀ w, Inv w → FactsAt ops F i w → (execOp a.eval o).run P w = .ok (.value c) w) (hc : Chain P ops Inv Step R C Fin rest (i + 1) F (a.put o.dst c)) : Chain P ops Inv Step R C Fin (o :: rest) i F a := by
  unfold Chain
  simp only [hR]
  refine ⟨c, fun w hI hF => ?_, hc⟩
  have hw : Region.wanted o (yielded ops a.tmps) = true := by simp [Region.wanted, hg]
  rw [if_pos hw]
  exact h w hI hF

/-- The same, whose guard is decided: it is wanted. -/
theorem chain_wanted {o : Oper} {rest : List Oper} {i : Nat} {F : List (Nat × (World → Prop))} {a : Act} (hR : R i = none) (hw : Region.wanted o (yielded ops a.tmps) = true) (c : Value)
    (h : ∀ w, Inv w → FactsAt ops F i w → (execOp a.eval o).run P w = .ok (.value c) w) (hc : Chain P ops Inv Step R C Fin rest (i + 1) F (a.put o.dst c)) : Chain P ops Inv Step R C Fin (o :: rest) i F a := by
  unfold Chain
  simp only [hR]
  refine ⟨c, fun w hI hF => ?_, hc⟩
  rw [if_pos hw]
  exact h w hI hF

/-- It isn't wanted. -/
theorem chain_skip {o : Oper} {rest : List Oper} {i : Nat} {F : List (Nat × (World → Prop))} {a : Act} (hR : R i = none) (hw : Region.wanted o (yielded ops a.tmps) = false)
    (hc : Chain P ops Inv Step R C Fin rest (i + 1) F (a.put o.dst undef)) : Chain P ops Inv Step R C Fin (o :: rest) i F a := by
  unfold Chain
  simp only [hR]
  refine ⟨undef, fun w hI hF => ?_, hc⟩
  rw [if_neg (by rw [hw]; exact Bool.false_ne_true)]

/-- An operation that makes or writes. -/
theorem chain_eff {o : Oper} {rest : List Oper} {i : Nat} {F : List (Nat × (World → Prop))} {a : Act} {Ri : Value → World → Prop} (hR : R i = some Ri) (hw : Region.wanted o (yielded ops a.tmps) = true) (hm : ∀ v w w', Step w w' → Ri v w → Ri v w')
    (h : ∀ w, Inv w → FactsAt ops F i w → ∀ K : Act → World → Prop, (∀ v w' a', a.put o.dst v = a' → Ri v w' → Inv w' → Step w w' → K a' w') → o.wp P a w K (fun _ _ _ => False))
    (hc : ∀ v, Chain P ops Inv Step R C Fin rest (i + 1) ((i, Ri v) :: F) (a.put o.dst v)) (hC : C i = none := by rfl) : Chain P ops Inv Step R C Fin (o :: rest) i F a := by
  unfold Chain
  simp only [hR]
  exact ⟨⟨hw, hm, fun w hI hF => h w hI hF _ fun v w' a' h0 h1 h2 h3 => ⟨v, h0.symm, (fun c hc => by rw [hC] at hc; cases hc), h1, h2, h3⟩⟩, fun v _ => hc v⟩

/-- An operation that makes or writes, its value known ahead. -/
theorem chain_known {o : Oper} {rest : List Oper} {i : Nat} {F : List (Nat × (World → Prop))} {a : Act} {Ri : Value → World → Prop} (c : Value) (hC : C i = some c) (hR : R i = some Ri) (hw : Region.wanted o (yielded ops a.tmps) = true) (hm : ∀ v w w', Step w w' → Ri v w → Ri v w')
    (h : ∀ w, Inv w → FactsAt ops F i w → ∀ K : Act → World → Prop, (∀ w' a', a.put o.dst c = a' → Ri c w' → Inv w' → Step w w' → K a' w') → o.wp P a w K (fun _ _ _ => False))
    (hc : Chain P ops Inv Step R C Fin rest (i + 1) ((i, Ri c) :: F) (a.put o.dst c)) : Chain P ops Inv Step R C Fin (o :: rest) i F a := by
  unfold Chain
  simp only [hR]
  exact ⟨⟨hw, hm, fun w hI hF => h w hI hF _ fun w' a' h0 h1 h2 h3 => ⟨c, h0.symm, (fun c' hc' => by rw [hC] at hc'; injection hc'), h1, h2, h3⟩⟩, fun v hv => by rw [hv c hC]; exact hc⟩

theorem chain_end {i : Nat} {F : List (Nat × (World → Prop))} {a : Act} (h : ∀ w, Inv w → (∀ f ∈ F, f.2 w) → Fin a w) : Chain P ops Inv Step R C Fin [] i F a := h

end
end Reg
end Go.Proofs.YtgmhkjmnfafccaaGreatDoor
