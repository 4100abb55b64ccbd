/- The law of drawn regions: one walk in the text's order serves every order. -/
import Derived.Test.YtgmhkjmnfafccaaGreatDoorEvO
namespace Go.Proofs.YtgmhkjmnfafccaaGreatDoor
open Go.RowKit
namespace Ev
set_option linter.unusedVariables false
open Reg (On anc Ok)

/-! ### the stages of the heap -/
def stage : AH → List (Nat × AH) → Nat → AH
  | H, [], _ => H
  | H, _ :: _, 0 => H
  | _, e :: l, p + 1 => stage e.2 l p
def lastH (H : AH) : List Rec → AH
  | [] => H
  | r :: l => lastH r.H' l
/-- Each record starts where the one before it ended. -/
def Linked : AH → List Rec → Prop
  | _, [] => True
  | H, r :: l => r.H = H ∧ (match r.k with | .eff => True | _ => r.H' = r.H) ∧ Linked r.H' l
theorem eff_stage : ∀ (l : List Rec) (i : Nat) (H : AH), Linked H l → stage H (effGo l i) (effGo l i).length = lastH H l ∧
    (∀ (p i' : Nat) (h : AH), (effGo l i)[p]? = some (i', h) → ∃ (k : Nat) (r : Rec), i' = i + k ∧ l[k]? = some r ∧ r.k = .eff ∧ r.H' = h ∧ r.H = stage H (effGo l i) p ∧ h = stage H (effGo l i) (p + 1)) ∧
    (∀ (k : Nat) (r : Rec), l[k]? = some r → r.k = .eff → ∃ p : Nat, (effGo l i)[p]? = some (i + k, r.H'))
  | [], i, H, _ => ⟨rfl, fun p i' h hp => by simp [effGo] at hp, fun k r hk => by simp at hk⟩
  | r :: l, i, H, ⟨h1, h2, h3⟩ => by
    obtain ⟨g1, g2, g3⟩ := eff_stage l (i + 1) r.H' h3
    cases hk : r.k with
    | eff =>
      have he : effGo (r :: l) i = (i, r.H') :: effGo l (i + 1) := by simp only [effGo, hk]
      rw [he]
      refine ⟨g1, fun p i' h hp => ?_, fun k r' hr' hk' => ?_⟩
      · cases p with
        | zero =>
          simp at hp
          obtain ⟨rfl, rfl⟩ := hp
          refine ⟨0, r, rfl, rfl, hk, rfl, h1, ?_⟩
          show r.H' = stage r.H' (effGo l (i + 1)) 0
          cases effGo l (i + 1) <;> rfl
        | succ p =>
          simp at hp
          obtain ⟨k, r', e1, e2, e3, e4, e5, e6⟩ := g2 p i' h hp
          exact ⟨k + 1, r', by omega, by simpa using e2, e3, e4, e5, e6⟩
      · cases k with
        | zero => simp at hr'; subst hr'; exact ⟨0, rfl⟩
        | succ k =>
          obtain ⟨p, hp⟩ := g3 k r' (by simpa using hr') hk'
          exact ⟨p + 1, by rw [List.getElem?_cons_succ, hp]; congr 2; omega⟩
    | _ =>
      have he : effGo (r :: l) i = effGo l (i + 1) := by simp only [effGo, hk]
      rw [hk] at h2
      have h2 : r.H' = H := h2.trans h1
      rw [he]
      rw [h2] at g1 g2
      refine ⟨by rw [g1]; show _ = lastH r.H' l; rw [h2], fun p i' h hp => ?_, fun k r' hr' hk' => ?_⟩
      · obtain ⟨k, r', e1, e2, e3⟩ := g2 p i' h hp
        exact ⟨k + 1, r', by omega, by simpa using e2, e3⟩
      · cases k with
        | zero => simp at hr'; subst hr'; rw [hk] at hk'; cases hk'
        | succ k =>
          obtain ⟨p, hp⟩ := g3 k r' (by simpa using hr') hk'
          exact ⟨p, by rw [hp]; congr 2; omega⟩

section
variable {P : Program} {T : Tb} {base : Nat} {e e' : Env} {H H' : AH} {w w' : World} {x : AV} {F F' : Fr} {a : Act}
/-! ### what the walk says of each operation -/
def OneOk (P : Program) (T : Tb) (call : FuncId → List AV → AH → Option (AV × AH)) (all : Array Oper) (o : Oper) (r : Rec) : Prop := match r.k with
  | .skip => Region.wanted o (yieldedB all r.F) = false ∧ r.x = .undef
  | .quiet => Region.wanted o (yieldedB all r.F) = true ∧ quietOp (evalO r.F) o.op = true
  | .eff => Region.wanted o (yieldedB all r.F) = true ∧ (evOp P T (evalO r.F) o r.H = some (.val r.x r.H') ∧ r.H'.next ≤ 2 ^ depth ∨ ∃ f args H0, evOp P T (evalO r.F) o r.H = some (.enter f args H0) ∧ call f args H0 = some (r.x, r.H'))
/-- The frames follow each other. -/
def Framed : Fr → List Oper → List Rec → Fr → Prop
  | F, [], [], F' => F' = F
  | F, o :: l, r :: rs, F' => r.F = F ∧ Framed (F.put o.dst r.x) l rs F'
  | _, _, _, _ => False
theorem consR_some {r : Rec} {x : Option (List Rec × Fr × AH)} {l : List Rec} {F : Fr} {H : AH} (h : consR r x = some (l, F, H)) : ∃ l', l = r :: l' ∧ x = some (l', F, H) := by
  unfold consR at h
  split at h
  · cases h; exact ⟨_, rfl, rfl⟩
  · cases h
theorem drawnGo_ok {call : FuncId → List AV → AH → Option (AV × AH)} {all : Array Oper} : ∀ (l : List Oper) (F : Fr) (H : AH) (recs : List Rec) (F' : Fr) (H' : AH), drawnGo P T call all l F H = some (recs, F', H') →
    Framed F l recs F' ∧ Linked H recs ∧ lastH H recs = H' ∧ ∀ (i : Nat) (o : Oper) (r : Rec), l[i]? = some o → recs[i]? = some r → OneOk P T call all o r := by
  intro l
  induction l with
  | nil =>
    intro F H recs F' H' h
    unfold drawnGo at h
    cases h
    exact ⟨rfl, trivial, rfl, fun i o r ho => by simp at ho⟩
  | cons o l ih =>
    intro F H recs F' H' h
    have build : ∀ (r : Rec) (l' : List Rec), recs = r :: l' → r.F = F → r.H = H → (match r.k with | .eff => True | _ => r.H' = r.H) → OneOk P T call all o r →
        drawnGo P T call all l (F.put o.dst r.x) r.H' = some (l', F', H') → Framed F (o :: l) recs F' ∧ Linked H recs ∧ lastH H recs = H' ∧ ∀ (i : Nat) (o' : Oper) (r : Rec), (o :: l)[i]? = some o' → recs[i]? = some r → OneOk P T call all o' r := by
      intro r l' hl hF hH hk h1 hg
      subst hl
      obtain ⟨g1, g2, g3, g4⟩ := ih _ _ _ _ _ hg
      refine ⟨⟨hF, g1⟩, ⟨hH, hk, g2⟩, g3, fun i o' r' ho hr => ?_⟩
      cases i with
      | zero => simp at ho hr; subst ho; subst hr; exact h1
      | succ i => exact g4 i o' r' (by simpa using ho) (by simpa using hr)
    unfold drawnGo at h
    cases hw : Region.wanted o (yieldedB all F) with
    | false =>
      rw [hw] at h
      simp only [cond_false] at h
      obtain ⟨l', rfl, hg⟩ := consR_some h
      exact build _ l' rfl rfl rfl rfl ⟨hw, rfl⟩ hg
    | true =>
      rw [hw] at h
      simp only [cond_true] at h
      split at h
      · rename_i y H1 hev
        cases hb : H1.next.ble 16384 with
        | false => rw [hb] at h; cases h
        | true =>
          rw [hb] at h
          simp only [cond_true] at h
          cases hq : quietOp (evalO F) o.op with
          | true =>
            have hH : H1 = H := quiet_same hq hev
            rw [hq] at h
            obtain ⟨l', rfl, hg⟩ := consR_some h
            exact build _ l' rfl rfl rfl hH ⟨hw, hq⟩ hg
          | false =>
            rw [hq] at h
            obtain ⟨l', rfl, hg⟩ := consR_some h
            exact build _ l' rfl rfl rfl trivial ⟨hw, .inl ⟨hev, Nat.le_of_ble_eq_true hb⟩⟩ hg
      · rename_i f args H1 hev
        split at h
        · rename_i y H2 hc
          obtain ⟨l', rfl, hg⟩ := consR_some h
          exact build _ l' rfl rfl rfl trivial ⟨hw, .inr ⟨f, args, H1, hev, hc⟩⟩ hg
        · cases h
      · cases h

/-! ### frames by their slots -/
structure TS (F0 : Fr) (all : Array Oper) (recs : List Rec) (L : Nat → Prop) (F : Fr) : Prop where
  n : F.n = F0.n
  hit : ∀ t k o r, L k → all[k]? = some o → recs[k]? = some r → o.dst = some t → t < F0.n → F.get t = r.x
  miss : ∀ t, (F0.n ≤ t ∨ ∀ k o, L k → all[k]? = some o → o.dst ≠ some t) → F.get t = F0.get t
structure AS (e : Env) (F0 : Fr) (all : Array Oper) (recs : List Rec) (L : Nat → Prop) (a : Act) : Prop where
  defers : a.defers = []
  size : a.tmps.size = F0.n
  hit : ∀ t k o r, L k → all[k]? = some o → recs[k]? = some r → o.dst = some t → t < F0.n → DR e r.x (a.tmps[t]?.getD undef)
  miss : ∀ t, (F0.n ≤ t ∨ ∀ k o, L k → all[k]? = some o → o.dst ≠ some t) → DR e (F0.get t) (a.tmps[t]?.getD undef)
theorem Fr.get_put_out (F : Fr) (d t : Nat) (x : AV) (h : F.n ≤ t) : (F.put (some d) x).get t = F.get t ∨ d < F.n ∧ t ≠ d := by
  by_cases hd : d < F.n
  · exact .inr ⟨hd, by omega⟩
  · left
    unfold Fr.put
    have hb : Nat.blt d F.n = false := by
      cases hc : Nat.blt d F.n with
      | false => rfl
      | true => rw [Nat.blt_eq] at hc; exact absurd hc hd
    simp only [hb, cond_false]
theorem Fr.get_put_ne (F : Fr) (d t : Nat) (x : AV) (hn : F.n ≤ 1024) (h : t ≠ d) : (F.put (some d) x).get t = F.get t := by
  by_cases hd : d < F.n
  · rw [Fr.get_put F d t x hd hn, if_neg h]
  · unfold Fr.put
    have hb : Nat.blt d F.n = false := by
      cases hc : Nat.blt d F.n with
      | false => rfl
      | true => rw [Nat.blt_eq] at hc; exact absurd hc hd
    simp only [hb, cond_false]
theorem Fr.get_put_big (F : Fr) (d t : Nat) (x : AV) (hn : F.n ≤ 1024) (h : F.n ≤ t) : (F.put (some d) x).get t = F.get t := by
  rcases Fr.get_put_out F d t x h with h | ⟨_, h⟩
  · exact h
  · exact Fr.get_put_ne F d t x hn h
theorem TS.put {F0 : Fr} {all : Array Oper} {recs : List Rec} {L L' : Nat → Prop} {F : Fr} {i m : Nat} {o : Oper} {r : Rec} (hok : Ok all m) (hn : F0.n ≤ 1024) (h : TS F0 all recs L F) (hi : all[i]? = some o) (hr : recs[i]? = some r)
    (hL : ∀ j, L' j ↔ L j ∨ j = i) (hni : ¬ L i) : TS F0 all recs L' (F.put o.dst r.x) := by
  have hFn : F.n ≤ 1024 := by rw [h.n]; exact hn
  cases hd : o.dst with
  | none =>
    refine ⟨h.n, fun t k ok rk hk ho hrk ht hlt => ?_, fun t hm => h.miss t (hm.imp id fun hm k ok hk ho => hm k ok ((hL k).2 (.inl hk)) ho)⟩
    rcases (hL k).1 hk with hk | rfl
    · exact h.hit t k ok rk hk ho hrk ht hlt
    · rw [hi] at ho; cases ho; rw [hd] at ht; cases ht
  | some d =>
    refine ⟨by rw [Fr.put_n, h.n], fun t k ok rk hk ho hrk ht hlt => ?_, fun t hm => ?_⟩
    · rcases (hL k).1 hk with hk | rfl
      · have hne : k ≠ i := fun e => hni (e ▸ hk)
        have hdt : t ≠ d := fun e => hok.apart i o k ok hi ho hne d hd (e ▸ ht)
        rw [Fr.get_put_ne F d t _ hFn hdt]
        exact h.hit t k ok rk hk ho hrk ht hlt
      · rw [hi] at ho
        cases ho
        rw [hd] at ht
        cases ht
        rw [hr] at hrk
        cases hrk
        rw [Fr.get_put F d d _ (by rw [h.n]; exact hlt) hFn, if_pos rfl]
    · rcases hm with hm | hm
      · rw [Fr.get_put_big F d t _ hFn (by rw [h.n]; exact hm)]
        exact h.miss t (.inl hm)
      · have hdt : t ≠ d := fun e => hm i o ((hL i).2 (.inr rfl)) hi (by rw [hd, e])
        rw [Fr.get_put_ne F d t _ hFn hdt]
        exact h.miss t (.inr fun k ok hk ho => hm k ok ((hL k).2 (.inl hk)) ho)
theorem AS.put {F0 : Fr} {all : Array Oper} {recs : List Rec} {L L' : Nat → Prop} {i m : Nat} {o : Oper} {r : Rec} {y : Value} (hok : Ok all m) (h : AS e F0 all recs L a) (he : ELe e e') (hi : all[i]? = some o) (hr : recs[i]? = some r)
    (hL : ∀ j, L' j ↔ L j ∨ j = i) (hni : ¬ L i) (hy : DR e' r.x y) : AS e' F0 all recs L' (a.put o.dst y) := by
  cases hd : o.dst with
  | none =>
    refine ⟨h.defers, h.size, fun t k ok rk hk ho hrk ht hlt => ?_, fun t hm => (h.miss t (hm.imp id fun hm k ok hk ho => hm k ok ((hL k).2 (.inl hk)) ho)).mono he⟩
    rcases (hL k).1 hk with hk | rfl
    · exact (h.hit t k ok rk hk ho hrk ht hlt).mono he
    · rw [hi] at ho; cases ho; rw [hd] at ht; cases ht
  | some d =>
    refine ⟨h.defers, by simp [Act.put, h.size], fun t k ok rk hk ho hrk ht hlt => ?_, fun t hm => ?_⟩
    · rcases (hL k).1 hk with hk | rfl
      · have hne : k ≠ i := fun e => hni (e ▸ hk)
        have hdt : d ≠ t := fun e => hok.apart i o k ok hi ho hne d hd (e ▸ ht)
        simp only [Act.put, Array.getElem?_setIfInBounds_ne hdt]
        exact (h.hit t k ok rk hk ho hrk ht hlt).mono he
      · rw [hi] at ho
        cases ho
        rw [hd] at ht
        cases ht
        rw [hr] at hrk
        cases hrk
        simp [Act.put, h.size, hlt]
        exact hy
    · rcases hm with hm | hm
      · have h1 : (a.put (some d) y).tmps[t]? = a.tmps[t]? := by
          rw [Array.getElem?_eq_none (xs := a.tmps) (by rw [h.size]; exact hm), Array.getElem?_eq_none (by simpa [Act.put, h.size] using hm)]
        rw [h1]
        exact (h.miss t (.inl hm)).mono he
      · have hdt : d ≠ t := fun e => hm i o ((hL i).2 (.inr rfl)) hi (by rw [hd, e])
        simp only [Act.put, Array.getElem?_setIfInBounds_ne hdt]
        exact (h.miss t (.inr fun k ok hk ho => hm k ok ((hL k).2 (.inl hk)) ho)).mono he
theorem AS.mono {F0 : Fr} {all : Array Oper} {recs : List Rec} {L : Nat → Prop} (h : AS e F0 all recs L a) (he : ELe e e') : AS e' F0 all recs L a :=
  ⟨h.defers, h.size, fun t k o r h1 h2 h3 h4 h5 => (h.hit t k o r h1 h2 h3 h4 h5).mono he, fun t hm => (h.miss t hm).mono he⟩
/-- Where two agree. -/
theorem AS.look {F0 : Fr} {all : Array Oper} {recs : List Rec} {L L' : Nat → Prop} {t : Nat} (hlen : recs.length = all.size) (h : AS e F0 all recs L a) (h' : TS F0 all recs L' F)
    (hk : ∀ k o, all[k]? = some o → o.dst = some t → (L k ↔ L' k)) : DR e (F.get t) (a.tmps[t]?.getD undef) := by
  rcases Nat.lt_or_ge t F0.n with hlt | hge
  · by_cases hx : ∃ k o, L k ∧ all[k]? = some o ∧ o.dst = some t
    · obtain ⟨k, o, hL, ho, hd⟩ := hx
      have hks : k < all.size := (Array.getElem?_eq_some_iff.1 ho).1
      have hr : recs[k]? = some recs[k] := by simp [hlen, hks]
      rw [h'.hit t k o _ ((hk k o ho hd).1 hL) ho hr hd hlt]
      exact h.hit t k o _ hL ho hr hd hlt
    · have h1 : ∀ k o, L k → all[k]? = some o → o.dst ≠ some t := fun k o hL ho hd => hx ⟨k, o, hL, ho, hd⟩
      rw [h'.miss t (.inr fun k o hL ho hd => h1 k o ((hk k o ho hd).2 hL) ho hd)]
      exact h.miss t (.inr h1)
  · rw [h'.miss t (.inl hge)]
    exact h.miss t (.inl hge)
/-- The text's frames, by their slots. -/
theorem framed_ts {F0 : Fr} {all : Array Oper} {recs : List Rec} {m : Nat} (hok : Ok all m) (hn : F0.n ≤ 1024) : ∀ (l : List Oper) (rs : List Rec) (F F' : Fr) (i : Nat), Framed F l rs F' →
    (∀ k o, l[k]? = some o → all[i + k]? = some o) → (∀ k r, rs[k]? = some r → recs[i + k]? = some r) → TS F0 all recs (· < i) F →
    rs.length = l.length ∧ TS F0 all recs (· < i + l.length) F' ∧ ∀ k r, rs[k]? = some r → TS F0 all recs (· < i + k) r.F
  | [], [], F, F', i, h, _, _, hs => by
    have h : F' = F := h
    subst h
    exact ⟨rfl, hs, fun k r hk => by simp at hk⟩
  | o :: l, r :: rs, F, F', i, h, hl, hr, hs => by
    obtain ⟨h1, h2⟩ := h
    have hoi : all[i]? = some o := by simpa using hl 0 o (by simp)
    have hri : recs[i]? = some r := by simpa using hr 0 r (by simp)
    obtain ⟨g1, g2, g3⟩ := framed_ts hok hn l rs _ F' (i + 1) h2 (fun k o' hk => by
      have := hl (k + 1) o' (by simpa using hk)
      rw [show i + 1 + k = i + (k + 1) from by omega]; exact this) (fun k r' hk => by
      have := hr (k + 1) r' (by simpa using hk)
      rw [show i + 1 + k = i + (k + 1) from by omega]; exact this) (hs.put hok hn hoi hri (fun j => by omega) (by omega))
    refine ⟨by simp [g1], by rw [List.length_cons, show i + (l.length + 1) = i + 1 + l.length from by omega]; exact g2, fun k r' hk => ?_⟩
    cases k with
    | zero => simp at hk; subst hk; rw [h1]; exact hs
    | succ k => rw [show i + (k + 1) = i + 1 + k from by omega]; exact g3 k r' (by simpa using hk)
  | [], _ :: _, _, _, _, h, _, _, _ => h.elim
  | _ :: _, [], _, _, _, h, _, _, _ => h.elim

/-! ### what the checks say -/
theorem orderedB_ok {ms : List Nat} : ∀ (E : List (Nat × AH)), orderedB ms E = true → ∀ p x y, E[p]? = some x → E[p + 1]? = some y → Reg.bit ms x.1 y.1 = true
  | [], _, p, x, y, hx, _ => by simp at hx
  | [_], _, p, x, y, _, hy => by simp at hy
  | a :: b :: l, h, p, x, y, hx, hy => by
    unfold orderedB at h
    rw [Bool.and_eq_true] at h
    cases p with
    | zero => simp at hx hy; rw [← hx, ← hy]; exact h.1
    | succ p => exact orderedB_ok (b :: l) h.2 p x y (by simpa using hx) (by simpa using hy)
theorem evSame_ok {r : Option Gives} (h : evSame r x = true) : ∃ H', r = some (.val x H') := by
  unfold evSame at h
  split at h
  · rename_i y H1
    rw [eqAV_ok _ _ _ h]
    exact ⟨H1, rfl⟩
  · cases h
theorem stagesOk_ok {ms : List Nat} {o : Oper} {i : Nat} : ∀ (E : List (Nat × AH)) (H : AH), stagesOk P T ms o i F x H E = true → ∀ p, p ≤ E.length → (∀ q y, p ≤ q → E[q]? = some y → Reg.bit ms y.1 i = false) → (∀ q y, q < p → E[q]? = some y → Reg.bit ms i y.1 = false) →
    ∃ H', evOp P T (evalO F) o (stage H E p) = some (.val x H')
  | [], H, h, p, _, _, _ => evSame_ok h
  | y :: l, H, h, p, hp, h1, h2 => by
    unfold stagesOk at h
    rw [Bool.and_eq_true] at h
    cases p with
    | zero =>
      have : (y :: l).all (fun e => !Reg.bit ms e.1 i) = true := List.all_eq_true.2 fun z hz => by
        obtain ⟨q, hq⟩ := List.mem_iff_getElem?.1 hz
        rw [h1 q z (Nat.zero_le _) hq]
        rfl
      rw [this] at h
      exact evSame_ok h.1
    | succ p =>
      have : Reg.bit ms i y.1 = false := h2 0 y (by omega) (by simp)
      rw [this] at h
      exact stagesOk_ok l y.2 h.2 p (by simpa using hp) (fun q z hq hz => h1 (q + 1) z (by omega) (by simpa using hz)) (fun q z hq hz => h2 (q + 1) z (by omega) (by simpa using hz))
theorem quietsOk_ok {ms : List Nat} {H : AH} {E : List (Nat × AH)} : ∀ (l : List Oper) (rs : List Rec) (i : Nat), quietsOk P T ms H E l rs i = true → ∀ k o r, l[k]? = some o → rs[k]? = some r → r.k = .quiet → stagesOk P T ms o (i + k) r.F r.x H E = true
  | [], _, _, _, k, o, r, ho, _, _ => by simp at ho
  | _ :: _, [], _, _, k, o, r, _, hr, _ => by simp at hr
  | o' :: l, r' :: rs, i, h, k, o, r, ho, hr, hk => by
    unfold quietsOk at h
    rw [Bool.and_eq_true] at h
    cases k with
    | zero =>
      simp at ho hr
      subst ho
      subst hr
      rw [hk] at h
      exact h.1
    | succ k => rw [show i + (k + 1) = i + 1 + k from by omega]; exact quietsOk_ok l rs (i + 1) h.2 k o r (by simpa using ho) (by simpa using hr) hk
end
end Ev
end Go.Proofs.YtgmhkjmnfafccaaGreatDoor
