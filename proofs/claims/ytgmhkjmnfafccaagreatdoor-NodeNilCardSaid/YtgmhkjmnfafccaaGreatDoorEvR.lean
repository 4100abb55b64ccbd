/- The evaluator's law: what it gives of a call is what the call gives. -/
import Derived.Test.YtgmhkjmnfafccaaGreatDoorEvQ
namespace Go.Proofs.YtgmhkjmnfafccaaGreatDoor
open Go.RowKit
namespace Ev
set_option linter.unusedVariables false
section
variable {P : Program} {T : Tb} {base : Nat} {e e' : Env} {H H' : AH} {w w' : World} {x : AV} {F F' : Fr} {a : Act}
/-! ### code -/
theorem Post.here {Q : Exit → Act → World → Prop} {X : EX} (h : Post base e w X F H Q) (hF : FR e F a) (hr : HRel base e H w) : Q (exitOf X) a w := h e a w (ELe.refl e) hF hr (Below.refl _ _)
theorem thenC_some {k : Fr → AH → Ans} {r : Ans} {X : EX} (h : thenC k r = some (X, F', H')) : (∃ F1 H1, r = some (.normal, F1, H1) ∧ k F1 H1 = some (X, F', H')) ∨ (X ≠ .normal ∧ r = some (X, F', H')) := by
  unfold thenC at h
  split at h
  · exact .inl ⟨_, _, rfl, h⟩
  · rename_i hne
    refine .inr ⟨fun hX => ?_, h⟩
    subst hX
    exact hne _ _ h
theorem blockC_some {id : Nat} {r : Ans} {X : EX} (h : blockC id r = some (X, F', H')) : (r = some (.exit id, F', H') ∧ X = .normal) ∨ (X ≠ .exit id ∧ r = some (X, F', H')) := by
  unfold blockC at h
  split at h
  · rename_i i F1 H1
    cases hb : i == id with
    | true =>
      rw [hb] at h
      cases h
      rw [eq_of_beq hb]
      exact .inl ⟨rfl, rfl⟩
    | false =>
      rw [hb] at h
      cases h
      refine .inr ⟨fun hX => ?_, rfl⟩
      cases hX
      simp at hb
  · rename_i hne
    refine .inr ⟨fun hX => ?_, h⟩
    subst hX
    exact hne _ _ _ h
theorem scopeC_some {k : Nat → Fr → AH → Ans} {r : Ans} {X : EX} (h : scopeC k r = some (X, F', H')) : (∃ l F1 H1, r = some (.goto l, F1, H1) ∧ k l F1 H1 = some (X, F', H')) ∨ ((∀ l, X ≠ .goto l) ∧ r = some (X, F', H')) := by
  unfold scopeC at h
  split at h
  · exact .inl ⟨_, _, _, rfl, h⟩
  · rename_i hne
    refine .inr ⟨fun l hX => ?_, h⟩
    subst hX
    exact hne _ _ _ h
theorem Wp.of {c : Code} {Q : Exit → Act → World → Prop} (hc : ∀ b, c ≠ .loop b) (h : c.wp P Q a w) : Wp P c Q a w := by
  unfold Wp
  split
  · rename_i b
    exact absurd rfl (hc b)
  · exact h
theorem then_wp {code : Code → Fr → AH → Ans} {b : Code} {c : Code} {X : EX} {Q K : Exit → Act → World → Prop} (hcode : CodeOk P base code)
    (hK : ∀ X a w, X ≠ EX.normal → Q (exitOf X) a w → K (exitOf X) a w) (hN : ∀ a w, Wp P c Q a w → K .normal a w)
    (h : thenC (code c) (code b F H) = some (X, F', H')) (hF : FR e F a) (hr : HRel base e H w) (hQ : Post base e w X F' H' Q) : b.wp P K a w := by
  rcases thenC_some h with ⟨F1, H1, h1, h2⟩ | ⟨hX, h1⟩
  · refine (hcode b F H _ _ _ h1 e a w K hF hr fun e1 a1 w1 g1 g2 g3 g4 => ?_).wp
    exact hN _ _ (hcode c F1 H1 _ _ _ h2 e1 a1 w1 Q g2 g3 (hQ.trans g1 g4))
  · refine (hcode b F H _ _ _ h1 e a w K hF hr fun e1 a1 w1 g1 g2 g3 g4 => ?_).wp
    exact hK X _ _ hX (hQ e1 a1 w1 g1 g2 g3 g4)
theorem then_exit {K : Act → World → Prop} {Q : Exit → Act → World → Prop} (X : EX) (a : Act) (w : World) (hX : X ≠ .normal) (h : Q (exitOf X) a w) : Exit.then K Q (exitOf X) a w := by
  cases X with
  | normal => exact absurd rfl hX
  | _ => exact h
theorem inScope_wp {code : Code → Fr → AH → Ans} {jump : Code → Nat → Fr → AH → Ans} {b c : Code} {X : EX} {Q : Exit → Act → World → Prop} (hcode : CodeOk P base code) (hjump : JumpOk P base jump)
    (h : scopeC (jump b) (code c F H) = some (X, F', H')) (hF : FR e F a) (hr : HRel base e H w) (hQ : Post base e w X F' H' Q) : c.wp P (inScopeQ P b Q) a w := by
  rcases scopeC_some h with ⟨l, F1, H1, h1, h2⟩ | ⟨hX, h1⟩
  · refine (hcode c F H _ _ _ h1 e a w _ hF hr fun e1 a1 w1 g1 g2 g3 g4 => ?_).wp
    exact hjump b l F1 H1 _ _ _ h2 e1 a1 w1 Q g2 g3 (hQ.trans g1 g4)
  · refine (hcode c F H _ _ _ h1 e a w _ hF hr fun e1 a1 w1 g1 g2 g3 g4 => ?_).wp
    have := hQ e1 a1 w1 g1 g2 g3 g4
    cases X with
    | goto l => exact absurd rfl (hX l)
    | _ => exact this
theorem stepC_ok (hT : TbOk P T) {call : FuncId → List AV → AH → Option (AV × AH)} {code : Code → Fr → AH → Ans} {jump : Code → Nat → Fr → AH → Ans} (hcall : CallOk P base call) (hcode : CodeOk P base code) (hjump : JumpOk P base jump) :
    CodeOk P base (stepC P T call code jump) := by
  intro c F H X F' H' h e a w Q hF hr hQ
  unfold stepC at h
  split at h
  · cases h; exact Wp.of nofun (wp_skip (hQ.here hF hr))
  · cases h; exact Wp.of nofun (wp_label (hQ.here hF hr))
  · rename_i id ops d
    refine Wp.of nofun ?_
    unfold opsC at h
    cases d with
    | false =>
      simp only [cond_false] at h
      split at h
      · rename_i F1 H1 hev
        cases h
        exact wp_region_list (evOps_ok hT hcall _ _ _ e a w hev hF hr hQ)
      · cases h
    | true =>
      simp only [cond_true] at h
      split at h
      · rename_i F1 H1 hev
        cases h
        exact drawn_wp hT hcall hev hF hr hQ
      · cases h
  · rename_i b c
    exact Wp.of nofun (wp_seq (then_wp (K := Exit.then (c.wp P Q) Q) hcode then_exit (fun _ _ h => h.wp) h hF hr hQ))
  · rename_i c b d
    refine Wp.of nofun ?_
    unfold condC at h
    have hc := hF.eval c
    split at h
    · rename_i heq
      exact wp_cond_true ((bool_dr hc true).1 heq) (hcode _ _ _ _ _ _ h e a w Q hF hr hQ).wp
    · rename_i heq
      exact wp_cond_false ((bool_dr hc false).1 heq) (hcode _ _ _ _ _ _ h e a w Q hF hr hQ).wp
    · cases h
  · rename_i id b
    refine Wp.of nofun (wp_block ?_)
    rcases blockC_some h with ⟨h1, hX⟩ | ⟨hX, h1⟩
    · subst hX
      refine (hcode _ _ _ _ _ _ h1 e a w _ hF hr fun e1 a1 w1 g1 g2 g3 g4 => ?_).wp
      show Exit.inBlock id Q (.exit id) a1 w1
      simp only [Exit.inBlock, if_true]
      exact hQ e1 a1 w1 g1 g2 g3 g4
    · refine (hcode _ _ _ _ _ _ h1 e a w _ hF hr fun e1 a1 w1 g1 g2 g3 g4 => ?_).wp
      have := hQ e1 a1 w1 g1 g2 g3 g4
      cases X with
      | exit i =>
        show Exit.inBlock id Q (.exit i) a1 w1
        have hne : i ≠ id := fun hi => hX (by rw [hi])
        simp only [Exit.inBlock, if_neg hne]
        exact this
      | _ => exact this
  · rename_i b
    exact LoopWp.of (then_wp (c := .loop b) (K := Exit.then (LoopWp P b Q) Q) hcode then_exit (fun _ _ h => h) h hF hr hQ)
  · rename_i b
    exact Wp.of nofun (scope_wp (inScope_wp hcode hjump h hF hr hQ))
  · cases h; exact Wp.of nofun (wp_exit (hQ.here hF hr))
  · cases h; exact Wp.of nofun (wp_goto (hQ.here hF hr))
  · cases h; exact Wp.of nofun (wp_ret (hQ.here hF hr))
  · cases h
theorem stepG_ok {code : Code → Fr → AH → Ans} {jump : Code → Nat → Fr → AH → Ans} (hcode : CodeOk P base code) (hjump : JumpOk P base jump) : JumpOk P base (stepG code jump) := by
  intro b l F H X F' H' h e a w Q hF hr hQ
  unfold stepG at h
  unfold JumpWp
  split at h
  · rename_i rest hf
    rw [hf]
    exact fun fr k cs => scope_part (inScope_wp hcode hjump h hF hr hQ) fr k cs
  · rename_i hf
    rw [hf]
    cases h
    exact hQ.here hF hr

/-! ### calls -/
/-- One result's value. -/
def resVal (a : Act) : ResultVar → Sem Value
  | .tmp t => pure (a.tmps.getD t undef)
  | .cell b t => do loadVar t (← asAddr (a.tmps.getD b undef))
theorem resOne_ok (hT : TbOk P T) (hF : FR e F a) (hr : HRel base e H w) {r : ResultVar} (h : resOne T H F r = some x) :
    ∃ y, (resVal a r).run P w = .ok y w ∧ DR e x y := by
  unfold resOne at h
  split at h
  · rename_i t
    cases h
    exact ⟨_, rfl, hF.eval (.tmp t)⟩
  · rename_i b t
    split at h
    · rename_i bb off hb
      have hd := hF.eval (.tmp b)
      have h1 : evalO F (.tmp b) = .ptr bb off := hb
      rw [h1] at hd
      have h2 : a.eval (.tmp b) = a.tmps.getD b undef := rfl
      rw [h2] at hd
      show ∃ y, (do loadVar t (← asAddr (a.tmps.getD b undef)) : Sem Value).run P w = .ok y w ∧ DR e x y
      generalize a.tmps.getD b undef = v at hd ⊢
      cases hd with
      | ptr he =>
        obtain ⟨y, hy, hxy⟩ := load_does hT hr he h
        refine ⟨y, ?_, hxy⟩
        simp only [asAddr, Sem.run_bind, Sem.run_pure, Result.andThen_ok]
        exact hy
    · cases h
theorem resAll_ok (hT : TbOk P T) (hF : FR e F a) (hr : HRel base e H w) : ∀ (rs : List ResultVar) (l : List AV), resAll T H F rs = some l →
    ∃ ys, (rs.mapM (resVal a)).run P w = .ok ys w ∧ DRL e l ys
  | [], l, h => by
    cases h
    exact ⟨[], rfl, .nil⟩
  | r :: rs, l, h => by
    unfold resAll at h
    split at h
    · rename_i x xs hx hxs
      cases h
      obtain ⟨y, h1, h2⟩ := resOne_ok hT hF hr hx
      obtain ⟨ys, h3, h4⟩ := resAll_ok hT hF hr rs xs hxs
      refine ⟨y :: ys, ?_, .cons h2 h4⟩
      rw [List.mapM_cons]
      simp only [Sem.run_bind, h1, h3, Result.andThen_ok, Sem.run_pure]
    · cases h
theorem resultsB_ok (hT : TbOk P T) {fn : Func} (hF : FR e F a) (hr : HRel base e H w) (h : resultsB T H fn F = some x) : ∃ y, (results fn a.tmps).run P w = .ok y w ∧ DR e x y := by
  unfold resultsB resOf at h
  have key : ∀ l, resAll T H F fn.results.toList = some l → ∃ ys, (results fn a.tmps).run P w = .ok (if h : ys.length = 1 then ys[0] else .tuple ys.toArray) w ∧ DRL e l ys := fun l hl => by
    obtain ⟨ys, h1, h2⟩ := resAll_ok hT hF hr _ _ hl
    refine ⟨ys, ?_, h2⟩
    have hm : results fn a.tmps = (do let vs ← fn.results.mapM (resVal a); pure (if h : vs.size = 1 then vs[0] else .tuple vs)) := by
      unfold results
      first | rfl | (congr 1; first | done | (congr 1; first | done | (funext r; cases r <;> rfl)))
    rw [hm, Array.mapM_eq_mapM_toList]
    simp only [map_eq_pure_bind, Sem.run_bind, Sem.run_pure, h1, Result.andThen_ok]
    simp
  split at h
  · rename_i z hz
    cases h
    obtain ⟨ys, h1, h2⟩ := key _ hz
    cases h2 with
    | cons hx hl => cases hl; exact ⟨_, h1, hx⟩
  · rename_i l hne hl
    cases h
    obtain ⟨ys, h1, h2⟩ := key _ hl
    have hlen : ¬ ys.length = 1 := fun h1 => by
      rw [h2.length] at h1
      obtain ⟨z, rfl⟩ := List.length_eq_one_iff.1 h1
      exact hne z rfl
    rw [dif_neg hlen] at h1
    exact ⟨_, h1, mkTup_dr h2⟩
  · cases h
theorem retF_some {fn : Func} {r : Ans} (h : retF T fn r = some (x, H')) : ∃ X F, (X = .ret ∨ X = .normal) ∧ r = some (X, F, H') ∧ resultsB T H' fn F = some x := by
  unfold retF at h
  split at h
  · split at h
    · rename_i hx; cases h; exact ⟨_, _, .inl rfl, rfl, hx⟩
    · cases h
  · split at h
    · rename_i hx; cases h; exact ⟨_, _, .inr rfl, rfl, hx⟩
    · cases h
  · cases h
theorem enter_fr {args : List AV} {ys : List Value} (n : Nat) (hn : n ≤ 1024) (hl : args.length ≤ 1024) (h : DRL e args ys) : FR e ⟨max n args.length, Tr.build 10 args⟩ { tmps := ys.toArray ++ Array.replicate (n - ys.toArray.size) undef, defers := [] } := by
  have hlen := h.length
  refine ⟨by simp [hlen]; omega, by show max n args.length ≤ 1024; omega, fun i => ?_, rfl⟩
  have out : ∀ i, args.length ≤ i → (ys.toArray ++ Array.replicate (n - ys.toArray.size) undef)[i]?.getD undef = undef := fun i hi => by
    rw [Array.getElem?_append_right (by simpa [hlen] using hi), Array.getElem?_replicate]
    split <;> rfl
  have gt : Fr.get ⟨max n args.length, Tr.build 10 args⟩ i = match Tr.get 10 (Tr.build 10 args) i with | some x => x | none => .undef := rfl
  rw [gt]
  by_cases hi : i < 2 ^ 10
  · rw [Tr.get_build 10 args i hi]
    cases hx : args[i]? with
    | none =>
      have : args.length ≤ i := List.getElem?_eq_none_iff.1 hx
      rw [out i this]
      exact .v _
    | some x =>
      obtain ⟨y, h1, h2⟩ := h.get hx
      have hlt : i < ys.length := (List.getElem?_eq_some_iff.1 h1).1
      rw [Array.getElem?_append_left (by simpa using hlt)]
      simp only [List.getElem?_toArray, h1]
      exact h2
  · have : Tr.get 10 (Tr.build 10 args) i = none := by
      cases hg : Tr.get 10 (Tr.build 10 args) i with
      | none => rfl
      | some y => exact absurd (Tr.get_lt 10 _ i _ hg) hi
    rw [this, out i (by omega)]
    exact .v _
theorem stepF_ok (hT : TbOk P T) {code : Code → Fr → AH → Ans} (hcode : CodeOk P base code) : CallOk P base (stepF T code) := by
  intro f args H x H' h e w ys hr hys
  unfold stepF at h
  split at h
  · rename_i fn hfn
    split at h
    · rename_i c hc
      cases hb : (fn.ntmps.ble 1024 && args.length.ble 1024) with
      | false => rw [hb] at h; cases h
      | true =>
        rw [hb] at h
        rw [Bool.and_eq_true] at hb
        obtain ⟨X, F', hX, h1, h2⟩ := retF_some h
        refine calls_of_wp (hT.func f fn hfn) hc ?_
        refine (hcode _ _ _ _ _ _ h1 e _ w _ (enter_fr fn.ntmps (Nat.le_of_ble_eq_true hb.1) (Nat.le_of_ble_eq_true hb.2) hys) hr fun e1 a1 w1 g1 g2 g3 g4 => ?_).wp
        obtain ⟨y, g5, g6⟩ := resultsB_ok hT g2 g3 h2
        rcases hX with rfl | rfl
        · exact ⟨g2.defers, y, g5, e1, g1, g6, g3, g4⟩
        · exact ⟨g2.defers, y, g5, e1, g1, g6, g3, g4⟩
    · cases h
  · cases h
/-- The functions that are answered from outside. -/
def OrcOk (P : Program) (base : Nat) (orc : FuncId → Option (List AV → AH → Option (AV × AH))) : Prop :=
  ∀ f g, orc f = some g → ∀ args H x H', g args H = some (x, H') → ∀ e w ys, HRel base e H w → DRL e args ys → Calls P f ys.toArray w (Ret base e w x H')
theorem run_ok (hT : TbOk P T) {orc : FuncId → Option (List AV → AH → Option (AV × AH))} (ho : OrcOk P base orc) : ∀ n, CallOk P base (run P T orc n).call ∧ CodeOk P base (run P T orc n).code ∧ JumpOk P base (run P T orc n).jump
  | 0 => ⟨fun _ _ _ _ _ h => (by cases h), fun _ _ _ _ _ _ h => (by cases h), fun _ _ _ _ _ _ _ h => (by cases h)⟩
  | n + 1 => by
    obtain ⟨h1, h2, h3⟩ := run_ok hT ho n
    refine ⟨fun f args H x H' h => ?_, stepC_ok hT h1 h2 h3, stepG_ok h2 h3⟩
    have hr : (match orc f with | some g => g args H | none => stepF T (run P T orc n).code f args H) = some (x, H') := h
    split at hr
    · rename_i g hg
      exact ho f g hg args H x H' hr
    · exact stepF_ok hT h2 f args H x H' hr
/-- THE LAW: a call of closed arguments, answered by the run. -/
theorem evF_calls (hT : TbOk P T) {orc : FuncId → Option (List AV → AH → Option (AV × AH))} (ho : OrcOk P base orc) {n : Nat} {f : FuncId} {args : List AV} (h : evF P T orc n f args H = some (x, H')) {ys : List Value} (hr : HRel base e H w) (hys : DRL e args ys) :
    Calls P f ys.toArray w (Ret base e w x H') := (run_ok hT ho n).1 f args H x H' h e w ys hr hys
/-- At the start nothing is known. -/
theorem HRel.start (w : World) : HRel w.heap.size (fun _ => none) AH.empty w :=
  ⟨Nat.le_refl _, Nat.zero_le _, fun _ _ => rfl, fun b x _ h => by rw [AH.get] at h; simp [AH.empty, Tr.get, depth] at h, fun b b' x x' p p' _ _ h => by simp [AH.get, AH.empty, Tr.get, depth] at h⟩
end
end Ev
end Go.Proofs.YtgmhkjmnfafccaaGreatDoor
