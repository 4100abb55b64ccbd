/- Drawn regions: the walk over all orders. -/
import Derived.Test.YtgmhkjmnfafccaaGreatDoorEvP
namespace Go.Proofs.YtgmhkjmnfafccaaGreatDoor
open Go.RowKit
namespace Ev
set_option linter.unusedVariables false
open Reg (On anc Ok)
section
variable {P : Program} {T : Tb} {base : Nat} {e e' e0 : Env} {H H' H0 : AH} {w w' w0 : World} {x : AV} {F F' F0 : Fr} {a : Act}
/-- What holds of a state of a drawn region's run. -/
structure DS (base : Nat) (all : Array Oper) (recs : List Rec) (F0 : Fr) (H0 : AH) (E : List (Nat × AH)) (e0 : Env) (w0 : World) (listed : Array Bool) (e : Env) (a : Act) (w : World) (j : Nat) : Prop where
  sz : listed.size = all.size
  closed : ∀ k, On listed k → ∀ i, anc all i k = true → On listed i
  pos : ∀ p i h, E[p]? = some (i, h) → (On listed i ↔ p < j)
  le : j ≤ E.length
  heap : HRel base e (stage H0 E j) w
  env : ELe e0 e
  below : Below base w0 w
  slots : AS e F0 all recs (On listed) a
theorem none_ready {all : Array Oper} {listed : Array Bool} (hall : ∀ k, k < all.size → On listed k) : Region.ready .any all listed = [] := by
  refine List.eq_nil_iff_forall_not_mem.2 fun k hk => ?_
  obtain ⟨h0, o, ho, _⟩ := mem_ready.1 hk
  have hlt : k < all.size := (Array.getElem?_eq_some_iff.1 ho).1
  have := hall k hlt
  unfold On at this
  rw [getD_both h0] at this
  cases this
/-- A listed set that grows by one whose forebears are all listed. -/
theorem closed_set {all : Array Oper} {listed : Array Bool} {i : Nat} (hi : i < listed.size) (hc : ∀ k, On listed k → ∀ j, anc all j k = true → On listed j) (ha : ∀ j, anc all j i = true → On listed j) :
    ∀ k, On (listed.setIfInBounds i true) k → ∀ j, anc all j k = true → On (listed.setIfInBounds i true) j := fun k hk j hj => by
  have hOn := On.set (listed := listed) (i := i) hi
  rcases (hOn k).1 hk with hk | rfl
  · exact (hOn j).2 (.inl (hc k hk j hj))
  · exact (hOn j).2 (.inl (ha j hj))
theorem drawn_any (hT : TbOk P T) {call : FuncId → List AV → AH → Option (AV × AH)} (hcall : CallOk P base call) {all : Array Oper} {recs : List Rec} (hn : F0.n ≤ 1024)
    (hgo : drawnGo P T call all all.toList F0 H0 = some (recs, F', H')) (hok : Ok all all.size) (hd : drawnOk P T (Reg.masksGo all.toList []) all recs H0 = true) {Q : Exit → Act → World → Prop} (hQ : Post base e0 w0 .normal F' H' Q) :
    ∀ (fuel : Nat) (listed : Array Bool) (a : Act) (w : World) (e : Env) (j : Nat), Reg.left all listed ≤ fuel → DS base all recs F0 H0 (effGo recs 0) e0 w0 listed e a w j → wpAny P .any all Q fuel listed a w := by
  obtain ⟨hfr, hlk, hlast, hone⟩ := drawnGo_ok _ _ _ _ _ _ hgo
  obtain ⟨hlen, htsn, hts⟩ := framed_ts (recs := recs) hok hn all.toList recs F0 F' 0 hfr (fun k o hk => by simpa using hk) (fun k r hk => by simpa using hk)
    ⟨rfl, fun t k o r hk => absurd hk (Nat.not_lt_zero k), fun t _ => rfl⟩
  obtain ⟨hE1, hE2, hE3⟩ := eff_stage recs 0 H0 hlk
  unfold drawnOk at hd
  rw [Bool.and_eq_true] at hd
  obtain ⟨hord, hqu⟩ := hd
  have hlen' : recs.length = all.size := by rw [hlen, Array.length_toList]
  rw [hlast] at hE1
  generalize hE : effGo recs 0 = E at *
  have done : ∀ (listed : Array Bool) (a : Act) (w : World) (e : Env) (j : Nat), DS base all recs F0 H0 E e0 w0 listed e a w j → (∀ k, k < all.size → On listed k) → Q .normal a w := by
    intro listed a w e j st hall
    have hj : j = E.length := by
      refine Nat.le_antisymm st.le (Nat.le_of_not_lt fun hlt => ?_)
      have hp : E[j]? = some E[j] := by simp [hlt]
      obtain ⟨k, r, h1, h2, _⟩ := hE2 j E[j].1 E[j].2 hp
      have hk : k < all.size := by rw [← hlen']; exact (List.getElem?_eq_some_iff.1 h2).1
      have := (st.pos j E[j].1 E[j].2 hp).1 (by rw [h1, Nat.zero_add]; exact hall k hk)
      omega
    have hh := st.heap
    rw [hj, hE1] at hh
    refine hQ e a w st.env ⟨by rw [st.slots.size, htsn.n], by rw [htsn.n]; exact hn, fun t => ?_, st.slots.defers⟩ hh st.below
    exact st.slots.look hlen' htsn fun k o ho _ => ⟨fun _ => by have := (Array.getElem?_eq_some_iff.1 ho).1; simpa using this, fun _ => hall k (Array.getElem?_eq_some_iff.1 ho).1⟩
  intro fuel
  induction fuel with
  | zero =>
    intro listed a w e j hf st
    have hall : ∀ k, k < all.size → On listed k := fun k hk => Classical.byContradiction fun hn => by
      have := Reg.left_set st.sz hk hn; omega
    exact ⟨none_ready hall, done listed a w e j st hall⟩
  | succ fuel ih =>
    intro listed a w e j hf st
    refine ⟨fun h0 => done listed a w e j st fun k hk => Classical.byContradiction fun hn => ?_, fun i hi => ?_⟩
    · obtain ⟨q, hq⟩ := Reg.ready_of st.sz hok hk hn
      rw [h0] at hq; cases hq
    · obtain ⟨h0, o, hoi, hedges⟩ := mem_ready.1 hi
      have his : i < all.size := (Array.getElem?_eq_some_iff.1 hoi).1
      have hni : ¬ On listed i := fun h => by unfold On at h; rw [getD_both h0] at h; cases h
      have hanc : ∀ q, anc all q i = true → On listed q := fun q hq => by
        obtain ⟨o', ho', ed, he, hb, h3⟩ := Reg.anc_spec hq
        rw [hoi] at ho'
        cases ho'
        have hon := hedges ed he hb
        rcases h3 with h3 | h3
        · rw [← h3]; exact hon
        · exact st.closed ed.on hon q h3
      have hri : recs[i]? = some recs[i] := by simp [hlen', his]
      generalize hr : recs[i] = r at hri
      have hOne := hone i o r (by simpa using hoi) hri
      have hF := hts i r hri
      rw [Nat.zero_add] at hF
      have look : ∀ t ∈ o.looksAt all, DR e (r.F.get t) (a.tmps[t]?.getD undef) := fun t ht => st.slots.look hlen' hF fun k ok hk hdk => by
        by_cases hki : k = i
        · subst hki
          exact ⟨fun h => absurd h hni, fun h => absurd h (Nat.lt_irrefl _)⟩
        · rcases hok.look i o k ok t hoi hk hki hdk ht with h | h
          · exact ⟨fun _ => Reg.anc_lt hok _ _ h, fun _ => hanc k h⟩
          · exact ⟨fun hon => absurd (st.closed k hon i h) hni, fun hlt => by have := Reg.anc_lt hok _ _ h; omega⟩
      have hev : ∀ y ∈ o.op.operands, DR e (evalO r.F y) (a.eval y) := fun y hy => by
        cases y with
        | tmp t =>
          show DR e (r.F.get t) (a.tmps.getD t undef)
          rw [Array.getD_eq_getD_getElem?]
          exact look t (List.mem_append_left _ (List.mem_filterMap.2 ⟨.tmp t, by simpa using hy, rfl⟩))
        | const v => exact .v v
        | global g => exact .v _
        | func f => exact .fn .nil .nil
      have hwant : Region.wanted o (yieldedB all r.F) = Region.wanted o (yielded all a.tmps) := wanted_eq fun t g b hg ht => look t (List.mem_append_right _ (by rw [hg]; simp only; rw [ht]; simp))
      have hleft : Reg.left all (listed.setIfInBounds i true) ≤ fuel := by have := Reg.left_set st.sz his hni; omega
      have hin : i < listed.size := by rw [st.sz]; exact his
      have hOn := On.set (listed := listed) (i := i) hin
      have hcl := closed_set hin st.closed hanc
      -- an operation that doesn't write
      have still : (∀ (p : Nat) (h : AH), E[p]? ≠ some (i, h)) → ∀ (e' : Env) (w' : World) (y : Value), ELe e e' → DR e' r.x y → HRel base e' (stage H0 E j) w' → Below base w w' → wpAny P .any all Q fuel (listed.setIfInBounds i true) (a.put o.dst y) w' := by
        intro hno e' w' y g1 g2 g3 g4
        refine ih _ _ _ e' j hleft ⟨by simp [st.sz], hcl, fun p q h hp => ?_, st.le, g3, st.env.trans g1, st.below.trans g4, st.slots.put hok g1 hoi hri hOn hni g2⟩
        rw [hOn q, st.pos p q h hp]
        refine ⟨fun h1 => h1.elim id fun h1 => ?_, .inl⟩
        subst h1
        exact absurd hp (hno p h)
      have noeff : r.k ≠ .eff → ∀ (p : Nat) (h : AH), E[p]? ≠ some (i, h) := fun hk p h hp => by
        obtain ⟨k, r', h1, h2, h3, _⟩ := hE2 p i h hp
        rw [Nat.zero_add] at h1
        subst h1
        rw [hri] at h2
        cases h2
        exact hk h3
      unfold wpOp
      simp only [hoi]
      unfold OneOk at hOne
      split at hOne
      · rename_i hk
        obtain ⟨hw, hx⟩ := hOne
        rw [hwant] at hw
        rw [if_neg (by rw [hw]; exact Bool.false_ne_true)]
        exact still (noeff (by rw [hk]; exact nofun)) e w _ (ELe.refl e) (by rw [hx]; exact .v _) st.heap (Below.refl _ _)
      · rename_i hk
        obtain ⟨hw, hq⟩ := hOne
        rw [hwant] at hw
        rw [if_pos hw]
        refine .inl ?_
        have hst := quietsOk_ok all.toList recs 0 hqu i o r (by simpa using hoi) hri hk
        rw [Nat.zero_add] at hst
        have hA : ∀ q y, j ≤ q → E[q]? = some y → Reg.bit (Reg.masksGo all.toList []) y.1 i = false := fun q y hjq hy => by
          cases hb : Reg.bit (Reg.masksGo all.toList []) y.1 i with
          | false => rfl
          | true => exact absurd ((st.pos q y.1 y.2 hy).1 (hanc y.1 hb)) (by omega)
        have hB : ∀ q y, q < j → E[q]? = some y → Reg.bit (Reg.masksGo all.toList []) i y.1 = false := fun q y hjq hy => by
          cases hb : Reg.bit (Reg.masksGo all.toList []) i y.1 with
          | false => rfl
          | true => exact absurd (st.closed y.1 ((st.pos q y.1 y.2 hy).2 hjq) i hb) hni
        obtain ⟨H2, h2⟩ := stagesOk_ok E H0 hst j st.le hA hB
        have hH : H2 = stage H0 E j := quiet_same hq h2
        subst hH
        exact does_wp (evOp_val hT st.heap hev h2 st.heap.next) fun e' w' y g1 g2 g3 g4 => still (noeff (by rw [hk]; exact nofun)) e' w' y g1 g2 g3 g4
      · rename_i hk
        obtain ⟨hw, hop⟩ := hOne
        rw [hwant] at hw
        rw [if_pos hw]
        refine .inl ?_
        obtain ⟨p, hp⟩ := hE3 i r hri hk
        rw [Nat.zero_add] at hp
        have hpj : p = j := by
          have h1 : ¬ p < j := fun h => hni ((st.pos p i _ hp).2 h)
          cases p with
          | zero => omega
          | succ p =>
            have hlt : p < E.length := by have := (List.getElem?_eq_some_iff.1 hp).1; omega
            have hp0 : E[p]? = some E[p] := by simp [hlt]
            have := (st.pos p E[p].1 E[p].2 hp0).1 (hanc _ (orderedB_ok E hord p E[p] _ hp0 hp))
            omega
        subst hpj
        obtain ⟨k, r', h1, h2, _, h4, h5, h6⟩ := hE2 p i _ hp
        rw [Nat.zero_add] at h1
        subst h1
        rw [hri] at h2
        cases h2
        have hheap := st.heap
        rw [← h5] at hheap
        refine evOp_wp hT hcall hheap hev hop fun e' w' y g1 g2 g3 g4 => ?_
        have hlt : p < E.length := (List.getElem?_eq_some_iff.1 hp).1
        refine ih _ _ _ e' (p + 1) hleft ⟨by simp [st.sz], hcl, fun q q' h hq => ?_, hlt, by rw [← h6]; exact g3, st.env.trans g1, st.below.trans g4, st.slots.put hok g1 hoi hri hOn hni g2⟩
        rw [hOn q', st.pos q q' h hq]
        constructor
        · rintro (h1 | rfl)
          · omega
          · -- the same operation stands at one place only
            have h7 : ¬ q < p := fun h7 => hni ((st.pos q q' h hq).2 h7)
            rcases Nat.lt_or_ge p q with h8 | h8
            · cases q with
              | zero => omega
              | succ q =>
                have hlt2 : q < E.length := by have := (List.getElem?_eq_some_iff.1 hq).1; omega
                have hq0 : E[q]? = some E[q] := by simp [hlt2]
                have h9 := (st.pos q E[q].1 E[q].2 hq0).1 (hanc _ (orderedB_ok E hord q E[q] _ hq0 hq))
                omega
            · omega
        · intro h1
          rcases Nat.lt_or_ge q p with h2 | h2
          · exact .inl h2
          · have : q = p := by omega
            subst this
            rw [hp] at hq
            cases hq
            exact .inr rfl
theorem On.none (n k : Nat) : ¬ On (Array.replicate n false) k := fun h => by unfold On at h; rw [getD_replicate_false] at h; cases h
/-- THE LAW of drawn regions. -/
theorem drawn_wp (hT : TbOk P T) {call : FuncId → List AV → AH → Option (AV × AH)} (hcall : CallOk P base call) {all : Array Oper} {id : Nat} {Q : Exit → Act → World → Prop}
    (h : evDrawn P T call all F H = some (F', H')) (hF : FR e F a) (hr : HRel base e H w) (hQ : Post base e w .normal F' H' Q) : (Code.region id all true).wp P Q a w := by
  unfold evDrawn at h
  split at h
  · rename_i recs F1 H1 hgo
    cases hc : (Reg.ok all all.size && drawnOk P T (Reg.masksGo all.toList []) all recs H) with
    | false => rw [hc] at h; cases h
    | true =>
      rw [hc] at h
      cases h
      rw [Bool.and_eq_true] at hc
      refine wp_region_any hT.mx ?_
      refine drawn_any hT hcall hF.le hgo (Ok.of hc.1) hc.2 (hQ.trans (ELe.refl e) ((Below.refl _ _).drew)) _ _ a w.drew e 0 ?_ ⟨by simp, fun k hk => absurd hk (On.none _ _), fun p i h hp => ⟨fun hk => absurd hk (On.none _ _), fun hk => absurd hk (Nat.not_lt_zero _)⟩, Nat.zero_le _, ?_, ELe.refl e, Below.refl _ _, ⟨hF.defers, hF.size, fun t k o r hk => absurd hk (On.none _ _), fun t _ => hF.get t⟩⟩
      · unfold Reg.left
        exact Nat.le_trans List.countP_le_length (by simp)
      · have : stage H (effGo recs 0) 0 = H := by cases effGo recs 0 <;> rfl
        rw [this]
        exact hr.drew
  · cases h
end
end Ev
end Go.Proofs.YtgmhkjmnfafccaaGreatDoor
