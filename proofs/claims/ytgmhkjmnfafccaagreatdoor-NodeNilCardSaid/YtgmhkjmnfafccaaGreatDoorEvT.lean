/- Two functions that the evaluator asks from outside: 'Right' and 'Kids' of package tree. -/
import Derived.Test.YtgmhkjmnfafccaaGreatDoorEvR
import Derived.Test.YtgmhkjmnfafccaaGreatDoorTreeKn
namespace Go.Proofs.YtgmhkjmnfafccaaGreatDoor
open Go.RowKit
abbrev stKids := Tr.kids
namespace Ev
set_option linter.unusedVariables false
def isSl : AV → Bool
  | .slc .. => true
  | .v (.slice ..) => true
  | _ => false
def i64B : AV → Option Int
  | .v (.int .i64 n) => some n
  | _ => none
/-- A list of states, of its cells. -/
def stOf : List AV → Option Sts
  | [] => some []
  | a :: k :: d :: s :: u :: v :: l => match i64B k, i64B d, stOf l with
    | some k, some d, some st => bif isStrB a && isStrB s && isSl u && isSl v then some ((k, d) :: st) else none
    | _, _, _ => none
  | _ => none
def rowSt (H : AH) (b off n : Nat) : Option Sts := match loadN H b off (n * 6) with
  | some l => match stOf l with
    | some st => bif decide (Tr.right st) then some st else none
    | none => none
  | none => none
def rightO (args : List AV) (H : AH) : Option (AV × AH) := match args with
  | [.slc b off n _] => match rowSt H b off n with
    | some _ => some (.v (.bool true), H)
    | none => none
  | _ => none
def intsA (l : List Nat) : List AV := l.map fun (k : Nat) => .v (.int .i64 (k : Int))
def kidsR (H : AH) (ks : List Nat) : Option (AV × AH) := bif Nat.blt 0 ks.length && H.next.blt 16384 then some (.slc H.next 0 ks.length (.to 1), H.alloc (.cells (intsA ks) 3)) else none
def kidsO (args : List AV) (H : AH) : Option (AV × AH) := match args with
  | [.slc b off n _, .v (.int .i64 (.ofNat i))] => match rowSt H b off n with
    | some st => bif Nat.blt i st.length then kidsR H (stKids st i) else none
    | none => none
  | _ => none
def treeOrc (f : FuncId) : Option (List AV → AH → Option (AV × AH)) := bif Nat.beq f 104 then some rightO else bif Nat.beq f 174 then some kidsO else none

section
variable {P : Program} {base : Nat} {e e' : Env} {H H' : AH} {w w' : World} {x : AV} {y : Value}
theorem isStrB_ok (h : isStrB x = true) (hd : DR e x y) : ∃ s, y = .string s := by
  unfold isStrB at h
  split at h
  · cases hd; exact ⟨_, rfl⟩
  · cases h
theorem isSl_ok (h : isSl x = true) (hd : DR e x y) : ∃ a n c, y = .slice a n c := by
  unfold isSl at h
  split at h
  · cases hd; exact ⟨_, _, _, rfl⟩
  · cases hd; exact ⟨_, _, _, rfl⟩
  · cases h
theorem i64B_ok {n : Int} (h : i64B x = some n) (hd : DR e x y) : y = .int .i64 n := by
  unfold i64B at h
  split at h
  · cases h; cases hd; rfl
  · cases h
theorem stOf_ok : ∀ (l : List AV) (st : Sts), stOf l = some st → ∀ ys, DRL e l ys → l.length = st.length * 6 ∧ ∀ i, i < st.length →
    (∃ s0, ys[i * 6]? = some (.string s0)) ∧ ys[i * 6 + 1]? = some (.int .i64 (Tr.kd st i)) ∧ ys[i * 6 + 2]? = some (.int .i64 (Tr.dp st i)) ∧
    (∃ s3, ys[i * 6 + 3]? = some (.string s3)) ∧ (∃ a4 n4 c4, ys[i * 6 + 4]? = some (.slice a4 n4 c4)) ∧ ∃ a5 n5 c5, ys[i * 6 + 5]? = some (.slice a5 n5 c5)
  | [], st, h, ys, hd => by
    cases h
    exact ⟨rfl, fun i hi => absurd hi (Nat.not_lt_zero i)⟩
  | a :: k :: d :: s :: u :: v :: l, st, h, ys, hd => by
    unfold stOf at h
    split at h
    · rename_i k' d' st' hk hdp hst
      cases hb : (isStrB a && isStrB s && isSl u && isSl v) with
      | false => rw [hb] at h; cases h
      | true =>
        rw [hb] at h
        cases h
        rw [Bool.and_eq_true, Bool.and_eq_true, Bool.and_eq_true] at hb
        obtain ⟨⟨⟨h1, h4⟩, h5⟩, h6⟩ := hb
        cases hd with
        | cons d1 hd => cases hd with
          | cons d2 hd => cases hd with
            | cons d3 hd => cases hd with
              | cons d4 hd => cases hd with
                | cons d5 hd => cases hd with
                  | cons d6 hd =>
                    obtain ⟨hl, ih⟩ := stOf_ok l st' hst _ hd
                    refine ⟨by simp [hl]; omega, fun i hi => ?_⟩
                    cases i with
                    | zero =>
                      obtain ⟨s1, rfl⟩ := isStrB_ok h1 d1
                      obtain ⟨s4, rfl⟩ := isStrB_ok h4 d4
                      obtain ⟨a5, n5, c5, rfl⟩ := isSl_ok h5 d5
                      obtain ⟨a6, n6, c6, rfl⟩ := isSl_ok h6 d6
                      have e2 := i64B_ok hk d2
                      have e3 := i64B_ok hdp d3
                      subst e2
                      subst e3
                      exact ⟨⟨s1, rfl⟩, rfl, rfl, ⟨s4, rfl⟩, ⟨a5, n5, c5, rfl⟩, a6, n6, c6, rfl⟩
                    | succ i =>
                      have hi' : i < st'.length := by simpa using hi
                      have hs : ∀ j, (i + 1) * 6 + j = (i * 6 + j) + 6 := fun j => by omega
                      have h0 := ih i hi'
                      rw [show (i + 1) * 6 = i * 6 + 6 from by omega]
                      rw [show i * 6 + 6 + 1 = (i * 6 + 1) + 6 from by omega, show i * 6 + 6 + 2 = (i * 6 + 2) + 6 from by omega, show i * 6 + 6 + 3 = (i * 6 + 3) + 6 from by omega, show i * 6 + 6 + 4 = (i * 6 + 4) + 6 from by omega, show i * 6 + 6 + 5 = (i * 6 + 5) + 6 from by omega]
                      exact h0
    · cases h
  | [_], st, h, ys, hd => by cases h
  | [_, _], st, h, ys, hd => by cases h
  | [_, _, _], st, h, ys, hd => by cases h
  | [_, _, _, _], st, h, ys, hd => by cases h
  | [_, _, _, _, _], st, h, ys, hd => by cases h
theorem right_wf {st : Sts} (h : Tr.right st) : Tr.Wf st := fun i hi => by
  have h1 := h.1.1 i hi
  unfold Tr.bad at h1
  omega
theorem rowSt_ok {b off n g o z : Nat} {st : Sts} (hr : HRel base e H w) (hb : e b = some (g, o, z)) (h : rowSt H b off n = some st) : Tree w w.heap.size (some ⟨g, o + off, none⟩) n st ∧ Tr.right st ∧ n ≤ maxLen := by
  unfold rowSt at h
  split at h
  · rename_i l hl
    split at h
    · rename_i st' hst
      cases hd : decide (Tr.right st') with
      | false => rw [hd] at h; cases h
      | true =>
        rw [hd] at h
        cases h
        have hR : Tr.right st := of_decide_eq_true hd
        obtain ⟨ys, h1, h2, h3⟩ := load_ok hr hl hb
        obtain ⟨h4, h5⟩ := stOf_ok l st hst ys h1
        have hlen : st.length = n := by
          have := h1.length
          omega
        have h40 := Tr.right_le hR
        refine ⟨⟨hlen, ys, ⟨h2, fun _ => ⟨_, rfl, ?_, fun j v hv => by rw [Addr.add_mid]; exact h3 j v hv⟩⟩, fun i hi => h5 i (by omega)⟩, hR, by unfold maxLen; omega⟩
        have h6 := hR.1.2.2.1
        -- the block stands in the heap
        have hlt := hr.lt2 hb
        have alive : ∃ y, H.get b = some y := by
          unfold loadN at hl
          split at hl
          · rename_i hg; exact ⟨_, hg⟩
          · rename_i hg; exact ⟨_, hg⟩
          · cases hl
        obtain ⟨y, hg⟩ := alive
        obtain ⟨g', o', z', k1, k2, k3⟩ := hr.blk b _ hlt hg
        rw [hb] at k1
        cases k1
        exact k3.lt
    · cases h
  · cases h
theorem HRel.below (h : HRel base e H w) (hb : Below w.heap.size w w') : HRel base e H w' :=
  ⟨Nat.le_trans h.size hb.size, h.next, h.fresh, fun b x hlt hx => by
    obtain ⟨g, o, z, h1, h2, h3⟩ := h.blk b x hlt hx
    exact ⟨g, o, z, h1, h2, h3.heap (hb.block g h3.lt)⟩, h.inj⟩
/-- A block that a call has made. -/
theorem adopt_ok (h : HRel base e H w) (hb : Below w.heap.size w w') (x : AB) (hn : H.next + 1 ≤ 2 ^ depth) {g o z : Nat} (hg : w.heap.size ≤ g) (hx : BlkR (Env.new e H.next (g, o, z)) w' g o z x) :
    HRel base (Env.new e H.next (g, o, z)) (H.alloc x) w' := by
  have hle := new_le h (g, o, z)
  refine ⟨Nat.le_trans h.size hb.size, hn, fun b hb' => ?_, fun b y hlt hy => ?_, fun b1 b2 x1 x2 p1 p2 hb1 hb2 hx1 hx2 hp1 hp2 hne => ?_⟩
  · have hb' : H.next + 1 ≤ b := hb'
    unfold Env.new
    rw [if_neg (by omega)]
    exact h.fresh b (by omega)
  · rw [AH.get_alloc _ _ _ (by omega) hlt] at hy
    by_cases hbn : b = H.next
    · rw [if_pos hbn] at hy
      cases hy
      subst hbn
      exact ⟨g, o, z, by unfold Env.new; rw [if_pos rfl], Nat.le_trans h.size hg, hx⟩
    · rw [if_neg hbn] at hy
      obtain ⟨g', o', z', h1, h2, h3⟩ := h.blk b y hlt hy
      exact ⟨g', o', z', hle _ _ h1, h2, (h3.mono hle).heap (hb.block g' h3.lt)⟩
  · rw [AH.get_alloc _ _ _ (by omega) hb1] at hx1
    rw [AH.get_alloc _ _ _ (by omega) hb2] at hx2
    have old : ∀ b y p, b < 2 ^ depth → b ≠ H.next → H.get b = some y → Env.new e H.next (g, o, z) b = some p → e b = some p ∧ p.1 < w.heap.size := fun b y p hlt hbn hy hp => by
      unfold Env.new at hp
      rw [if_neg hbn] at hp
      obtain ⟨g', o', z', h1, h2, h3⟩ := h.blk b y hlt hy
      rw [hp] at h1
      cases h1
      exact ⟨hp, h3.lt⟩
    have new : ∀ p, Env.new e H.next (g, o, z) H.next = some p → p.1 = g := fun p hp => by
      unfold Env.new at hp
      rw [if_pos rfl] at hp
      cases hp
      rfl
    by_cases c1 : b1 = H.next
    · by_cases c2 : b2 = H.next
      · exact absurd (c1.trans c2.symm) hne
      · rw [if_neg c2] at hx2
        subst c1
        have k1 := new p1 hp1
        have k2 := (old b2 x2 p2 hb2 c2 hx2 hp2).2
        omega
    · rw [if_neg c1] at hx1
      have k1 := old b1 x1 p1 hb1 c1 hx1 hp1
      by_cases c2 : b2 = H.next
      · subst c2
        have k2 := new p2 hp2
        have := k1.2
        omega
      · rw [if_neg c2] at hx2
        have k2 := old b2 x2 p2 hb2 c2 hx2 hp2
        exact h.inj b1 b2 x1 x2 p1 p2 hb1 hb2 hx1 hx2 k1.1 k2.1 hne
theorem intsA_dr (l : List Nat) : DRL e (intsA l) (ints l) := by
  induction l with
  | nil => exact .nil
  | cons k l ih => exact .cons (.v _) ih
theorem rightO_ok {args : List AV} (h : rightO args H = some (x, H')) {ys : List Value} (hr : HRel base e H w) (hd : DRL e args ys) : Calls Tryz.prog 104 ys.toArray w (Ret base e w x H') := by
  unfold rightO at h
  split at h
  · rename_i b off n c
    split at h
    · rename_i st hst
      cases h
      cases hd with
      | cons d1 hd =>
        cases hd
        cases d1 with
        | slc hb hc hl =>
          obtain ⟨h1, h2, h3⟩ := rowSt_ok hr hb hst
          refine (right_any w _ n _ st h1 (right_wf h2) h3).mono ?_
          rintro en w1 ⟨rfl, hbl⟩
          rw [decide_eq_true h2]
          exact ⟨e, ELe.refl e, .v _, hr.below hbl, hbl.mono hr.size⟩
    · cases h
  · cases h
theorem kidsO_ok {args : List AV} (h : kidsO args H = some (x, H')) {ys : List Value} (hr : HRel base e H w) (hd : DRL e args ys) : Calls Tryz.prog 174 ys.toArray w (Ret base e w x H') := by
  unfold kidsO at h
  split at h
  · rename_i b off n c i
    split at h
    · rename_i st hst
      cases hlt : Nat.blt i st.length with
      | false => rw [hlt] at h; cases h
      | true =>
        rw [hlt] at h
        rw [Nat.blt_eq] at hlt
        simp only [cond_true] at h
        unfold kidsR at h
        cases hc : (Nat.blt 0 (stKids st i).length && H.next.blt 16384) with
        | false => rw [hc] at h; cases h
        | true =>
          rw [hc] at h
          cases h
          rw [Bool.and_eq_true, Nat.blt_eq, Nat.blt_eq] at hc
          cases hd with
          | cons d1 hd => cases hd with
            | cons d2 hd =>
              cases hd
              cases d2
              cases d1 with
              | slc hb hcp hl =>
                obtain ⟨h1, h2, h3⟩ := rowSt_ok hr hb hst
                have hk : Tr.pKids st (Int.ofNat i) = stKids st i := by
                  unfold Tr.pKids
                  rw [if_pos (show Tr.hasB st (Int.ofNat i) = true from hasB_iff.2 ⟨i, rfl, hlt, h2⟩)]
                  rfl
                refine (treeKids_any w _ n _ st h1 (right_wf h2) h3 (Int.ofNat i)).mono ?_
                rintro en w1 ⟨v, rfl, hbl, hown⟩
                rw [hk] at hown
                obtain ⟨hlen, hown⟩ := hown
                rcases hown with ⟨_, h0⟩ | ⟨g, cap, cur, rfl, hg, hheap, hnc, hcm, hsz, htake⟩
                · omega
                · have hd16 : (2 : Nat) ^ depth = 16384 := by unfold depth; decide
                  refine ⟨Env.new e H.next (g, 0, cap * 1), new_le hr _, ?_, adopt_ok hr hbl _ (by omega) hg ⟨cur, hheap, hsz, ?_, ?_⟩, hbl.mono hr.size⟩
                  · exact .slc (o := 0) (z := cap * 1) (by unfold Env.new; rw [if_pos rfl]) (by show 0 + 0 + cap * 1 = cap * 1; omega) hnc
                  · simp [intsA]; omega
                  · rw [Nat.mul_one] at htake
                    simp only [List.drop_zero, intsA, List.length_map]
                    rw [htake]
                    exact intsA_dr _
    · cases h
  · cases h
theorem treeOrc_ok : OrcOk Tryz.prog base treeOrc := by
  intro f g hg args H x H' h e w ys hr hd
  unfold treeOrc at hg
  cases h1 : Nat.beq f 104 with
  | true =>
    rw [h1] at hg
    cases hg
    rw [Nat.eq_of_beq_eq_true h1]
    exact rightO_ok h hr hd
  | false =>
    rw [h1] at hg
    cases h2 : Nat.beq f 174 with
    | true =>
      rw [h2] at hg
      cases hg
      rw [Nat.eq_of_beq_eq_true h2]
      exact kidsO_ok h hr hd
    | false => rw [h2] at hg; cases hg
end
end Ev
end Go.Proofs.YtgmhkjmnfafccaaGreatDoor
