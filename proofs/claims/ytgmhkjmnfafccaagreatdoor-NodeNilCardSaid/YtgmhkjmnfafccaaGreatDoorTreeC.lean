/- 'kids': the iterator over a state's children, as a contract for any loop over it. -/
import Derived.RangeFuncNested
import Derived.RangeFuncBound
import Derived.RangeFuncCalls
import Derived.RangeFuncLeaves
import Derived.Shelf.Abstract
import Derived.Shelf.RegionOpen
import Derived.WalkKit
import Derived.OwnWalkIn
import Derived.TacticsInMore
import Derived.LoopNIn
import Derived.LoopIn
import Derived.Test.YtgmhkjmnfafccaaGreatDoorTreeB
namespace Go.Proofs.YtgmhkjmnfafccaaGreatDoor
open Go.RowKit Go.Shelf
attribute [local go_sem] Oper.semAt_some

namespace Tr
def kidsFrom (st : Sts) (e : Nat) : Nat → Nat → List Nat
  | 0, _ => []
  | f + 1, k => if k < e then k :: kidsFrom st e f (fin st k) else []
def kids (st : Sts) (i : Nat) : List Nat := kidsFrom st (fin st i) (fin st i - (i + 1)) (i + 1)

theorem finFrom_ge (st : Sts) (d : Int) : ∀ f k, k ≤ finFrom st d k f
  | 0, k => Nat.le_refl _
  | f + 1, k => by
    unfold finFrom
    split
    · exact Nat.le_trans (Nat.le_succ k) (finFrom_ge st d f (k + 1))
    · exact Nat.le_refl _
theorem finFrom_le (st : Sts) (d : Int) : ∀ f k, finFrom st d k f ≤ k + f
  | 0, k => Nat.le_refl _
  | f + 1, k => by
    unfold finFrom
    split
    · have := finFrom_le st d f (k + 1); omega
    · omega
theorem fin_gt (st : Sts) (i : Nat) : i < fin st i := finFrom_ge st _ _ (i + 1)
theorem fin_le (st : Sts) {i : Nat} (h : i < st.length) : fin st i ≤ st.length := by
  have := finFrom_le st (dp st i) (st.length - (i + 1)) (i + 1)
  unfold fin; omega
/-- More fuel than is wanted changes nothing. -/
theorem kidsFrom_fuel (st : Sts) (e : Nat) : ∀ f g k, e - k ≤ f → e - k ≤ g → kidsFrom st e f k = kidsFrom st e g k
  | 0, g, k, hf, _ => by
    cases g with
    | zero => rfl
    | succ g => unfold kidsFrom; rw [if_neg (by omega)]
  | f + 1, 0, k, _, hg => by unfold kidsFrom; rw [if_neg (by omega)]
  | f + 1, g + 1, k, hf, hg => by
    unfold kidsFrom
    split
    · have := fin_gt st k
      rw [kidsFrom_fuel st e f g (fin st k) (by omega) (by omega)]
    · rfl
theorem kids_step (st : Sts) (e k : Nat) (h : k < e) : kidsFrom st e (e - k) k = k :: kidsFrom st e (e - fin st k) (fin st k) := by
  have := fin_gt st k
  rw [show e - k = (e - k - 1) + 1 by omega, kidsFrom, if_pos h, kidsFrom_fuel st e _ (e - fin st k) (fin st k) (by omega) (by omega)]
theorem kids_end (st : Sts) (e k : Nat) (h : ¬ k < e) : kidsFrom st e (e - k) k = [] := by
  rw [show e - k = 0 by omega]; rfl
end Tr

/-- What a round over a state's children keeps. -/
def KpK (n₀ iB lB : Nat) (W W' : World) : Prop := Below n₀ W W' ∧ W'.heap[lB]? = W.heap[lB]? ∧ W'.heap[iB]? = W.heap[iB]?

theorem grownNone {w w' : World} (h : Below w.heap.size w w') : w.grownBy w' none := ⟨h.os, h.tape, h.output, h.size, fun k hk _ => h.block k hk⟩

set_option maxRecDepth 100000 in
set_option maxHeartbeats 2000000 in
theorem kids1_in (m : Nat) (hm : 1 ≤ m) (l iB lB n₀ : Nat) (A : Option Addr) (n c : Nat) (st : Sts) (hn : n ≤ maxLen) (i : Nat) (hi : i < n) (J Jx : List { x : Nat // x < n } → World → Prop) (W : World) (hn0 : n₀ ≤ W.heap.size)
    (hJ : AbidesFrom W.heap.size J)
    (hY : ∀ (pre : List { x : Nat // x < n }) (x : { x : Nat // x < n }) (W1 : World), J pre W1 → pre.length < (Tr.kids st i).length → YieldAt Fence.wide (m - 1) Tryz.prog l #[.int .i64 (x.1 : Int)] W1 fun e W' =>
      (e = .returned (.bool true) ∧ J (pre ++ [x]) W' ∧ KpK n₀ iB lB W1 W') ∨ (e = .returned (.bool false) ∧ Jx (pre ++ [x]) W'))
    (hiB : W.cell? ⟨iB, 0, none⟩ = some (.int .i64 (i : Int))) (hlB : W.cell? ⟨lB, 0, none⟩ = some (.slice A n c)) (hT : Tree W n₀ A n st) (h0 : J [] W) :
    CallsIn Fence.wide m Tryz.prog 213 #[.func (.yield l) #[] #[], .pointer (some ⟨iB, 0, none⟩), .pointer (some ⟨lB, 0, none⟩)] W fun e W' => (∃ v, e = .returned v) ∧
      ((∃ ys, ys.map Subtype.val = Tr.kids st i ∧ J ys W') ∨ (∃ pre, pre.map Subtype.val <+: Tr.kids st i ∧ Jx pre W')) := by
  have hn' := hn
  unfold maxLen at hn'
  refine callsIn_of_wp Tryz.func213 rfl trivial ?_ rfl
  simp only [Tryz.ntmps213, List.size_toArray, List.length_cons, List.length_nil, Nat.reduceAdd, Nat.reduceSub, Array.replicate_succ, Array.replicate_zero, List.push_toArray, List.append_toArray, List.nil_append, List.cons_append]
  gi_wp2
  gi_loopw [4] (fun v wr => ∃ (pre : List { x : Nat // x < n }) (k : Nat), v = .int .i64 (k : Int) ∧ i < k ∧ k ≤ n ∧ Tr.kids st i = pre.map Subtype.val ++ Tr.kidsFrom st (Tr.fin st i) (Tr.fin st i - k) k ∧ J pre wr ∧ W.heap.size ≤ wr.heap.size ∧
      wr.cell? ⟨iB, 0, none⟩ = some (.int .i64 (i : Int)) ∧ wr.cell? ⟨lB, 0, none⟩ = some (.slice A n c) ∧ Tree wr n₀ A n st) (fun v _ => n - (intOf v).toNat)
  case atStart => exact ⟨[], i + 1, by go_num, by omega, by omega, rfl, h0, Nat.le_refl _, hiB, hlB, hT⟩
  case round =>
    obtain ⟨pre, k, rfl, hik, hkn, hx, hJs, hsz, hib, hlb, ht⟩ := hrel
    have hfle : Tr.fin st i ≤ n := by have := Tr.fin_le st (i := i) (by rw [hT.1]; exact hi); rw [hT.1] at this; exact this
    gi_wp2
    refine ⟨trivial, (callsIn_wide.2 (fin_any wr A n c st (ht.more (by omega)) hn i hi)).mono ?_⟩
    rintro e w3 ⟨rfl, hb3⟩
    have hJ3 := hJ pre wr w3 none hJs (grownNone hb3) (fun r e => by cases e)
    have hsz3 : W.heap.size ≤ w3.heap.size := by have := hb3.size; omega
    have hib3 : w3.cell? ⟨iB, 0, none⟩ = some (.int .i64 (i : Int)) := (hb3.cell (p := ⟨iB, 0, none⟩) (World.block_lt_of_cell? _ _ hib)).trans hib
    have hlb3 : w3.cell? ⟨lB, 0, none⟩ = some (.slice A n c) := (hb3.cell (p := ⟨lB, 0, none⟩) (World.block_lt_of_cell? _ _ hlb)).trans hlb
    have ht3 : Tree w3 n₀ A n st := ht.below (hb3.mono (by omega))
    clear hib hlb ht hb3 hJs
    by_cases hke : k < Tr.fin st i
    · rw [Tr.kids_step st _ k hke] at hx
      have hlen : pre.length < (Tr.kids st i).length := by rw [hx]; simp
      have hkn2 : k < n := by omega
      obtain ⟨fn, tmps, assign, body, hy, hR⟩ := hY pre ⟨k, hkn2⟩ w3 hJ3 hlen
      dsimp only at hy
      have hkez : (k : Int) < (Tr.fin st i : Int) := by omega
      gi_wp2
      refine hR.mono ?_
      rintro e W4 (⟨rfl, hJ4, hk4⟩ | ⟨rfl, hJx4⟩)
      · obtain ⟨hk4b, hk4l, hk4i⟩ := hk4
        have hib4 : W4.cell? ⟨iB, 0, none⟩ = some (.int .i64 (i : Int)) := (World.cell?_of_block hk4i).trans hib3
        have hlb4 : W4.cell? ⟨lB, 0, none⟩ = some (.slice A n c) := (World.cell?_of_block hk4l).trans hlb3
        have ht4 : Tree W4 n₀ A n st := ht3.below hk4b
        have hsz4 : W.heap.size ≤ W4.heap.size := by have := hk4b.size; omega
        have hfk := Tr.fin_gt st k
        have hfkle : Tr.fin st k ≤ n := by have := Tr.fin_le st (i := k) (by rw [hT.1]; exact hkn2); rw [hT.1] at this; exact this
        gi_wp2
        refine ⟨trivial, (callsIn_wide.2 (fin_any W4 A n c st (ht4.more (by omega)) hn k hkn2)).mono ?_⟩
        rintro e w5 ⟨rfl, hb5⟩
        have hJ5 := hJ (pre ++ [⟨k, hkn2⟩]) W4 w5 none hJ4 (grownNone hb5) (fun r e => by cases e)
        have hsz5 : W.heap.size ≤ w5.heap.size := by have := hb5.size; omega
        have hib5 : w5.cell? ⟨iB, 0, none⟩ = some (.int .i64 (i : Int)) := (hb5.cell (p := ⟨iB, 0, none⟩) (World.block_lt_of_cell? _ _ hib4)).trans hib4
        have hlb5 : w5.cell? ⟨lB, 0, none⟩ = some (.slice A n c) := (hb5.cell (p := ⟨lB, 0, none⟩) (World.block_lt_of_cell? _ _ hlb4)).trans hlb4
        have ht5 : Tree w5 n₀ A n st := ht4.below (hb5.mono (by omega))
        gi_wp2
        go_roundw
        case rel => exact ⟨pre ++ [⟨k, hkn2⟩], Tr.fin st k, rfl, by omega, hfkle, by rw [hx]; simp, hJ5, hsz5, hib5, hlb5, ht5⟩
        case measure => simp [intOf]; omega
      · gi_wp2
        refine bodyPost_ret (results_none rfl _ _ _) rfl ?_
        exact ⟨⟨_, rfl⟩, .inr ⟨pre ++ [⟨k, hkn2⟩], ⟨_, by rw [hx]; simp; rfl⟩, hJx4⟩⟩
    · rw [Tr.kids_end st _ k hke, List.append_nil] at hx
      have hkez : ¬ (k : Int) < (Tr.fin st i : Int) := by omega
      gi_wp2
      go_end0
      exact ⟨⟨_, rfl⟩, .inl ⟨pre, hx.symm, hJ3⟩⟩

/-- 'kids': the function value captures two boxes. -/
theorem kids_in (m : Nat) (A : Option Addr) (n c i : Nat) (w : World) :
    CallsIn Fence.wide m Tryz.prog 160 #[.slice A n c, .int .i64 (i : Int)] w fun e w' =>
      e = .returned (.func (.func 213) #[] #[.pointer (some ⟨w.heap.size + 1, 0, none⟩), .pointer (some ⟨w.heap.size, 0, none⟩)]) ∧ w' = (w.alloc (.cells #[.slice A n c] 37)).alloc (.cells #[.int .i64 (i : Int)] 3) := by
  refine callsIn_of_wp Tryz.func160 rfl trivial ?_ rfl
  simp only [Tryz.ntmps160, List.size_toArray, List.length_cons, List.length_nil, Nat.reduceAdd, Nat.reduceSub, Array.replicate_succ, Array.replicate_zero, List.push_toArray, List.append_toArray, List.nil_append, List.cons_append]
  gi_wp2
  go_ret
  exact ⟨rfl, rfl⟩

/-- What 'kids' hands back gives a state's children, one by one. -/
theorem kids_stops (m : Nat) (hm : 1 ≤ m) (iB lB n₀ : Nat) (A : Option Addr) (n c : Nat) (st : Sts) (hn : n ≤ maxLen) (i : Nat) (hi : i < n) (w : World) (hn0 : n₀ ≤ w.heap.size)
    (hiB : w.cell? ⟨iB, 0, none⟩ = some (.int .i64 (i : Int))) (hlB : w.cell? ⟨lB, 0, none⟩ = some (.slice A n c)) (hT : Tree w n₀ A n st) :
    SeqStopsK Fence.wide m Tryz.prog 213 #[.pointer (some ⟨iB, 0, none⟩), .pointer (some ⟨lB, 0, none⟩)] (fun x : { x : Nat // x < n } => #[Value.int .i64 (x.1 : Int)]) (KpK n₀ iB lB) (fun ys => ys.map Subtype.val = Tr.kids st i) (fun pre => pre.map Subtype.val <+: Tr.kids st i) (Tr.kids st i).length w :=
  fun l J Jx W hW hJ _ hY h0 => kids1_in m hm l iB lB n₀ A n c st hn i hi J Jx W (by have := hW.size; omega) hJ hY ((hW.cell (p := ⟨iB, 0, none⟩) (World.block_lt_of_cell? _ _ hiB)).trans hiB) ((hW.cell (p := ⟨lB, 0, none⟩) (World.block_lt_of_cell? _ _ hlB)).trans hlB) (hT.below (hW.mono hn0)) h0


end Go.Proofs.YtgmhkjmnfafccaaGreatDoor
