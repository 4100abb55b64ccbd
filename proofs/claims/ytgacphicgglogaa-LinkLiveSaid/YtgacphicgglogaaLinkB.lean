/- A link's end: 'load', 'on', 'Send'. -/
import Derived.Test.YtgacphicgglogaaLinkA
import Derived.Deep.LoopGhost
namespace Go.Proofs.Ytgacphicgglogaa
open Go.RowKit Crc
set_option linter.unusedVariables false

namespace LK
def load (l : LK) (n : Nat) : LK := l.put 1 n (l.loads[n - l.told - 1]?.getD ByteArray.empty)
def onF : Nat → LK → LK
  | 0, l => l
  | f + 1, l => if l.out < l.last ∧ l.out < l.told + 8 then onF f (({ l with out := l.out + 1 } : LK).load (l.out + 1)) else l
def on (l : LK) : LK := onF (l.told + 8 - l.out) l
def send (l : LK) (s : ByteArray) : LK × Int := if 800 < s.size then (l, 4) else if l.last - l.told = 64 then (l, 10) else (({ l with last := l.last + 1, loads := l.loads ++ [s] } : LK).on, 0)
theorem put_goes (l : LK) (k n : Nat) (s : ByteArray) (h : l.goes.length ≤ 64) : (l.put k n s).goes.length ≤ 64 := by
  unfold put
  by_cases h64 : l.goes.length = 64
  · simp only [if_pos h64]; omega
  · simp only [if_neg h64, List.length_append, List.length_cons, List.length_nil]; omega
theorem put_ok {l : LK} (h : l.Ok) (k n : Nat) (s : ByteArray) : (l.put k n s).Ok := ⟨h.told, h.out, h.ahead, h.room, h.loads, h.taken, h.came, h.slots, put_goes l k n s h.goes, h.short⟩
theorem out_ok {l : LK} (h : l.Ok) (h1 : l.out < l.last) (h2 : l.out < l.told + 8) : ({ l with out := l.out + 1 } : LK).Ok :=
  ⟨Nat.le_succ_of_le h.told, h1, h2, h.room, h.loads, h.taken, h.came, h.slots, h.goes, h.short⟩
theorem onF_ok : ∀ (f : Nat) {l : LK}, l.Ok → (onF f l).Ok
  | 0, _, h => h
  | f + 1, l, h => by
    unfold onF
    split
    · rename_i hc
      exact onF_ok f (put_ok (out_ok h hc.1 hc.2) _ _ _)
    · exact h
theorem onF_keep : ∀ (f : Nat) (l : LK), (onF f l).last = l.last ∧ (onF f l).told = l.told ∧ (onF f l).came = l.came ∧ (onF f l).taken = l.taken ∧ (onF f l).loads = l.loads ∧ (onF f l).slots = l.slots
  | 0, l => ⟨rfl, rfl, rfl, rfl, rfl, rfl⟩
  | f + 1, l => by
    unfold onF
    split
    · exact onF_keep f _
    · exact ⟨rfl, rfl, rfl, rfl, rfl, rfl⟩
theorem on_ok {l : LK} (h : l.Ok) : l.on.Ok := onF_ok _ h
theorem on_keep (l : LK) : l.on.last = l.last ∧ l.on.told = l.told ∧ l.on.came = l.came ∧ l.on.taken = l.taken ∧ l.on.loads = l.loads ∧ l.on.slots = l.slots := onF_keep _ l
theorem more_ok {l : LK} (h : l.Ok) (s : ByteArray) (hs : s.size ≤ 800) (hr : ¬ l.last - l.told = 64) : ({ l with last := l.last + 1, loads := l.loads ++ [s] } : LK).Ok :=
  ⟨h.told, Nat.le_succ_of_le h.out, h.ahead, by have := h.room; have := h.told; have := h.out; show l.last + 1 ≤ l.told + 64; omega, by have h1 := h.loads; have h2 := h.told; have h3 := h.out; show (l.loads ++ [s]).length = l.last + 1 - l.told; rw [List.length_append, h1, List.length_singleton]; omega, h.taken, h.came, h.slots, h.goes,
    fun x hx => by rcases List.mem_append.1 hx with hx | hx; exact h.short x hx; rw [List.mem_singleton.1 hx]; exact hs⟩
theorem send_ok {l : LK} (h : l.Ok) (s : ByteArray) : (l.send s).1.Ok := by
  unfold send
  split
  · exact h
  · split
    · exact h
    · exact on_ok (more_ok h s (by omega) (by assumption))
end LK

theorem Touch.of_drewN {S : Nat → Prop} {w w' : World} (n : Nat) (h : Touch S (w.drewN n) w') : Touch S w w' := ⟨h.os, h.tape, h.output, h.size, h.block⟩
theorem LinkEnd.undrew {w w' : World} {B p : Nat} {vL vG : Value} {l' : LK} (h : LinkEnd w.drew B p vL vG l' w') : LinkEnd w B p vL vG l' w' := by
  obtain ⟨vL', vG', h1, ht, hf⟩ := h
  exact ⟨vL', vG', h1, ⟨ht.os, ht.tape, ht.output, ht.size, ht.block⟩, hf⟩
theorem LinkEnd.undrewN {w w' : World} {B p : Nat} {vL vG : Value} {l' : LK} (n : Nat) (h : LinkEnd (w.drewN n) B p vL vG l' w') : LinkEnd w B p vL vG l' w' := by
  obtain ⟨vL', vG', h1, ht, hf⟩ := h
  exact ⟨vL', vG', h1, ⟨ht.os, ht.tape, ht.output, ht.size, ht.block⟩, hf⟩

theorem strs_at (l : List ByteArray) (i : Nat) (h : i < l.length) : (strs l)[i]? = some (.string (l[i]?.getD ByteArray.empty)) := by
  simp [strs, h]

set_option maxHeartbeats 1000000 in
set_option maxRecDepth 100000 in
theorem load_any (w : World) (B p : Nat) (vL vG : Value) (l : LK) (h : LinkAt w B p vL vG l) (hB : B ≤ w.heap.size) (ok : l.Ok) (hl : l.last ≤ 1099511627776) (n : Nat) (h1 : l.told < n) (h2 : n ≤ l.last) :
    Calls Try.prog 46 #[.pointer (some ⟨p, 0, none⟩), .int .u64 (n : Int)] w fun e w' => e = .returned (.tuple #[]) ∧ LinkEnd w B p vL vG (l.load n) w' := by
  obtain ⟨hc0, hc1, hc2, hc3, hc4, hc5, hc22⟩ := h.cells
  obtain ⟨A, c, rfl⟩ := own_form h.loads
  have hr := Reads.of_own h.loads
  have hll := ok.loads
  have hi : n - l.told - 1 < l.loads.length := by omega
  obtain ⟨ad, u, rfl, hab, hu, hcell⟩ := hr.at_ hi
  rw [strs_at l.loads _ hi] at hu
  injection hu with hu
  subst hu
  have hsz : (l.loads[n - l.told - 1]?.getD ByteArray.empty).size ≤ 800 := by
    rw [List.getElem?_eq_getElem hi]
    exact ok.short _ (List.getElem_mem hi)
  have hput := put_any w.drew B p _ vG l (h.drewN 1) hB ok.goes 1 n _ (by omega) hsz
  have HP := Lib.hid hput
  have HLD := Lib.hid (show l.load n = l.put 1 n (l.loads[n - l.told - 1]?.getD ByteArray.empty) from rfl)
  obtain ⟨x, hx⟩ : ∃ x, l.loads[n - l.told - 1]?.getD ByteArray.empty = x := ⟨_, rfl⟩
  obtain ⟨L, hL⟩ : ∃ L, l.loads.length = L := ⟨_, rfl⟩
  rw [hx] at HP HLD hcell
  rw [hL] at HP hc5 hi
  rw [hL]
  have hw1 : IntKind.u64.wrap ((n : Int) - (l.told : Int)) = ((n - l.told : Nat) : Int) := by rw [IntWalk.u64_in _ (by omega)]; omega
  have hw2 : IntKind.u64.wrap (((n - l.told : Nat) : Int) - 1) = ((n - l.told - 1 : Nat) : Int) := by rw [IntWalk.u64_in _ (by omega)]; omega
  have hi2 : ((n - l.told - 1 : Nat) : Int) < (L : Int) := by omega
  have hi0 : (0 : Int) ≤ ((n - l.told - 1 : Nat) : Int) := by omega
  obtain ⟨j, hj⟩ : ∃ j, n - l.told - 1 = j := ⟨_, rfl⟩
  rw [hj] at hw2 hi2 hi0 hcell hi
  obtain ⟨k, hk⟩ : ∃ k, n - l.told = k := ⟨_, rfl⟩
  rw [hk] at hw1 hw2
  have htn : (j : Int).toNat = j := rfl
  clear hc0 hc2 hc3 hc4 hc22 hput hx hll hsz hr hj hk hL
  generalize hT : l.told = T at *
  clear hT
  go_enter Try.func46, Try.ntmps46
  go_wp2
  refine Reg.wp_chain 15 [] (fun w' => w' = w.drew) (fun _ _ => True) (by kernel_rfl) (by kernel_rfl) (by kernel_rfl) (by kernel_rfl) (fun _ _ d _ _ h => by cases d <;> exact h) rfl ?_
  simp only [List.take_succ_cons, List.take_zero]
  repeat (refine Reg.chain_plain rfl rfl ?_ ?_ ?_; rotate_left; (focus (rintro w3 rfl _; go_simp; rfl)))
  simp only [Act.put, List.setIfInBounds_toArray, List.set_cons_succ, List.set_cons_zero]
  refine Reg.chain_end (fun w3 hw3 _ => ?_)
  subst hw3
  simp only [List.drop_succ_cons, List.drop_zero]
  go_wp2_with fail
  refine HP.out.mono ?_
  rintro e w4 ⟨rfl, he⟩
  rw [← HLD.out] at he
  have HE := Lib.hid he.undrew
  clear he
  go_wp2
  go_end0
  exact ⟨rfl, HE.out⟩

set_option maxHeartbeats 1000000 in
set_option maxRecDepth 100000 in
theorem on_any (w : World) (B p : Nat) (vL vG : Value) (l : LK) (h : LinkAt w B p vL vG l) (hB : B ≤ w.heap.size) (ok : l.Ok) (hl : l.last ≤ 1099511627776) :
    Calls Try.prog 45 #[.pointer (some ⟨p, 0, none⟩)] w fun e w' => e = .returned (.tuple #[]) ∧ LinkEnd w B p vL vG l.on w' := by
  go_enter Try.func45, Try.ntmps45
  go_wp2
  go_loopg [2] (l.told + 8 - l.out) (fun g v wr => ∃ (l1 : LK) (vL1 vG1 : Value), LinkAt wr B p vL1 vG1 l1 ∧ l1.Ok ∧ l1.last ≤ 1099511627776 ∧ g = l1.told + 8 - l1.out ∧ LK.onF g l1 = l.on ∧ Touch (Foot p vL vG) w wr ∧ ∀ k, Foot p vL1 vG1 k → Foot p vL vG k ∨ w.heap.size ≤ k)
  case atStart => exact ⟨l, vL, vG, h, ok, hl, rfl, rfl, Touch.refl _ _, fun k hk => .inl hk⟩
  case round =>
    obtain ⟨l1, vL1, vG1, h1, ok1, hl1, hg, hon, ht, hf⟩ := hrel
    obtain ⟨hc0, hc1, hc2, hc3, hc4, hc5, hc22⟩ := h1.cells
    have hat := ok1.told
    have hal := ok1.out
    have haa := ok1.ahead
    have hw8 : IntKind.u64.wrap ((l1.told : Int) + 8) = (l1.told : Int) + 8 := IntWalk.u64_in _ (by omega)
    have hBr : B ≤ wr.heap.size := Nat.le_trans hB ht.size
    by_cases hc : l1.out < l1.last ∧ l1.out < l1.told + 8
    · obtain ⟨ha, hb⟩ := hc
      have hz1 : (l1.out : Int) < (l1.last : Int) := by omega
      have hz2 : (l1.out : Int) < (l1.told : Int) + 8 := by omega
      have hwo : IntKind.u64.wrap ((l1.out : Int) + 1) = (l1.out : Int) + 1 := IntWalk.u64_in _ (by omega)
      obtain ⟨g', rfl⟩ : ∃ g', gk = g' + 1 := ⟨gk - 1, by omega⟩
      have hon2 : LK.onF g' (({ l1 with out := l1.out + 1 } : LK).load (l1.out + 1)) = l.on := by
        rw [← hon, LK.onF, if_pos ⟨ha, hb⟩]
      have HON := Lib.hid hon2
      have HG := Lib.hid (show g' = l1.told + 8 - (l1.out + 1) by omega)
      have H1 := h1
      have hfz := h1.frozen 2
      have ok2 := LK.out_ok ok1 ha hb
      have h2 : ∀ n, LinkAt ((wr.drewN n).setCell ⟨p, 2, none⟩ (.int .u64 ((l1.out : Int) + 1))) B p vL1 vG1 { l1 with out := l1.out + 1 } := fun n => (h1.drewN n).set_ 2 _ _ rfl rfl rfl ok1.slots
      have hcon : ∀ n, Calls Try.prog 46 #[.pointer (some ⟨p, 0, none⟩), .int .u64 ((l1.out : Int) + 1)] ((wr.drewN n).setCell ⟨p, 2, none⟩ (.int .u64 ((l1.out : Int) + 1))) fun e w' => e = .returned (.tuple #[]) ∧ LinkEnd ((wr.drewN n).setCell ⟨p, 2, none⟩ (.int .u64 ((l1.out : Int) + 1))) B p vL1 vG1 (({ l1 with out := l1.out + 1 } : LK).load (l1.out + 1)) w' := fun n => by
        have := load_any _ B p vL1 vG1 _ (h2 n) (by rw [World.size_setCell]; exact hBr) ok2 hl1 (l1.out + 1) (by show l1.told < l1.out + 1; omega) ha
        rw [Int.natCast_add] at this
        exact this
      have HCON := Lib.hid hcon
      have hcell2 : ∀ n, ((wr.drewN n).setCell ⟨p, 2, none⟩ (.int .u64 ((l1.out : Int) + 1))).cell? ⟨p, 2, none⟩ = some (.int .u64 ((l1.out : Int) + 1)) := fun n => (h2 n).cells.2.2.1
      have H2 := Lib.hid h2
      clear hcon hon hon2 hg h2 hat hal haa
      go_wp2
      go_quiet (fail)
      go_wp2_with fail
      refine (HCON.out _).mono ?_
      rintro e w4 ⟨rfl, vL2, vG2, h4, ht4, hf4⟩
      have ht2 : Touch (Foot p vL1 vG1) wr ((wr.drewN nq).setCell ⟨p, 2, none⟩ (.int .u64 ((l1.out : Int) + 1))) := (Touch.of_set (S := Foot p vL1 vG1) (w := wr.drewN nq) _ _ (.inl rfl)).more (fun _ h => h) |> fun h => ⟨h.os, h.tape, h.output, h.size, h.block⟩
      have hsz2 : ((wr.drewN nq).setCell ⟨p, 2, none⟩ (.int .u64 ((l1.out : Int) + 1))).heap.size = wr.heap.size := World.size_setCell _ _ _
      have HT := Lib.hid (show Touch (Foot p vL vG) w w4 from ht.trans (ht2.trans ht4 (fun k hk => .inl hk)) hf)
      have HF := Lib.hid (show ∀ k, Foot p vL2 vG2 k → Foot p vL vG k ∨ w.heap.size ≤ k from fun k hk => by
        rcases hf4 k hk with h5 | h5
        · exact hf k h5
        · rw [hsz2] at h5
          exact .inr (Nat.le_trans ht.size h5))
      clear ht2 hsz2 ht4 hf4
      go_wp2
      go_roundg g'
      case measure => omega
      case rel => exact ⟨_, vL2, vG2, h4, LK.put_ok ok2 _ _ _, hl1, HG.out, HON.out, HT.out, HF.out⟩
    · have hon2 : l1 = l.on := by
        rw [← hon]
        cases gk with
        | zero => rfl
        | succ g => rw [LK.onF, if_neg hc]
      have HON := Lib.hid hon2
      clear hon hon2 hg
      by_cases ha : l1.out < l1.last
      · have hb : ¬ l1.out < l1.told + 8 := fun hb => hc ⟨ha, hb⟩
        have hz1 : (l1.out : Int) < (l1.last : Int) := by omega
        have hz2 : ¬ (l1.out : Int) < (l1.told : Int) + 8 := by omega
        have hz2b : decide ((l1.out : Int) < (l1.told : Int) + 8) = false := decide_eq_false hz2
        clear hc ha hb
        go_wp2
        go_quiet (fail)
        go_wp2
        first | go_end0 | refine bodyPost_ret (results_none rfl _ _ _) rfl ?_
        exact ⟨rfl, by rw [← HON.out]; exact ⟨vL1, vG1, h1.drewN _, ht.drewN _, hf⟩⟩
      · have hz1 : ¬ (l1.out : Int) < (l1.last : Int) := by omega
        have hz1b : decide ((l1.out : Int) < (l1.last : Int)) = false := decide_eq_false hz1
        have hz1c : decide (l1.out < l1.last) = false := decide_eq_false ha
        clear hc ha
        go_wp2
        go_quiet (fail)
        go_wp2
        first | go_end0 | refine bodyPost_ret (results_none rfl _ _ _) rfl ?_
        exact ⟨rfl, by rw [← HON.out]; exact ⟨vL1, vG1, h1.drewN _, ht.drewN _, hf⟩⟩

end Go.Proofs.Ytgacphicgglogaa
