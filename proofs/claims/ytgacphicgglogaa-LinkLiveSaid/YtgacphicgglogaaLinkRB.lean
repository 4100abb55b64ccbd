/- The document's link's end: 'on', 'Came', 'Tick', 'Out', 'Recv'. -/
import Derived.Test.YtgacphicgglogaaLinkRA
import Derived.Deep.LoopGhost
namespace Go.Proofs.Ytgacphicgglogaa
open Go.RowKit Crc
set_option linter.unusedVariables false

namespace RL
def nth (r : RL) (n : Nat) : RL := r.put 1 n (r.loads[n - 1]?.getD ByteArray.empty)
def onF : Nat → RL → RL
  | 0, r => r
  | f + 1, r => if r.sent < r.loads.length ∧ r.sent < r.told + 8 then onF f (({ r with sent := r.sent + 1 } : RL).nth (r.sent + 1)) else r
def on (r : RL) : RL := onF (r.told + 8 - r.sent) r
def tickTo (r : RL) : Nat → RL
  | 0 => r
  | k + 1 => (tickTo r k).nth (r.told + 1 + k)
def tick (r : RL) : RL := tickTo r (r.sent - r.told)
def came (r : RL) : Nat := (r.there.takeWhile id).length
def recv (r : RL) : RL × ByteArray × Bool :=
  if r.came ≤ r.taken then (r, ByteArray.empty, false) else ({ r with taken := r.taken + 1 }, r.ins[r.taken]?.getD ByteArray.empty, true)
theorem sent_ok {r : RL} (h : r.Ok) (h1 : r.sent < r.loads.length) : ({ r with sent := r.sent + 1 } : RL).Ok :=
  ⟨Nat.le_succ_of_le h.told, h1, h.few, h.ins, h.there, h.taken, h.goes, h.short⟩
theorem tickTo_keep (r : RL) : ∀ k, (tickTo r k).told = r.told ∧ (tickTo r k).sent = r.sent ∧ (tickTo r k).loads = r.loads
  | 0 => ⟨rfl, rfl, rfl⟩
  | k + 1 => tickTo_keep r k
theorem tickTo_ok {r : RL} (h : r.Ok) : ∀ k, (tickTo r k).Ok
  | 0 => h
  | k + 1 => put_ok (tickTo_ok h k) _ _ _
end RL

theorem trues_len : ∀ (l : List Bool), (l.takeWhile id).length ≤ l.length
  | [] => by simp
  | false :: l => by simp
  | true :: l => by have := trues_len l; simp; exact this
theorem trues_at : ∀ (l : List Bool) (i : Nat), i < (l.takeWhile id).length → l[i]? = some true
  | [], i, h => by simp at h
  | false :: l, i, h => by simp at h
  | true :: l, 0, h => rfl
  | true :: l, i + 1, h => trues_at l i (by simpa using h)
theorem trues_end : ∀ (l : List Bool), (l.takeWhile id).length < l.length → l[(l.takeWhile id).length]? = some false
  | [], h => by simp at h
  | false :: l, h => rfl
  | true :: l, h => trues_end l (by simpa using h)
theorem bools_at (l : List Bool) (i : Nat) (b : Bool) (h : l[i]? = some b) : (bools l)[i]? = some (.bool b) := by
  simp [bools, h]

set_option maxHeartbeats 1000000 in
set_option maxRecDepth 100000 in
theorem rcame_any (w : World) (B p : Nat) (v : V4) (r : RL) (h : RAt w B p v r) (ok : r.Ok) :
    Calls Try.prog 30 #[.pointer (some ⟨p, 0, none⟩)] w fun e w' => e = .returned (.int .u64 (r.came : Int)) ∧ w' = w := by
  obtain ⟨hc0, hc1, hc2, hc3, hc4, hc5, hc6⟩ := h.cells
  have hth := h.there
  obtain ⟨vL, vI, vT, vG⟩ := v
  dsimp only at hc4 hth
  obtain ⟨A, c, hA⟩ := own_form hth
  subst hA
  have hr := Reads.of_own hth
  have hlen := ok.there
  have htk := ok.taken
  have hcl : r.came ≤ r.there.length := trues_len _
  clear hc0 hc1 hc2 hc3 hc5 hc6 hth
  obtain ⟨T, hT⟩ : ∃ T, r.there.length = T := ⟨_, rfl⟩
  rw [hT] at hc4 hr hlen hcl
  have hwT : IntKind.u64.wrap (T : Int) = (T : Int) := IntWalk.u64_in _ (by omega)
  have HT := Lib.hid hT
  obtain ⟨C, hC⟩ : ∃ C, r.came = C := ⟨_, rfl⟩
  rw [hC] at hcl
  have HAT := Lib.hid (show ∀ i, i < C → r.there[i]? = some true by rw [← hC]; exact trues_at _)
  have HEN := Lib.hid (show C < T → r.there[C]? = some false by rw [← hC, ← hT]; exact trues_end _)
  rw [hC]
  clear hT hC
  go_enter Try.func30, Try.ntmps30
  go_wp2
  go_loopg [3] C (fun g v wr => ∃ n : Nat, v = .int .u64 (n : Int) ∧ n + g = C ∧ wr = w)
  case atStart => exact ⟨0, rfl, by omega, rfl⟩
  case round =>
    obtain ⟨n, rfl, hn, rfl⟩ := hrel
    cases gk with
    | zero =>
      obtain rfl : n = C := by omega
      by_cases hnT : n < T
      · obtain ⟨ad, u, rfl, hab, hu, hcell⟩ := hr.at_ hnT
        rw [bools_at _ _ _ (HEN.out hnT)] at hu
        injection hu with hu
        subst hu
        have hz : (n : Int) < (T : Int) := by omega
        have hz0 : (0 : Int) ≤ (n : Int) := by omega
        clear hnT hn
        go_wp2
        go_ret
        exact ⟨rfl, rfl⟩
      · have hz : ¬ (n : Int) < (T : Int) := by omega
        clear hnT hn
        go_wp2
        go_ret
        exact ⟨rfl, rfl⟩
    | succ g =>
      have hnT : n < T := by omega
      obtain ⟨ad, u, rfl, hab, hu, hcell⟩ := hr.at_ hnT
      rw [bools_at _ _ _ (HAT.out n (by omega))] at hu
      injection hu with hu
      subst hu
      have hz : (n : Int) < (T : Int) := by omega
      have hz0 : (0 : Int) ≤ (n : Int) := by omega
      have hwn : IntKind.u64.wrap ((n : Int) + 1) = ((n + 1 : Nat) : Int) := by rw [IntWalk.u64_in _ (by omega)]; omega
      have HN := Lib.hid hn
      clear hnT hn
      go_wp2
      go_roundg g
      case measure => omega
      case rel => exact ⟨n + 1, by rw [Int.natCast_add]; rfl, by have := HN.out; omega, rfl⟩

set_option maxHeartbeats 1000000 in
set_option maxRecDepth 100000 in
theorem ron_any (w : World) (B p : Nat) (v : V4) (r : RL) (h : RAt w B p v r) (hB : B ≤ w.heap.size) (ok : r.Ok) :
    Calls Try.prog 51 #[.pointer (some ⟨p, 0, none⟩)] w fun e w' => e = .returned (.tuple #[]) ∧ REnd w B p v r.on w' := by
  go_enter Try.func51, Try.ntmps51
  go_wp2
  go_loopg [2] (r.told + 8 - r.sent) (fun g x wr => ∃ (r1 : RL) (v1 : V4), RAt wr B p v1 r1 ∧ r1.Ok ∧ g = r1.told + 8 - r1.sent ∧ RL.onF g r1 = r.on ∧ Touch (FootV p v) w wr ∧ ∀ k, FootV p v1 k → FootV p v k ∨ w.heap.size ≤ k)
  case atStart => exact ⟨r, v, h, ok, rfl, rfl, Touch.refl _ _, fun k hk => .inl hk⟩
  case round =>
    obtain ⟨r1, v1, h1, ok1, hg, hon, ht, hf⟩ := hrel
    obtain ⟨hc0, hc1, hc2, hc3, hc4, hc5, hc6⟩ := h1.cells
    have hlo := h1.loads
    obtain ⟨vL, vI, vT, vG⟩ := v1
    dsimp only at hc0 hlo
    obtain ⟨A, c, hA⟩ := own_form hlo
    subst hA
    have hrd := Reads.of_own hlo
    have hat := ok1.told
    have hal := ok1.sent
    have haf := ok1.few
    have hw8 : IntKind.u64.wrap ((r1.told : Int) + 8) = (r1.told : Int) + 8 := IntWalk.u64_in _ (by omega)
    have hBr : B ≤ wr.heap.size := Nat.le_trans hB ht.size
    obtain ⟨L, hL⟩ : ∃ L, r1.loads.length = L := ⟨_, rfl⟩
    have HLL := Lib.hid hL
    rw [hL] at hc0 hrd hal haf
    have hwL : IntKind.u64.wrap (L : Int) = (L : Int) := IntWalk.u64_in _ (by omega)
    clear hc3 hc4 hc5 hc6 hlo hL
    by_cases hc : r1.sent < L ∧ r1.sent < r1.told + 8
    · obtain ⟨ha, hb⟩ := hc
      have hz1 : (r1.sent : Int) < (L : Int) := by omega
      have hz2 : (r1.sent : Int) < (r1.told : Int) + 8 := by omega
      have hwo : IntKind.u64.wrap ((r1.sent : Int) + 1) = (r1.sent : Int) + 1 := IntWalk.u64_in _ (by omega)
      have hwm : IntKind.u64.wrap ((r1.sent : Int) + 1 - 1) = (r1.sent : Int) := by rw [IntWalk.u64_in _ (by omega)]; omega
      obtain ⟨g', rfl⟩ : ∃ g', gk = g' + 1 := ⟨gk - 1, by omega⟩
      have hon2 : RL.onF g' (({ r1 with sent := r1.sent + 1 } : RL).nth (r1.sent + 1)) = r.on := by
        rw [← hon, RL.onF, if_pos ⟨by rw [HLL.out]; exact ha, hb⟩]
      have HON := Lib.hid hon2
      have HG := Lib.hid (show g' = r1.told + 8 - (r1.sent + 1) by omega)
      have hfz := h1.frozen 2
      have ok2 := RL.sent_ok ok1 (by rw [HLL.out]; exact ha)
      obtain ⟨ad, u, rfl, hab, hu, hcell⟩ := hrd.at_ ha
      rw [strs_at r1.loads _ (by rw [HLL.out]; exact ha)] at hu
      injection hu with hu
      subst hu
      have hsz : (r1.loads[r1.sent]?.getD ByteArray.empty).size ≤ 800 := by
        rw [List.getElem?_eq_getElem (by rw [HLL.out]; exact ha)]
        exact ok1.short _ (List.getElem_mem _)
      have h2 : ∀ n, RAt ((wr.drewN n).setCell ⟨p, 2, none⟩ (.int .u64 ((r1.sent : Int) + 1))) B p ⟨.slice (some ad) r1.loads.length c, vI, vT, vG⟩ { r1 with sent := r1.sent + 1 } := fun n => (h1.drewN n).num 2 _ _ rfl rfl
      have hcon : ∀ n, Calls Try.prog 52 #[.pointer (some ⟨p, 0, none⟩), .int .i64 1, .int .u64 ((r1.sent : Int) + 1), .string (r1.loads[r1.sent]?.getD ByteArray.empty)] ((wr.drewN n).setCell ⟨p, 2, none⟩ (.int .u64 ((r1.sent : Int) + 1))).drew fun e w' => e = .returned (.tuple #[]) ∧ REnd ((wr.drewN n).setCell ⟨p, 2, none⟩ (.int .u64 ((r1.sent : Int) + 1))) B p ⟨.slice (some ad) r1.loads.length c, vI, vT, vG⟩ (({ r1 with sent := r1.sent + 1 } : RL).nth (r1.sent + 1)) w' := fun n => by
        have := rput_any _ B p _ _ (h2 n).drew (by show B ≤ ((wr.drewN n).setCell _ _).heap.size; rw [World.size_setCell]; exact hBr) ok2.goes 1 (r1.sent + 1) _ (by omega) hsz
        rw [Int.natCast_add] at this
        exact this.mono fun e w' ⟨he, hx⟩ => ⟨he, hx.undrew⟩
      have HCON := Lib.hid hcon
      have hcell2 : ∀ n, ((wr.drewN n).setCell ⟨p, 2, none⟩ (.int .u64 ((r1.sent : Int) + 1))).cell? ⟨p, 2, none⟩ = some (.int .u64 ((r1.sent : Int) + 1)) := fun n => (h2 n).cells.2.2.1
      have hcell0 : ∀ n, ((wr.drewN n).setCell ⟨p, 2, none⟩ (.int .u64 ((r1.sent : Int) + 1))).cell? ⟨p, 0, none⟩ = some (.slice (some ad) L c) := fun n => by
        have := (h2 n).cells.1
        dsimp only at this
        rw [HLL.out] at this
        exact this
      have hcellx : ∀ n, ((wr.drewN n).setCell ⟨p, 2, none⟩ (.int .u64 ((r1.sent : Int) + 1))).cell? (ad.add r1.sent) = some (.string (r1.loads[r1.sent]?.getD ByteArray.empty)) := fun n => by
        have h3 := Reads.of_own (h2 n).loads
        dsimp only at h3
        obtain ⟨ad', u', he, _, hu', hx'⟩ := h3.at_ (k := r1.sent) (by rw [HLL.out]; exact ha)
        injection he with he
        subst he
        rw [strs_at r1.loads _ (by rw [HLL.out]; exact ha)] at hu'
        injection hu' with hu'
        subst hu'
        exact hx'
      have hz0 : (0 : Int) ≤ (r1.sent : Int) := by omega
      have hws : IntKind.u64.wrap (r1.sent : Int) = (r1.sent : Int) := IntWalk.u64_in _ (by omega)
      obtain ⟨x, hx⟩ : ∃ x, r1.loads[r1.sent]?.getD ByteArray.empty = x := ⟨_, rfl⟩
      rw [hx] at HCON hcellx
      clear hcon hon hon2 hg h2 hat hal hsz hx hcell hrd ha hb
      go_wp2
      go_quiet (fail)
      have hcell2' := hcell2 nq
      have hcell0' := hcell0 nq
      have hcellx' := hcellx nq
      clear hcell2 hcell0 hcellx
      go_wp2
      generalize hW : (wr.drewN nq).setCell ⟨p, 2, none⟩ (.int .u64 ((r1.sent : Int) + 1)) = W at *
      refine Reg.wp_chain 16 [] (fun w' => w' = W.drew) (fun _ _ => True) (by kernel_rfl) (by kernel_rfl) (by kernel_rfl) (by kernel_rfl) (fun _ _ d _ _ h => by cases d <;> exact h) rfl ?_
      simp only [List.take_succ_cons, List.take_zero]
      repeat (refine Reg.chain_plain rfl rfl ?_ ?_ ?_; rotate_left; (focus (rintro w3 rfl _; go_simp; rfl)))
      simp only [Act.put, List.setIfInBounds_toArray, List.set_cons_succ, List.set_cons_zero]
      refine Reg.chain_end (fun w3 hw3 _ => ?_)
      subst hw3
      simp only [List.drop_succ_cons, List.drop_zero]
      go_wp2_with fail
      have hco := HCON.out nq
      rw [hW] at hco
      refine hco.mono ?_
      rintro e w4 ⟨rfl, v2, h4, ht4, hf4⟩
      have ht2 : Touch (FootV p ⟨.slice (some ad) r1.loads.length c, vI, vT, vG⟩) wr W := by
        rw [← hW]
        exact (touch_num (wr.drewN nq) p 2 _ _) |> fun h => ⟨h.os, h.tape, h.output, h.size, h.block⟩
      have hsz2 : W.heap.size = wr.heap.size := by rw [← hW]; exact World.size_setCell _ _ _
      have HT := Lib.hid (show Touch (FootV p v) w w4 from ht.trans (ht2.trans ht4 (fun k hk => .inl hk)) hf)
      have HF := Lib.hid (show ∀ k, FootV p v2 k → FootV p v k ∨ w.heap.size ≤ k from fun k hk => by
        rcases hf4 k hk with h5 | h5
        · exact hf k h5
        · rw [hsz2] at h5
          exact .inr (Nat.le_trans ht.size h5))
      clear ht2 hsz2 ht4 hf4 hco hW
      go_wp2
      go_roundg g'
      case measure => omega
      case rel => exact ⟨_, v2, h4, RL.put_ok ok2 _ _ _, HG.out, HON.out, HT.out, HF.out⟩
    · have hon2 : r1 = r.on := by
        rw [← hon]
        cases gk with
        | zero => rfl
        | succ g => rw [RL.onF, if_neg (by rw [HLL.out]; exact hc)]
      have HON := Lib.hid hon2
      clear hon hon2 hg
      by_cases ha : r1.sent < L
      · have hb : ¬ r1.sent < r1.told + 8 := fun hb => hc ⟨ha, hb⟩
        have hz1 : (r1.sent : Int) < (L : Int) := by omega
        have hz2 : ¬ (r1.sent : Int) < (r1.told : Int) + 8 := by omega
        have hz2b : decide ((r1.sent : Int) < (r1.told : Int) + 8) = false := decide_eq_false hz2
        clear hc ha hb
        go_wp2
        go_quiet (fail)
        go_wp2
        first | go_end0 | refine bodyPost_ret (results_none rfl _ _ _) rfl ?_
        exact ⟨rfl, by rw [← HON.out]; exact ⟨_, h1.drewN _, ht.drewN _, hf⟩⟩
      · have hz1 : ¬ (r1.sent : Int) < (L : Int) := by omega
        have hz1b : decide ((r1.sent : Int) < (L : Int)) = false := decide_eq_false hz1
        have hz1c : decide (r1.sent < L) = false := decide_eq_false ha
        clear hc ha
        go_wp2
        go_quiet (fail)
        go_wp2
        first | go_end0 | refine bodyPost_ret (results_none rfl _ _ _) rfl ?_
        exact ⟨rfl, by rw [← HON.out]; exact ⟨_, h1.drewN _, ht.drewN _, hf⟩⟩

end Go.Proofs.Ytgacphicgglogaa
