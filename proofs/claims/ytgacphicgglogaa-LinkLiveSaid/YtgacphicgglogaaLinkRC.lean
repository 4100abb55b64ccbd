/- The document's link's end: 'Tick', 'Out', 'Recv', 'Send'. -/
import Derived.Test.YtgacphicgglogaaLinkRB
namespace Go.Proofs.Ytgacphicgglogaa
open Go.RowKit Crc
set_option linter.unusedVariables false

set_option maxHeartbeats 1000000 in
set_option maxRecDepth 100000 in
theorem rtick_any (w : World) (B p : Nat) (v : V4) (r : RL) (h : RAt w B p v r) (hB : B ≤ w.heap.size) (ok : r.Ok) :
    Calls Try.prog 25 #[.pointer (some ⟨p, 0, none⟩)] w fun e w' => e = .returned (.tuple #[]) ∧ REnd w B p v r.tick w' := by
  have hto := ok.told
  have hol := ok.sent
  have hfw := ok.few
  have hwt : IntKind.u64.wrap ((r.told : Int) + 1) = ((r.told + 1 : Nat) : Int) := by rw [IntWalk.u64_in _ (by omega)]; omega
  obtain ⟨hc0, hc1, hc2, hc3, hc4, hc5, hc6⟩ := h.cells
  clear hc0 hc2 hc3 hc4 hc5 hc6
  go_enter Try.func25, Try.ntmps25
  go_wp2
  go_loopg [2] (r.sent - r.told) (fun g x wr => ∃ (k : Nat) (v1 : V4), x = .int .u64 ((r.told + 1 + k : Nat) : Int) ∧ k + g = r.sent - r.told ∧ RAt wr B p v1 (RL.tickTo r k) ∧ Touch (FootV p v) w wr ∧ ∀ k, FootV p v1 k → FootV p v k ∨ w.heap.size ≤ k)
  case atStart => exact ⟨0, v, by first | rfl | (rw [hwt]; rfl), by omega, h, Touch.refl _ _, fun k hk => .inl hk⟩
  case round =>
    obtain ⟨k, v1, rfl, hk, h1, ht, hf⟩ := hrel
    obtain ⟨hk1, hk2, hk3⟩ := RL.tickTo_keep r k
    have hco := h1.cells.2.2.1
    rw [hk2] at hco
    have okk := RL.tickTo_ok ok k
    have hBr : B ≤ wr.heap.size := Nat.le_trans hB ht.size
    cases gk with
    | zero =>
      have hz : ¬ ((r.told + 1 + k : Nat) : Int) ≤ (r.sent : Int) := by omega
      have HE := Lib.hid (show REnd w B p v r.tick wr from ⟨v1, by unfold RL.tick; rw [show r.sent - r.told = k by omega]; exact h1, ht, hf⟩)
      generalize r.told + 1 + k = m at *
      clear hk1 hk2 hk3 hwt
      go_wp2
      first | go_end0 | refine bodyPost_ret (results_none rfl _ _ _) rfl ?_
      exact ⟨rfl, HE.out⟩
    | succ g =>
      have hz : ((r.told + 1 + k : Nat) : Int) ≤ (r.sent : Int) := by omega
      have hlo := h1.loads
      have hc0 := h1.cells.1
      rw [hk3] at hlo
      have hrd : ∀ A n c, v1.L = .slice A n c → Reads wr wr.heap.size 1 A n (strs r.loads) := fun A n c e => by
        rw [e] at hlo
        have := own_form hlo
        obtain ⟨A', c', e'⟩ := this
        injection e' with _ e2 _
        subst e2
        exact Reads.of_own hlo
      obtain ⟨A, c, hA⟩ := own_form hlo
      have hr := hrd _ _ _ hA
      rw [hA] at hc0
      have hi : r.told + k < r.loads.length := by omega
      obtain ⟨ad, u, rfl, hab, hu, hcell⟩ := hr.at_ hi
      rw [strs_at r.loads _ hi] at hu
      injection hu with hu
      subst hu
      have hsz : (r.loads[r.told + k]?.getD ByteArray.empty).size ≤ 800 := by
        rw [List.getElem?_eq_getElem hi]
        exact ok.short _ (List.getElem_mem _)
      have hcon := rput_any wr B p v1 _ h1 hBr okk.goes 1 (r.told + 1 + k) (r.loads[r.told + k]?.getD ByteArray.empty) (by omega) hsz
      have HC := Lib.hid hcon
      have hs : (RL.tickTo r k).put 1 (r.told + 1 + k) (r.loads[r.told + k]?.getD ByteArray.empty) = RL.tickTo r (k + 1) := by
        show _ = (RL.tickTo r k).nth (r.told + 1 + k)
        unfold RL.nth
        rw [hk3, show r.told + 1 + k - 1 = r.told + k by omega]
      have HS := Lib.hid hs
      have hwm : IntKind.u64.wrap (((r.told + 1 + k : Nat) : Int) + 1) = ((r.told + 1 + (k + 1) : Nat) : Int) := by rw [IntWalk.u64_in _ (by omega)]; omega
      have hws : IntKind.u64.wrap (((r.told + 1 + k : Nat) : Int) - 1) = ((r.told + k : Nat) : Int) := by rw [IntWalk.u64_in _ (by omega)]; omega
      have hm : r.told + 1 + k < 1099511627778 := by omega
      obtain ⟨x, hx⟩ : ∃ x, r.loads[r.told + k]?.getD ByteArray.empty = x := ⟨_, rfl⟩
      obtain ⟨L, hL⟩ : ∃ L, r.loads.length = L := ⟨_, rfl⟩
      rw [hx] at hcell HC HS
      rw [hL] at hc0 hi
      obtain ⟨j, hj⟩ : ∃ j, r.told + k = j := ⟨_, rfl⟩
      obtain ⟨m, hmm⟩ : ∃ m, r.told + 1 + k = m := ⟨_, rfl⟩
      obtain ⟨m', hmm'⟩ : ∃ m', r.told + 1 + (k + 1) = m' := ⟨_, rfl⟩
      rw [hmm] at HC HS hz hwm hm hws
      rw [hmm'] at hwm
      rw [hj] at hws hi hcell
      rw [hmm]
      have hjL : (j : Int) < (L : Int) := by omega
      have hj0 : (0 : Int) ≤ (j : Int) := by omega
      have HM' := Lib.hid hmm'
      clear hcon hs hk1 hk2 hk3 hwt hmm hmm' hx hL hj hlo hrd hr hsz hA
      go_wp2_with fail
      refine HC.out.mono ?_
      rintro e w4 ⟨rfl, v2, h4, ht4, hf4⟩
      rw [HS.out] at h4
      have HT := Lib.hid (show Touch (FootV p v) w w4 from ht.trans ht4 hf)
      have HF := Lib.hid (show ∀ k, FootV p v2 k → FootV p v k ∨ w.heap.size ≤ k from fun k hk => by
        rcases hf4 k hk with h5 | h5
        · exact hf k h5
        · exact .inr (Nat.le_trans ht.size h5))
      clear ht4 hf4
      go_wp2
      go_roundg g
      case measure => omega
      case rel => exact ⟨k + 1, v2, by rw [HM'.out], by omega, h4, HT.out, HF.out⟩

/-- 'Out' hands its row over. -/
theorem rout_any (w : World) (B p : Nat) (v : V4) (r : RL) (h : RAt w B p v r) :
    Calls Try.prog 27 #[.pointer (some ⟨p, 0, none⟩)] w fun e w' => e = .returned v.G ∧ w' = w.setCell ⟨p, 6, none⟩ (.slice none 0 0) := by
  obtain ⟨hc0, hc1, hc2, hc3, hc4, hc5, hc6⟩ := h.cells
  have hf := h.frozen 6
  have hg := h.goes
  obtain ⟨vL, vI, vT, vG⟩ := v
  dsimp only at hc6 hg ⊢
  obtain ⟨A, c, rfl⟩ := own_form hg
  go_enter Try.func27, Try.ntmps27
  go_wp2
  go_ret
  exact ⟨rfl, rfl⟩
theorem rout_end {w : World} {B p : Nat} {v : V4} {r : RL} (h : RAt w B p v r) : RAt (w.setCell ⟨p, 6, none⟩ (.slice none 0 0)) B p { v with G := .slice none 0 0 } { r with goes := [] } ∧
    (w.setCell ⟨p, 6, none⟩ (.slice none 0 0)).ownsRow B 9 1 v.G r.goes.length (strs r.goes) ∧ Touch (fun k => k = p) w (w.setCell ⟨p, 6, none⟩ (.slice none 0 0)) := by
  have ht : Touch (fun k => k = p) w (w.setCell ⟨p, 6, none⟩ (.slice none 0 0)) := Touch.of_set _ _ rfl
  have h1 := (ObjAt.fresh h 3 ⟨9, v.G, strs r.goes⟩ ⟨9, .slice none 0 0, []⟩ rfl (World.ownsRow_nil _ _ _ _) rfl).set_ 6 (.slice none 0 0)
  exact ⟨h1, ht.own h.goes (fun k hk e => ObjAt.off h ⟨9, v.G, strs r.goes⟩ (by simp [RL.rows]) (e ▸ hk)), ht⟩

set_option maxHeartbeats 1000000 in
set_option maxRecDepth 100000 in
theorem rrecv_any (w : World) (B p : Nat) (v : V4) (r : RL) (h : RAt w B p v r) (ok : r.Ok) :
    Calls Try.prog 28 #[.pointer (some ⟨p, 0, none⟩)] w fun e w' => e = .returned (.tuple #[.string r.recv.2.1, .bool r.recv.2.2]) ∧ REnd w B p v r.recv.1 w' := by
  obtain ⟨hc0, hc1, hc2, hc3, hc4, hc5, hc6⟩ := h.cells
  clear hc0 hc1 hc2 hc4 hc6
  have hca := fun n => rcame_any (w.drewN n) B p v r (h.drewN n) ok
  have hca0 := rcame_any w B p v r h ok
  have htk := ok.taken
  go_enter Try.func28, Try.ntmps28
  by_cases hle : r.came ≤ r.taken
  · have HR := Lib.hid (show r.recv = (r, ByteArray.empty, false) by unfold RL.recv; rw [if_pos hle])
    have hz : (r.came : Int) ≤ (r.taken : Int) := by omega
    clear hle
    go_wp2
    go_quiet ((go_at_call 30; exact Calls.quiet_of_same (hca _)))
    go_wp2
    go_ret2
    exact ⟨by rw [HR.out]; rfl, by rw [HR.out]; exact (REnd.refl (h.drewN _)).undrewN _⟩
  have hrc : r.recv = ({ r with taken := r.taken + 1 }, r.ins[r.taken]?.getD ByteArray.empty, true) := by unfold RL.recv; rw [if_neg hle]
  have HR := Lib.hid hrc
  have hz : ¬ (r.came : Int) ≤ (r.taken : Int) := by omega
  have hwt : IntKind.u64.wrap ((r.taken : Int) + 1) = (r.taken : Int) + 1 := IntWalk.u64_in _ (by omega)
  have hws : IntKind.u64.wrap (r.taken : Int) = (r.taken : Int) := IntWalk.u64_in _ (by omega)
  have hwm : IntKind.u64.wrap ((r.taken : Int) + 1 - 1) = (r.taken : Int) := by rw [IntWalk.u64_in _ (by omega)]; omega
  have htl : r.taken < r.ins.length := by
    have := trues_len r.there
    rw [ok.ins]
    unfold RL.came at hle
    omega
  have hfz := h.frozen 5
  have h2 : ∀ n, RAt ((w.drewN n).setCell ⟨p, 5, none⟩ (.int .u64 ((r.taken : Int) + 1))) B p v { r with taken := r.taken + 1 } := fun n => (h.drewN n).num 5 _ _ rfl rfl
  have hin := h.ins
  obtain ⟨vL, vI, vT, vG⟩ := v
  dsimp only at hc3 hin
  obtain ⟨A, c, hA⟩ := own_form hin
  subst hA
  have hr := Reads.of_own hin
  obtain ⟨ad, u, rfl, hab, hu, hcell⟩ := hr.at_ htl
  have hcell5 : ∀ n, ((w.drewN n).setCell ⟨p, 5, none⟩ (.int .u64 ((r.taken : Int) + 1))).cell? ⟨p, 5, none⟩ = some (.int .u64 ((r.taken : Int) + 1)) := fun n => (h2 n).cells.2.2.2.2.2.1
  have hcell3 : ∀ n, ((w.drewN n).setCell ⟨p, 5, none⟩ (.int .u64 ((r.taken : Int) + 1))).cell? ⟨p, 3, none⟩ = some (.slice (some ad) r.ins.length c) := fun n => (h2 n).cells.2.2.2.1
  have hcellx : ∀ n, ((w.drewN n).setCell ⟨p, 5, none⟩ (.int .u64 ((r.taken : Int) + 1))).cell? (ad.add r.taken) = some (.string (r.ins[r.taken]?.getD ByteArray.empty)) := fun n => by
    have h3 := Reads.of_own (h2 n).ins
    dsimp only at h3
    obtain ⟨ad', u', he, _, hu', hx'⟩ := h3.at_ (k := r.taken) htl
    injection he with he
    subst he
    rw [strs_at r.ins _ htl] at hu'
    injection hu' with hu'
    subst hu'
    exact hx'
  have HEnd := Lib.hid (show ∀ n m, REnd w B p ⟨vL, .slice (some ad) r.ins.length c, vT, vG⟩ { r with taken := r.taken + 1 } (((w.drewN n).setCell ⟨p, 5, none⟩ (.int .u64 ((r.taken : Int) + 1))).drewN m) from fun n m =>
    ⟨_, (h2 n).drewN m, (Touch.of_drewN n (touch_num (w.drewN n) p 5 _ _)).drewN m, fun k hk => .inl hk⟩)
  obtain ⟨x, hx⟩ : ∃ x, r.ins[r.taken]?.getD ByteArray.empty = x := ⟨_, rfl⟩
  obtain ⟨L, hL⟩ : ∃ L, r.ins.length = L := ⟨_, rfl⟩
  rw [hx] at hcellx HR
  rw [hL] at htl hcell3 HEnd hc3
  rw [hL]
  have hzi : (r.taken : Int) < (L : Int) := by omega
  have hz0 : (0 : Int) ≤ (r.taken : Int) := by omega
  clear hle hrc h2 hin hr hu hx hL htl hcell
  go_wp2
  go_quiet ((go_at_call 30; exact Calls.quiet_of_same (hca _)))
  have hcell5' := hcell5 nq
  have hcell3' := hcell3 nq
  have hcellx' := hcellx nq
  have HE := Lib.hid (HEnd.out nq)
  clear hcell5 hcell3 hcellx HEnd
  go_wp2
  go_quiet (fail)
  go_wp2
  go_ret2
  exact ⟨by rw [HR.out]; rfl, by rw [HR.out]; exact HE.out _⟩

namespace RL
def send (r : RL) (s : ByteArray) : RL × Int := if 800 < s.size then (r, 4) else if r.loads.length - r.told = 64 then (r, 10) else (({ r with loads := r.loads ++ [s] } : RL).on, 0)
end RL

set_option maxHeartbeats 2000000 in
set_option maxRecDepth 100000 in
theorem rsend_any (w : World) (B p : Nat) (v : V4) (r : RL) (h : RAt w B p v r) (hB : B ≤ w.heap.size) (ok : r.Ok) (hfew : r.loads.length < 1099511627776) (s : ByteArray) :
    Calls Try.prog 23 #[.pointer (some ⟨p, 0, none⟩), .string s] w fun e w' => e = .returned (.int .i64 (r.send s).2) ∧ REnd w B p v (r.send s).1 w' := by
  obtain ⟨i0, hi0, hz0, hz1, hz2⟩ := info_parts str_info
  obtain ⟨hc0, hc1, hc2, hc3, hc4, hc5, hc6⟩ := h.cells
  have hto := ok.told
  have hol := ok.sent
  clear hc2 hc3 hc4 hc5 hc6
  obtain ⟨vL, vI, vT, vG⟩ := v
  dsimp only at hc0
  have hlo := h.loads
  dsimp only at hlo
  obtain ⟨A, c, hA⟩ := own_form hlo
  subst hA
  go_enter Try.func23, Try.ntmps23
  by_cases hlong : 800 < s.size
  · have hz : (800 : Int) < (s.size : Int) := by omega
    have HS := Lib.hid (show r.send s = (r, 4) by unfold RL.send; rw [if_pos hlong])
    clear hlong
    go_wp2
    go_ret
    exact ⟨by rw [HS.out]; rfl, by rw [HS.out]; exact REnd.refl h⟩
  have hz : ¬ (800 : Int) < (s.size : Int) := by omega
  have hwL : IntKind.u64.wrap (r.loads.length : Int) = (r.loads.length : Int) := IntWalk.u64_in _ (by omega)
  have hwd : IntKind.u64.wrap ((r.loads.length : Int) - (r.told : Int)) = ((r.loads.length - r.told : Nat) : Int) := by rw [IntWalk.u64_in _ (by omega)]; omega
  by_cases hfull : r.loads.length - r.told = 64
  · have HS := Lib.hid (show r.send s = (r, 10) by unfold RL.send; rw [if_neg hlong, if_pos hfull])
    rw [hfull] at hwd
    clear hfull hlong
    go_wp2
    go_quiet (fail)
    go_wp2
    go_ret
    exact ⟨by rw [HS.out]; rfl, by rw [HS.out]; exact (REnd.refl (h.drewN _)).undrewN _⟩
  have HS := Lib.hid (show r.send s = (({ r with loads := r.loads ++ [s] } : RL).on, 0) by unfold RL.send; rw [if_neg hlong, if_neg hfull])
  have hdb : (((r.loads.length - r.told : Nat) : Int) == 64) = false := beq_eq_false_iff_ne.2 (by omega)
  have hok2 : ({ r with loads := r.loads ++ [s] } : RL).Ok := ⟨ok.told, by show r.sent ≤ (r.loads ++ [s]).length; rw [List.length_append]; omega, by show (r.loads ++ [s]).length ≤ _; rw [List.length_append, List.length_singleton]; omega, ok.ins, ok.there, ok.taken, ok.goes,
    fun x hx => by rcases List.mem_append.1 hx with hx | hx; exact ok.short x hx; rw [List.mem_singleton.1 hx]; omega⟩
  obtain ⟨dd, hdd⟩ : ∃ dd, r.loads.length - r.told = dd := ⟨_, rfl⟩
  rw [hdd] at hwd hdb
  obtain ⟨m, hm⟩ : ∃ m, r.loads.length = m := ⟨_, rfl⟩
  have HM := Lib.hid hm
  rw [hm] at hc0 hwL hwd hfew
  have hown1 : ∀ n, (w.drewN n).ownsRow B 9 1 (.slice A m c) m (strs r.loads) := fun n => by
    have := (h.drewN n).loads
    dsimp only at this
    rw [hm] at this
    exact this
  have hone := strs_one [s]
  clear hfull hlong hdd hto hol hm hlo
  go_wp2
  go_quiet (fail)
  have hrx : Reads ((w.drewN nq).alloc (.cells #[.string s] 9)) ((w.drewN nq).alloc (.cells #[.string s] 9)).heap.size 1 (some ⟨w.heap.size, 0, none⟩) 1 (strs [s]) := ⟨rfl, fun _ => ⟨_, rfl, by rw [World.size_alloc]; exact Nat.lt_succ_self _, fun j u hu => cells_new_at _ w.heap.size rfl [.string s] _ j u hu⟩⟩
  have hown1' := hown1 nq
  clear hown1
  go_wp2_with (at_builtin; (refine wpList_append_any _ rfl _ _ 34 rfl B 9 i0 _ 1 16 Try.underlying34 hi0 hz0 hz1 hz2 rfl (by decide) _ _ _ rfl (hown1'.alloc _) _ (some ⟨w.heap.size, 0, none⟩) 1 1 _ rfl hrx hone ?c3 ?c4 ?c5 ?_))
  case c3 => unfold maxLen; omega
  case c4 => omega
  case c5 => first | exact Nat.le_succ_of_le hB | omega | (simp; omega)
  intro v' w2 hown2 hg2 hbl
  obtain ⟨ht2, hbl2⟩ := touch_app (w := w.drewN nq) hg2 hbl
  have hown3 : w2.ownsRow B 9 1 v' (strs (r.loads ++ [s])).length (strs (r.loads ++ [s])) := by
    rw [strs_len, List.length_append, HM.out]
    simpa [strs] using hown2
  have hfin := (h.drewN nq).grown 0 0 ⟨9, .slice A r.loads.length c, strs r.loads⟩ ⟨9, v', strs (r.loads ++ [s])⟩ ⟨v', vI, vT, vG⟩ { r with loads := r.loads ++ [s] } rfl (by rw [HM.out]; exact ht2) hown3 (by rw [HM.out]; exact hbl2) rfl rfl
  have hblk : Blk w2 p 42 (r.cells ⟨.slice A r.loads.length c, vI, vT, vG⟩).toArray := ht2.blk (h.drewN nq).blk (fun e => h.off ⟨9, .slice A r.loads.length c, strs r.loads⟩ (by simp [RL.rows]) (by rw [HM.out]; exact e))
  have hcell := hblk.cell 0
  have hfz := hblk.frozen 0
  rw [HM.out] at hcell
  change _ = some (Value.slice A m c) at hcell
  obtain ⟨hf1, hf2, hf3⟩ := hfin
  have hszw : B ≤ (w2.setCell ⟨p, 0, none⟩ v').heap.size := by
    rw [World.size_setCell]
    have := ht2.size
    exact Nat.le_trans hB this
  have hcon := ron_any _ B p _ _ hf1 hszw hok2
  have HC := Lib.hid hcon
  have HT := Lib.hid (Touch.of_drewN nq hf2)
  have HF := Lib.hid hf3
  obtain ⟨A', c', rfl⟩ := own_form hown2
  clear hcon hf1 hf2 hf3 hszw hblk hown3 hown2 hg2 hbl ht2 hbl2 hrx hone
  go_wp2_with fail
  refine HC.out.mono ?_
  rintro e w4 ⟨rfl, he⟩
  have HE := Lib.hid (REnd.next HT.out HF.out he)
  clear he
  go_wp2
  go_ret
  exact ⟨by rw [HS.out]; rfl, by rw [HS.out]; exact HE.out⟩

end Go.Proofs.Ytgacphicgglogaa
