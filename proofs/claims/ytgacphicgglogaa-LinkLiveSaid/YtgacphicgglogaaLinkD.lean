/- A link's end: 'Send', 'Recv', slices.Clone. -/
import Derived.Test.YtgacphicgglogaaLinkC
namespace Go.Proofs.Ytgacphicgglogaa
open Go.RowKit Crc
set_option linter.unusedVariables false

set_option maxHeartbeats 1000000 in
set_option maxRecDepth 100000 in
theorem clone_any (w : World) (A : Option Addr) (n c : Nat) (l : List ByteArray) (hl : l.length = n) (hr : Reads w w.heap.size 1 A n (strs l)) (hA : A = none → n = 0 ∧ c = 0) (hn : n ≤ 1000000) :
    Calls Try.prog 50 #[.slice A n c] w fun e w' => ∃ v', e = .returned v' ∧ Below w.heap.size w w' ∧ w'.ownsRow w.heap.size 9 1 v' n (strs l) := by
  obtain ⟨i0, hi0, hz0, hz1, hz2⟩ := info_parts str_info
  have hone := strs_one l
  cases A with
  | none =>
    obtain ⟨rfl, rfl⟩ := hA rfl
    have hl0 : l = [] := List.eq_nil_of_length_eq_zero hl
    have hnil := fun w => Lib.run_eql_slice_nil (P := Try.prog) w 34 9 none 0 0 0 0 Try.underlying34
    go_enter Try.func50, Try.ntmps50
    go_wp2
    go_ret
    exact ⟨_, rfl, Below.refl _ _, by first | exact World.ownsRow_nil _ _ _ _ | (rw [hl0]; exact World.ownsRow_nil _ _ _ _)⟩
  | some ad =>
    have hnil := fun w => Lib.run_eql_slice_nil (P := Try.prog) w 34 9 (some ad) n c 0 0 Try.underlying34
    go_enter Try.func50, Try.ntmps50
    go_wp2_with (at_builtin; refine wpList_append_any _ rfl _ _ 34 rfl w.heap.size 9 i0 _ 1 16 Try.underlying34 hi0 hz0 hz1 hz2 rfl (by decide) _ 0 [] rfl (World.ownsRow_made w #[] 0 (Nat.le_refl _) (Nat.zero_le _) rfl) w.heap.size (some ad) n c _ rfl (hr.alloc (Nat.le_refl _) _) hone ?c3 ?c4 ?c5 ?_)
    case c3 => unfold maxLen; omega
    case c4 => omega
    case c5 => simp
    intro v' w1 hown1 hg _
    have hb : Below w.heap.size w w1 := ((Below.refl _ w).alloc (Nat.le_refl _) _).grown hg (by simp) (fun k hk => by
      have : w.heap.size = k := by simpa [Value.ownBlock] using hk
      omega)
    have HO := Lib.hid hown1
    clear hown1 hg
    go_wp2
    go_ret
    exact ⟨v', rfl, hb, by simpa using HO.out⟩

set_option maxHeartbeats 2000000 in
set_option maxRecDepth 100000 in
theorem send_any (w : World) (B p : Nat) (vL vG : Value) (l : LK) (h : LinkAt w B p vL vG l) (hB : B ≤ w.heap.size) (ok : l.Ok) (hl : l.last < 1099511627776) (s : ByteArray) :
    Calls Try.prog 17 #[.pointer (some ⟨p, 0, none⟩), .string s] w fun e w' => e = .returned (.int .i64 (l.send s).2) ∧ LinkEnd w B p vL vG (l.send s).1 w' := by
  obtain ⟨i0, hi0, hz0, hz1, hz2⟩ := info_parts str_info
  obtain ⟨hc0, hc1, hc2, hc3, hc4, hc5, hc22⟩ := h.cells
  have hto := ok.told
  have hol := ok.out
  have hrm := ok.room
  clear hc2 hc3 hc4 hc22
  go_enter Try.func17, Try.ntmps17
  by_cases hlong : 800 < s.size
  · have hz : (800 : Int) < (s.size : Int) := by omega
    have HS := Lib.hid (show l.send s = (l, 4) by unfold LK.send; rw [if_pos hlong])
    clear hlong
    go_wp2
    go_ret
    exact ⟨by rw [HS.out]; rfl, by rw [HS.out]; exact LinkEnd.refl h⟩
  have hz : ¬ (800 : Int) < (s.size : Int) := by omega
  have hwd : IntKind.u64.wrap ((l.last : Int) - (l.told : Int)) = ((l.last - l.told : Nat) : Int) := by rw [IntWalk.u64_in _ (by omega)]; omega
  by_cases hfull : l.last - l.told = 64
  · have HS := Lib.hid (show l.send s = (l, 10) by unfold LK.send; rw [if_neg hlong, if_pos hfull])
    rw [hfull] at hwd
    clear hfull hlong
    go_wp2
    go_quiet (fail)
    go_wp2
    go_ret
    exact ⟨by rw [HS.out]; rfl, by rw [HS.out]; exact (LinkEnd.refl (h.drewN _)).undrewN _⟩
  have HS := Lib.hid (show l.send s = (({ l with last := l.last + 1, loads := l.loads ++ [s] } : LK).on, 0) by unfold LK.send; rw [if_neg hlong, if_neg hfull])
  have hok2 := LK.more_ok ok s (by omega) hfull
  have hdb : (((l.last - l.told : Nat) : Int) == 64) = false := beq_eq_false_iff_ne.2 (by omega)
  obtain ⟨dd, hdd⟩ : ∃ dd, l.last - l.told = dd := ⟨_, rfl⟩
  rw [hdd] at hwd hdb
  have hwl : IntKind.u64.wrap ((l.last : Int) + 1) = ((l.last + 1 : Nat) : Int) := by rw [IntWalk.u64_in _ (by omega)]; omega
  have hll : l.loads.length ≤ 64 := by have := ok.loads; omega
  have h1 : ∀ n, LinkAt ((w.drewN n).setCell ⟨p, 0, none⟩ (.int .u64 ((l.last + 1 : Nat) : Int))) B p vL vG { l with last := l.last + 1 } := fun n => (h.drewN n).set_ 0 _ _ rfl rfl rfl ok.slots
  have hT1 : ∀ n, Touch (Foot p vL vG) w ((w.drewN n).setCell ⟨p, 0, none⟩ (.int .u64 ((l.last + 1 : Nat) : Int))) := fun n => (Touch.of_set (S := Foot p vL vG) (w := w.drewN n) _ _ (.inl rfl)) |> fun h => ⟨h.os, h.tape, h.output, h.size, h.block⟩
  have hfz0 := h.frozen 0
  have H1 := Lib.hid h1
  have HT1 := Lib.hid hT1
  obtain ⟨AL, cL, rfl⟩ := own_form h.loads
  obtain ⟨m, hm⟩ : ∃ m, l.loads.length = m := ⟨_, rfl⟩
  have hc5' : ∀ n, ((w.drewN n).setCell ⟨p, 0, none⟩ (.int .u64 ((l.last + 1 : Nat) : Int))).cell? ⟨p, 5, none⟩ = some (.slice AL m cL) := fun n => by
    have := (h1 n).cells.2.2.2.2.2.1
    rw [← hm]
    exact this
  rw [hm] at hc5 hll
  have HM := Lib.hid hm
  clear hfull hlong hdd h1 hT1 hto hol hrm hm
  generalize hV0 : ((l.last + 1 : Nat) : Int) = V0 at *
  have HV0 := Lib.hid hV0
  clear hV0
  go_wp2
  go_quiet (fail)
  have h1q := H1.out nq
  have hT1q := HT1.out nq
  have hown1 := h1q.loads
  have hszq : ((w.drewN nq).setCell ⟨p, 0, none⟩ (.int .u64 V0)).heap.size = w.heap.size := World.size_setCell _ _ _
  have hrx : Reads (((w.drewN nq).setCell ⟨p, 0, none⟩ (.int .u64 V0)).alloc (.cells #[.string s] 9)) (((w.drewN nq).setCell ⟨p, 0, none⟩ (.int .u64 V0)).alloc (.cells #[.string s] 9)).heap.size 1 (some ⟨w.heap.size, 0, none⟩) 1 (strs [s]) := ⟨rfl, fun _ => ⟨_, rfl, by rw [World.size_alloc, hszq]; exact Nat.lt_succ_self _, fun j u hu => cells_new_at _ w.heap.size hszq [.string s] _ j u hu⟩⟩
  have hone := strs_one [s]
  change World.ownsRow _ _ _ _ _ l.loads.length (strs l.loads) at hown1
  rw [HM.out] at hown1
  have hpL := h1q.pL
  have hap := h1q.apart
  rw [HM.out] at hpL hap
  have hblk := h1q.blk
  rw [HM.out] at hblk
  have hgo := h1q.goes
  have hlo := fun k hk => (h1q.loads.lt k hk).2
  have hgl := fun k hk => (h1q.goes.lt k hk).2
  have hc5q := hc5' nq
  clear h1q hc5'
  generalize hW1 : (w.drewN nq).setCell ⟨p, 0, none⟩ (.int .u64 V0) = W1 at *
  go_wp2_with (at_builtin; (refine wpList_append_any _ rfl _ _ 34 rfl B 9 i0 _ 1 16 Try.underlying34 hi0 hz0 hz1 hz2 rfl (by decide) _ _ _ rfl (hown1.alloc _) _ (some ⟨w.heap.size, 0, none⟩) 1 1 _ rfl hrx hone ?c3 ?c4 ?c5 ?_))
  case c3 => unfold maxLen; omega
  case c4 => omega
  case c5 => first | omega | (simp; omega)
  intro v' w2 hown2 hg2 hbl
  have ht2 : Touch (fun k => (Value.slice AL m cL).ownBlock = some k) W1 w2 := (Touch.of_below ((Below.refl _ W1).alloc (Nat.le_refl _) _)).trans (Touch.of_grown (S := fun k => (Value.slice AL m cL).ownBlock = some k) hg2 (fun k hk => hk)) (fun k hk => .inl hk)
  have hb2 := ht2.blk hblk (fun e => hpL e)
  have hG2 := ht2.own hgo (fun k hk e => hap k e hk)
  have hL2 : w2.ownsRow B 9 1 v' (l.loads ++ [s]).length (strs (l.loads ++ [s])) := by
    rw [List.length_append, HM.out]
    simpa [strs] using hown2
  have hap2 : ∀ k, v'.ownBlock = some k → vG.ownBlock ≠ some k := fun k hk e => by
    rcases hbl with h2 | h2
    · exact hap k (h2 ▸ hk) e
    · have := hgl k e
      rw [h2] at hk
      simp at hk
      omega
  have hend := LinkAt.setL (l := { l with last := l.last + 1 }) (l.loads ++ [s]) h.base hb2 hG2 hL2 hap2 ok.slots
  have hcell := hb2.cell 5
  have hfz := hb2.frozen 5
  change _ = some (Value.slice AL m cL) at hcell
  have hWs : W1.heap.size ≤ w2.heap.size := ht2.size
  have hT2 : Touch (Foot p (.slice AL m cL) vG) w (w2.setCell ⟨p, 5, none⟩ v') := by
    rw [HM.out] at hT1q
    exact (hT1q.trans ht2 (fun k hk => .inl (.inr (.inl hk)))).trans (Touch.of_set (S := fun k => k = p) _ _ rfl) (fun k hk => .inl (.inl hk))
  have hF2 : ∀ k, Foot p v' vG k → Foot p (.slice AL m cL) vG k ∨ w.heap.size ≤ k := fun k hk => by
    rcases hk with hk | hk | hk
    · exact .inl (.inl hk)
    · rcases hbl with h2 | h2
      · exact .inl (.inr (.inl (h2 ▸ hk)))
      · rw [h2] at hk
        simp at hk
        exact .inr (by omega)
    · exact .inl (.inr (.inr hk))
  have hcon := on_any _ B p v' vG _ hend (by rw [World.size_setCell]; omega) hok2 (by show l.last + 1 ≤ _; omega)
  have HC := Lib.hid hcon
  obtain ⟨m2, hm2⟩ : ∃ m2, (l.loads ++ [s]).length = m2 := ⟨_, rfl⟩
  rw [hm2] at hL2
  obtain ⟨A', c', rfl⟩ := own_form hL2
  clear hm2
  have HF2 := Lib.hid hF2
  have HT2 := Lib.hid hT2
  clear hcon hF2 hT2 hend hap2 hL2 hG2 hb2 ht2 hbl hown2 hg2 hrx hone hgl hlo hown1 hap hpL hT1q hblk hgo hszq hc5q hW1
  go_wp2_with fail
  refine HC.out.mono ?_
  rintro e w4 ⟨rfl, he⟩
  have HE := Lib.hid (LinkEnd.next HT2.out HF2.out he)
  clear he
  go_wp2
  go_ret
  exact ⟨by rw [HS.out]; rfl, by rw [HS.out, HM.out]; exact HE.out⟩

set_option maxHeartbeats 2000000 in
set_option maxRecDepth 100000 in
theorem recv_any (w : World) (B p : Nat) (vL vG : Value) (l : LK) (h : LinkAt w B p vL vG l) (hB : B ≤ w.heap.size) (ok : l.Ok) (hl : l.taken < 1099511627776) :
    Calls Try.prog 19 #[.pointer (some ⟨p, 0, none⟩)] w fun e w' => e = .returned (.tuple #[.string l.recv.2.1, .bool l.recv.2.2]) ∧ LinkEnd w B p vL vG l.recv.1 w' := by
  obtain ⟨hc0, hc1, hc2, hc3, hc4, hc5, hc22⟩ := h.cells
  clear hc0 hc1 hc2 hc5 hc22
  have htk := ok.taken
  go_enter Try.func19, Try.ntmps19
  by_cases he : l.came = l.taken
  · have HR := Lib.hid (show l.recv = (l, ByteArray.empty, false) by unfold LK.recv; rw [if_pos he])
    rw [he] at hc3
    clear he
    go_wp2
    go_quiet (fail)
    go_wp2
    go_ret2
    exact ⟨by rw [HR.out]; rfl, by rw [HR.out]; exact (LinkEnd.refl (h.drewN _)).undrewN _⟩
  have HR := Lib.hid (show l.recv = ({ l with taken := l.taken + 1, slots := l.slots.set ((l.taken + 1) % 8) none }, (l.slots[(l.taken + 1) % 8]?.getD none).getD ByteArray.empty, true) by unfold LK.recv; rw [if_neg he])
  have hne : ((l.came : Int) == (l.taken : Int)) = false := beq_eq_false_iff_ne.2 (by omega)
  have hwt : IntKind.u64.wrap ((l.taken : Int) + 1) = ((l.taken + 1 : Nat) : Int) := by rw [IntWalk.u64_in _ (by omega)]; omega
  have hfz4 := h.frozen 4
  have h1 : ∀ n, LinkAt ((w.drewN n).setCell ⟨p, 4, none⟩ (.int .u64 ((l.taken + 1 : Nat) : Int))) B p vL vG { l with taken := l.taken + 1 } := fun n => (h.drewN n).set_ 4 _ _ rfl rfl rfl ok.slots
  have hc4' : ∀ n, ((w.drewN n).setCell ⟨p, 4, none⟩ (.int .u64 ((l.taken + 1 : Nat) : Int))).cell? ⟨p, 4, none⟩ = some (.int .u64 ((l.taken + 1 : Nat) : Int)) := fun n => (h1 n).cells.2.2.2.2.1
  have hmod : ((l.taken + 1 : Nat) : Int) % 8 = (((l.taken + 1) % 8 : Nat) : Int) := by omega
  have hml : (l.taken + 1) % 8 < 8 := Nat.mod_lt _ (by omega)
  obtain ⟨q, hq⟩ : ∃ q, (l.taken + 1) % 8 = q := ⟨_, rfl⟩
  rw [hq] at hmod hml HR
  have hq8 : (q : Int) < 8 := by omega
  have hv0 : 0 ≤ ((l.taken + 1 : Nat) : Int) := by omega
  have hS0 : ∀ n, ((w.drewN n).setCell ⟨p, 4, none⟩ (.int .u64 ((l.taken + 1 : Nat) : Int))).cell? ⟨p, 6 + q * 2, none⟩ = some (.bool (l.slots[q]?.getD none).isSome) := fun n => (h1 n).slot0 q hml
  have hS1 : ∀ n, ((w.drewN n).setCell ⟨p, 4, none⟩ (.int .u64 ((l.taken + 1 : Nat) : Int))).cell? ⟨p, 6 + q * 2 + 1, none⟩ = some (.string ((l.slots[q]?.getD none).getD ⟨#[]⟩)) := fun n => (h1 n).slot1 q hml
  have hfS0 : ∀ n, ((w.drewN n).setCell ⟨p, 4, none⟩ (.int .u64 ((l.taken + 1 : Nat) : Int))).frozen? ⟨p, 6 + q * 2, none⟩ = false := fun n => (h1 n).frozen _
  have hfS1 : ∀ n, ((w.drewN n).setCell ⟨p, 4, none⟩ (.int .u64 ((l.taken + 1 : Nat) : Int))).frozen? ⟨p, 6 + q * 2 + 1, none⟩ = false := fun n => (h1 n).frozen _
  have h2 : ∀ n m, LinkAt (((((w.drewN n).setCell ⟨p, 4, none⟩ (.int .u64 ((l.taken + 1 : Nat) : Int))).drewN m).setCell ⟨p, 6 + q * 2, none⟩ (.bool false)).setCell ⟨p, 6 + q * 2 + 1, none⟩ (.string ⟨#[]⟩)) B p vL vG { l with taken := l.taken + 1, slots := l.slots.set q none } := fun n m => ((h1 n).drewN m).setS q hml none _ _ rfl
  obtain ⟨b0, hb0⟩ : ∃ b0, (l.slots[q]?.getD none).isSome = b0 := ⟨_, rfl⟩
  obtain ⟨x0, hx0⟩ : ∃ x0 : ByteArray, (l.slots[q]?.getD none).getD ⟨#[]⟩ = x0 := ⟨_, rfl⟩
  rw [hb0] at hS0
  rw [hx0] at hS1
  have HX0 := Lib.hid hx0
  have H2 := Lib.hid h2
  have H1 := Lib.hid h1
  clear he h1 hq h2 hb0 hx0
  generalize hV0 : ((l.taken + 1 : Nat) : Int) = V0 at *
  have HV0 := Lib.hid hV0
  clear hV0
  go_wp2
  go_quiet (fail)
  go_wp2
  go_quiet (fail)
  go_wp2
  go_ret2
  refine ⟨by rw [HR.out, ← HX0.out]; rfl, ?_⟩
  rw [HR.out]
  refine ⟨vL, vG, H2.out _ _, ?_, fun k hk => .inl hk⟩
  refine Touch.trans (S1 := fun k => k = p) ?_ (Touch.of_set _ _ rfl) (fun k hk => .inl (.inl hk))
  refine Touch.trans (S1 := fun k => k = p) ?_ (Touch.of_set _ _ rfl) (fun k hk => .inl (.inl hk))
  exact (Touch.of_drewN _ (Touch.of_set (S := Foot p vL vG) _ _ (.inl rfl))).drewN _

end Go.Proofs.Ytgacphicgglogaa
