/- A link's end: 'Send', 'New', 'State', 'Out', 'Tick', 'Recv'; at nil. -/
import Derived.Test.YtgacphicgglogaaLinkB
namespace Go.Proofs.Ytgacphicgglogaa
open Go.RowKit Crc
set_option linter.unusedVariables false

namespace LK
def new : LK := ⟨0, 0, 0, 0, 0, [], List.replicate 8 none, []⟩
theorem new_ok : new.Ok := ⟨by decide, by decide, by decide, by decide, rfl, by decide, by decide, rfl, by decide, fun s hs => by cases hs⟩
def tickTo (l : LK) : Nat → LK
  | 0 => l
  | k + 1 => (tickTo l k).load (l.told + 1 + k)
def tick (l : LK) : LK := tickTo l (l.out - l.told)
def recv (l : LK) : LK × ByteArray × Bool :=
  if l.came = l.taken then (l, ByteArray.empty, false)
  else ({ l with taken := l.taken + 1, slots := l.slots.set ((l.taken + 1) % 8) none }, (l.slots[(l.taken + 1) % 8]?.getD none).getD ByteArray.empty, true)
theorem tickTo_keep (l : LK) : ∀ k, (tickTo l k).last = l.last ∧ (tickTo l k).told = l.told ∧ (tickTo l k).out = l.out ∧ (tickTo l k).came = l.came ∧ (tickTo l k).taken = l.taken ∧ (tickTo l k).loads = l.loads ∧ (tickTo l k).slots = l.slots
  | 0 => ⟨rfl, rfl, rfl, rfl, rfl, rfl, rfl⟩
  | k + 1 => tickTo_keep l k
theorem tickTo_ok {l : LK} (h : l.Ok) : ∀ k, (tickTo l k).Ok
  | 0 => h
  | k + 1 => put_ok (tickTo_ok h k) _ _ _
theorem out_ok' {l : LK} (h : l.Ok) : ({ l with goes := [] } : LK).Ok := ⟨h.told, h.out, h.ahead, h.room, h.loads, h.taken, h.came, h.slots, by simp, h.short⟩
theorem recv_ok {l : LK} (h : l.Ok) : l.recv.1.Ok := by
  unfold recv
  split
  · exact h
  · have := h.taken
    exact ⟨h.told, h.out, h.ahead, h.room, h.loads, by show l.taken + 1 ≤ l.came; omega, by have := h.came; show l.came ≤ l.taken + 1 + 8; omega, by show (l.slots.set _ _).length = 8; rw [List.length_set]; exact h.slots, h.goes, h.short⟩
end LK

theorem send_nil (w : World) (s : ByteArray) : Calls Try.prog 17 #[.pointer none, .string s] w fun e w' => e = .returned (.int .i64 15) ∧ w' = w := by
  go_enter Try.func17, Try.ntmps17
  go_wp2
  go_ret
  exact ⟨rfl, rfl⟩
theorem get_nil (w : World) (s : ByteArray) : Calls Try.prog 22 #[.pointer none, .string s] w fun e w' => e = .returned (.int .i64 15) ∧ w' = w := by
  go_enter Try.func22, Try.ntmps22
  go_wp2
  go_ret
  exact ⟨rfl, rfl⟩
theorem tick_nil (w : World) : Calls Try.prog 18 #[.pointer none] w fun e w' => e = .returned (.tuple #[]) ∧ w' = w := by
  go_enter Try.func18, Try.ntmps18
  go_wp2
  first | go_end0 | refine bodyPost_ret (results_none rfl _ _ _) rfl ?_
  exact ⟨rfl, rfl⟩
theorem out_nil (w : World) : Calls Try.prog 20 #[.pointer none] w fun e w' => e = .returned (.slice none 0 0) ∧ w' = w := by
  go_enter Try.func20, Try.ntmps20
  go_wp2
  go_ret
  exact ⟨rfl, rfl⟩
theorem recv_nil (w : World) : Calls Try.prog 19 #[.pointer none] w fun e w' => e = .returned (.tuple #[.string ⟨#[]⟩, .bool false]) ∧ ∃ n, w' = w.drewN n := by
  go_enter Try.func19, Try.ntmps19
  go_wp2
  go_quiet (fail)
  go_wp2
  go_ret2
  exact ⟨rfl, nq, rfl⟩
theorem state_nil (w : World) : Calls Try.prog 29 #[.pointer none] w fun e w' => e = .returned (.tuple #[.int .u64 0, .int .u64 0, .int .u64 0, .int .u64 0]) ∧ w' = w := by
  go_enter Try.func29, Try.ntmps29
  go_wp2
  exact bodyPost_ret (v := .tuple #[.int .u64 0, .int .u64 0, .int .u64 0, .int .u64 0]) (by simp [results, Try.results29, go_sem]) rfl ⟨rfl, rfl⟩

theorem new_any (w : World) (B : Nat) (hB : B ≤ w.heap.size) :
    Calls Try.prog 16 #[] w fun e w' => e = .returned (.pointer (some ⟨w.heap.size, 0, none⟩)) ∧ LinkAt w' B w.heap.size (.slice none 0 0) (.slice none 0 0) LK.new ∧ Below w.heap.size w w' := by
  have hz : ∀ w, (zeroValue 96).run Try.prog w = .ok (.agg (LK.new.cells (.slice none 0 0) (.slice none 0 0)).toArray) w := fun _ => by kernel_rfl
  go_enter Try.func16, Try.ntmps16
  go_wp2
  go_ret
  exact ⟨rfl, ⟨hB, Blk.new _ _ _, World.ownsRow_nil _ _ _ _, World.ownsRow_nil _ _ _ _, (fun k hk => by cases hk), rfl⟩, (Below.refl _ _).alloc (Nat.le_refl _) _⟩

theorem state_any (w : World) (B p : Nat) (vL vG : Value) (l : LK) (h : LinkAt w B p vL vG l) :
    Calls Try.prog 29 #[.pointer (some ⟨p, 0, none⟩)] w fun e w' => e = .returned (.tuple #[.int .u64 l.last, .int .u64 l.told, .int .u64 l.came, .int .u64 l.taken]) ∧ ∃ n, w' = w.drewN n := by
  obtain ⟨hc0, hc1, hc2, hc3, hc4, hc5, hc22⟩ := h.cells
  go_enter Try.func29, Try.ntmps29
  go_wp2
  go_quiet (fail)
  go_wp2
  exact bodyPost_ret (v := .tuple #[.int .u64 l.last, .int .u64 l.told, .int .u64 l.came, .int .u64 l.taken]) (by simp [results, Try.results29, go_sem]) rfl ⟨rfl, nq, rfl⟩

/-- 'Out' hands its row over. -/
theorem out_any (w : World) (B p : Nat) (vL vG : Value) (l : LK) (h : LinkAt w B p vL vG l) :
    Calls Try.prog 20 #[.pointer (some ⟨p, 0, none⟩)] w fun e w' => e = .returned vG ∧ w' = w.setCell ⟨p, 22, none⟩ (.slice none 0 0) := by
  obtain ⟨hc0, hc1, hc2, hc3, hc4, hc5, hc22⟩ := h.cells
  have hf := h.frozen 22
  obtain ⟨A, c, rfl⟩ := own_form h.goes
  go_enter Try.func20, Try.ntmps20
  go_wp2
  go_ret
  exact ⟨rfl, rfl⟩
theorem out_end {w : World} {B p : Nat} {vL vG : Value} {l : LK} (h : LinkAt w B p vL vG l) : LinkAt (w.setCell ⟨p, 22, none⟩ (.slice none 0 0)) B p vL (.slice none 0 0) { l with goes := [] } ∧
    (w.setCell ⟨p, 22, none⟩ (.slice none 0 0)).ownsRow B 9 1 vG l.goes.length (strs l.goes) ∧ Touch (fun k => k = p) w (w.setCell ⟨p, 22, none⟩ (.slice none 0 0)) :=
  ⟨LinkAt.setG [] h.base h.blk h.loads (World.ownsRow_nil _ _ _ _) (fun k _ e => by cases e) h.slots, (Touch.of_set (S := fun k => k = p) _ _ rfl).own h.goes (fun k hk e => h.pG (e ▸ hk)), Touch.of_set _ _ rfl⟩

set_option maxHeartbeats 1000000 in
set_option maxRecDepth 100000 in
theorem tick_any (w : World) (B p : Nat) (vL vG : Value) (l : LK) (h : LinkAt w B p vL vG l) (hB : B ≤ w.heap.size) (ok : l.Ok) (hl : l.last ≤ 1099511627776) :
    Calls Try.prog 18 #[.pointer (some ⟨p, 0, none⟩)] w fun e w' => e = .returned (.tuple #[]) ∧ LinkEnd w B p vL vG l.tick w' := by
  have hto := ok.told
  have hol := ok.out
  have hwt : IntKind.u64.wrap ((l.told : Int) + 1) = ((l.told + 1 : Nat) : Int) := by rw [IntWalk.u64_in _ (by omega)]; omega
  obtain ⟨hc0, hc1, hc2, hc3, hc4, hc5, hc22⟩ := h.cells
  clear hc0 hc2 hc3 hc4 hc5 hc22
  go_enter Try.func18, Try.ntmps18
  go_wp2
  go_loopg [2] (l.out - l.told) (fun g v wr => ∃ (k : Nat) (vL1 vG1 : Value), v = .int .u64 ((l.told + 1 + k : Nat) : Int) ∧ k + g = l.out - l.told ∧ LinkAt wr B p vL1 vG1 (LK.tickTo l k) ∧ Touch (Foot p vL vG) w wr ∧ ∀ k, Foot p vL1 vG1 k → Foot p vL vG k ∨ w.heap.size ≤ k)
  case atStart => exact ⟨0, vL, vG, by first | rfl | (rw [hwt]; rfl), by omega, h, Touch.refl _ _, fun k hk => .inl hk⟩
  case round =>
    obtain ⟨k, vL1, vG1, rfl, hk, h1, ht, hf⟩ := hrel
    obtain ⟨hk1, hk2, hk3, hk4, hk5, hk6, hk7⟩ := LK.tickTo_keep l k
    have hco := h1.cells.2.2.1
    rw [hk3] at hco
    have okk := LK.tickTo_ok ok k
    have hBr : B ≤ wr.heap.size := Nat.le_trans hB ht.size
    cases gk with
    | zero =>
      have hz : ¬ ((l.told + 1 + k : Nat) : Int) ≤ (l.out : Int) := by omega
      have HE := Lib.hid (show LinkEnd w B p vL vG l.tick wr from ⟨vL1, vG1, by unfold LK.tick; rw [show l.out - l.told = k by omega]; exact h1, ht, hf⟩)
      generalize l.told + 1 + k = m at *
      clear hk1 hk2 hk3 hk4 hk5 hk6 hk7 hwt
      go_wp2
      first | go_end0 | refine bodyPost_ret (results_none rfl _ _ _) rfl ?_
      exact ⟨rfl, HE.out⟩
    | succ g =>
      have hz : ((l.told + 1 + k : Nat) : Int) ≤ (l.out : Int) := by omega
      have hcon := load_any wr B p vL1 vG1 _ h1 hBr okk (by rw [hk1]; exact hl) (l.told + 1 + k) (by rw [hk2]; omega) (by rw [hk1]; omega)
      have HC := Lib.hid hcon
      have hs : (LK.tickTo l k).load (l.told + 1 + k) = LK.tickTo l (k + 1) := rfl
      have HS := Lib.hid hs
      have hwm : IntKind.u64.wrap (((l.told + 1 + k : Nat) : Int) + 1) = ((l.told + 1 + (k + 1) : Nat) : Int) := by rw [IntWalk.u64_in _ (by omega)]; omega
      have hm : l.told + 1 + k < 1099511627777 := by omega
      obtain ⟨m, hmm⟩ : ∃ m, l.told + 1 + k = m := ⟨_, rfl⟩
      obtain ⟨m', hmm'⟩ : ∃ m', l.told + 1 + (k + 1) = m' := ⟨_, rfl⟩
      rw [hmm] at HC HS hz hwm hm
      rw [hmm'] at hwm
      rw [hmm]
      have HM' := Lib.hid hmm'
      clear hcon hs hk1 hk2 hk3 hk4 hk5 hk6 hk7 hwt hmm hmm'
      go_wp2_with fail
      refine HC.out.mono ?_
      rintro e w4 ⟨rfl, vL2, vG2, h4, ht4, hf4⟩
      rw [HS.out] at h4
      have HT := Lib.hid (show Touch (Foot p vL vG) w w4 from ht.trans ht4 hf)
      have HF := Lib.hid (show ∀ k, Foot p vL2 vG2 k → Foot p vL vG k ∨ w.heap.size ≤ k from fun k hk => by
        rcases hf4 k hk with h5 | h5
        · exact hf k h5
        · exact .inr (Nat.le_trans ht.size h5))
      clear ht4 hf4
      go_wp2
      go_roundg g
      case measure => omega
      case rel => exact ⟨k + 1, vL2, vG2, by rw [HM'.out], by omega, h4, HT.out, HF.out⟩

end Go.Proofs.Ytgacphicgglogaa
