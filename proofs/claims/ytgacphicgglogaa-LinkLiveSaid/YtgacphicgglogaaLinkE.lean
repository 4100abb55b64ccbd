/- A link's end: 'arrived', 'Get'. -/
import Derived.Test.YtgacphicgglogaaLinkD
namespace Go.Proofs.Ytgacphicgglogaa
open Go.RowKit Crc
set_option linter.unusedVariables false

namespace LK
def comeF : Nat → LK → LK
  | 0, l => l
  | f + 1, l => if l.came < l.taken + 8 ∧ (l.slots[(l.came + 1) % 8]?.getD none).isSome = true then comeF f { l with came := l.came + 1 } else l
def slotIn (l : LK) (n : Nat) (s : ByteArray) : LK := if (l.slots[n % 8]?.getD none).isSome = true then l else { l with slots := l.slots.set (n % 8) (some s) }
def come (l : LK) : LK := comeF (l.taken + 8 - l.came) l
def arrive (l : LK) (n : Nat) (s : ByteArray) : LK := if l.came < n ∧ n ≤ l.taken + 8 then (l.slotIn n s).come else l
def arrived (l : LK) (n : Nat) (s : ByteArray) : LK := (l.arrive n s).put 2 (l.arrive n s).came ByteArray.empty
def get (l : LK) (s : ByteArray) : LK × Int :=
  if (unpackRes s).2.2.2 ≠ 0 then (l, (unpackRes s).2.2.2)
  else if (unpackRes s).1 = 1 then (l.arrived (unpackRes s).2.1 (unpackRes s).2.2.1, 0)
  else if l.out < (unpackRes s).2.1 then (l, 5)
  else if l.told < (unpackRes s).2.1 then (({ l with loads := l.loads.drop ((unpackRes s).2.1 - l.told), told := (unpackRes s).2.1 } : LK).on, 0)
  else (l, 0)
theorem slotIn_ok {l : LK} (h : l.Ok) (n : Nat) (s : ByteArray) : (l.slotIn n s).Ok := by
  unfold slotIn
  split
  · exact h
  · exact ⟨h.told, h.out, h.ahead, h.room, h.loads, h.taken, h.came, by show (l.slots.set _ _).length = 8; rw [List.length_set]; exact h.slots, h.goes, h.short⟩
theorem comeF_ok : ∀ (f : Nat) {l : LK}, l.Ok → (comeF f l).Ok
  | 0, _, h => h
  | f + 1, l, h => by
    unfold comeF
    split
    · rename_i hc
      exact comeF_ok f (l := { l with came := l.came + 1 }) ⟨h.told, h.out, h.ahead, h.room, h.loads, Nat.le_succ_of_le h.taken, hc.1, h.slots, h.goes, h.short⟩
    · exact h
theorem comeF_keep : ∀ (f : Nat) (l : LK), (comeF f l).last = l.last ∧ (comeF f l).told = l.told ∧ (comeF f l).out = l.out ∧ (comeF f l).taken = l.taken ∧ (comeF f l).loads = l.loads ∧ (comeF f l).slots = l.slots ∧ (comeF f l).goes = l.goes
  | 0, l => ⟨rfl, rfl, rfl, rfl, rfl, rfl, rfl⟩
  | f + 1, l => by
    unfold comeF
    split
    · exact comeF_keep f { l with came := l.came + 1 }
    · exact ⟨rfl, rfl, rfl, rfl, rfl, rfl, rfl⟩
theorem arrive_ok {l : LK} (h : l.Ok) (n : Nat) (s : ByteArray) : (l.arrive n s).Ok := by
  unfold arrive
  split
  · exact comeF_ok _ (slotIn_ok h n s)
  · exact h
theorem arrived_ok {l : LK} (h : l.Ok) (n : Nat) (s : ByteArray) : (l.arrived n s).Ok := put_ok (arrive_ok h n s) _ _ _
theorem tell_ok {l : LK} (h : l.Ok) (n : Nat) (h1 : n ≤ l.out) (h2 : l.told < n) : ({ l with loads := l.loads.drop (n - l.told), told := n } : LK).Ok :=
  ⟨h1, h.out, by have := h.ahead; show l.out ≤ n + 8; omega, by have := h.room; show l.last ≤ n + 64; omega, by have h3 := h.loads; show (l.loads.drop (n - l.told)).length = l.last - n; rw [List.length_drop, h3]; omega, h.taken, h.came, h.slots, h.goes, fun x hx => h.short x (List.mem_of_mem_drop hx)⟩
theorem get_ok {l : LK} (h : l.Ok) (s : ByteArray) : (l.get s).1.Ok := by
  unfold get
  split
  · exact h
  · split
    · exact arrived_ok h _ _
    · split
      · exact h
      · split
        · exact on_ok (tell_ok h _ (by omega) (by assumption))
        · exact h
end LK

set_option maxHeartbeats 4000000 in
set_option maxRecDepth 100000 in
theorem arrived_any (w : World) (B p : Nat) (vL vG : Value) (l : LK) (h : LinkAt w B p vL vG l) (hB : B ≤ w.heap.size) (ok : l.Ok) (htk : l.taken < 1099511627776) (n : Nat) (hn : n < 18446744073709551616) (s : ByteArray) :
    Calls Try.prog 49 #[.pointer (some ⟨p, 0, none⟩), .int .u64 (n : Int), .string s] w fun e w' => e = .returned (.tuple #[]) ∧ LinkEnd w B p vL vG (l.arrived n s) w' := by
  obtain ⟨hc0, hc1, hc2, hc3, hc4, hc5, hc22⟩ := h.cells
  have hat := ok.taken
  have hac := ok.came
  clear hc0 hc1 hc2 hc5 hc22
  have hw8 : IntKind.u64.wrap ((l.taken : Int) + 8) = (l.taken : Int) + 8 := IntWalk.u64_in _ (by omega)
  go_enter Try.func49, Try.ntmps49
  by_cases hin : l.came < n ∧ n ≤ l.taken + 8
  case neg =>
    have HA := Lib.hid (show l.arrived n s = l.put 2 l.came ByteArray.empty by unfold LK.arrived LK.arrive; rw [if_neg hin])
    have hput := put_any w B p vL vG l h hB ok.goes 2 l.came ByteArray.empty (by omega) (by decide)
    have HP := Lib.hid hput
    have hcs : ¬ (l.came : Int) < (n : Int) ∨ ((l.came : Int) < (n : Int) ∧ ¬ (n : Int) ≤ (l.taken : Int) + 8) := by omega
    clear hin hput
    rcases hcs with hz | ⟨hz, hz2⟩
    all_goals
      go_wp2_with fail
      refine HP.out.mono ?_
      rintro e w4 ⟨rfl, he⟩
      have HE := Lib.hid he
      clear he
      go_wp2
      go_end0
      exact ⟨rfl, by rw [HA.out]; exact HE.out⟩
  have hz1 : (l.came : Int) < (n : Int) := by omega
  have hz2 : (n : Int) ≤ (l.taken : Int) + 8 := by omega
  have hmodn : (n : Int) % 8 = ((n % 8 : Nat) : Int) := by omega
  have hqn : n % 8 < 8 := Nat.mod_lt _ (by omega)
  have hs0n := h.slot0 (n % 8) hqn
  have hs1n := h.slot1 (n % 8) hqn
  obtain ⟨bn, hbn⟩ : ∃ bn, (l.slots[n % 8]?.getD none).isSome = bn := ⟨_, rfl⟩
  obtain ⟨xn, hxn⟩ : ∃ xn : ByteArray, (l.slots[n % 8]?.getD none).getD ⟨#[]⟩ = xn := ⟨_, rfl⟩
  rw [hbn] at hs0n
  rw [hxn] at hs1n
  have HA0 := Lib.hid (show l.arrived n s = (l.slotIn n s).come.put 2 (l.slotIn n s).come.came ByteArray.empty by unfold LK.arrived LK.arrive; rw [if_pos hin])
  cases bn with
  | true =>
    have HA := Lib.hid (show l.arrived n s = (LK.comeF (l.taken + 8 - l.came) l).put 2 (LK.comeF (l.taken + 8 - l.came) l).came ByteArray.empty by
      rw [HA0.out, show l.slotIn n s = l by unfold LK.slotIn; rw [if_pos hbn]]; rfl)
    obtain ⟨q, hq⟩ : ∃ q, n % 8 = q := ⟨_, rfl⟩
    rw [hq] at hmodn hqn hs0n hs1n
    have hq8 : (q : Int) < 8 := by omega
    have HSS := Lib.hid hs1n
    clear hin hbn hxn hq HA0
    go_wp2
    clear hs0n hs1n hmodn hqn hq8 hz1 hz2 hc3 hc4 hw8 hat hac HSS
    go_loopg [37] (l.taken + 8 - l.came) (fun g v wr => ∃ l1 : LK, LinkAt wr B p vL vG l1 ∧ l1.Ok ∧ l1.taken < 1099511627776 ∧ g = l1.taken + 8 - l1.came ∧ LK.comeF g l1 = LK.comeF (l.taken + 8 - l.came) l ∧ Touch (Foot p vL vG) w wr)
    case atStart => exact ⟨l, h, ok, htk, rfl, rfl, (Touch.refl _ _)⟩
    case round =>
      obtain ⟨l1, h1, ok1, htk1, hg, hcm, ht⟩ := hrel
      obtain ⟨hc0, hc1, hc2, hc3, hc4, hc5, hc22⟩ := h1.cells
      have hat := ok1.taken
      have hac := ok1.came
      have hBr : B ≤ wr.heap.size := Nat.le_trans hB ht.size
      have hw8 : IntKind.u64.wrap ((l1.taken : Int) + 8) = (l1.taken : Int) + 8 := IntWalk.u64_in _ (by omega)
      have hw1 : IntKind.u64.wrap ((l1.came : Int) + 1) = (l1.came : Int) + 1 := IntWalk.u64_in _ (by omega)
      have hmod : ((l1.came : Int) + 1) % 8 = (((l1.came + 1) % 8 : Nat) : Int) := by omega
      have hml : (l1.came + 1) % 8 < 8 := Nat.mod_lt _ (by omega)
      have hs0 := h1.slot0 ((l1.came + 1) % 8) hml
      obtain ⟨b0, hb0⟩ : ∃ b0, (l1.slots[(l1.came + 1) % 8]?.getD none).isSome = b0 := ⟨_, rfl⟩
      rw [hb0] at hs0
      by_cases hc : l1.came < l1.taken + 8 ∧ b0 = true
      · obtain ⟨ha, rfl⟩ := hc
        have hz1 : (l1.came : Int) < (l1.taken : Int) + 8 := by omega
        obtain ⟨g', rfl⟩ : ∃ g', gk = g' + 1 := ⟨gk - 1, by omega⟩
        have hcm2 : LK.comeF g' { l1 with came := l1.came + 1 } = LK.comeF (l.taken + 8 - l.came) l := by
          rw [← hcm, LK.comeF, if_pos ⟨ha, hb0⟩]
        have HCM := Lib.hid hcm2
        have HG := Lib.hid (show g' = l1.taken + 8 - (l1.came + 1) by omega)
        have hfz := h1.frozen 3
        have ok2 : ({ l1 with came := l1.came + 1 } : LK).Ok := ⟨ok1.told, ok1.out, ok1.ahead, ok1.room, ok1.loads, Nat.le_succ_of_le ok1.taken, ha, ok1.slots, ok1.goes, ok1.short⟩
        have h2 : ∀ n, LinkAt ((wr.drewN n).setCell ⟨p, 3, none⟩ (.int .u64 ((l1.came : Int) + 1))) B p vL vG { l1 with came := l1.came + 1 } := fun n => (h1.drewN n).set_ 3 _ _ rfl rfl rfl ok1.slots
        have H2 := Lib.hid h2
        obtain ⟨q, hq⟩ : ∃ q, (l1.came + 1) % 8 = q := ⟨_, rfl⟩
        rw [hq] at hmod hml hs0
        have hq8 : (q : Int) < 8 := by omega
        have hv0 : (0 : Int) ≤ (l1.came : Int) + 1 := by omega
        clear hcm hcm2 hg h2 hat hac hb0 hq
        go_wp2
        go_quiet (fail)
        go_wp2
        go_roundg g'
        case measure => omega
        case rel => exact ⟨_, H2.out _, ok2, htk1, HG.out, HCM.out, ht.trans (Touch.of_drewN _ (Touch.of_set (S := Foot p vL vG) _ _ (.inl rfl))) (fun k hk => .inl hk)⟩
      · have hcm2 : l1 = LK.comeF (l.taken + 8 - l.came) l := by
          rw [← hcm]
          cases gk with
          | zero => rfl
          | succ g => rw [LK.comeF, if_neg (fun h => hc ⟨h.1, by rw [← hb0]; exact h.2⟩)]
        have HCM := Lib.hid hcm2
        have hput := fun n => put_any (wr.drewN n) B p vL vG l1 (h1.drewN n) hBr ok1.goes 2 l1.came ByteArray.empty (by omega) (by decide)
        have HP := Lib.hid hput
        clear hcm hcm2 hg hput
        by_cases ha : l1.came < l1.taken + 8
        · have hbf : b0 = false := by
            cases b0 with
            | false => rfl
            | true => exact absurd ⟨ha, rfl⟩ hc
          subst hbf
          have hz1 : (l1.came : Int) < (l1.taken : Int) + 8 := by omega
          obtain ⟨q, hq⟩ : ∃ q, (l1.came + 1) % 8 = q := ⟨_, rfl⟩
          rw [hq] at hmod hml hs0
          have hq8 : (q : Int) < 8 := by omega
          have hv0 : (0 : Int) ≤ (l1.came : Int) + 1 := by omega
          clear hc ha hb0 hq
          go_wp2
          go_quiet (fail)
          go_wp2_with fail
          refine (HP.out _).mono ?_
          rintro e w4 ⟨rfl, he⟩
          have HE := Lib.hid (LinkEnd.next ht (fun k hk => .inl hk) (he.undrewN _))
          clear he
          go_wp2
          go_end0
          exact ⟨rfl, by rw [HA.out, ← HCM.out]; exact HE.out⟩
        · have hz1 : ¬ (l1.came : Int) < (l1.taken : Int) + 8 := by omega
          have hz1b : decide ((l1.came : Int) < (l1.taken : Int) + 8) = false := decide_eq_false hz1
          clear hc ha hb0
          go_wp2
          go_quiet (fail)
          go_wp2_with fail
          refine (HP.out _).mono ?_
          rintro e w4 ⟨rfl, he⟩
          have HE := Lib.hid (LinkEnd.next ht (fun k hk => .inl hk) (he.undrewN _))
          clear he
          go_wp2
          go_end0
          exact ⟨rfl, by rw [HA.out, ← HCM.out]; exact HE.out⟩
  | false =>
    have hT00 : Touch (Foot p vL vG) w ((w.setCell ⟨p, 6 + (n % 8) * 2, none⟩ (.bool true)).setCell ⟨p, 6 + (n % 8) * 2 + 1, none⟩ (.string s)) := (Touch.of_set (S := Foot p vL vG) _ _ (.inl rfl)).trans (Touch.of_set (S := Foot p vL vG) _ _ (.inl rfl)) (fun k hk => .inl hk)
    have h00 := h.setS (n % 8) hqn (some s) (.bool true) (.string s) rfl
    have hlS : l.slotIn n s = { l with slots := l.slots.set (n % 8) (some s) } := by unfold LK.slotIn; rw [if_neg (by rw [hbn]; exact Bool.false_ne_true)]
    have ok00 := LK.slotIn_ok ok n s
    rw [hlS] at ok00
    have HA1 := Lib.hid (show l.arrived n s = ({ l with slots := l.slots.set (n % 8) (some s) } : LK).come.put 2 ({ l with slots := l.slots.set (n % 8) (some s) } : LK).come.came ByteArray.empty by rw [HA0.out, hlS])
    have hfS0 := h.frozen (6 + (n % 8) * 2)
    have hfS1 := h.frozen (6 + (n % 8) * 2 + 1)
    obtain ⟨l0, hl0⟩ : ∃ l0, ({ l with slots := l.slots.set (n % 8) (some s) } : LK) = l0 := ⟨_, rfl⟩
    have htk0 : l0.taken < 1099511627776 := by rw [← hl0]; exact htk
    rw [hl0] at HA1 h00 ok00
    obtain ⟨q, hq⟩ : ∃ q, n % 8 = q := ⟨_, rfl⟩
    rw [hq] at hmodn hqn hs0n hs1n hT00 h00 hfS0 hfS1
    have hq8 : (q : Int) < 8 := by omega
    have HA := Lib.hid (show l.arrived n s = (LK.comeF (l0.taken + 8 - l0.came) l0).put 2 (LK.comeF (l0.taken + 8 - l0.came) l0).came ByteArray.empty from HA1.out)
    have HT00 := Lib.hid hT00
    have H00 := Lib.hid h00
    clear hin hbn hxn hq HA0 HA1 hlS hl0 hT00 h00
    go_wp2
    have hT0 := HT00.out
    have h0 := H00.out
    have ok0 := ok00
    clear HT00 H00 hs0n hs1n hmodn hqn hq8 hz1 hz2 hc3 hc4 hw8 hat hac hfS0 hfS1
    generalize (w.setCell ⟨p, 6 + q * 2, none⟩ (.bool true)).setCell ⟨p, 6 + q * 2 + 1, none⟩ (.string s) = W0 at *
    have hB0 : B ≤ W0.heap.size := Nat.le_trans hB hT0.size
    go_loopg [37] (l0.taken + 8 - l0.came) (fun g v wr => ∃ l1 : LK, LinkAt wr B p vL vG l1 ∧ l1.Ok ∧ l1.taken < 1099511627776 ∧ g = l1.taken + 8 - l1.came ∧ LK.comeF g l1 = LK.comeF (l0.taken + 8 - l0.came) l0 ∧ Touch (Foot p vL vG) w wr)
    case atStart => exact ⟨l0, h0, ok0, htk0, rfl, rfl, hT0⟩
    case round =>
      obtain ⟨l1, h1, ok1, htk1, hg, hcm, ht⟩ := hrel
      obtain ⟨hc0, hc1, hc2, hc3, hc4, hc5, hc22⟩ := h1.cells
      have hat := ok1.taken
      have hac := ok1.came
      have hBr : B ≤ wr.heap.size := Nat.le_trans hB ht.size
      have hw8 : IntKind.u64.wrap ((l1.taken : Int) + 8) = (l1.taken : Int) + 8 := IntWalk.u64_in _ (by omega)
      have hw1 : IntKind.u64.wrap ((l1.came : Int) + 1) = (l1.came : Int) + 1 := IntWalk.u64_in _ (by omega)
      have hmod : ((l1.came : Int) + 1) % 8 = (((l1.came + 1) % 8 : Nat) : Int) := by omega
      have hml : (l1.came + 1) % 8 < 8 := Nat.mod_lt _ (by omega)
      have hs0 := h1.slot0 ((l1.came + 1) % 8) hml
      obtain ⟨b0, hb0⟩ : ∃ b0, (l1.slots[(l1.came + 1) % 8]?.getD none).isSome = b0 := ⟨_, rfl⟩
      rw [hb0] at hs0
      by_cases hc : l1.came < l1.taken + 8 ∧ b0 = true
      · obtain ⟨ha, rfl⟩ := hc
        have hz1 : (l1.came : Int) < (l1.taken : Int) + 8 := by omega
        obtain ⟨g', rfl⟩ : ∃ g', gk = g' + 1 := ⟨gk - 1, by omega⟩
        have hcm2 : LK.comeF g' { l1 with came := l1.came + 1 } = LK.comeF (l0.taken + 8 - l0.came) l0 := by
          rw [← hcm, LK.comeF, if_pos ⟨ha, hb0⟩]
        have HCM := Lib.hid hcm2
        have HG := Lib.hid (show g' = l1.taken + 8 - (l1.came + 1) by omega)
        have hfz := h1.frozen 3
        have ok2 : ({ l1 with came := l1.came + 1 } : LK).Ok := ⟨ok1.told, ok1.out, ok1.ahead, ok1.room, ok1.loads, Nat.le_succ_of_le ok1.taken, ha, ok1.slots, ok1.goes, ok1.short⟩
        have h2 : ∀ n, LinkAt ((wr.drewN n).setCell ⟨p, 3, none⟩ (.int .u64 ((l1.came : Int) + 1))) B p vL vG { l1 with came := l1.came + 1 } := fun n => (h1.drewN n).set_ 3 _ _ rfl rfl rfl ok1.slots
        have H2 := Lib.hid h2
        obtain ⟨q, hq⟩ : ∃ q, (l1.came + 1) % 8 = q := ⟨_, rfl⟩
        rw [hq] at hmod hml hs0
        have hq8 : (q : Int) < 8 := by omega
        have hv0 : (0 : Int) ≤ (l1.came : Int) + 1 := by omega
        clear hcm hcm2 hg h2 hat hac hb0 hq
        go_wp2
        go_quiet (fail)
        go_wp2
        go_roundg g'
        case measure => omega
        case rel => exact ⟨_, H2.out _, ok2, htk1, HG.out, HCM.out, ht.trans (Touch.of_drewN _ (Touch.of_set (S := Foot p vL vG) _ _ (.inl rfl))) (fun k hk => .inl hk)⟩
      · have hcm2 : l1 = LK.comeF (l0.taken + 8 - l0.came) l0 := by
          rw [← hcm]
          cases gk with
          | zero => rfl
          | succ g => rw [LK.comeF, if_neg (fun h => hc ⟨h.1, by rw [← hb0]; exact h.2⟩)]
        have HCM := Lib.hid hcm2
        have hput := fun n => put_any (wr.drewN n) B p vL vG l1 (h1.drewN n) hBr ok1.goes 2 l1.came ByteArray.empty (by omega) (by decide)
        have HP := Lib.hid hput
        clear hcm hcm2 hg hput
        by_cases ha : l1.came < l1.taken + 8
        · have hbf : b0 = false := by
            cases b0 with
            | false => rfl
            | true => exact absurd ⟨ha, rfl⟩ hc
          subst hbf
          have hz1 : (l1.came : Int) < (l1.taken : Int) + 8 := by omega
          obtain ⟨q, hq⟩ : ∃ q, (l1.came + 1) % 8 = q := ⟨_, rfl⟩
          rw [hq] at hmod hml hs0
          have hq8 : (q : Int) < 8 := by omega
          have hv0 : (0 : Int) ≤ (l1.came : Int) + 1 := by omega
          clear hc ha hb0 hq
          go_wp2
          go_quiet (fail)
          go_wp2_with fail
          refine (HP.out _).mono ?_
          rintro e w4 ⟨rfl, he⟩
          have HE := Lib.hid (LinkEnd.next ht (fun k hk => .inl hk) (he.undrewN _))
          clear he
          go_wp2
          go_end0
          exact ⟨rfl, by rw [HA.out, ← HCM.out]; exact HE.out⟩
        · have hz1 : ¬ (l1.came : Int) < (l1.taken : Int) + 8 := by omega
          have hz1b : decide ((l1.came : Int) < (l1.taken : Int) + 8) = false := decide_eq_false hz1
          clear hc ha hb0
          go_wp2
          go_quiet (fail)
          go_wp2_with fail
          refine (HP.out _).mono ?_
          rintro e w4 ⟨rfl, he⟩
          have HE := Lib.hid (LinkEnd.next ht (fun k hk => .inl hk) (he.undrewN _))
          clear he
          go_wp2
          go_end0
          exact ⟨rfl, by rw [HA.out, ← HCM.out]; exact HE.out⟩

end Go.Proofs.Ytgacphicgglogaa
