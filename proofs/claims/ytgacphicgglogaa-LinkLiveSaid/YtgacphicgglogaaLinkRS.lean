/- The plain law: the code's end and the document's end, side by side. -/
import Derived.Test.YtgacphicgglogaaLinkRD
import Derived.Test.YtgacphicgglogaaLinkH
namespace Go.Proofs.Ytgacphicgglogaa
open Go.RowKit Crc
set_option linter.unusedVariables false

structure Sim0 (l : LK) (r : RL) : Prop where
  ok : l.Ok
  last : l.last = r.loads.length
  told : l.told = r.told
  sent : l.out = r.sent
  taken : l.taken = r.taken
  loads : l.loads = r.loads.drop r.told
  goes : l.goes = r.goes
  ins : r.ins.length = r.there.length
  there : r.there.length ≤ r.taken + 8
  slots : ∀ m, r.taken < m → m ≤ r.taken + 8 → l.slots[m % 8]?.getD none = if r.there[m - 1]?.getD false = true then r.ins[m - 1]? else none
  short : ∀ s ∈ r.loads, s.size ≤ 800
  heads : ∀ i, i < l.came → r.there[i]? = some true

def Sim (l : LK) (r : RL) : Prop := Sim0 l r ∧ l.came = r.came

namespace RL
def new : RL := ⟨[], 0, 0, [], [], 0, []⟩
end RL

theorem sim_rok {l : LK} {r : RL} (h : Sim0 l r) (h1 : l.last ≤ 1099511627776) (h2 : l.taken ≤ 1099511627776) : r.Ok :=
  ⟨by rw [← h.told, ← h.sent]; exact h.ok.told, by rw [← h.sent, ← h.last]; exact h.ok.out, by rw [← h.last]; exact h1, h.ins, h.there, by rw [← h.taken]; exact h2, by rw [← h.goes]; exact h.ok.goes, h.short⟩

theorem sim_new : Sim LK.new RL.new := by
  refine ⟨⟨LK.new_ok, rfl, rfl, rfl, rfl, rfl, rfl, rfl, Nat.zero_le 8, fun m _ _ => ?_, (fun s hs => by cases hs), fun i hi => absurd hi (Nat.not_lt_zero _)⟩, rfl⟩
  have h8 : m % 8 < 8 := Nat.mod_lt _ (by omega)
  show (List.replicate 8 (none : Option ByteArray))[m % 8]?.getD none = _
  rw [List.getElem?_replicate, if_pos h8]
  rfl

theorem sim0_put {l : LK} {r : RL} (h : Sim0 l r) (k n : Nat) (s : ByteArray) : Sim0 (l.put k n s) (r.put k n s) := by
  refine ⟨LK.put_ok h.ok _ _ _, h.last, h.told, h.sent, h.taken, h.loads, ?_, h.ins, h.there, h.slots, h.short, h.heads⟩
  have h64 := h.ok.goes
  show (if l.goes.length = 64 then l.goes else l.goes ++ [(packRes k n s).1]) = if r.goes.length < 64 then r.goes ++ [(packRes k n s).1] else r.goes
  rw [← h.goes]
  by_cases hl : l.goes.length = 64
  · rw [if_pos hl, if_neg (by omega)]
  · rw [if_neg hl, if_pos (by omega)]
theorem sim_put {l : LK} {r : RL} (h : Sim l r) (k n : Nat) (s : ByteArray) : Sim (l.put k n s) (r.put k n s) := ⟨sim0_put h.1 k n s, h.2⟩
theorem sim_load {l : LK} {r : RL} (h : Sim l r) (n : Nat) (h1 : l.told < n) : Sim (l.load n) (r.nth n) := by
  unfold LK.load RL.nth
  have : l.loads[n - l.told - 1]? = r.loads[n - 1]? := by
    rw [h.1.loads, List.getElem?_drop, ← h.1.told]
    congr 1
    omega
  rw [this]
  exact sim_put h _ _ _
theorem sim_onF : ∀ (f : Nat) {l : LK} {r : RL}, Sim l r → Sim (LK.onF f l) (RL.onF f r)
  | 0, _, _, h => h
  | f + 1, l, r, h => by
    unfold LK.onF RL.onF
    have h1 := h.1.sent
    have h2 := h.1.last
    have h3 := h.1.told
    by_cases hc : l.out < l.last ∧ l.out < l.told + 8
    · rw [if_pos hc, if_pos (by omega)]
      have hs : Sim ({ l with out := l.out + 1 } : LK) ({ r with sent := r.sent + 1 } : RL) :=
        ⟨⟨LK.out_ok h.1.ok hc.1 hc.2, h.1.last, h.1.told, by show l.out + 1 = r.sent + 1; rw [h1], h.1.taken, h.1.loads, h.1.goes, h.1.ins, h.1.there, h.1.slots, h.1.short, h.1.heads⟩, h.2⟩
      have ht := h.1.ok.told
      have := sim_load hs (l.out + 1) (by show l.told < l.out + 1; omega)
      rw [← h1]
      rw [← h1] at this
      exact sim_onF f this
    · rw [if_neg hc, if_neg (by omega)]
      exact h
theorem sim_on {l : LK} {r : RL} (h : Sim l r) : Sim l.on r.on := by
  unfold LK.on RL.on
  rw [h.1.told, h.1.sent]
  exact sim_onF _ h
theorem sim_tickTo {l : LK} {r : RL} (h : Sim l r) : ∀ k, Sim (LK.tickTo l k) (RL.tickTo r k)
  | 0 => h
  | k + 1 => by
    unfold LK.tickTo RL.tickTo
    rw [← h.1.told]
    exact sim_load (sim_tickTo h k) _ (by rw [(LK.tickTo_keep l k).2.1]; omega)
theorem sim_tick {l : LK} {r : RL} (h : Sim l r) : Sim l.tick r.tick := by
  unfold LK.tick RL.tick
  rw [h.1.told, h.1.sent]
  exact sim_tickTo h _
theorem sim_out {l : LK} {r : RL} (h : Sim l r) : Sim { l with goes := [] } { r with goes := [] } :=
  ⟨⟨LK.out_ok' h.1.ok, h.1.last, h.1.told, h.1.sent, h.1.taken, h.1.loads, rfl, h.1.ins, h.1.there, h.1.slots, h.1.short, h.1.heads⟩, h.2⟩
theorem sim_send {l : LK} {r : RL} (h : Sim l r) (s : ByteArray) : Sim (l.send s).1 (r.send s).1 ∧ (l.send s).2 = (r.send s).2 := by
  unfold LK.send RL.send
  have hcond : r.loads.length - r.told = l.last - l.told := by rw [h.1.last, h.1.told]
  rw [hcond]
  by_cases h8 : 800 < s.size
  · rw [if_pos h8, if_pos h8]
    exact ⟨h, rfl⟩
  rw [if_neg h8, if_neg h8]
  by_cases hf : l.last - l.told = 64
  · rw [if_pos hf, if_pos hf]
    exact ⟨h, rfl⟩
  rw [if_neg hf, if_neg hf]
  refine ⟨sim_on ⟨⟨LK.more_ok h.1.ok s (by omega) hf, ?_, h.1.told, h.1.sent, h.1.taken, ?_, h.1.goes, h.1.ins, h.1.there, h.1.slots, fun x hx => ?_, h.1.heads⟩, h.2⟩, rfl⟩
  · show l.last + 1 = (r.loads ++ [s]).length
    rw [List.length_append, h.1.last]
    rfl
  · show l.loads ++ [s] = (r.loads ++ [s]).drop r.told
    have h1 := h.1.ok.told
    have h2 := h.1.ok.out
    have h3 := h.1.last
    have h4 := h.1.told
    rw [List.drop_append_of_le_length (by omega), h.1.loads]
  · rcases List.mem_append.1 hx with hx | hx
    · exact h.1.short x hx
    · rw [List.mem_singleton.1 hx]
      omega

theorem trues_is : ∀ (l : List Bool) (c : Nat), (∀ i, i < c → l[i]? = some true) → l[c]? ≠ some true → (l.takeWhile id).length = c
  | [], 0, _, _ => rfl
  | [], c + 1, h, _ => by have := h 0 (by omega); simp at this
  | false :: l, 0, _, _ => rfl
  | false :: l, c + 1, h, _ => by have := h 0 (by omega); simp at this
  | true :: l, 0, _, h => by simp at h
  | true :: l, c + 1, h, h2 => by
    have := trues_is l c (fun i hi => h (i + 1) (by omega)) (by simpa using h2)
    simp [this]

theorem sim_recv {l : LK} {r : RL} (h : Sim l r) : Sim l.recv.1 r.recv.1 ∧ l.recv.2 = r.recv.2 := by
  have ht := h.1.ok.taken
  have hc := h.2
  have htk := h.1.taken
  have hsl := h.1.ok.slots
  by_cases hcm : l.came = l.taken
  · have e1 : l.recv = (l, ByteArray.empty, false) := by unfold LK.recv; rw [if_pos hcm]
    have e2 : r.recv = (r, ByteArray.empty, false) := by unfold RL.recv; rw [if_pos (by omega)]
    rw [e1, e2]
    exact ⟨h, rfl⟩
  · have e1 : l.recv = ({ l with taken := l.taken + 1, slots := l.slots.set ((l.taken + 1) % 8) none }, (l.slots[(l.taken + 1) % 8]?.getD none).getD ByteArray.empty, true) := by unfold LK.recv; rw [if_neg hcm]
    have e2 : r.recv = ({ r with taken := r.taken + 1 }, r.ins[r.taken]?.getD ByteArray.empty, true) := by unfold RL.recv; rw [if_neg (by omega)]
    have hok := LK.recv_ok h.1.ok
    rw [e1] at hok
    rw [e1, e2]
    have hth := h.1.heads r.taken (by omega)
    have hs := h.1.slots (r.taken + 1) (by omega) (by omega)
    rw [show r.taken + 1 - 1 = r.taken by omega, hth] at hs
    refine ⟨⟨⟨hok, h.1.last, h.1.told, h.1.sent, by show l.taken + 1 = r.taken + 1; omega, h.1.loads, h.1.goes, h.1.ins, by show r.there.length ≤ r.taken + 1 + 8; have := h.1.there; omega, fun m h1 h2 => ?_, h.1.short, h.1.heads⟩, h.2⟩, ?_⟩
    · show (l.slots.set ((l.taken + 1) % 8) none)[m % 8]?.getD none = if r.there[m - 1]?.getD false = true then r.ins[m - 1]? else none
      change r.taken + 1 < m at h1
      change m ≤ r.taken + 1 + 8 at h2
      by_cases hm : m = r.taken + 9
      · have hn : r.there[m - 1]? = none := List.getElem?_eq_none (by have := h.1.there; omega)
        rw [hn, List.getElem?_set, if_pos (by omega), if_pos (by rw [hsl]; omega)]
        rfl
      · rw [List.getElem?_set_ne (by omega)]
        exact h.1.slots m (by omega) (by omega)
    · show ((l.slots[(l.taken + 1) % 8]?.getD none).getD ByteArray.empty, true) = (r.ins[r.taken]?.getD ByteArray.empty, true)
      rw [htk, hs]
      rfl

theorem sim0_comeF : ∀ (f : Nat) {l : LK} {r : RL}, Sim0 l r → Sim0 (LK.comeF f l) r
  | 0, _, _, h => h
  | f + 1, l, r, h => by
    unfold LK.comeF
    split
    · rename_i hc
      have ht := h.ok.taken
      have htk := h.taken
      have hs := h.slots (l.came + 1) (by omega) (by omega)
      have hth : r.there[l.came]? = some true := by
        rw [show l.came + 1 - 1 = l.came by omega] at hs
        rw [hs] at hc
        by_cases hb : r.there[l.came]?.getD false = true
        · cases hx : r.there[l.came]? with
          | none => rw [hx] at hb; simp at hb
          | some b => rw [hx] at hb; simp at hb; rw [hb]
        · rw [if_neg hb] at hc
          exact absurd hc.2 (by simp)
      have ok2 : ({ l with came := l.came + 1 } : LK).Ok := ⟨h.ok.told, h.ok.out, h.ok.ahead, h.ok.room, h.ok.loads, Nat.le_succ_of_le h.ok.taken, hc.1, h.ok.slots, h.ok.goes, h.ok.short⟩
      refine sim0_comeF f (l := { l with came := l.came + 1 }) ⟨ok2, h.last, h.told, h.sent, h.taken, h.loads, h.goes, h.ins, h.there, h.slots, h.short, fun i hi => ?_⟩
      change i < l.came + 1 at hi
      by_cases hi2 : i < l.came
      · exact h.heads i hi2
      · rw [show i = l.came by omega]
        exact hth
    · exact h
theorem sim_come {l : LK} {r : RL} (h : Sim0 l r) : Sim l.come r := by
  have h0 : Sim0 l.come r := sim0_comeF _ h
  refine ⟨h0, (trues_is _ _ h0.heads fun hx => ?_).symm⟩
  have hst := LK.comeF_stop (l.taken + 8 - l.came) l (Nat.le_refl _)
  have ht := h0.ok.taken
  have htk := h0.taken
  have hlt : l.come.came < r.there.length := by
    rcases Nat.lt_or_ge l.come.came r.there.length with h1 | h1
    · exact h1
    · rw [List.getElem?_eq_none h1] at hx
      cases hx
  have hth := h0.there
  refine hst ⟨by show l.come.came < l.come.taken + 8; omega, ?_⟩
  have hs := h0.slots (l.come.came + 1) (by omega) (by omega)
  rw [show l.come.came + 1 - 1 = l.come.came by omega, hx] at hs
  show (l.come.slots[(l.come.came + 1) % 8]?.getD none).isSome = true
  rw [hs, List.getElem?_eq_getElem (by rw [h0.ins]; exact hlt)]
  rfl

theorem sim0_one {l : LK} {r : RL} (h : Sim0 l r) (hl : r.there.length < r.taken + 8) : Sim0 l r.one := by
  refine ⟨h.ok, h.last, h.told, h.sent, h.taken, h.loads, h.goes, by show (r.ins ++ [_]).length = (r.there ++ [_]).length; rw [List.length_append, List.length_append, h.ins]; rfl, by show (r.there ++ [_]).length ≤ _; rw [List.length_append]; exact hl, fun m h1 h2 => ?_, h.short, fun i hi => ?_⟩
  · rw [h.slots m h1 h2]
    show _ = if (r.there ++ [false])[m - 1]?.getD false = true then (r.ins ++ [⟨#[]⟩])[m - 1]? else none
    by_cases hm : m - 1 < r.there.length
    · rw [List.getElem?_append_left hm, List.getElem?_append_left (by rw [h.ins]; exact hm)]
    · have e1 : r.there[m - 1]? = none := List.getElem?_eq_none (by omega)
      have e2 : (r.there ++ [false])[m - 1]?.getD false = false := by
        rw [List.getElem?_append_right (by omega)]
        cases m - 1 - r.there.length <;> rfl
      rw [e1, e2]
      rfl
  · have := h.heads i hi
    show (r.there ++ [false])[i]? = some true
    rw [List.getElem?_append_left (by obtain ⟨h1, _⟩ := List.getElem?_eq_some_iff.1 this; exact h1)]
    exact this
theorem sim0_extF : ∀ (f : Nat) {l : LK} {r : RL}, Sim0 l r → r.there.length + f ≤ r.taken + 8 → Sim0 l (RL.extF f r) ∧ (RL.extF f r).there.length = r.there.length + f ∧ (RL.extF f r).taken = r.taken
  | 0, _, _, h, _ => ⟨h, rfl, rfl⟩
  | f + 1, l, r, h, hl => by
    have h1 := sim0_one h (by omega)
    have hlen : r.one.there.length = r.there.length + 1 := by show (r.there ++ [false]).length = _; rw [List.length_append]; rfl
    obtain ⟨a, b, c⟩ := sim0_extF f h1 (by rw [hlen]; show _ ≤ r.taken + 8; omega)
    exact ⟨a, by show (RL.extF f r.one).there.length = _; rw [b, hlen]; omega, c⟩
theorem sim0_mark {l : LK} {r : RL} (h : Sim0 l r) (n : Nat) (s : ByteArray) (h1 : r.taken < n) (h2 : n ≤ r.taken + 8) (h3 : n ≤ r.there.length) : Sim0 (l.slotIn n s) (r.mark n s) := by
  have hs := h.slots n h1 h2
  have hil : n - 1 < r.ins.length := by rw [h.ins]; omega
  by_cases hb : r.there[n - 1]?.getD false = true
  · rw [if_pos hb, List.getElem?_eq_getElem hil] at hs
    have e1 : l.slotIn n s = l := by unfold LK.slotIn; rw [if_pos (by rw [hs]; rfl)]
    have e2 : r.mark n s = r := by unfold RL.mark; rw [if_pos hb]
    rw [e1, e2]
    exact h
  · rw [if_neg hb] at hs
    have e1 : l.slotIn n s = { l with slots := l.slots.set (n % 8) (some s) } := by unfold LK.slotIn; rw [if_neg (by rw [hs]; simp)]
    have e2 : r.mark n s = { r with there := r.there.set (n - 1) true, ins := r.ins.set (n - 1) s } := by unfold RL.mark; rw [if_neg hb]
    have hok := LK.slotIn_ok h.ok n s
    rw [e1] at hok
    rw [e1, e2]
    refine ⟨hok, h.last, h.told, h.sent, h.taken, h.loads, h.goes, by show (r.ins.set _ _).length = (r.there.set _ _).length; rw [List.length_set, List.length_set]; exact h.ins, by show (r.there.set _ _).length ≤ _; rw [List.length_set]; exact h.there, fun m g1 g2 => ?_, h.short, fun i hi => ?_⟩
    · show (l.slots.set (n % 8) (some s))[m % 8]?.getD none = if (r.there.set (n - 1) true)[m - 1]?.getD false = true then (r.ins.set (n - 1) s)[m - 1]? else none
      change r.taken < m at g1
      change m ≤ r.taken + 8 at g2
      have hsl := h.ok.slots
      by_cases hm : m = n
      · subst hm
        rw [List.getElem?_set, if_pos rfl, if_pos (by omega), List.getElem?_set, if_pos rfl, if_pos (show m - 1 < r.there.length by omega), List.getElem?_set, if_pos rfl, if_pos (show m - 1 < r.ins.length by omega)]
        rfl
      · rw [List.getElem?_set_ne (by omega), List.getElem?_set_ne (by omega), List.getElem?_set_ne (by omega)]
        exact h.slots m g1 g2
    · show (r.there.set (n - 1) true)[i]? = some true
      have := h.heads i hi
      rw [List.getElem?_set]
      split
      · rw [if_pos (by omega)]
      · exact this
theorem sim_arrive {l : LK} {r : RL} (h : Sim l r) (n : Nat) (s : ByteArray) : Sim (l.arrive n s) (r.arrive n s) := by
  have ht := h.1.ok.taken
  have htk := h.1.taken
  have hc := h.2
  have hth := h.1.there
  by_cases hin : r.taken < n ∧ n ≤ r.taken + 8
  case neg =>
    have e1 : l.arrive n s = l := by unfold LK.arrive; rw [if_neg (by omega)]
    have e2 : r.arrive n s = r := by unfold RL.arrive; rw [if_neg hin]
    rw [e1, e2]
    exact h
  have e2 : r.arrive n s = (r.ext n).mark n s := by unfold RL.arrive; rw [if_pos hin]
  by_cases hcn : l.came < n
  case neg =>
    have e1 : l.arrive n s = l := by unfold LK.arrive; rw [if_neg (by omega)]
    have hx := h.1.heads (n - 1) (by omega)
    have hlt : n - 1 < r.there.length := (List.getElem?_eq_some_iff.1 hx).1
    have e3 : r.ext n = r := by unfold RL.ext; rw [show n - r.there.length = 0 by omega]; rfl
    have e4 : r.mark n s = r := by unfold RL.mark; rw [if_pos (by rw [hx]; rfl)]
    rw [e1, e2, e3, e4]
    exact h
  have e1 : l.arrive n s = (l.slotIn n s).come := by unfold LK.arrive; rw [if_pos (by omega)]
  rw [e1, e2]
  have hext : Sim0 l (r.ext n) ∧ n ≤ (r.ext n).there.length ∧ (r.ext n).taken = r.taken := by
    by_cases hn : n ≤ r.there.length
    · have e3 : r.ext n = r := by unfold RL.ext; rw [show n - r.there.length = 0 by omega]; rfl
      rw [e3]
      exact ⟨h.1, hn, rfl⟩
    · obtain ⟨a, b, c⟩ := sim0_extF (n - r.there.length) h.1 (by omega)
      exact ⟨a, by show n ≤ (RL.extF _ r).there.length; omega, c⟩
  obtain ⟨a, b, c⟩ := hext
  exact sim_come (sim0_mark a n s (by omega) (by omega) b)
theorem sim_get {l : LK} {r : RL} (h : Sim l r) (s : ByteArray) : Sim (l.get s).1 (r.get s).1 ∧ (l.get s).2 = (r.get s).2 := by
  have h1 := h.1.sent
  have h2 := h.1.told
  unfold LK.get RL.get
  have c1 : (r.sent < (unpackRes s).2.1) = (l.out < (unpackRes s).2.1) := by rw [h1]
  have c2 : (r.told < (unpackRes s).2.1) = (l.told < (unpackRes s).2.1) := by rw [h2]
  simp only [c1, c2]
  by_cases he : (unpackRes s).2.2.2 ≠ 0
  · rw [if_pos he, if_pos he]
    exact ⟨h, rfl⟩
  rw [if_neg he, if_neg he]
  by_cases hk : (unpackRes s).1 = 1
  · rw [if_pos hk, if_pos hk]
    refine ⟨?_, rfl⟩
    have ha := sim_arrive h (unpackRes s).2.1 (unpackRes s).2.2.1
    unfold LK.arrived RL.arrived
    rw [ha.2]
    exact sim_put ha _ _ _
  rw [if_neg hk, if_neg hk]
  by_cases hn : l.out < (unpackRes s).2.1
  · rw [if_pos hn, if_pos hn]
    exact ⟨h, rfl⟩
  rw [if_neg hn, if_neg hn]
  by_cases hg : l.told < (unpackRes s).2.1
  · rw [if_pos hg, if_pos hg]
    refine ⟨sim_on ⟨⟨?_, h.1.last, rfl, h.1.sent, h.1.taken, ?_, h.1.goes, h.1.ins, h.1.there, h.1.slots, h.1.short, h.1.heads⟩, h.2⟩, rfl⟩
    · exact LK.tell_ok h.1.ok (unpackRes s).2.1 (by omega) (by omega)
    · show l.loads.drop ((unpackRes s).2.1 - l.told) = r.loads.drop (unpackRes s).2.1
      rw [h.1.loads, List.drop_drop]
      congr 1
      omega
  · rw [if_neg hg, if_neg hg]
    exact ⟨h, rfl⟩
end Go.Proofs.Ytgacphicgglogaa
