/- Package wire: 'Encode'. -/
import Derived.Test.YtgacphicgglogaaWireH
namespace Go.Proofs.Ytgacphicgglogaa
open Go.RowKit Crc
set_option linter.unusedVariables false

section
variable {w : World} {B B' : Nat} {v : Value}
theorem IntsAt.more {l : List Int} (h : IntsAt w B v l) (hB : B ≤ B') : IntsAt w B' v l := by
  obtain ⟨A, n, c, e, h1, h2, h3⟩ := h
  exact ⟨A, n, c, e, h1, h2, h3.more hB⟩
theorem SetsAt.more {l : List SetL} (h : SetsAt w B v l) (hB : B ≤ B') : SetsAt w B' v l := by
  obtain ⟨A, n, c, e, h1, h2, h3⟩ := h
  refine ⟨A, n, c, e, h1, h2, fun i hi => ?_⟩
  obtain ⟨ad, e1, e2, r⟩ := h3 i hi
  exact ⟨ad, e1, Nat.lt_of_lt_of_le e2 hB, r⟩
theorem PastsAt.more {l : List PastL} (h : PastsAt w B v l) (hB : B ≤ B') : PastsAt w B' v l := by
  obtain ⟨A, n, c, e, h1, h2, h3⟩ := h
  refine ⟨A, n, c, e, h1, h2, fun i hi => ?_⟩
  obtain ⟨ad, u, e1, e2, e3, e4, e5⟩ := h3 i hi
  exact ⟨ad, u, e1, Nat.lt_of_lt_of_le e2 hB, e3, e4, e5.more hB⟩
theorem MsgAt.more {m : MsgL} (h : MsgAt w B v m) (hB : B ≤ B') : MsgAt w B' v m := by
  obtain ⟨⟨v1, v2, v3, v4, v5, v6, e, h1, h2, h3, h4, h5, h6⟩, hs, he, hst⟩ := h
  exact ⟨⟨v1, v2, v3, v4, v5, v6, e, h1.more hB, h2.more hB, h3.more hB, h4.more hB, h5.more hB, h6.more hB⟩, hs, he, hst⟩
end

instance (m : MsgL) : Decidable m.Ok := decidable_of_iff (1 ≤ m.kind ∧ m.kind ≤ 9 ∧ m.event.size ≤ 20 ∧ listOk m.trans ∧ listOk m.states ∧ listOk m.enter ∧ listOk m.vars ∧ m.sets.length ≤ 8 ∧ (∀ s ∈ m.sets, setOk s) ∧ m.pasts.length ≤ 40 ∧ ∀ p ∈ m.pasts, pastOk p)
  ⟨fun ⟨a, b, c, d, e, f, g, h, i, j, k⟩ => ⟨a, b, c, d, e, f, g, h, i, j, k⟩, fun ⟨a, b, c, d, e, f, g, h, i, j, k⟩ => ⟨a, b, c, d, e, f, g, h, i, j, k⟩⟩

/-- A message's bytes; or why there are none. -/
def encRes (m : MsgL) : ByteArray × Int := if m.Ok then if 800 < (msgB m).length then (⟨#[]⟩, 4) else (⟨(msgB m).toArray⟩, 0) else (⟨#[]⟩, 1)

set_option maxHeartbeats 1000000 in
set_option maxRecDepth 100000 in
theorem encode_any (w : World) (v : Value) (m : MsgL) (h : MsgAt w w.heap.size v m) : Calls Try.prog 31 #[v] w fun e w' => e = .returned (.tuple #[.string (encRes m).1, .int .i64 (encRes m).2]) ∧ Below w.heap.size w w' := by
  have hb : ∀ cs : Array Value, Below w.heap.size w (w.alloc (.cells cs 54)) := fun cs => (Below.refl _ _).alloc (Nat.le_refl _) _
  have htell := fun cs => tell_any (w.alloc (.cells cs 54)) v m ((h.below (hb cs)).more (hb cs).size)
  have hex := h.ex
  obtain ⟨v1, v2, v3, v4, v5, v6, rfl, l1, l2, l3, l4, l5, l6⟩ := hex
  have HT := Lib.hid htell
  have HB := Lib.hid hb
  clear htell hb h
  go_enter Try.func31, Try.ntmps31
  go_wp2_with fail
  refine (HT.out _).mono ?_
  rintro e w1 (⟨hok, v', rfl, hown, hb1⟩ | ⟨hno, rfl, hb1⟩)
  case inr =>
    have hbel := (HB.out _).trans (hb1.mono (HB.out _).size)
    have HE := Lib.hid (show encRes m = (⟨#[]⟩, 1) by unfold encRes; rw [if_neg hno])
    have HBEL := Lib.hid hbel
    clear hbel hb1
    go_wp2
    go_ret2
    exact ⟨by rw [HE.out]; rfl, HBEL.out⟩
  have hbel := (HB.out _).trans (hb1.mono (HB.out _).size)
  obtain ⟨A, c, rfl⟩ := own_form hown
  by_cases hlong : 800 < (msgB m).length
  · have HE := Lib.hid (show encRes m = (⟨#[]⟩, 4) by unfold encRes; rw [if_pos hok, if_pos hlong])
    have hz : (800 : Int) < ((msgB m).length : Int) := by omega
    have HBEL := Lib.hid hbel
    clear hbel hb1 hown hlong
    generalize (msgB m).length = L at *
    go_wp2
    go_ret2
    exact ⟨by rw [HE.out]; rfl, HBEL.out⟩
  · have HE := Lib.hid (show encRes m = (⟨(msgB m).toArray⟩, 0) by unfold encRes; rw [if_pos hok, if_neg hlong])
    have hz : ¬ (800 : Int) < ((msgB m).length : Int) := by omega
    have hpos : 0 < (msgB m).length := by
      unfold msgB msgHead
      simp
    obtain ⟨g, c', hA, _, hgl⟩ := hown.form hpos
    injection hA with e1 _ e2
    subst e1 e2
    have hrow := Row.of_own hown
    have HBEL := Lib.hid hbel
    obtain ⟨l, hl⟩ : ∃ l, msgB m = l := ⟨_, rfl⟩
    rw [hl] at HE hrow hz
    rw [hl]
    clear hbel hb1 hown hlong hpos hl
    obtain ⟨L, hL⟩ : ∃ L, l.length = L := ⟨_, rfl⟩
    rw [hL] at hz
    rw [hL]
    have HLL := Lib.hid hL
    clear hL
    go_wp2_with (refine wpList_unbytes rfl (.tmp 17) 75 9 5 rfl Try.underlying75 Try.underlying5 Try.underlying9 g L c l rfl HLL.out hrow ?_)
    go_ret2
    exact ⟨by rw [HE.out]; rfl, HBEL.out⟩
end Go.Proofs.Ytgacphicgglogaa
