/- The document's wire: the reader: 'take', 'small', 'places', as laws of a state that may be bad. -/
import Derived.Test.YtgacphicgglogaaWireX
import Derived.Test.YtgacphicgglogaaWireS
namespace Go.Proofs.Ytgacphicgglogaa
open Go.RowKit Crc
set_option linter.unusedVariables false

/-- The reader at p; 'none': it is bad. -/
def RS (w : World) (p : Nat) (o : Option ByteArray) : Prop := ∃ (t : ByteArray) (b : Bool), Blk w p 118 #[.string t, .bool b] ∧ t.size ≤ 9223372036854775807 ∧ o = (if b = true then none else some t)
def TakeO (o : Option ByteArray) (n : Nat) (x : ByteArray) (o' : Option ByteArray) : Prop := x.size ≤ n ∧ (∀ u, o' = some u → x.size = n) ∧ ∀ (α : Type) (K : ByteArray → ByteArray → Option α), (o.bind fun t => (bytesR t n).bind fun q => K q.1 q.2) = o'.bind (K x)
def SmallO (o : Option ByteArray) (most n : Nat) (o' : Option ByteArray) : Prop := n ≤ most ∧ ∀ (α : Type) (K : Nat → ByteArray → Option α), (o.bind fun t => (smallR t most).bind fun q => K q.1 q.2) = o'.bind (K n)
def ListO (o : Option ByteArray) (l : List Int) (o' : Option ByteArray) : Prop := ∀ (α : Type) (K : List Int → ByteArray → Option α), (o.bind fun t => (listR t).bind fun q => K q.1 q.2) = o'.bind (K l)

theorem RS.touch {S : Nat → Prop} {w w' : World} {p : Nat} {o : Option ByteArray} (h : RS w p o) (ht : Touch S w w') (hS : ¬ S p) : RS w' p o := by
  obtain ⟨t, b, hb, h2⟩ := h
  exact ⟨t, b, ht.blk hb hS, h2⟩
theorem RS.lt {w : World} {p : Nat} {o : Option ByteArray} (h : RS w p o) : p < w.heap.size := by
  obtain ⟨t, b, hb, _⟩ := h
  exact hb.lt

theorem greatR_bytes (t : ByteArray) : greatR t = (bytesR t 8).bind fun q => some (numL q.1.data.toList, q.2) := by
  unfold greatR bytesR
  split <;> rfl
theorem TakeO.great {o o' : Option ByteArray} {x : ByteArray} (h : TakeO o 8 x o') (α : Type) (K : Nat → ByteArray → Option α) : (o.bind fun t => (greatR t).bind fun q => K q.1 q.2) = o'.bind (K (numL x.data.toList)) := by
  rw [← h.2.2 α fun x u => K (numL x.data.toList) u]
  congr 1
  funext t
  rw [greatR_bytes]
  cases bytesR t 8 <;> rfl
theorem smallR_bytes (t : ByteArray) (most : Nat) : smallR t most = (bytesR t 1).bind fun q => if first q.1 ≤ most then some (first q.1, q.2) else none := by
  unfold smallR bytesR
  by_cases h : t.size = 0
  · rw [if_pos h, if_neg (by omega)]
    rfl
  · rw [if_neg h, show (if 1 ≤ t.size then some (t.extract 0 1, t.extract 1 t.size) else none) = some (t.extract 0 1, t.extract 1 t.size) from if_pos (by omega)]
    have hf : first (t.extract 0 1) = first t := by
      unfold first
      rw [extract_data']
      simp
    show _ = if first (t.extract 0 1) ≤ most then some (first (t.extract 0 1), t.extract 1 t.size) else none
    rw [hf]
theorem TakeO.small {o o' : Option ByteArray} {x : ByteArray} {most : Nat} (h : TakeO o 1 x o') (hx : x.size = 1) (hm : first x ≤ most) : SmallO o most (first x) o' := by
  refine ⟨hm, fun α K => ?_⟩
  have := h.2.2 α fun x u => if first x ≤ most then K (first x) u else none
  simp only [if_pos hm] at this
  rw [show o'.bind (K (first x)) = o'.bind (fun u => K (first x) u) from rfl, ← this]
  congr 1
  funext t
  rw [smallR_bytes]
  cases bytesR t 1 with
  | none => rfl
  | some q =>
    show ((if first q.1 ≤ most then some (first q.1, q.2) else none).bind fun q => K q.1 q.2) = if first q.1 ≤ most then K (first q.1) q.2 else none
    split <;> rfl
theorem TakeO.smallBad {o o' : Option ByteArray} {x : ByteArray} {most : Nat} (h : TakeO o 1 x o') (hm : x.size = 0 ∨ most < first x) : SmallO o most 0 none := by
  refine ⟨Nat.zero_le _, fun α K => ?_⟩
  have h1 := h.2.2 α fun x u => if first x ≤ most then K (first x) u else none
  have h2 : (o'.bind fun u => if first x ≤ most then K (first x) u else none) = none := by
    rcases hm with h0 | h0
    · cases o' with
      | none => rfl
      | some u => exact absurd (h.2.1 u rfl) (by omega)
    · simp only [if_neg (show ¬ first x ≤ most by omega)]
      cases o' <;> rfl
  rw [h2] at h1
  show _ = none
  rw [← h1]
  congr 1
  funext t
  rw [smallR_bytes]
  cases bytesR t 1 with
  | none => rfl
  | some q =>
    show ((if first q.1 ≤ most then some (first q.1, q.2) else none).bind fun q => K q.1 q.2) = if first q.1 ≤ most then K (first q.1) q.2 else none
    split <;> rfl

set_option maxHeartbeats 1000000 in
set_option maxRecDepth 100000 in
theorem refTake_any (w : World) (p : Nat) (o : Option ByteArray) (h : RS w p o) (n : Nat) (hn : n ≤ 1000) :
    Calls Try.prog 60 #[.pointer (some ⟨p, 0, none⟩), .int .i64 (n : Int)] w fun e w' => ∃ x, e = .returned (.string x) ∧ ∃ o', RS w' p o' ∧ TakeO o n x o' ∧ Touch (fun k => k = p) w w' ∧ w'.heap.size = w.heap.size := by
  obtain ⟨t, b, hb, ht, ho⟩ := h
  have hpl := hb.lt
  have hc0 : w.cell? ⟨p, 0, none⟩ = some (.string t) := hb.cell 0
  have hc1 : w.cell? ⟨p, 1, none⟩ = some (.bool b) := hb.cell 1
  have hf0 := hb.frozen 0
  have hf1 := hb.frozen 1
  by_cases hnt : n ≤ t.size
  · have hz : ¬ (t.size : Int) < (n : Int) := by omega
    have HF := Lib.hid (show ∃ o', RS (w.setCell ⟨p, 0, none⟩ (.string (t.extract n t.size))) p o' ∧ TakeO o n (t.extract 0 n) o' by
      have hsz : (t.extract 0 n).size = n := by rw [ByteArray.size_extract]; omega
      refine ⟨if b = true then none else some (t.extract n t.size), ⟨t.extract n t.size, b, hb.set_ 0 _, by rw [ByteArray.size_extract]; omega, rfl⟩, Nat.le_of_eq hsz, fun _ _ => hsz, fun α K => ?_⟩
      rw [ho]
      cases b with
      | true => rfl
      | false =>
        show ((bytesR t n).bind _) = K _ _
        unfold bytesR
        rw [if_pos hnt]
        rfl)
    have HT := Lib.hid (Touch.of_set (w := w) (S := fun k => k = p) ⟨p, 0, none⟩ (.string (t.extract n t.size)) rfl)
    clear ho hb
    go_enter Try.func60, Try.ntmps60
    go_wp2
    go_ret
    obtain ⟨o', h1, h2⟩ := HF.out
    exact ⟨_, rfl, o', h1, h2, HT.out, World.size_setCell _ _ _⟩
  · have hz : (t.size : Int) < (n : Int) := by omega
    have HF := Lib.hid (show RS ((w.setCell ⟨p, 1, none⟩ (.bool true)).setCell ⟨p, 0, none⟩ (.string ⟨#[]⟩)) p none ∧ TakeO o n ⟨#[]⟩ none by
      refine ⟨⟨⟨#[]⟩, true, (hb.set_ 1 _).set_ 0 _, by decide, rfl⟩, Nat.zero_le _, (fun u hu => by cases hu), fun α K => ?_⟩
      rw [ho]
      cases b with
      | true => rfl
      | false =>
        show ((bytesR t n).bind _) = none
        unfold bytesR
        rw [if_neg hnt]
        rfl)
    have HT := Lib.hid ((Touch.of_set (w := w) (S := fun k => k = p) ⟨p, 1, none⟩ (.bool true) rfl).trans (Touch.of_set (w := w.setCell ⟨p, 1, none⟩ (.bool true)) (S := fun k => k = p) ⟨p, 0, none⟩ (.string ⟨#[]⟩) rfl) (fun k hk => .inl hk))
    clear ho hb
    go_enter Try.func60, Try.ntmps60
    go_wp2
    go_ret
    exact ⟨_, rfl, none, HF.out.1, HF.out.2, HT.out, by rw [World.size_setCell, World.size_setCell]⟩

set_option maxHeartbeats 1000000 in
set_option maxRecDepth 100000 in
theorem refSmall_any (w : World) (p : Nat) (o : Option ByteArray) (h : RS w p o) (most : Nat) (hm : most ≤ 255) :
    Calls Try.prog 58 #[.pointer (some ⟨p, 0, none⟩), .int .i64 (most : Int)] w fun e w' => ∃ n : Nat, e = .returned (.int .i64 (n : Int)) ∧ ∃ o' : Option ByteArray, RS w' p o' ∧ SmallO o most n o' ∧ Touch (fun k => k = p) w w' ∧ w'.heap.size = w.heap.size := by
  have hcon := refTake_any w p o h 1 (by omega)
  have HC := Lib.hid hcon
  clear hcon h
  go_enter Try.func58, Try.ntmps58
  go_wp2_with fail
  refine HC.out.mono ?_
  rintro e w1 ⟨x, rfl, o1, h1, htk, ht1, hsz1⟩
  have hx1 : x.size ≤ 1 := htk.1
  obtain ⟨t, b, hb, ht, ho⟩ := h1
  have hpl := hb.lt
  have hc1 : w1.cell? ⟨p, 1, none⟩ = some (.bool b) := hb.cell 1
  have hf1 := hb.frozen 1
  have HB := Lib.hid hb
  have HO := Lib.hid ho
  have HTT := Lib.hid ht
  have HTK := Lib.hid htk
  have HT1 := Lib.hid ht1
  have HSZ := Lib.hid hsz1
  have HBAD := Lib.hid (show RS (w1.setCell ⟨p, 1, none⟩ (.bool true)) p none from ⟨t, true, hb.set_ 1 _, ht, rfl⟩)
  have HTS := Lib.hid (ht1.trans (Touch.of_set (w := w1) (S := fun k => k = p) ⟨p, 1, none⟩ (.bool true) rfl) (fun k hk => .inl hk))
  clear HC hb ho htk ht1 hsz1 ht
  by_cases h0 : x.size = 0
  · have HSM := Lib.hid (HTK.out.smallBad (most := most) (.inl h0))
    go_wp2
    go_ret
    exact ⟨0, rfl, none, HBAD.out, HSM.out, HTS.out, by rw [World.size_setCell]; exact HSZ.out⟩
  · have h0t : 0 < x.size := by omega
    have hbyte : first x = x[0].toNat := by unfold first; rw [show x.data.toList[0]? = some x[0] from by rw [Array.getElem?_toList]; exact Array.getElem?_eq_getElem h0t]; rfl
    have hlt : x[0].toNat < 256 := UInt8.toNat_lt _
    have hw : IntKind.i64.wrap (x[0].toNat : Int) = (x[0].toNat : Int) := IntWalk.i64_in _ (by omega)
    have hxs : x.size = 1 := by omega
    by_cases hgt : first x ≤ most
    · have HSM := Lib.hid (HTK.out.small hxs hgt)
      have hz : ¬ (most : Int) < (x[0].toNat : Int) := by rw [← hbyte]; omega
      have HBY := Lib.hid hbyte
      have hxb : ((x.size : Int) == 0) = false := beq_eq_false_iff_ne.2 (by omega)
      clear hgt hbyte hxs h0
      go_wp2
      go_ret
      exact ⟨first x, by rw [HBY.out]; rfl, o1, ⟨t, b, HB.out, HTT.out, HO.out⟩, HSM.out, HT1.out, HSZ.out⟩
    · have HSM := Lib.hid (HTK.out.smallBad (most := most) (.inr (by omega)))
      have hz : (most : Int) < (x[0].toNat : Int) := by rw [← hbyte]; omega
      have hxb : ((x.size : Int) == 0) = false := beq_eq_false_iff_ne.2 (by omega)
      clear hgt hbyte hxs h0
      go_wp2
      go_ret
      exact ⟨0, rfl, none, HBAD.out, HSM.out, HTS.out, by rw [World.size_setCell]; exact HSZ.out⟩
end Go.Proofs.Ytgacphicgglogaa
