/- The document's wire: the reader: 'places'. -/
import Derived.Test.YtgacphicgglogaaWireZ
namespace Go.Proofs.Ytgacphicgglogaa
open Go.RowKit Crc
set_option linter.unusedVariables false

theorem listR_small (t : ByteArray) : listR t = (smallR t 48).bind fun q => placesR q.1 q.2 [] := by
  unfold listR
  cases smallR t 48 <;> rfl
theorem placesR_small (k : Nat) (t : ByteArray) (acc : List Int) : placesR (k + 1) t acc = (smallR t 63).bind fun q => placesR k q.2 (acc ++ [(q.1 : Int)]) := by
  rw [placesR]
  cases smallR t 63 <;> rfl
theorem bind_bind {α β γ : Type} (o : Option α) (f : α → Option β) (g : β → Option γ) : (o.bind f).bind g = o.bind fun x => (f x).bind g := by cases o <;> rfl

/-- 'places' under way: k of n are read, they are acc. -/
def PlO (o : Option ByteArray) (n k : Nat) (acc : List Int) (o1 : Option ByteArray) : Prop := ∀ (α : Type) (K : List Int → ByteArray → Option α), (o.bind fun t => (listR t).bind fun q => K q.1 q.2) = o1.bind fun t => (placesR (n - k) t acc).bind fun q => K q.1 q.2
theorem PlO.start {o o1 : Option ByteArray} {n : Nat} (h : SmallO o 48 n o1) : PlO o n 0 [] o1 := fun α K => by
  rw [show (o.bind fun t => (listR t).bind fun q => K q.1 q.2) = o.bind fun t => (smallR t 48).bind fun q => (placesR q.1 q.2 []).bind fun q => K q.1 q.2 by
    congr 1
    funext t
    rw [listR_small, bind_bind]]
  exact h.2 α fun n u => (placesR n u []).bind fun q => K q.1 q.2
theorem PlO.next {o o1 o2 : Option ByteArray} {n k x : Nat} {acc : List Int} (h : PlO o n k acc o1) (hk : k < n) (hs : SmallO o1 63 x o2) : PlO o n (k + 1) (acc ++ [(x : Int)]) o2 := fun α K => by
  rw [h α K, show n - k = (n - (k + 1)) + 1 by omega]
  rw [show (o1.bind fun t => (placesR (n - (k + 1) + 1) t acc).bind fun q => K q.1 q.2) = o1.bind fun t => (smallR t 63).bind fun q => (placesR (n - (k + 1)) q.2 (acc ++ [(q.1 : Int)])).bind fun q => K q.1 q.2 by
    congr 1
    funext t
    rw [placesR_small, bind_bind]]
  exact hs.2 α fun x u => (placesR (n - (k + 1)) u (acc ++ [(x : Int)])).bind fun q => K q.1 q.2
theorem PlO.all {o o1 : Option ByteArray} {n : Nat} {acc : List Int} (h : PlO o n n acc o1) : ListO o acc o1 := fun α K => by
  rw [h α K, Nat.sub_self]
  rfl
theorem PlO.bad {o : Option ByteArray} {n k : Nat} {acc : List Int} (h : PlO o n k acc none) : ListO o acc none := fun α K => h α K

set_option maxHeartbeats 2000000 in
set_option maxRecDepth 100000 in
theorem refList_any (w : World) (p : Nat) (o : Option ByteArray) (h : RS w p o) :
    Calls Try.prog 61 #[.pointer (some ⟨p, 0, none⟩)] w fun e w' => ∃ v, e = .returned v ∧ ∃ (l : List Int) (o' : Option ByteArray), RS w' p o' ∧ ListO o l o' ∧ Touch (fun k => k = p) w w' ∧ w'.ownsRow w.heap.size 3 1 v l.length (intV l) := by
  obtain ⟨R, hR⟩ : ∃ R : Ending → World → Prop, R = fun e w' => ∃ v, e = .returned v ∧ ∃ (l : List Int) (o' : Option ByteArray), RS w' p o' ∧ ListO o l o' ∧ Touch (fun k => k = p) w w' ∧ w'.ownsRow w.heap.size 3 1 v l.length (intV l) := ⟨_, rfl⟩
  rw [← hR]
  have HR := Lib.hid hR
  clear hR
  obtain ⟨i0, hi0, hx0, hx1, hx2⟩ := info_parts i64_info
  have hpl := h.lt
  have HC := Lib.hid (refSmall_any w p o h 48 (by omega))
  clear h
  go_enter Try.func61, Try.ntmps61
  go_wp2_with fail
  refine HC.out.mono ?_
  rintro e w1 ⟨n, rfl, o1, h1, hs1, ht1, -⟩
  have hn48 : n ≤ 48 := hs1.1
  have HP1 := Lib.hid (PlO.start hs1)
  have HRS1 := Lib.hid h1
  have HT1 := Lib.hid ht1
  clear HC h1 hs1 ht1
  go_wp2_with fail
  go_loopw [3, 5] (fun out v wr => ∃ (k : Nat) (acc : List Int) (o2 : Option ByteArray), k ≤ n ∧ v = .int .i64 (k : Int) ∧ wr.ownsRow w.heap.size 3 1 out acc.length (intV acc) ∧ acc.length = k ∧ RS wr p o2 ∧ Touch (fun k => k = p) w wr ∧ PlO o n k acc o2) (fun _ v _ => n - (intOf v).toNat)
  case atStart => exact ⟨0, [], o1, Nat.zero_le _, rfl, World.ownsRow_nil _ _ _ _, rfl, HRS1.out, HT1.out, HP1.out⟩
  case round =>
    obtain ⟨k, acc, o2, hk, rfl, hown, hacc, hrs, ht, hpo⟩ := hrel
    clear HP1 HRS1 HT1
    obtain ⟨A, c, hA⟩ := own_form hown
    subst hA
    obtain ⟨t, b, hb, htt, ho2⟩ := id hrs
    have hcb : wr.cell? ⟨p, 1, none⟩ = some (.bool b) := hb.cell 1
    have hplr := hb.lt
    clear hb htt
    by_cases hkn : k < n
    · have hkz : (k : Int) < (n : Int) := by omega
      cases b with
      | true =>
        have HF := Lib.hid (show ListO o acc o2 by subst ho2; exact hpo.bad)
        have HRS := Lib.hid hrs
        have HT := Lib.hid ht
        have HO := Lib.hid hown
        clear hpo hrs ho2 ht hown
        go_wp2
        rw [HR.out]
        exact ⟨_, rfl, acc, o2, HRS.out, HF.out, HT.out, HO.out⟩
      | false =>
        have HC := Lib.hid (refSmall_any wr p o2 hrs 63 (by omega))
        have HPO := Lib.hid hpo
        clear hrs ho2 hpo
        go_wp2_with fail
        refine HC.out.mono ?_
        rintro e w2 ⟨x, rfl, o3, hrd2, hsm, hT2, -⟩
        have HP := Lib.hid (HPO.out.next hkn hsm)
        have hown2 := hT2.own hown (fun k hk e => by have := (hown.lt k hk).1; omega)
        have hsz2 := ht.size
        have hsz3 := hT2.size
        rw [hacc] at hown2
        rw [hacc]
        have hrx : Reads (w2.alloc (.cells #[.int .i64 (x : Int)] 3)) (w2.alloc (.cells #[.int .i64 (x : Int)] 3)).heap.size 1 (some ⟨w2.heap.size, 0, none⟩) 1 (intV [(x : Int)]) := ⟨rfl, fun _ => ⟨_, rfl, by simp, fun j u hu => cells_new w2 [.int .i64 (x : Int)] _ j u hu⟩⟩
        have hone := intV_one [(x : Int)]
        clear hown hsm HC HPO hcb
        go_wp2_with (at_builtin; refine wpList_append_any _ rfl _ _ 50 rfl w.heap.size 3 i0 _ 1 8 Try.underlying50 hi0 hx0 hx1 hx2 rfl (by decide) _ _ _ rfl (hown2.alloc _) _ (some ⟨w2.heap.size, 0, none⟩) 1 1 _ rfl hrx hone ?c3 ?c4 ?c5 ?_)
        case c3 => unfold maxLen; omega
        case c4 => omega
        case c5 => first | omega | (rw [World.size_alloc]; omega)
        intro v' w3 hown3 hg3 hbl
        obtain ⟨ht3, hbl3⟩ := touch_app hg3 hbl
        have hlow : ∀ j, (Value.slice A k c).ownBlock = some j → w.heap.size ≤ j := fun j hj => (hown2.lt j hj).1
        have hrd3 := hrd2.touch ht3 (fun e => by have := hlow p e; omega)
        have hT3 : Touch (fun k => k = p) w w3 := ⟨(ht3.os.trans hT2.os).trans ht.os, (ht3.tape.trans hT2.tape).trans ht.tape, (ht3.output.trans hT2.output).trans ht.output, Nat.le_trans hsz2 (Nat.le_trans hsz3 ht3.size), fun j hj hne => by
          have e1 := ht.block j hj hne
          have e2 := hT2.block j (by omega) hne
          have e3 := ht3.block j (by omega) (fun e => by have := hlow j e; omega)
          exact e3.trans (e2.trans e1)⟩
        have HF := Lib.hid (show w3.ownsRow w.heap.size 3 1 v' (acc ++ [(x : Int)]).length (intV (acc ++ [(x : Int)])) by
          rw [List.length_append, hacc]
          simpa [intV] using hown3)
        have HACC := Lib.hid hacc
        have HRD := Lib.hid hrd3
        have HTT := Lib.hid hT3
        obtain ⟨A', c', hA'⟩ := own_form hown3
        subst hA'
        clear hown3 hg3 hbl ht3 hbl3 hrx hone hrd2 hT2 hown2 hlow hrd3 hT3 hsz2 hsz3 ht hacc
        go_wp2
        go_roundw
        case rel => exact ⟨k + 1, acc ++ [(x : Int)], o3, by omega, by go_num, HF.out, by rw [List.length_append, HACC.out]; rfl, HRD.out, HTT.out, HP.out⟩
        case measure => simp [intOf]; omega
    · obtain rfl : k = n := by omega
      have hkz : ¬ (k : Int) < (k : Int) := by omega
      have HF := Lib.hid hpo.all
      have HRS := Lib.hid hrs
      have HT := Lib.hid ht
      have HO := Lib.hid hown
      clear hpo hown hrs ht ho2
      go_wp2
      rw [HR.out]
      exact ⟨_, rfl, acc, o2, HRS.out, HF.out, HT.out, by have := HO.out; rw [hacc] at this ⊢; exact this⟩
end Go.Proofs.Ytgacphicgglogaa
