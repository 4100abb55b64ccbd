/- What is packed is unpacked; the example of the links. -/
import Derived.Test.YtgacphicgglogaaLinkF
import Derived.Test.YtgacphicgglogaaWirePk
namespace Go.Proofs.Ytgacphicgglogaa
open Go.RowKit Crc
set_option linter.unusedVariables false

def xB : ByteArray := ⟨#[120]⟩
def lkA : LK := ⟨1, 0, 1, 0, 0, [xB], List.replicate 8 none, [(packRes ((1 : Nat) : Int) 1 xB).1]⟩
theorem send_x : LK.new.send xB = (lkA, 0) := rfl
def lkA' : LK := { lkA with goes := [] }
def lkB : LK := ⟨0, 0, 0, 1, 0, [], [none, some xB, none, none, none, none, none, none], [(packRes ((2 : Nat) : Int) 1 ByteArray.empty).1]⟩
theorem get_x : LK.new.get (packRes ((1 : Nat) : Int) 1 xB).1 = (lkB, 0) := by
  rw [packRes_ok 1 1 xB (.inl rfl) (by decide)]
  unfold LK.get
  rw [unpack_pack 1 1 xB (.inl rfl) (by decide) (by decide)]
  rfl
def lkB' : LK := ⟨0, 0, 0, 1, 1, [], List.replicate 8 none, [(packRes ((2 : Nat) : Int) 1 ByteArray.empty).1]⟩
theorem recv_x : lkB.recv = (lkB', xB, true) := rfl
theorem get_y : (lkA'.get (packRes ((2 : Nat) : Int) 1 ByteArray.empty).1).2 = 0 := by
  rw [packRes_ok 2 1 ByteArray.empty (.inr ⟨rfl, rfl⟩) (by decide)]
  unfold LK.get
  rw [unpack_pack 2 1 ByteArray.empty (.inr ⟨rfl, rfl⟩) (by decide) (by decide)]
  rfl
theorem lkA_ok : lkA.Ok := by have := LK.send_ok LK.new_ok xB; rw [send_x] at this; exact this
theorem lkB_ok : lkB.Ok := by have := LK.get_ok LK.new_ok (packRes ((1 : Nat) : Int) 1 xB).1; rw [get_x] at this; exact this
theorem lkB'_ok : lkB'.Ok := by have := LK.recv_ok lkB_ok; rw [recv_x] at this; exact this
theorem lkA'_ok : lkA'.Ok := LK.out_ok' lkA_ok

def Apart (F G : Nat → Prop) : Prop := ∀ k, F k → ¬ G k
theorem Apart.symm {F G : Nat → Prop} (h : Apart F G) : Apart G F := fun k hg hf => h k hf hg
/-- An act on one end, another end (or whatever else has a foot) beside it. -/
theorem LinkEnd.apart {w w' : World} {B p : Nat} {vL vG : Value} {l' : LK} {G : Nat → Prop} (h : LinkEnd w B p vL vG l' w') (hap : Apart (Foot p vL vG) G) (hG : ∀ k, G k → k < w.heap.size) :
    ∃ vL' vG', LinkAt w' B p vL' vG' l' ∧ Apart (Foot p vL' vG') G ∧ Touch (Foot p vL vG) w w' ∧ ∀ k, Foot p vL' vG' k → Foot p vL vG k ∨ w.heap.size ≤ k := by
  obtain ⟨vL', vG', h1, ht, hf⟩ := h
  refine ⟨vL', vG', h1, fun k hk hg => ?_, ht, hf⟩
  rcases hf k hk with h2 | h2
  · exact hap k h2 hg
  · have := hG k hg
    omega
theorem LinkEnd.below {w w' : World} {B p : Nat} {vL vG : Value} {l l' : LK} (h : LinkAt w B p vL vG l) (ht : Touch (Foot p vL vG) w w') (hB : B ≤ w.heap.size) : Below B w w' := ht.below hB (fun k hk => (h.foot hk).1)

theorem row_one {w : World} {B : Nat} {v : Value} {s : ByteArray} (h : w.ownsRow B 9 1 v 1 (strs [s])) : ∃ g c, v = .slice (some ⟨g, 0, none⟩) 1 c ∧ w.cell? ⟨g, 0, none⟩ = some (.string s) ∧ g < w.heap.size ∧ v.ownBlock = some g := by
  obtain ⟨g, c, rfl, _, hg⟩ := h.form (by omega)
  refine ⟨g, c, rfl, ?_, hg, rfl⟩
  have := h.cells (g := g) rfl 0 (.string s) rfl
  exact this

set_option maxHeartbeats 2000000 in
set_option maxRecDepth 100000 in
theorem wakes18_any (w : World) : Calls Try.prog 15 #[] w fun e w' => e = .returned (.bool true) ∧ Below w.heap.size w w' := by
  go_enter Try.func15, Try.ntmps15
  go_wp2_with fail
  refine (new_any w w.heap.size (Nat.le_refl _)).mono ?_
  rintro e w1 ⟨rfl, hA1, hb1⟩
  go_wp2_with fail
  refine (new_any w1 w.heap.size hb1.size).mono ?_
  rintro e w2 ⟨rfl, hB2, hb2⟩
  have hA2 := hA1.below hb2
  have hfa := fun k hk => (hA1.foot (k := k) hk).2
  have hfB : ∀ k, Foot w1.heap.size (.slice none 0 0) (.slice none 0 0) k → w1.heap.size ≤ k := fun k hk => by
    rcases hk with rfl | hk | hk
    · exact Nat.le_refl _
    · cases hk
    · cases hk
  have hbw2 := hb1.trans (hb2.mono hb1.size)
  clear hA1
  have hapart : Apart (Foot w.heap.size (.slice none 0 0) (.slice none 0 0)) (Foot w1.heap.size (.slice none 0 0) (.slice none 0 0)) := fun k h1 h2 => by
    have := hfa k h1
    have := hfB k h2
    omega
  have hB2s := hbw2.size
  have hpab : w.heap.size ≠ w1.heap.size := by have := hfa _ (.inl rfl); omega
  clear hfa hfB
  generalize hpa : w.heap.size = pa at *
  generalize w1.heap.size = pb at *
  have HPA := Lib.hid hpa
  have HS := Lib.hid (show ∀ x, Below pa w x → pa ≤ x.heap.size from fun x h => by have := h.size; rw [HPA.out] at this; exact this)
  clear hpa
  have HC := Lib.hid (show Calls Try.prog 17 #[.pointer (some ⟨pa, 0, none⟩), .string ⟨#[120]⟩] w2 fun e w' => e = .returned (.int .i64 0) ∧ LinkEnd w2 pa pa (.slice none 0 0) (.slice none 0 0) lkA w' by
    have := send_any w2 pa pa _ _ _ hA2 hB2s LK.new_ok (by decide) xB
    rw [send_x] at this
    exact this)
  go_wp2_with fail
  refine HC.out.mono ?_
  rintro e w3 ⟨rfl, he3⟩
  obtain ⟨vL3, vG3, hA3, hap3, ht3, hf3⟩ := he3.apart hapart (fun k hk => (hB2.foot hk).2)
  have hB3 := hB2.touch ht3 hapart.symm
  have hb3 := hbw2.trans (LinkEnd.below (l' := lkA) hA2 ht3 hB2s)
  have hB3s := HS.out _ hb3
  clear he3 hA2 hB2 ht3 hf3 HC hapart
  go_wp2_with fail
  refine (out_any w3 pa pa _ _ _ hA3).mono ?_
  rintro e w4 ⟨rfl, hw4⟩
  obtain ⟨hA4, hr4, ht4⟩ := out_end hA3
  rw [← hw4] at hA4 hr4 ht4
  have hB4 := hB3.touch ht4 (fun k hk e => by subst e; exact hap3 k (.inl rfl) hk)
  have hap4 : Apart (Foot pa vL3 (.slice none 0 0)) (Foot pb (.slice none 0 0) (.slice none 0 0)) := fun k h1 h2 => by
    rcases h1 with h1 | h1 | h1
    · exact hap3 k (.inl h1) h2
    · exact hap3 k (.inr (.inl h1)) h2
    · cases h1
  have hb4 : Below pa w w4 := hb3.trans (ht4.below hB3s (fun k hk => by omega))
  have hB4s := HS.out _ hb4
  obtain ⟨g, c, rfl, hcg, hgl, hog⟩ := row_one hr4
  clear hA3 hB3 hap3 hr4 ht4 hw4 hog hb3 hB3s
  have HC := Lib.hid (show Calls Try.prog 22 #[.pointer (some ⟨pb, 0, none⟩), .string (packRes ((1 : Nat) : Int) 1 xB).1] w4 fun e w' => e = .returned (.int .i64 0) ∧ LinkEnd w4 pa pb (.slice none 0 0) (.slice none 0 0) lkB w' by
    have := get_any w4 pa pb _ _ _ hB4 hB4s LK.new_ok (by decide) (by decide) (packRes ((1 : Nat) : Int) 1 xB).1 (Nat.le_trans (packRes_size _ _ _) (by omega))
    rw [get_x] at this
    exact this)
  generalize (packRes ((1 : Nat) : Int) 1 xB).1 = d1 at *
  go_wp2_with fail
  refine HC.out.mono ?_
  rintro e w5 ⟨rfl, he5⟩
  obtain ⟨uL5, uG5, hB5, hap5, ht5, hf5⟩ := he5.apart hap4.symm (fun k hk => (hA4.foot hk).2)
  have hA5 := hA4.touch ht5 hap4
  have hb5 := hb4.trans (LinkEnd.below (l' := lkB) hB4 ht5 hB4s)
  have hB5s := HS.out _ hb5
  clear he5 hA4 hB4 ht5 hf5 HC hap4 hcg hgl hb4 hB4s
  have HC := Lib.hid (show Calls Try.prog 19 #[.pointer (some ⟨pb, 0, none⟩)] w5 fun e w' => e = .returned (.tuple #[.string ⟨#[120]⟩, .bool true]) ∧ LinkEnd w5 pa pb uL5 uG5 lkB' w' by
    have := recv_any w5 pa pb _ _ _ hB5 hB5s lkB_ok (by decide)
    rw [recv_x] at this
    exact this)
  go_wp2_with fail
  refine HC.out.mono ?_
  rintro e w6 ⟨rfl, he6⟩
  obtain ⟨uL6, uG6, hB6, hap6, ht6, hf6⟩ := he6.apart hap5 (fun k hk => (hA5.foot hk).2)
  have hA6 := hA5.touch ht6 hap5.symm
  have hb6 := hb5.trans (LinkEnd.below (l' := lkB') hB5 ht6 hB5s)
  have hB6s := HS.out _ hb6
  clear he6 hA5 hB5 ht6 hf6 HC hap5 hb5 hB5s
  go_wp2_with fail
  refine (out_any w6 pa pb _ _ _ hB6).mono ?_
  rintro e w7 ⟨rfl, hw7⟩
  obtain ⟨hB7, hr7, ht7⟩ := out_end hB6
  rw [← hw7] at hB7 hr7 ht7
  have hA7 := hA6.touch ht7 (fun k hk e => by subst e; exact hap6 k (.inl rfl) hk)
  have hb7 : Below pa w w7 := hb6.trans (ht7.below hB6s (fun k hk => by have := hB6.base; omega))
  have hB7s := HS.out _ hb7
  obtain ⟨g, c, rfl, hcg, hgl, hog⟩ := row_one hr7
  clear hA6 hB6 hap6 hr7 ht7 hw7 hog hb6 hB6s hB7
  have HC := Lib.hid (show Calls Try.prog 22 #[.pointer (some ⟨pa, 0, none⟩), .string (packRes ((2 : Nat) : Int) 1 ByteArray.empty).1] w7 fun e w' => e = .returned (.int .i64 0) ∧ Below pa w7 w' by
    have := get_any w7 pa pa _ _ lkA' hA7 hB7s lkA'_ok (by decide) (by decide) (packRes ((2 : Nat) : Int) 1 ByteArray.empty).1 (Nat.le_trans (packRes_size _ _ _) (by omega))
    rw [get_y] at this
    exact this.mono fun e w' ⟨h1, _, _, _, h2, _⟩ => ⟨h1, LinkEnd.below (l' := lkA) hA7 h2 hB7s⟩)
  generalize (packRes ((2 : Nat) : Int) 1 ByteArray.empty).1 = d2 at *
  go_wp2_with fail
  refine HC.out.mono ?_
  rintro e w8 ⟨rfl, hb8⟩
  go_wp2
  go_ret
  exact ⟨rfl, by rw [HPA.out]; exact hb7.trans hb8⟩

end Go.Proofs.Ytgacphicgglogaa
