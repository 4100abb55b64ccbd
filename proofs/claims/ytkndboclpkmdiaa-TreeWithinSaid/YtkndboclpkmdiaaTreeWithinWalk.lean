/- The walk of TreeWithin. -/
import Derived.Test.YtkndboclpkmdiaaTreeX
namespace Go.Proofs.Ytkndboclpkmdiaa.treeWithin
open Go.RowKit

set_option maxHeartbeats 1000000 in
set_option maxRecDepth 100000 in
theorem walk (v0 : Value) (i j : Int) (w : World) {H : Type} {enc : TypeId × Value → H} {base : Nat} {d : DataW H} {p : List MemPlace}
    (hv : Value.okWide Try.prog w .any base 22 v0) (h1 : DataW.Trod enc Try.prog w 0 (fun _ => true) true 22 v0 d p) (_lt1 : ∀ x ∈ p, x.block < w.heap.size) (hz1 : ∀ n ∈ d.weights Try.prog 22, n ≤ reachBytes) (_wi : (Lit.int .i64 i).wf = true) (_wj : (Lit.int .i64 j).wf = true) :
    Calls Try.prog 4 #[v0, .int .i64 i, .int .i64 j] w fun e w' => e = .returned (.bool true) ∧ Below w.heap.size w w' := by
  obtain ⟨A, n, c, st, rfl, hnc, hcz, hnm, hT, hwf⟩ := open_tree hv h1 hz1
  have hn96 : n * 96 ≤ 140737488355328 := by unfold reachBytes at hcz; omega
  clear hv h1 _lt1 hz1 hcz hnc
  go_enter Try.func4, Try.ntmps4
  go_wp2_with fail
  refine (wakes_any w).mono ?_
  rintro e w1 ⟨rfl, hb1⟩
  go_wp2_with fail
  refine (copied_any w1 A n c st ((hT.below hb1).more hb1.size) hn96).mono ?_
  rintro e w2 ⟨A2, c2, rfl, hb2, ht2⟩
  have hB2 := hb1.trans (hb2.mono hb1.size)
  go_wp2_with fail
  refine (within_any w2 A2 n c2 st ht2 hwf hnm i j).mono ?_
  rintro e w3 ⟨rfl, hb3⟩
  have hB3 := hB2.trans (hb3.mono hB2.size)
  clear ht2 hb2 hb3
  go_wp2_with fail
  refine (copied_any w3 A n c st ((hT.below hB3).more hB3.size) hn96).mono ?_
  rintro e w4 ⟨A4, c4, rfl, hb4, ht4⟩
  have hB4 := hB3.trans (hb4.mono hB3.size)
  go_wp2_with fail
  refine (domain_any w4 A4 n c4 st ht4 hwf hnm i j).mono ?_
  rintro e w5 ⟨rfl, hb5⟩
  have hB5 := hB4.trans (hb5.mono hB4.size)
  clear ht4 hb4 hb5
  go_wp2_with fail
  refine (refHas_any w5 A n c st ((hT.below hB5).more hB5.size) hwf i).mono ?_
  rintro e w6 ⟨rfl, hb6⟩
  have hB6 := hB5.trans (hb6.mono hB5.size)
  clear hb6
  obtain ⟨b, hh⟩ : ∃ b, Tr.hasB st i = b := ⟨_, rfl⟩
  rw [hh]
  cases b with
  | false =>
    rw [show Tr.pWithin st i j = false by unfold Tr.pWithin; rw [hh]; rfl, show Tr.pDomain st i j = -1 by unfold Tr.pDomain; rw [hh]; rfl]
    clear hh
    go_wp2
    go_ret
    exact ⟨rfl, hB6⟩
  | true =>
    have HH := Lib.hid hh
    clear hh
    go_wp2_with fail
    refine (refHas_any w6 A n c st ((hT.below hB6).more hB6.size) hwf j).mono ?_
    rintro e w7 ⟨rfl, hb7⟩
    have hB7 := hB6.trans (hb7.mono hB6.size)
    clear hb7
    obtain ⟨b, hh2⟩ : ∃ b, Tr.hasB st j = b := ⟨_, rfl⟩
    rw [hh2]
    cases b with
    | false =>
      rw [show Tr.pWithin st i j = false by unfold Tr.pWithin; rw [HH.out, hh2]; rfl, show Tr.pDomain st i j = -1 by unfold Tr.pDomain; rw [HH.out, hh2]; rfl]
      clear hh2
      go_wp2
      go_ret
      exact ⟨rfl, hB7⟩
    | true =>
      have hh := HH.out
      obtain ⟨k, rfl, hk, hrt⟩ := hasB_iff.1 hh
      obtain ⟨m, rfl, hm, _⟩ := hasB_iff.1 hh2
      have nb := Tr.right_nb hrt
      have hl := hT.1
      rw [hl] at hk hm
      have hwi : Tr.pWithin st (k : Int) (m : Int) = decide (k < m ∧ m < Tr.fin st k) := by
        unfold Tr.pWithin
        rw [hh, hh2, Int.toNat_natCast, Bool.and_self, Bool.true_and, Bool.eq_iff_iff]
        simp
      rw [hwi, show Tr.pDomain st (k : Int) (m : Int) = Tr.domain st k m by unfold Tr.pDomain; rw [hh, hh2]; rfl]
      have hwo := fun w h => refWithin_any w A n c st h hnm nb k m hm
      obtain ⟨b, hb⟩ : ∃ b, decide (k < m ∧ m < Tr.fin st k) = b := ⟨_, rfl⟩
      rw [hb] at hwo ⊢
      have HWO := Lib.hid hwo
      clear hh hh2 HH hl hwi hb hwo
      go_wp2_with fail
      refine (HWO.out w7 ((hT.below hB7).more hB7.size)).mono ?_
      rintro e w8 ⟨rfl, hb8⟩
      have hB8 := hB7.trans (hb8.mono hB7.size)
      obtain ⟨D, hD⟩ : ∃ D, Tr.domain st k m = D := ⟨_, rfl⟩
      have hdo := fun w h => refDomain_any w A n c st h hnm nb k m hk hm
      rw [hD] at hdo ⊢
      have HDO := Lib.hid hdo
      clear hD hdo
      cases b <;> (go_wp2_with fail; refine (HDO.out w8 ((hT.below hB8).more hB8.size)).mono ?_; rintro e w9 ⟨rfl, hb9⟩; go_wp2; go_ret; exact ⟨rfl, hB8.trans (hb9.mono hB8.size)⟩)

end Go.Proofs.Ytkndboclpkmdiaa.treeWithin
