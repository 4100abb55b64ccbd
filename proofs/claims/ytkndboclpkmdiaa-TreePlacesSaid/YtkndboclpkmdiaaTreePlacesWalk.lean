/- The walk of TreePlaces. -/
import Derived.Test.YtkndboclpkmdiaaTreeX
namespace Go.Proofs.Ytkndboclpkmdiaa.treePlaces
open Go.RowKit

set_option maxHeartbeats 1000000 in
set_option maxRecDepth 100000 in
theorem walk (v0 : Value) (i : Int) (w : World) {H : Type} {enc : TypeId × Value → H} {base : Nat} {d : DataW H} {p : List MemPlace}
    (hv : Value.okWide Try.prog w .any base 22 v0) (h1 : DataW.Trod enc Try.prog w 0 (fun _ => true) true 22 v0 d p) (_lt1 : ∀ x ∈ p, x.block < w.heap.size) (hz1 : ∀ n ∈ d.weights Try.prog 22, n ≤ reachBytes) (_wi : (Lit.int .i64 i).wf = true) :
    Calls Try.prog 7 #[v0, .int .i64 i] w fun e w' => e = .returned (.bool true) ∧ Below w.heap.size w w' := by
  obtain ⟨A, n, c, st, rfl, hnc, hcz, hnm, hT, hwf⟩ := open_tree hv h1 hz1
  have hn96 : n * 96 ≤ 140737488355328 := by unfold reachBytes at hcz; omega
  clear hv h1 _lt1 hz1 hcz hnc
  go_enter Try.func7, Try.ntmps7
  go_wp2_with fail
  refine (wakes_any w).mono ?_
  rintro e w1 ⟨rfl, hb1⟩
  go_wp2_with fail
  refine (copied_any w1 A n c st ((hT.below hb1).more hb1.size) hn96).mono ?_
  rintro e w2 ⟨A2, c2, rfl, hb2, ht2⟩
  have hB2 := hb1.trans (hb2.mono hb1.size)
  go_wp2_with fail
  refine (parent_any w2 A2 n c2 st ht2 hwf hnm i).mono ?_
  rintro e w3 ⟨rfl, hb3⟩
  have hB3 := hB2.trans (hb3.mono hB2.size)
  clear ht2 hb2 hb3
  go_wp2_with fail
  refine (copied_any w3 A n c st ((hT.below hB3).more hB3.size) hn96).mono ?_
  rintro e w4 ⟨A4, c4, rfl, hb4, ht4⟩
  have hB4 := hB3.trans (hb4.mono hB3.size)
  go_wp2_with fail
  refine (end_any w4 A4 n c4 st ht4 hwf hnm i).mono ?_
  rintro e w5 ⟨rfl, hb5⟩
  have hB5 := hB4.trans (hb5.mono hB4.size)
  clear ht4 hb4 hb5
  go_wp2_with fail
  refine (copied_any w5 A n c st ((hT.below hB5).more hB5.size) hn96).mono ?_
  rintro e w6 ⟨A6, c6, rfl, hb6, ht6⟩
  have hB6 := hB5.trans (hb6.mono hB5.size)
  go_wp2_with fail
  refine (treeKids_any w6 A6 n c6 st ht6 hwf hnm i).mono ?_
  rintro e w7 ⟨v7, rfl, hb7, hown⟩
  have hB7 := hB6.trans (hb7.mono hB6.size)
  obtain ⟨A7, c7, rfl⟩ := own_form hown
  have hr7 := Reads.of_own hown
  clear ht6 hb6 hb7 hown
  go_wp2_with fail
  refine (copied_any w7 A n c st ((hT.below hB7).more hB7.size) hn96).mono ?_
  rintro e w8 ⟨A8, c8, rfl, hb8, ht8⟩
  have hB8 := hB7.trans (hb8.mono hB7.size)
  have hr8 := (hr7.below hb8).more hb8.size
  go_wp2_with fail
  refine (region_any w8 A8 n c8 st ht8 hwf hnm i).mono ?_
  rintro e w9 ⟨rfl, hb9⟩
  have hB9 := hB8.trans (hb9.mono hB8.size)
  have hr9 := (hr8.below hb9).more hb9.size
  clear ht8 hb8 hb9 hr7 hr8
  go_wp2_with fail
  refine (refHas_any w9 A n c st ((hT.below hB9).more hB9.size) hwf i).mono ?_
  rintro e w10 ⟨rfl, hb10⟩
  have hB10 := hB9.trans (hb10.mono hB9.size)
  have hr10 := (hr9.below hb10).more hb10.size
  clear hb10 hr9
  obtain ⟨b, hh⟩ : ∃ b, Tr.hasB st i = b := ⟨_, rfl⟩
  rw [hh]
  cases b with
  | false =>
    rw [show Tr.pParent st i = -1 by unfold Tr.pParent; rw [hh]; rfl, show Tr.pEnd st i = -1 by unfold Tr.pEnd; rw [hh]; rfl, show Tr.pKids st i = [] by unfold Tr.pKids; rw [hh]; rfl, show Tr.pRegion st i = -1 by unfold Tr.pRegion; rw [hh]; rfl]
    clear hh hr10
    go_wp2
    go_ret
    exact ⟨rfl, hB10⟩
  | true =>
    obtain ⟨k, rfl, hk, hrt⟩ := hasB_iff.1 hh
    have nb := Tr.right_nb hrt
    have h40 := Tr.right_le hrt
    have hl := hT.1
    have hpk : Tr.pKids st (k : Int) = Tr.kids st k := by unfold Tr.pKids; rw [hh]; rfl
    rw [hpk] at hr10 ⊢
    rw [show Tr.pParent st (k : Int) = Tr.up st k by unfold Tr.pParent; rw [hh]; rfl, show Tr.pEnd st (k : Int) = (Tr.fin st k : Int) by unfold Tr.pEnd; rw [hh]; rfl, show Tr.pRegion st (k : Int) = (Tr.regFrom st k : Int) by unfold Tr.pRegion; rw [hh]; rfl]
    have hkl := Tr.kids_len st hk
    rw [hl] at hk h40 hkl
    have HL := Lib.hid hl
    clear hh hpk hl
    go_wp2_with fail
    refine (parent_any' w10 A n c st ((hT.below hB10).more hB10.size) hnm nb k hk).mono ?_
    rintro e w11 ⟨rfl, hb11⟩
    have hB11 := hB10.trans (hb11.mono hB10.size)
    have hr11 := (hr10.below hb11).more hb11.size
    clear hb11 hr10
    go_wp2_with fail
    refine (refEnd_any w11 A n c st ((hT.below hB11).more hB11.size) hnm nb k hk).mono ?_
    rintro e w12 ⟨rfl, hb12⟩
    have hB12 := hB11.trans (hb12.mono hB11.size)
    have hr12 := (hr11.below hb12).more hb12.size
    clear hb12 hr11
    go_wp2_with fail
    refine (refKids_any w12 A n c st ((hT.below hB12).more hB12.size) (by omega) nb k hk).mono ?_
    rintro e w13 ⟨v13, rfl, hb13, hown⟩
    have hB13 := hB12.trans (hb13.mono hB12.size)
    have hr13 := (hr12.below hb13).more hb13.size
    obtain ⟨A13, c13, rfl⟩ := own_form hown
    have hs13 := Reads.of_own hown
    clear hown hb13 hr12
    go_wp2_with fail
    refine (same_any w13 A7 A13 _ _ c7 c13 (Tr.kids st k) (Tr.kids st k) rfl rfl hr13 hs13 (by unfold maxLen; omega)).mono ?_
    rintro e w14 ⟨rfl, hb14⟩
    rw [decide_eq_true rfl]
    have hB14 := hB13.trans (hb14.mono hB13.size)
    go_wp2_with fail
    refine (refRegion_any w14 A n c st ((hT.below hB14).more hB14.size) hnm nb k hk).mono ?_
    rintro e w15 ⟨rfl, hb15⟩
    have hB15 := hB14.trans (hb15.mono hB14.size)
    go_wp2
    go_ret
    exact ⟨rfl, hB15⟩

end Go.Proofs.Ytkndboclpkmdiaa.treePlaces
