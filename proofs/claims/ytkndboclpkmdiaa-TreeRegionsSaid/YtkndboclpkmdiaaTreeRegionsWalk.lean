/- The walk of TreeRegions. -/
import Derived.Test.YtkndboclpkmdiaaTreeY
namespace Go.Proofs.Ytkndboclpkmdiaa.treeRegions
open Go.RowKit

theorem _root_.Go.Proofs.Ytkndboclpkmdiaa.Tree.cut {w : World} {B n : Nat} {ad : Addr} {st : Sts} (h : Tree w B (some ad) n st) (r e : Nat) (hre : r < e) (hen : e ≤ n) (hrl : r < st.length) (he : Tr.fin st r = e) :
    Tree w B (some (ad.add (r * 6))) (e - r) (Tr.sub st r) := by
  obtain ⟨hl, xs, hr, hx⟩ := h
  refine ⟨by rw [Tr.sub_len st hrl, he], (xs.drop (r * 6)).take ((e - r) * 6), ⟨?_, fun hn => ?_⟩, fun i hi => ?_⟩
  · rw [List.length_take, List.length_drop, hr.1]
    omega
  · obtain ⟨ad', e1, hb, hc⟩ := hr.2 (by omega)
    injection e1 with e1
    subst e1
    refine ⟨_, rfl, by rw [block_of_add]; exact hb, fun j u hu => ?_⟩
    rw [add_of_add]
    refine hc _ u ?_
    have hj : j < (e - r) * 6 := by
      have := (List.getElem?_eq_some_iff.1 hu).1
      rw [List.length_take] at this
      omega
    rw [List.getElem?_take_of_lt hj, List.getElem?_drop] at hu
    exact hu
  · have hat : ∀ j, j < 6 → ((xs.drop (r * 6)).take ((e - r) * 6))[i * 6 + j]? = xs[(r + i) * 6 + j]? := fun j hj => by
      rw [List.getElem?_take_of_lt (by omega), List.getElem?_drop]
      congr 1
      omega
    have h0 := hat 0 (by omega)
    rw [Nat.add_zero, Nat.add_zero] at h0
    rw [h0, hat 1 (by omega), hat 2 (by omega), hat 3 (by omega), hat 4 (by omega), hat 5 (by omega), Tr.sub_kd st (by omega), Tr.sub_dp st (by omega)]
    exact hx (r + i) (by omega)

set_option maxHeartbeats 4000000 in
set_option maxRecDepth 100000 in
theorem walk (v0 : Value) (w : World) {H : Type} {enc : TypeId × Value → H} {base : Nat} {d : DataW H} {p : List MemPlace}
    (hv : Value.okWide Try.prog w .any base 22 v0) (h1 : DataW.Trod enc Try.prog w 0 (fun _ => true) true 22 v0 d p) (_lt1 : ∀ x ∈ p, x.block < w.heap.size) (hz1 : ∀ n ∈ d.weights Try.prog 22, n ≤ reachBytes) :
    Calls Try.prog 8 #[v0] w fun e w' => e = .returned (.bool true) ∧ Below w.heap.size w w' := by
  obtain ⟨A, n, c, st, rfl, hnc, hcz, hnm, hT, hwf⟩ := open_tree hv h1 hz1
  have hn96 : n * 96 ≤ 140737488355328 := by unfold reachBytes at hcz; omega
  clear hv h1 _lt1 hz1
  go_enter Try.func8, Try.ntmps8
  go_wp2_with fail
  refine (wakes_any w).mono ?_
  rintro e w1 ⟨rfl, hb1⟩
  go_wp2_with fail
  refine (refRight_any w1 A n c st ((hT.below hb1).more hb1.size) hwf).mono ?_
  rintro e w2 ⟨rfl, hb2⟩
  have hB2 := hb1.trans (hb2.mono hb1.size)
  clear hb1 hb2
  by_cases hrt : Tr.right st
  case neg =>
    rw [decide_eq_false hrt]
    clear hrt
    go_wp2
    go_ret
    exact ⟨rfl, hB2⟩
  rw [decide_eq_true hrt]
  have hl := hT.1
  have h40 := Tr.right_le hrt
  have nb := Tr.right_nb hrt
  have hb_ : ∀ x, x < n → Tr.hasB st (x : Int) = true := fun x hx => hasB_iff.2 ⟨x, rfl, by omega, hrt⟩
  have hpe : ∀ x, x < n → Tr.pEnd st (x : Int) = (Tr.fin st x : Int) := by
    intro x hx
    unfold Tr.pEnd
    rw [hb_ x hx, Int.toNat_natCast]
    rfl
  have hpp : ∀ x, x < n → Tr.pParent st (x : Int) = Tr.up st x := by
    intro x hx
    unfold Tr.pParent
    rw [hb_ x hx, Int.toNat_natCast]
    rfl
  have hpr : ∀ x, x < n → Tr.pRegion st (x : Int) = (Tr.regFrom st x : Int) := by
    intro x hx
    unfold Tr.pRegion
    rw [hb_ x hx, Int.toNat_natCast]
    rfl
  have hflt : ∀ x, x < n → Tr.fin st x ≤ n := fun x hx => by
    have := Tr.fin_le st (i := x) (by omega)
    omega
  have HPE := Lib.hid hpe
  have HPP := Lib.hid hpp
  have HPR := Lib.hid hpr
  have HFL := Lib.hid hflt
  have HL := Lib.hid hl
  have HRT := Lib.hid hrt
  rw [hl] at h40
  clear hl hb_ hpe hpp hpr hflt hrt
  have hcm : c ≤ 9223372036854775807 := by unfold reachBytes at hcz; omega
  clear hcz
  go_wp2_with fail
  go_loopw [15] (fun v wr => ∃ r : Nat, r ≤ n ∧ v = .int .i64 (r : Int) ∧ Below w.heap.size w wr) (fun v _ => n - (intOf v).toNat)
  case atStart => exact ⟨0, Nat.zero_le _, rfl, hB2⟩
  case round =>
    obtain ⟨r, hr, rfl, hb⟩ := hrel
    by_cases hrn : r < n
    · have hrz : (r : Int) < (n : Int) := by omega
      obtain ⟨ad, rfl, hab⟩ := hT.addr hrn
      have hdr := ((hT.below hb).at_ hrn).2
      by_cases hd0 : 0 < Tr.dp st r
      · generalize Tr.dp st r = D at *
        go_wp2
        go_roundw
        case rel => exact ⟨r + 1, by omega, by go_num, hb⟩
        case measure => simp [intOf]; omega
      · have hrl : r < st.length := by rw [HL.out]; exact hrn
        have hz : Tr.dp st r = 0 := by have := (nb.dp hrl).1; omega
        have HZ := Lib.hid hz
        rw [hz] at hdr
        clear hz hd0
        go_wp2_with fail
        refine (end_any wr (some ad) n c st ((hT.below hb).more hb.size) hwf hnm r).mono ?_
        rintro e w3 ⟨rfl, hb3⟩
        rw [HPE.out r hrn]
        have hB3 := hb.trans (hb3.mono hb.size)
        have hfg := Tr.fin_gt st r
        have hfn := HFL.out r hrn
        have hTs := Tree.cut ((hT.below hB3).more hB3.size) r (Tr.fin st r) (by omega) hfn (by rw [HL.out]; exact hrn) rfl
        have hsr := Tr.sub_right HRT.out hrl HZ.out
        have hwfs : Tr.Wf (Tr.sub st r) := fun i hi => by
          rw [Tr.sub_len st hrl] at hi
          rw [Tr.sub_kd st hi, Tr.sub_dp st hi]
          exact hwf _ (by rw [HL.out]; omega)
        have hsl : (Tr.sub st r).length = Tr.fin st r - r := Tr.sub_len st hrl
        have hsb : ∀ x : Nat, x < Tr.fin st r - r → Tr.hasB (Tr.sub st r) (x : Int) = true := fun x hx => hasB_iff.2 ⟨x, rfl, by omega, hsr⟩
        have HSE := Lib.hid (show ∀ x : Nat, x < Tr.fin st r - r → Tr.pEnd (Tr.sub st r) (x : Int) = (Tr.fin st (r + x) : Int) - (r : Int) from fun x hx => by
          have := Tr.sub_fin nb hrl HZ.out hx
          unfold Tr.pEnd
          rw [hsb x hx, Int.toNat_natCast, this]
          simp only [if_true]
          omega)
        have HSP := Lib.hid (show ∀ x : Nat, x < Tr.fin st r - r → 0 < x → Tr.pParent (Tr.sub st r) (x : Int) = Tr.up st (r + x) - (r : Int) ∧ (r : Int) ≤ Tr.up st (r + x) from fun x hx hp => by
          obtain ⟨p, h1, h2, _⟩ := Tr.sub_up nb hrl HZ.out hx hp
          unfold Tr.pParent
          rw [hsb x hx, Int.toNat_natCast, h1, h2]
          simp only [if_true]
          omega)
        have HSR := Lib.hid (show ∀ x : Nat, x < Tr.fin st r - r → Tr.regFrom st (r + x) = r from fun x hx => Tr.sub_reg nb hrl HZ.out hx)
        have HU0 := Lib.hid (show Tr.up st r = -1 from (nb.up_neg hrl).2 HZ.out)
        have HSRT := Lib.hid hsr
        have hul := fun x => Tr.up_lt st x
        have HUL := Lib.hid hul
        obtain ⟨E, hE⟩ : ∃ E, Tr.fin st r = E := ⟨_, rfl⟩
        rw [hE] at hfg hfn hTs HSE HSP HSR
        rw [hE]
        have hrE : (r : Int) ≤ (E : Int) := by omega
        have hEc : (E : Int) ≤ (c : Int) := by omega
        have hcr : ¬ c = r := by omega
        have hcr2 : c ≠ r := by omega
        clear hsl hsb hsr hE hdr hul hb3
        go_wp2_with fail
        have hnn : ∃ nn, E - r = nn ∧ r + nn ≤ E ∧ E ≤ r + nn ∧ 0 < nn := ⟨E - r, rfl, by omega, by omega, by omega⟩
        obtain ⟨nn, hnn, hn1, hn2, hn0⟩ := hnn
        rw [hnn] at hTs HSE HSP HSR ⊢
        have hnn96 : nn * 96 ≤ 140737488355328 := by omega
        have hnnm : nn ≤ maxLen := by unfold maxLen; omega
        clear hnn
        refine (copied_any w3 _ nn _ _ hTs hnn96).mono ?_
        rintro e w4 ⟨A5, c5, rfl, hb4, ht4⟩
        have hB4 := hB3.trans (hb4.mono hB3.size)
        clear hTs hb4
        go_wp2_with fail
        refine (right_any w4 A5 nn c5 _ ht4 hwfs hnnm).mono ?_
        rintro e w5 ⟨rfl, hb5⟩
        rw [decide_eq_true HSRT.out]
        have hB5 := hB4.trans (hb5.mono hB4.size)
        have ht5 := (ht4.below hb5).more hb5.size
        clear ht4 hb5
        have hErb : decide (E ≤ r) = false := decide_eq_false (by omega)
        go_wp2_with fail
        go_loopw [42] (fun v wx => ∃ i : Nat, i ≤ nn ∧ v = .int .i64 (i : Int) ∧ Below w5.heap.size w5 wx) (fun v _ => nn - (intOf v).toNat)
        case atStart => exact ⟨0, Nat.zero_le _, rfl, Below.refl _ _⟩
        case round =>
          obtain ⟨i, hi, rfl, hbi⟩ := hrel
          have hBi := hB5.trans (hbi.mono hB5.size)
          by_cases hin : i < nn
          · have hiz : (i : Int) < (nn : Int) := by omega
            have hrin : r + i < n := by omega
            have hp1 : Tr.pParent st ((r : Int) + (i : Int)) = Tr.up st (r + i) := by have := HPP.out (r + i) hrin; rw [Int.natCast_add] at this; exact this
            have hp2 : Tr.pEnd st ((r : Int) + (i : Int)) = (Tr.fin st (r + i) : Int) := by have := HPE.out (r + i) hrin; rw [Int.natCast_add] at this; exact this
            have hp3 : Tr.pRegion st ((r : Int) + (i : Int)) = (r : Int) := by have := HPR.out (r + i) hrin; rw [Int.natCast_add, HSR.out i hin] at this; exact this
            have hs1 := HSE.out i hin
            have hul := HUL.out (r + i)
            have hfl := HFL.out (r + i) hrin
            have hfg2 := Tr.fin_gt st (r + i)
            have hsp : i = 0 ∨ (0 < i ∧ Tr.pParent (Tr.sub st r) (i : Int) = Tr.up st (r + i) - (r : Int) ∧ (r : Int) ≤ Tr.up st (r + i)) := by
              rcases Nat.eq_zero_or_pos i with h | h
              · exact .inl h
              · exact .inr ⟨h, HSP.out i hin h⟩
            have hu0 : i = 0 → Tr.up st (r + i) = -1 := fun h => by rw [h, Nat.add_zero]; exact HU0.out
            obtain ⟨P, hP⟩ : ∃ P, Tr.up st (r + i) = P := ⟨_, rfl⟩
            obtain ⟨F, hF⟩ : ∃ F, Tr.fin st (r + i) = F := ⟨_, rfl⟩
            rw [hP] at hp1 hul hsp hu0
            rw [hF] at hp2 hs1 hfl hfg2
            have H1 := Lib.hid hp1
            have H2 := Lib.hid hp2
            have H3 := Lib.hid hp3
            have H4 := Lib.hid hs1
            have HU := Lib.hid hu0
            clear hp1 hp2 hp3 hs1 hP hF hu0
            go_wp2_with fail
            refine (parent_any _ (some ad) n c st ((hT.below hBi).more hBi.size) hwf hnm _).mono ?_
            rintro e w6 ⟨rfl, hb6⟩
            rw [H1.out]
            have hb6' := hbi.trans (hb6.mono hbi.size)
            have hB6 := hB5.trans (hb6'.mono hB5.size)
            clear hb6
            have hend : ∀ wx, Below w5.heap.size w5 wx → True := fun _ _ => trivial
            rcases hsp with hi0 | ⟨hi0, hsp2, hrP⟩
            · have hP1 := HU.out hi0
              have hzb : ((i : Int) == 0) = true := by rw [hi0]; rfl
              have hzp : ¬ 0 < (i : Int) := by omega
              subst hP1
              clear hi0
              go_wp2_with fail
              refine (end_any w6 A5 nn c5 _ ((ht5.below hb6').more hb6'.size) hwfs hnnm _).mono ?_
              rintro e w7 ⟨rfl, hb7⟩
              rw [H4.out]
              have hb7' := hb6'.trans (hb7.mono hb6'.size)
              have hB7 := hB5.trans (hb7'.mono hB5.size)
              go_wp2_with fail
              refine (end_any w7 (some ad) n c st ((hT.below hB7).more hB7.size) hwf hnm _).mono ?_
              rintro e w8 ⟨rfl, hb8⟩
              rw [H2.out]
              have hb8' := hb7'.trans (hb8.mono hb7'.size)
              have hB8 := hB5.trans (hb8'.mono hB5.size)
              go_wp2_with fail
              refine (region_any w8 (some ad) n c st ((hT.below hB8).more hB8.size) hwf hnm _).mono ?_
              rintro e w9 ⟨rfl, hb9⟩
              rw [H3.out]
              go_wp2
              go_roundw
              case rel => exact ⟨i + 1, by omega, by go_num, hb8'.trans (hb9.mono hb8'.size)⟩
              case measure => simp [intOf]; omega
            · have hzb : ((i : Int) == 0) = false := beq_eq_false_iff_ne.2 (by omega)
              have hzp : 0 < (i : Int) := by omega
              have HS := Lib.hid hsp2
              clear hsp2
              go_wp2_with fail
              refine (parent_any w6 A5 nn c5 _ ((ht5.below hb6').more hb6'.size) hwfs hnnm _).mono ?_
              rintro e wa ⟨rfl, hba⟩
              rw [HS.out]
              have hba' := hb6'.trans (hba.mono hb6'.size)
              go_wp2_with fail
              refine (end_any wa A5 nn c5 _ ((ht5.below hba').more hba'.size) hwfs hnnm _).mono ?_
              rintro e w7 ⟨rfl, hb7⟩
              rw [H4.out]
              have hb7' := hba'.trans (hb7.mono hba'.size)
              have hB7 := hB5.trans (hb7'.mono hB5.size)
              go_wp2_with fail
              refine (end_any w7 (some ad) n c st ((hT.below hB7).more hB7.size) hwf hnm _).mono ?_
              rintro e w8 ⟨rfl, hb8⟩
              rw [H2.out]
              have hb8' := hb7'.trans (hb8.mono hb7'.size)
              have hB8 := hB5.trans (hb8'.mono hB5.size)
              go_wp2_with fail
              refine (region_any w8 (some ad) n c st ((hT.below hB8).more hB8.size) hwf hnm _).mono ?_
              rintro e w9 ⟨rfl, hb9⟩
              rw [H3.out]
              go_wp2
              go_roundw
              case rel => exact ⟨i + 1, by omega, by go_num, hb8'.trans (hb9.mono hb8'.size)⟩
              case measure => simp [intOf]; omega
          · obtain rfl : i = nn := by omega
            have hiz : ¬ (i : Int) < (i : Int) := by omega
            go_wp2
            go_roundw
            case rel => exact ⟨r + 1, by omega, by go_num, hBi⟩
            case measure => simp [intOf]; omega
    · obtain rfl : r = n := by omega
      have hrz : ¬ (r : Int) < (r : Int) := by omega
      go_wp2
      go_ret
      exact ⟨rfl, hb⟩

end Go.Proofs.Ytkndboclpkmdiaa.treeRegions
