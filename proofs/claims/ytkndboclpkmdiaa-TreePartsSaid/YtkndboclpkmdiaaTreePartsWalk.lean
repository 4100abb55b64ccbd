/- The walk of TreeParts. -/
import Derived.Test.YtkndboclpkmdiaaTreeY
namespace Go.Proofs.Ytkndboclpkmdiaa.treeParts
open Go.RowKit

set_option maxHeartbeats 4000000 in
set_option maxRecDepth 100000 in
theorem walk (v0 : Value) (w : World) {H : Type} {enc : TypeId × Value → H} {base : Nat} {d : DataW H} {p : List MemPlace}
    (hv : Value.okWide Try.prog w .any base 22 v0) (h1 : DataW.Trod enc Try.prog w 0 (fun _ => true) true 22 v0 d p) (_lt1 : ∀ x ∈ p, x.block < w.heap.size) (hz1 : ∀ n ∈ d.weights Try.prog 22, n ≤ reachBytes) :
    Calls Try.prog 5 #[v0] w fun e w' => e = .returned (.bool true) ∧ Below w.heap.size w w' := by
  obtain ⟨A, n, c, st, rfl, hnc, hcz, hnm, hT, hwf⟩ := open_tree hv h1 hz1
  have hn96 : n * 96 ≤ 140737488355328 := by unfold reachBytes at hcz; omega
  clear hv h1 _lt1 hz1 hcz hnc
  go_enter Try.func5, Try.ntmps5
  go_wp2_with fail
  refine (wakes_any w).mono ?_
  rintro e w1 ⟨rfl, hb1⟩
  go_wp2_with fail
  refine (refRight_any w1 A n c st ((hT.below hb1).more hb1.size) hwf).mono ?_
  rintro e w2 ⟨rfl, hb2⟩
  have hB2 := hb1.trans (hb2.mono hb1.size)
  clear hb1 hb2
  by_cases hrt : Tr.right st
  case neg =>
    rw [decide_eq_false hrt]
    have HR := Lib.hid hrt
    clear hrt
    go_wp2_with fail
    refine (copied_any w2 A n c st ((hT.below hB2).more hB2.size) hn96).mono ?_
    rintro e w3 ⟨A3, c3, rfl, hb3, ht3⟩
    have hB3 := hB2.trans (hb3.mono hB2.size)
    go_wp2_with fail
    refine (right_any w3 A3 n c3 st ht3 hwf hnm).mono ?_
    rintro e w4 ⟨rfl, hb4⟩
    rw [decide_eq_false HR.out]
    go_wp2
    go_ret
    exact ⟨rfl, hB3.trans (hb4.mono hB3.size)⟩
  rw [decide_eq_true hrt]
  obtain ⟨i0, hi0, hz0, hz1, hz2⟩ := info_parts int_info
  have hl := hT.1
  have h40 := Tr.right_le hrt
  have nb := Tr.right_nb hrt
  have hb_ : ∀ x, x < n → Tr.hasB st (x : Int) = true := fun x hx => hasB_iff.2 ⟨x, rfl, by omega, hrt⟩
  have hpw : ∀ x y, x < n → y < n → Tr.pWithin st (x : Int) (y : Int) = (decide ((x : Int) < (y : Int)) && decide ((y : Int) < (Tr.fin st x : Int))) := by
    intro x y hx hy
    unfold Tr.pWithin
    rw [hb_ x hx, hb_ y hy, Int.toNat_natCast, Bool.and_self, Bool.true_and]
  have hpe : ∀ x, x < n → Tr.pEnd st (x : Int) = (Tr.fin st x : Int) := by
    intro x hx
    unfold Tr.pEnd
    rw [hb_ x hx, Int.toNat_natCast]
    rfl
  have hpk : ∀ x, x < n → Tr.pKids st (x : Int) = Tr.kids st x := by
    intro x hx
    unfold Tr.pKids
    rw [hb_ x hx, Int.toNat_natCast]
    rfl
  have hsl : ∀ x, x ≤ n → (Tr.seen st x).length ≤ 1600 := fun x hx => by
    have h1 := Tr.seen_len st x (by omega)
    have : x * st.length ≤ 40 * 40 := Nat.mul_le_mul (by omega) h40
    omega
  have hkl : ∀ x, x < n → (Tr.kids st x).length ≤ 40 := fun x hx => by
    have := Tr.kids_len st (i := x) (by omega)
    omega
  have hca : ∀ x, x < n → (Tr.seen st n).count x = if Tr.up st x = -1 then 0 else 1 := fun x hx => by
    have := Tr.count_all st x (by omega)
    rw [hl] at this
    exact this
  have hun : ∀ x, x < n → (Tr.up st x = -1 ↔ Tr.dp st x = 0) := fun x hx => nb.up_neg (by omega)
  have hcl : ∀ l : List Nat, ∀ x, l.count x ≤ l.length := fun l x => List.count_le_length
  have HPW := Lib.hid hpw
  have HPE := Lib.hid hpe
  have HPK := Lib.hid hpk
  have HSL := Lib.hid hsl
  have HKL := Lib.hid hkl
  have HCA := Lib.hid hca
  have HUN := Lib.hid hun
  have HCL := Lib.hid hcl
  rw [hl] at h40
  clear hl hb_ hpw hpe hpk hsl hkl hca hun nb hrt hcl
  go_wp2_with fail
  go_loopw [22, 3] (fun v sv wr => ∃ i : Nat, i ≤ n ∧ v = .int .i64 (i : Int) ∧ Below w.heap.size w wr ∧ wr.ownsRow w.heap.size 3 1 sv (Tr.seen st i).length (ints (Tr.seen st i))) (fun v _ _ => n - (intOf v).toNat)
  case atStart => exact ⟨0, Nat.zero_le _, rfl, hB2, World.ownsRow_nil _ _ _ _⟩
  case round =>
    obtain ⟨i, hi, rfl, hb, hown⟩ := hrel
    by_cases hin : i < n
    · have hiz : (i : Int) < (n : Int) := by omega
      go_wp2_with fail
      refine (end_any wr A n c st ((hT.below hb).more hb.size) hwf hnm i).mono ?_
      rintro e w3 ⟨rfl, hb3⟩
      rw [HPE.out i hin]
      have hB3 := hb.trans (hb3.mono hb.size)
      have hown3 := ownsRow_below hown hb3
      obtain ⟨E, hE⟩ : ∃ E, Tr.fin st i = E := ⟨_, rfl⟩
      have HE := Lib.hid hE
      rw [hE]
      clear hown hb3 hE
      go_wp2_with fail
      go_loopw [30] (fun v wr => ∃ j : Nat, j ≤ n ∧ v = .int .i64 (j : Int) ∧ Below w3.heap.size w3 wr) (fun v _ => n - (intOf v).toNat)
      case atStart => exact ⟨0, Nat.zero_le _, rfl, Below.refl _ _⟩
      case round =>
        obtain ⟨j, hj, rfl, hbj⟩ := hrel
        have hBj := hB3.trans (hbj.mono hB3.size)
        by_cases hjn : j < n
        · have hjz : (j : Int) < (n : Int) := by omega
          go_wp2_with fail
          refine (within_any _ A n c st ((hT.below hBj).more hBj.size) hwf hnm i j).mono ?_
          rintro e w4 ⟨rfl, hb4⟩
          rw [HPW.out i j hin hjn, HE.out]
          have hb4' := hbj.trans (hb4.mono hbj.size)
          by_cases h1 : (i : Int) < (j : Int)
          · by_cases h2 : (j : Int) < (E : Int)
            · rw [decide_eq_true h1, decide_eq_true h2]
              go_wp2
              go_roundw
              case rel => exact ⟨j + 1, by omega, by go_num, hb4'⟩
              case measure => simp [intOf]; omega
            · rw [decide_eq_true h1, decide_eq_false h2]
              go_wp2
              go_roundw
              case rel => exact ⟨j + 1, by omega, by go_num, hb4'⟩
              case measure => simp [intOf]; omega
          · rw [decide_eq_false h1]
            go_wp2
            go_roundw
            case rel => exact ⟨j + 1, by omega, by go_num, hb4'⟩
            case measure => simp [intOf]; omega
        · obtain rfl : j = n := by omega
          have hjz : ¬ (j : Int) < (j : Int) := by omega
          go_wp2_with fail
          refine (treeKids_any _ A j c st ((hT.below hBj).more hBj.size) hwf hnm i).mono ?_
          rintro e w4 ⟨v4, rfl, hb4, ho4⟩
          rw [HPK.out i hin] at ho4
          have hB4 := hBj.trans (hb4.mono hBj.size)
          have hown4 := ownsRow_below (ownsRow_below hown3 hbj) hb4
          obtain ⟨A4, c4, rfl⟩ := own_form ho4
          have hr4 := Reads.of_own ho4
          have hs1 := HSL.out i (by omega)
          have hs2 := HKL.out i hin
          have hss := Lib.hid (Tr.seen_succ st i)
          have hone : ∀ u ∈ ints (Tr.kids st i), u.oneCell' = true := fun u hu => by
            obtain ⟨k, _, rfl⟩ := List.mem_map.1 hu
            rfl
          clear ho4 hb4 hown3
          go_wp2_with (at_builtin; refine wpList_append_any _ rfl _ _ 29 rfl w.heap.size 3 i0 _ 1 8 Try.underlying29 hi0 hz0 hz1 hz2 rfl (by decide) _ _ _ rfl hown4 w4.heap.size A4 _ c4 _ rfl hr4 hone ?c3 ?c4 ?c5 ?_)
          case c3 => unfold maxLen; omega
          case c4 => omega
          case c5 => exact hB4.size
          intro v5 w5 hown5 hg _
          have hB5 : Below w.heap.size w w5 := hB4.grown hg hB4.size (fun k hk => (hown4.lt k hk).1)
          go_wp2
          go_roundw
          case rel => exact ⟨i + 1, by omega, by go_num, hB5, by rw [hss.out, List.length_append]; simpa [ints] using hown5⟩
          case measure => simp [intOf]; omega
    · obtain rfl : i = n := by omega
      have hiz : ¬ (i : Int) < (i : Int) := by omega
      obtain ⟨A3, c3, rfl⟩ := own_form hown
      have hr3 := Reads.of_own hown
      have hs1 := HSL.out i (Nat.le_refl _)
      obtain ⟨l, hl⟩ : ∃ l, Tr.seen st i = l := ⟨_, rfl⟩
      rw [hl] at hr3 hs1
      rw [hl]
      have HLL := Lib.hid hl
      obtain ⟨L, hL⟩ : ∃ L, l.length = L := ⟨_, rfl⟩
      rw [hL] at hr3 hs1
      rw [hL]
      have HL := Lib.hid hL
      clear hown hl hL
      go_wp2_with fail
      go_loopw [55] (fun v wx => ∃ k : Nat, k ≤ i ∧ v = .int .i64 (k : Int) ∧ wx = wr) (fun v _ => i - (intOf v).toNat)
      case atStart => exact ⟨0, Nat.zero_le _, rfl, rfl⟩
      case round =>
        obtain ⟨k, hk, rfl, rfl⟩ := hrel
        by_cases hki : k < i
        · have hkz : (k : Int) < (i : Int) := by omega
          obtain ⟨ad, rfl, hab⟩ := hT.addr hki
          have hdk := ((hT.below hb).at_ hki).2
          go_wp2_with fail
          go_loopw [60, 8] (fun v cv wx => ∃ m : Nat, m ≤ L ∧ v = .int .i64 (m : Int) ∧ cv = .int .i64 ((l.take m).count k : Int) ∧ wx = wr) (fun v _ _ => L - (intOf v).toNat)
          case atStart => exact ⟨0, Nat.zero_le _, rfl, rfl, rfl⟩
          case round =>
            obtain ⟨m, hm, rfl, rfl, rfl⟩ := hrel
            have hcm := HCL.out (l.take m) k
            rw [List.length_take] at hcm
            by_cases hmL : m < L
            · have hmz : (m : Int) < (L : Int) := by omega
              have hml : m < l.length := by rw [HL.out]; exact hmL
              obtain ⟨a1, u1, rfl, hb1, hu1, hc1⟩ := hr3.at_ hmL
              have e1 : u1 = .int .i64 (l[m] : Int) := by simpa [ints, hml] using hu1.symm
              subst e1
              have hct := Tr.cnt_take l m k hml
              obtain ⟨x, hx⟩ : ∃ x, l[m] = x := ⟨_, rfl⟩
              rw [hx] at hct hc1
              obtain ⟨ct, hctt⟩ : ∃ ct, (l.take m).count k = ct := ⟨_, rfl⟩
              rw [hctt] at hct hcm
              rw [hctt]
              clear hu1 hx hctt
              by_cases hxk : x = k
              · rw [if_pos hxk] at hct
                have HCT := Lib.hid hct
                subst hxk
                clear hct
                go_wp2
                go_roundw
                case rel => exact ⟨m + 1, by omega, by go_num, by rw [HCT.out]; go_num, trivial⟩
                case measure => simp [intOf]; omega
              · rw [if_neg hxk] at hct
                have HCT := Lib.hid hct
                have hxz : ((x : Int) == (k : Int)) = false := beq_eq_false_iff_ne.2 (by omega)
                clear hct
                go_wp2
                go_roundw
                case rel => exact ⟨m + 1, by omega, by go_num, by rw [HCT.out]; rfl, trivial⟩
                case measure => simp [intOf]; omega
            · obtain rfl : m = L := by omega
              have hmz : ¬ (m : Int) < (m : Int) := by omega
              have hct := HCA.out k hki
              rw [HLL.out] at hct
              have hud := HUN.out k hki
              rw [List.take_of_length_le (by rw [HL.out]; omega)]
              clear hcm
              by_cases hu : Tr.up st k = -1
              · rw [if_pos hu] at hct
                rw [hud.1 hu] at hdk
                rw [hct]
                clear hct hud hu
                go_wp2
                go_roundw
                case rel => exact ⟨k + 1, by omega, by go_num, trivial⟩
                case measure => simp [intOf]; omega
              · rw [if_neg hu] at hct
                rw [hct]
                have hdn : ¬ Tr.dp st k = 0 := fun h => hu (hud.2 h)
                obtain ⟨D, hD⟩ : ∃ D, Tr.dp st k = D := ⟨_, rfl⟩
                rw [hD] at hdk hdn
                have hDb : (D == 0) = false := beq_eq_false_iff_ne.2 hdn
                clear hct hud hu hD
                go_wp2
                go_roundw
                case rel => exact ⟨k + 1, by omega, by go_num, trivial⟩
                case measure => simp [intOf]; omega
        · obtain rfl : k = i := by omega
          have hkz : ¬ (k : Int) < (k : Int) := by omega
          go_wp2
          go_ret
          exact ⟨rfl, hb⟩

end Go.Proofs.Ytkndboclpkmdiaa.treeParts
