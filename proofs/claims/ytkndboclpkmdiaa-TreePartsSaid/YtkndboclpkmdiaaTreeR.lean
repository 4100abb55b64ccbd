/- The reference's Kids, Same, Right, Has. -/
import Derived.Test.YtkndboclpkmdiaaTreeQ
namespace Go.Proofs.Ytkndboclpkmdiaa
open Go.RowKit

def ints (l : List Nat) : List Value := l.map fun (k : Nat) => .int .i64 (k : Int)
theorem int_info : (Try.prog.info? 3).map (fun i => (i.zero, i.size, i.bytes)) = some (some (.int .i64 0), 1, 8) := by kernel_rfl

namespace Tr
def kf (st : Sts) (i k : Nat) : List Nat := (List.range k).filter (fun m => up st m = (i : Int))
theorem kf_on (st : Sts) (i k : Nat) (h : up st k = (i : Int)) : kf st i (k + 1) = kf st i k ++ [k] := by
  unfold kf
  rw [List.range_succ, List.filter_append, List.filter_cons, if_pos (by rw [h]; simp)]
  rfl
theorem kf_off (st : Sts) (i k : Nat) (h : ¬ up st k = (i : Int)) : kf st i (k + 1) = kf st i k := by
  unfold kf
  rw [List.range_succ, List.filter_append, List.filter_cons, if_neg (by simpa using h)]
  exact List.append_nil _
theorem kf_len (st : Sts) (i k : Nat) : (kf st i k).length ≤ k := by
  have := List.length_filter_le (fun m => decide (up st m = (i : Int))) (List.range k)
  rw [List.length_range] at this
  exact this
end Tr

set_option maxHeartbeats 1000000 in
theorem refKids_any (w : World) (A : Option Addr) (n c : Nat) (st : Sts) (h : Tree w w.heap.size A n st) (hn : n ≤ 1000000) (nb : Tr.NB st) (i : Nat) (hi : i < n) :
    Calls Try.prog 25 #[.slice A n c, .int .i64 (i : Int)] w fun e w' => ∃ v', e = .returned v' ∧ Below w.heap.size w w' ∧ w'.ownsRow w.heap.size 3 1 v' (Tr.kids st i).length (ints (Tr.kids st i)) := by
  obtain ⟨i0, hi0, hz0, hz1, hz2⟩ := info_parts int_info
  have hl := h.1
  have hkids := Tr.kids_eq st i (by rw [hl]; exact hi)
  rw [hl] at hkids
  have HKI := Lib.hid (hkids : Tr.kids st i = Tr.kf st i n)
  obtain ⟨ad, rfl, hab⟩ := h.addr hi
  clear hkids
  go_enter Try.func25, Try.ntmps25
  go_wp2
  go_loopw [6, 5] (fun v o wr => ∃ k : Nat, k ≤ n ∧ v = .int .i64 (k : Int) ∧ Below w.heap.size w wr ∧ wr.ownsRow w.heap.size 3 1 o (Tr.kf st i k).length (ints (Tr.kf st i k))) (fun v _ _ => n - (intOf v).toNat)
  case atStart => exact ⟨0, Nat.zero_le _, rfl, Below.refl _ _, (World.ownsRow_nil w w.heap.size 3 1)⟩
  case round =>
    obtain ⟨k, hk, rfl, hb, hown⟩ := hrel
    have htr := (h.below hb).more hb.size
    by_cases hkn : k < n
    · have hkz : (k : Int) < (n : Int) := by omega
      have hkl : k < st.length := by rw [hl]; exact hkn
      have hil : i < st.length := by rw [hl]; exact hi
      have hkf := Tr.kf_len st i k
      go_wp2_with fail
      refine (parent_any' wr (some ad) n c st htr (by unfold maxLen; omega) nb k hkn).mono ?_
      rintro e w2 ⟨rfl, hb2⟩
      have hb2' := hb.trans (hb2.mono hb.size)
      have hown2 := ownsRow_below hown hb2
      have ht2 := (h.below hb2').at_ hkn
      by_cases hu : Tr.up st k = (i : Int)
      · have hd : 0 < Tr.dp st k := by
          have h1 := ((Tr.up_eq st k i).1 hu).2.1
          have h2 := (nb.dp hil).1
          omega
        rw [hu]
        have HKO := Lib.hid (Tr.kf_on st i k hu)
        have hs := hb2'.size
        obtain ⟨D, hD⟩ : ∃ D, Tr.dp st k = D := ⟨_, rfl⟩
        rw [hD] at ht2 hd
        clear hu hD
        go_wp2_with (at_builtin; refine wpList_append_own _ rfl _ _ 29 rfl w.heap.size 3 i0 _ 1 8 Try.underlying29 hi0 hz0 hz1 hz2 rfl (by decide) _ _ _ rfl (hown2.alloc _) ⟨w2.heap.size, 0, none⟩ 1 1 [.int .i64 (k : Int)] rfl rfl ?c1 ?c2 ?c3 ?c4 ?c5 ?_)
        case c1 => exact cells_new_at _ _ rfl _ _
        case c2 => intro u hu; simp at hu; subst hu; rfl
        case c3 => unfold maxLen; omega
        case c4 => omega
        case c5 => simp; omega
        intro v' w1 hown1 hg _
        have hb1 : Below w.heap.size w w1 := (hb2'.alloc hs _).grown hg (by simp; omega) (fun k hk => (hown2.lt k hk).1)
        go_wp2
        go_roundw
        case rel => exact ⟨k + 1, by omega, by go_num, hb1, by rw [HKO.out]; simpa [ints] using hown1⟩
        case measure => simp [intOf]; omega
      · have HKO := Lib.hid (Tr.kf_off st i k hu)
        generalize Tr.up st k = q at *
        go_wp2
        go_roundw
        case rel => exact ⟨k + 1, by omega, by go_num, hb2', by rw [HKO.out]; exact hown2⟩
        case measure => simp [intOf]; omega
    · obtain rfl : k = n := by omega
      have hkz : ¬ (k : Int) < (k : Int) := by omega
      go_wp2
      go_ret
      exact ⟨_, rfl, hb, by rw [HKI.out]; exact hown⟩

end Go.Proofs.Ytkndboclpkmdiaa
