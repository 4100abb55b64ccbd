/- The contracts of All and of Same. -/
import Derived.Test.YtmaljobfboboeaaBagC
namespace Go.Proofs.Ytmaljobfboboeaa
open Go.RowKit

theorem str_info : (Try.prog.info? 9).map (fun i => (i.zero, i.size, i.bytes)) = some (some (.string ByteArray.empty), 1, 16) := by kernel_rfl

def texts (l : List Item) : List Value := l.map fun x => .string x.1

theorem all_any (w : World) (B p : Nat) (v : Value) (l : List Item) (h : BagAt w B p v l) (hl : l.length ≤ 16) (hB : B ≤ w.heap.size) :
    Calls Try.prog 17 #[.pointer (some ⟨p, 0, none⟩)] w fun e w' => ∃ v', e = .returned v' ∧ Below w.heap.size w w' ∧ w'.ownsRow w.heap.size 9 1 v' l.length (texts l) := by
  obtain ⟨i0, hi, hz0, hz1, hz2⟩ := info_parts str_info
  have hc := bag_cell h
  obtain ⟨A, c, rfl⟩ := bag_form h
  go_enter Try.func17, Try.ntmps17
  go_wp2
  go_loopw [3, 13] (fun v i wr => ∃ k : Nat, k ≤ l.length ∧ i = .int .i64 k ∧ Below w.heap.size w wr ∧ wr.ownsRow w.heap.size 9 1 v k ((texts l).take k)) (fun _ i _ => l.length - (intOf i).toNat)
  case atStart => exact ⟨0, Nat.zero_le _, rfl, Below.refl _ _, by simpa using World.ownsRow_nil _ _ _ _⟩
  case round =>
    obtain ⟨k, hk, rfl, hb, hown⟩ := hrel
    by_cases hlt : k < l.length
    · obtain ⟨g, c', hA, hBg, hgl, hgp, hlc, hcm, hx1, hx2, hfr⟩ := bag_item h k hlt
      obtain ⟨hk1, hk2⟩ := bcell hb
      have hs := hb.size
      have htk : (texts l).take k ++ [.string l[k].1] = (texts l).take (k + 1) := by
        rw [List.take_succ_eq_append_getElem (by simpa [texts] using hlt)]; simp [texts]
      have Htk := Lib.hid htk
      clear htk
      go_wp2_with (at_builtin; refine wpList_append_own _ rfl _ _ 30 rfl w.heap.size 9 i0 _ 1 16 Try.underlying30 hi hz0 hz1 hz2 rfl (by decide) _ _ _ rfl ((hown.alloc _).alloc _) ⟨wr.heap.size + 1, 0, none⟩ 1 1 [.string l[k].1] rfl rfl ?c1 ?c2 ?c3 ?c4 ?c5 ?_)
      case c1 => exact cells_new_at _ _ (by simp) _ _
      case c2 => intro u hu; simp at hu; subst hu; rfl
      case c3 => unfold maxLen; omega
      case c4 => omega
      case c5 => simp; omega
      intro v' w1 hown1 hg _
      rw [Htk.out] at hown1
      have hb1 : Below w.heap.size w w1 := ((hb.alloc hs _).alloc (by simp; omega) _).grown hg (by simp; omega) (fun k hk => (hown.lt k hk).1)
      go_wp2
      go_roundw
      case rel => exact ⟨k + 1, by omega, by go_num, hb1, hown1⟩
      case measure => simp [intOf]; omega
    · have hkl : k = l.length := by omega
      go_wp2
      go_ret
      refine ⟨_, rfl, hb, ?_⟩
      rw [hkl, List.take_of_length_le (by simp [texts])] at hown
      exact hown

theorem all_nil (w : World) :
    Calls Try.prog 17 #[.pointer none] w fun e w' => e = .returned (.slice none 0 0) ∧ w = w' := by
  go_enter Try.func17, Try.ntmps17
  go_wp2
  go_ret
  exact ⟨rfl, rfl⟩

end Go.Proofs.Ytmaljobfboboeaa
