/- The example of layer 17 holds. -/
import Derived.Test.YtmaljobfboboeaaBagD
import Derived.Test.YtmaljobfboboeaaBagE
import Derived.Test.YtmaljobfboboeaaBagF
import Derived.Test.YtmaljobfboboeaaBagG
namespace Go.Proofs.Ytmaljobfboboeaa
open Go.RowKit

theorem reads_own {w : World} {base e n : Nat} {A : Option Addr} {c : Nat} {xs : List Value} (h : w.ownsRow base e 1 (.slice A n c) n xs) : Reads w w.heap.size 1 A n xs := Reads.of_own h

def ex1 : List Item := [(⟨#[97]⟩, false), (⟨#[98]⟩, false), (⟨#[97]⟩, false)]
def ex2 : List Item := [(⟨#[99]⟩, true), (⟨#[97]⟩, false)]

set_option maxHeartbeats 400000 in
theorem wakes17_any (w : World) : Calls Try.prog 12 #[] w fun e w' => e = .returned (.bool true) ∧ Below w.heap.size w w' := by
  have hB : w.heap.size ≤ w.heap.size := Nat.le_refl _
  go_enter Try.func12, Try.ntmps12
  go_wp2_with fail
  refine (new_any w w.heap.size hB).mono ?_
  rintro e w1 ⟨rfl, hb1, hw1⟩
  go_wp2_with fail
  refine (put_room w1 _ _ _ _ hb1 (by decide) _ hw1.size).mono ?_
  rintro e w2 ⟨rfl, hw2, v2, hb2⟩
  go_wp2_with fail
  have hs2 := Nat.le_trans hw1.size hw2.size
  refine (put_room w2 _ _ _ _ hb2 (by decide) _ hs2).mono ?_
  rintro e w3 ⟨rfl, hw3, v3, hb3⟩
  go_wp2_with fail
  have hs3 := Nat.le_trans hs2 hw3.size
  refine (twice_room w3 _ _ _ _ hb3 (by decide) 0 (by decide) hs3).mono ?_
  rintro e w4 ⟨rfl, hw4, v4, hb4⟩
  go_wp2_with fail
  have hs4 := Nat.le_trans hs3 hw4.size
  refine (take_mid w4 _ _ _ ex1 hb4 (by decide) 1 (by decide)).mono ?_
  rintro e w5 ⟨he, hw5, v5, hb5⟩
  obtain rfl : e = .returned (.tuple #[.string ⟨#[98]⟩, .int .i64 0]) := he
  go_wp2_with fail
  have hs5 := Nat.le_trans hs4 hw5.size
  refine (turn_in w5 _ _ _ _ hb5 0 (by decide) 9 hs5 (by decide) (by decide) (by decide)).mono ?_
  rintro e w6 ⟨rfl, hw6, v6, hb6⟩
  go_wp2_with fail
  have hs6 := Nat.le_trans hs5 hw6.size
  have hx : List.set (List.eraseIdx ex1 1) 0 (⟨(turnBytes (List.eraseIdx ex1 1)[0].1.data.toList (9 % (8 * (List.eraseIdx ex1 1)[0].1.size))).toArray⟩, true) = ex2 := by decide
  rw [hx] at hb6
  refine (turn_twice w6 _ _ _ _ hb6 0 (by decide) 0 (by decide) rfl).mono ?_
  rintro e w' ⟨rfl, rfl⟩
  go_wp2_with fail
  refine (all_any w6 _ _ _ _ hb6 (by decide) hs6).mono ?_
  rintro e w7 ⟨v7, rfl, hw7, ho7⟩
  obtain ⟨A7, c7, rfl⟩ := own_form ho7
  go_wp2_with fail
  have r1 : Reads (w7.alloc (.cells #[.string ⟨#[99]⟩, .string ⟨#[97]⟩] 9)) w7.heap.size 1 A7 [(⟨#[99]⟩ : ByteArray), ⟨#[97]⟩].length (strs [⟨#[99]⟩, ⟨#[97]⟩]) := (reads_own ho7).alloc (Nat.le_refl _) _
  have r2 : Reads (w7.alloc (.cells #[.string ⟨#[99]⟩, .string ⟨#[97]⟩] 9)) (w7.heap.size + 1) 1 (some ⟨w7.heap.size, 0, none⟩) [(⟨#[99]⟩ : ByteArray), ⟨#[97]⟩].length (strs [⟨#[99]⟩, ⟨#[97]⟩]) :=
    ⟨by decide, fun _ => ⟨_, rfl, Nat.lt_succ_self _, cells_new _ [.string ⟨#[99]⟩, .string ⟨#[97]⟩] 9⟩⟩
  refine (same_any _ (w7.heap.size + 1) _ _ _ _ [⟨#[99]⟩, ⟨#[97]⟩] [⟨#[99]⟩, ⟨#[97]⟩] (by decide) (by decide) (r1.more (Nat.le_succ _)) r2).mono ?_
  rintro e w8 ⟨he, q, rfl⟩
  obtain rfl : e = .returned (.bool true) := by rw [he]; rfl
  go_wp2
  go_ret
  have hw16 : Below w.heap.size w w6 := ((((hw1.trans hw2).trans hw3).trans hw4).trans hw5).trans hw6
  exact ⟨rfl, below_drewN ((hw16.trans (hw7.mono hs6)).alloc (Nat.le_trans hs6 hw7.size) _) q⟩

end Go.Proofs.Ytmaljobfboboeaa
