/- sync.Once's slow road over the maker; Do, first and later. -/
import Derived.Test.YtgacphicgglogaaSumC
namespace Go.Proofs.Ytgacphicgglogaa
open Go.RowKit Crc

theorem maker_cells {w : World} {g : Nat} {d s : Int} {tab : List Nat} (h : MakerAt w g d s tab) :
    w.cell? ⟨g, 0, none⟩ = some (.int .u32 d) ∧ w.cell? ⟨g, 1, none⟩ = some (.int .i32 s) ∧ (∀ i, w.frozen? ⟨g, i, none⟩ = false) := by
  refine ⟨?_, ?_, fun i => Blk.frozen h i⟩
  · rw [Blk.cell h 0]; simp [makerL]
  · rw [Blk.cell h 1]; simp [makerL]
theorem maker_setDone {w : World} {g : Nat} {d s : Int} {tab : List Nat} (h : MakerAt w g d s tab) (d' : Int) : MakerAt (w.setCell ⟨g, 0, none⟩ (.int .u32 d')) g d' s tab := by
  have := Blk.set_ h 0 (.int .u32 d')
  simpa [MakerAt, makerL] using this
theorem maker_setState {w : World} {g : Nat} {d s : Int} {tab : List Nat} (h : MakerAt w g d s tab) (s' : Int) : MakerAt (w.setCell ⟨g, 1, none⟩ (.int .i32 s')) g d s' tab := by
  have := Blk.set_ h 1 (.int .i32 s')
  simpa [MakerAt, makerL] using this
theorem grown_setCell {a w : World} {g : Nat} (hg : a.grownBy w (some g)) (i : Nat) (u : Value) : a.grownBy (w.setCell ⟨g, i, none⟩ u) (some g) :=
  ⟨hg.os, hg.tape, hg.output, by simpa [World.setCell] using hg.size, fun j hj hne => by rw [Below.heap_setCell _ _ _ _ (by simpa using hne)]; exact hg.block j hj hne⟩
theorem grown_drew {a w : World} {r : Option Nat} (hg : a.grownBy w r) : a.grownBy w.drew r := ⟨hg.os, hg.tape, hg.output, hg.size, hg.block⟩

def fillFn (g : Nat) : Value := .func (.func 91) #[.pointer (some ⟨g, 0, none⟩)] #[]

def SlowEnd (g : Nat) (w : World) (e : Ending) (w' : World) : Prop := e = .returned (.tuple #[]) ∧ MakerAt w' g 1 0 (tabTo 256) ∧ w.grownBy w' (some g)

set_option maxRecDepth 100000 in
set_option maxHeartbeats 1600000 in
theorem slow_any (g : Nat) (w : World) (h : MakerAt w g 0 0 (tabTo 0)) :
    Calls Try.prog 93 #[.pointer (some ⟨g, 0, none⟩), .func (.func 91) #[.pointer (some ⟨g, 0, none⟩)] #[]] w (SlowEnd g w) := by
  obtain ⟨h0, h1, hf⟩ := maker_cells h
  have f0 := hf 0
  have f1 := hf 1
  have hm1 := maker_setState h 1
  have hg1 := grown_setCell (World.grownBy.refl w (some g)) 1 (.int .i32 1)
  obtain ⟨k0, k1, kf⟩ := maker_cells hm1
  have hl := run_call_load (P := Try.prog) Try.func94 (by kernel_rfl) (by kernel_rfl) (by kernel_rfl) .u32 (by kernel_rfl) (w := w.setCell ⟨g, 1, none⟩ (.int .i32 1)) (a := ⟨g, 0, none⟩) (x := 0) k0
  have hnot : ∀ (x : Bool) (w : World), (Op.unary .not (.bool x)).run Try.prog w = .ok (.bool (!x)) w := fun _ _ => rfl
  clear hf kf k0 k1
  go_enter_defers Try.func93, Try.ntmps93
  go_wp2_with (first | (go_at_call 95; refine (lock_free ⟨g, 1, none⟩ _ (by go_simp) (by go_simp)).mono ?_; rintro e w' ⟨rfl, rfl⟩) | (go_at_call 91; refine (fill_any g 0 1 _ hm1).mono ?_; rintro e w2 ⟨rfl, hm2, hg2⟩) | go_in)
  obtain ⟨m0, m1, mf⟩ := maker_cells hm2
  refine leaves_cons (f := 97) (args := #[.pointer (some ⟨g, 0, none⟩), .bool true]) (by simp) (by simp [go_sem]) ?_
  refine (store_deferred ⟨g, 0, none⟩ (.int .u32 0) .returning _ m0 (mf 0)).mono ?_
  rintro e u' w'' ⟨rfl, rfl, rfl⟩
  have hm3 : MakerAt (w2.drew.setCell ⟨g, 0, none⟩ (.int .u32 1)) g 1 1 (tabTo 256) := maker_setDone (w := w2.drew) hm2 1
  obtain ⟨n0, n1, nf⟩ := maker_cells hm3
  refine leaves_cons (f := 96) (args := #[.pointer (some ⟨g, 1, none⟩)]) (by simp [settle]) (by simp [go_sem]) ?_
  refine (unlock_deferred ⟨g, 1, none⟩ _ _ n1 (nf 1)).mono ?_
  rintro e u' w'' ⟨rfl, rfl, rfl⟩
  have hm4 := maker_setState hm3 0
  have hg4 : w.grownBy ((w2.drew.setCell ⟨g, 0, none⟩ (.int .u32 1)).setCell ⟨g, 1, none⟩ (.int .i32 0)) (some g) := grown_setCell (grown_setCell (grown_drew (grown_trans hg1 hg2)) 0 _) 1 _
  have hfin : SlowEnd g w (.returned (.tuple #[])) ((w2.drew.setCell ⟨g, 0, none⟩ (.int .u32 1)).setCell ⟨g, 1, none⟩ (.int .i32 0)) := ⟨rfl, hm4, hg4⟩
  have HF := Lib.hid hfin
  clear hm4 hg4 hm3 hm2 hm1 hfin m0 m1 mf n0 n1 nf
  simp [Leaves, settle, results, Try.results93]
  exact HF.out

theorem do_first (g : Nat) (w : World) (h : MakerAt w g 0 0 (tabTo 0)) :
    Calls Try.prog 90 #[.pointer (some ⟨g, 0, none⟩), .func (.func 91) #[.pointer (some ⟨g, 0, none⟩)] #[]] w (SlowEnd g w) := by
  obtain ⟨h0, h1, hf⟩ := maker_cells h
  have hl := run_call_load (P := Try.prog) Try.func94 (by kernel_rfl) (by kernel_rfl) (by kernel_rfl) .u32 (by kernel_rfl) (w := w) (a := ⟨g, 0, none⟩) (x := 0) h0
  have hnot : ∀ (x : Bool) (w : World), (Op.unary .not (.bool x)).run Try.prog w = .ok (.bool (!x)) w := fun _ _ => rfl
  clear h0 h1 hf
  go_enter Try.func90, Try.ntmps90
  go_wp2_with (first | (go_at_call 93; refine (slow_any g w h).mono ?_; rintro e w2 ⟨rfl, hm2, hg2⟩) | go_in)
  go_end0
  exact ⟨rfl, hm2, hg2⟩

theorem do_done (g : Nat) (w : World) (s : Int) (tab : List Nat) (h : MakerAt w g 1 s tab) :
    Calls Try.prog 90 #[.pointer (some ⟨g, 0, none⟩), .func (.func 91) #[.pointer (some ⟨g, 0, none⟩)] #[]] w fun e w' => e = .returned (.tuple #[]) ∧ w = w' := by
  obtain ⟨h0, h1, hf⟩ := maker_cells h
  have hl := run_call_load (P := Try.prog) Try.func94 (by kernel_rfl) (by kernel_rfl) (by kernel_rfl) .u32 (by kernel_rfl) (w := w) (a := ⟨g, 0, none⟩) (x := 1) h0
  have hnot : ∀ (x : Bool) (w : World), (Op.unary .not (.bool x)).run Try.prog w = .ok (.bool (!x)) w := fun _ _ => rfl
  clear h0 h1 hf h
  go_enter Try.func90, Try.ntmps90
  go_wp2_with go_in
  go_end0
  exact ⟨rfl, rfl⟩

end Go.Proofs.Ytgacphicgglogaa
