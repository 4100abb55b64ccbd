/- The document's link's end in memory; 'put'. -/
import Derived.Test.YtgacphicgglogaaObj
import Derived.Test.YtgacphicgglogaaLinkG
namespace Go.Proofs.Ytgacphicgglogaa
open Go.RowKit Crc
set_option linter.unusedVariables false

theorem bool_info : (Try.prog.info? 4).map (fun i => (i.zero, i.size, i.bytes)) = some (some (.bool false), 1, 1) := by kernel_rfl
def bools (l : List Bool) : List Value := l.map Value.bool
theorem bools_len (l : List Bool) : (bools l).length = l.length := by simp [bools]
theorem bools_one (l : List Bool) : ∀ u ∈ bools l, u.oneCell' = true := fun u hu => by
  obtain ⟨s, _, rfl⟩ := List.mem_map.1 hu
  rfl

structure RL where
  loads : List ByteArray
  told : Nat
  sent : Nat
  ins : List ByteArray
  there : List Bool
  taken : Nat
  goes : List ByteArray

/-- The slices of an end: loads, those that came, whether, what is to go. -/
structure V4 where
  L : Value
  I : Value
  T : Value
  G : Value

def FootV (p : Nat) (v : V4) (k : Nat) : Prop := k = p ∨ v.L.ownBlock = some k ∨ v.I.ownBlock = some k ∨ v.T.ownBlock = some k ∨ v.G.ownBlock = some k

namespace RL
def cells (r : RL) (v : V4) : List Value := [v.L, .int .u64 r.told, .int .u64 r.sent, v.I, v.T, .int .u64 r.taken, v.G]
def rows (r : RL) (v : V4) : List RowV := [⟨9, v.L, strs r.loads⟩, ⟨9, v.I, strs r.ins⟩, ⟨4, v.T, bools r.there⟩, ⟨9, v.G, strs r.goes⟩]
structure Ok (r : RL) : Prop where
  told : r.told ≤ r.sent
  sent : r.sent ≤ r.loads.length
  few : r.loads.length ≤ 1099511627776
  ins : r.ins.length = r.there.length
  there : r.there.length ≤ r.taken + 8
  taken : r.taken ≤ 1099511627776
  goes : r.goes.length ≤ 64
  short : ∀ s ∈ r.loads, s.size ≤ 800
def put (r : RL) (k n : Nat) (s : ByteArray) : RL := { r with goes := if r.goes.length < 64 then r.goes ++ [(packRes k n s).1] else r.goes }
theorem put_ok {r : RL} (h : r.Ok) (k n : Nat) (s : ByteArray) : (r.put k n s).Ok := by
  refine ⟨h.told, h.sent, h.few, h.ins, h.there, h.taken, ?_, h.short⟩
  unfold put
  by_cases h64 : r.goes.length < 64
  · simp only [if_pos h64, List.length_append, List.length_singleton]; omega
  · simp only [if_neg h64]; exact h.goes
theorem foot (r : RL) (v : V4) (p k : Nat) : FootR p (r.rows v) k ↔ FootV p v k := by
  unfold FootR FootV rows
  simp
end RL

def RAt (w : World) (B p : Nat) (v : V4) (r : RL) : Prop := ObjAt w B p 42 (r.cells v) (r.rows v)

/-- What an act leaves. -/
def REnd (w : World) (B p : Nat) (v : V4) (r' : RL) (w' : World) : Prop :=
  ∃ v', RAt w' B p v' r' ∧ Touch (FootV p v) w w' ∧ ∀ k, FootV p v' k → FootV p v k ∨ w.heap.size ≤ k

section
variable {w w1 w2 : World} {B p : Nat} {v v1 : V4} {r r2 : RL}
theorem RAt.foot (h : RAt w B p v r) {k : Nat} (hk : FootV p v k) : B ≤ k ∧ k < w.heap.size := ObjAt.foot h ((r.foot v p k).2 hk)
theorem RAt.touch {S : Nat → Prop} (h : RAt w B p v r) (ht : Touch S w w1) (hS : ∀ k, FootV p v k → ¬ S k) : RAt w1 B p v r := ObjAt.touch h ht (fun k hk => hS k ((r.foot v p k).1 hk))
theorem RAt.below (h : RAt w B p v r) (hb : Below w.heap.size w w1) : RAt w1 B p v r := ObjAt.below h hb
theorem RAt.drewN (h : RAt w B p v r) (n : Nat) : RAt (w.drewN n) B p v r := ObjAt.drewN h n
theorem RAt.drew (h : RAt w B p v r) : RAt w.drew B p v r := ObjAt.drewN h 1
theorem RAt.alloc (h : RAt w B p v r) (o : Obj) : RAt (w.alloc o) B p v r := ObjAt.alloc h o
theorem RAt.cells (h : RAt w B p v r) : w.cell? ⟨p, 0, none⟩ = some v.L ∧ w.cell? ⟨p, 1, none⟩ = some (.int .u64 r.told) ∧ w.cell? ⟨p, 2, none⟩ = some (.int .u64 r.sent) ∧ w.cell? ⟨p, 3, none⟩ = some v.I ∧ w.cell? ⟨p, 4, none⟩ = some v.T ∧ w.cell? ⟨p, 5, none⟩ = some (.int .u64 r.taken) ∧ w.cell? ⟨p, 6, none⟩ = some v.G :=
  ⟨ObjAt.cell h 0, ObjAt.cell h 1, ObjAt.cell h 2, ObjAt.cell h 3, ObjAt.cell h 4, ObjAt.cell h 5, ObjAt.cell h 6⟩
theorem RAt.frozen (h : RAt w B p v r) (i : Nat) : w.frozen? ⟨p, i, none⟩ = false := ObjAt.frozen h i
theorem RAt.loads (h : RAt w B p v r) : w.ownsRow B 9 1 v.L r.loads.length (strs r.loads) := by
  have := ObjAt.rows h ⟨9, v.L, strs r.loads⟩ (by simp [RL.rows])
  rw [strs_len] at this
  exact this
theorem RAt.ins (h : RAt w B p v r) : w.ownsRow B 9 1 v.I r.ins.length (strs r.ins) := by
  have := ObjAt.rows h ⟨9, v.I, strs r.ins⟩ (by simp [RL.rows])
  rw [strs_len] at this
  exact this
theorem RAt.there (h : RAt w B p v r) : w.ownsRow B 4 1 v.T r.there.length (bools r.there) := by
  have := ObjAt.rows h ⟨4, v.T, bools r.there⟩ (by simp [RL.rows])
  rw [bools_len] at this
  exact this
theorem RAt.goes (h : RAt w B p v r) : w.ownsRow B 9 1 v.G r.goes.length (strs r.goes) := by
  have := ObjAt.rows h ⟨9, v.G, strs r.goes⟩ (by simp [RL.rows])
  rw [strs_len] at this
  exact this
theorem REnd.refl (h : RAt w B p v r) : REnd w B p v r w := ⟨v, h, Touch.refl _ _, fun k hk => .inl hk⟩
theorem REnd.next (ht : Touch (FootV p v) w w1) (hf : ∀ k, FootV p v1 k → FootV p v k ∨ w.heap.size ≤ k) (h : REnd w1 B p v1 r2 w2) : REnd w B p v r2 w2 := by
  obtain ⟨v2, h2, ht2, hf2⟩ := h
  refine ⟨v2, h2, ht.trans ht2 hf, fun k hk => ?_⟩
  rcases hf2 k hk with h3 | h3
  · exact hf k h3
  · exact .inr (Nat.le_trans ht.size h3)
theorem REnd.undrewN (n : Nat) (h : REnd (w.drewN n) B p v r2 w2) : REnd w B p v r2 w2 := by
  obtain ⟨v2, h2, ht, hf⟩ := h
  exact ⟨v2, h2, ⟨ht.os, ht.tape, ht.output, ht.size, ht.block⟩, hf⟩
theorem REnd.undrew (h : REnd w.drew B p v r2 w2) : REnd w B p v r2 w2 := REnd.undrewN 1 h
/-- A number is set. -/
theorem RAt.num (h : RAt w B p v r) (i : Nat) (u : Value) (r' : RL) (hc : (r.cells v).set i u = r'.cells v) (hr : r'.rows v = r.rows v) : RAt (w.setCell ⟨p, i, none⟩ u) B p v r' := by
  have := ObjAt.set_ h i u
  unfold RAt
  rw [hr, ← hc]
  exact this
theorem touch_num (w : World) (p i : Nat) (v : V4) (u : Value) : Touch (FootV p v) w (w.setCell ⟨p, i, none⟩ u) := Touch.of_set _ _ (.inl rfl)
/-- A row has grown, its slice is not stored yet. -/
theorem RAt.grown (h : RAt w B p v r) (i c : Nat) (x y : RowV) (v' : V4) (r' : RL) (hi : (r.rows v)[i]? = some x) (ht : Touch (fun k => x.v.ownBlock = some k) w w1) (ho : w1.ownsRow B y.e 1 y.v y.xs.length y.xs)
    (hbl : ∀ k, y.v.ownBlock = some k → x.v.ownBlock = some k ∨ w.heap.size ≤ k) (hc : (r.cells v).set c y.v = r'.cells v') (hr : (r.rows v).set i y = r'.rows v') :
    RAt (w1.setCell ⟨p, c, none⟩ y.v) B p v' r' ∧ Touch (FootV p v) w (w1.setCell ⟨p, c, none⟩ y.v) ∧ ∀ k, FootV p v' k → FootV p v k ∨ w.heap.size ≤ k := by
  have h1 := (ObjAt.row_ h i x y hi ht ho hbl).set_ c y.v
  rw [hc, hr] at h1
  refine ⟨h1, ?_, fun k hk => ?_⟩
  · refine (ht.more (S1 := FootV p v) (fun k hk => (r.foot v p k).1 (.inr ⟨x, List.mem_of_getElem? hi, hk⟩))).trans (Touch.of_set (S := fun k => k = p) _ _ rfl) (fun k hk => .inl (.inl hk))
  · have := foot_set (p := p) (N := w.heap.size) hi hbl k (by rw [hr]; exact (r'.foot v' p k).2 hk)
    rcases this with h2 | h2
    · exact .inl ((r.foot v p k).1 h2)
    · exact .inr h2
end

set_option maxHeartbeats 1000000 in
set_option maxRecDepth 100000 in
theorem rput_any (w : World) (B p : Nat) (v : V4) (r : RL) (h : RAt w B p v r) (hB : B ≤ w.heap.size) (hg : r.goes.length ≤ 64) (k n : Nat) (s : ByteArray) (hn : n < 18446744073709551616) (hs : s.size ≤ 800) :
    Calls Try.prog 52 #[.pointer (some ⟨p, 0, none⟩), .int .i64 (k : Int), .int .u64 (n : Int), .string s] w fun e w' => e = .returned (.tuple #[]) ∧ REnd w B p v (r.put k n s) w' := by
  obtain ⟨i0, hi0, hz0, hz1, hz2⟩ := info_parts str_info
  obtain ⟨hc0, hc1, hc2, hc3, hc4, hc5, hc6⟩ := h.cells
  obtain ⟨vL, vI, vT, vG⟩ := v
  dsimp only at hc6
  obtain ⟨A, c, hA⟩ := own_form h.goes
  dsimp only at hA
  subst hA
  clear hc0 hc1 hc2 hc3 hc4 hc5
  go_enter Try.func52, Try.ntmps52
  by_cases h64 : r.goes.length < 64
  case neg =>
    have HL := Lib.hid (show r.put k n s = r by unfold RL.put; rw [if_neg h64])
    have hz : ¬ (r.goes.length : Int) < 64 := by omega
    clear h64
    go_wp2
    go_end0
    exact ⟨rfl, by rw [HL.out]; exact REnd.refl h⟩
  have HL := Lib.hid (show r.put k n s = { r with goes := r.goes ++ [(packRes k n s).1] } by unfold RL.put; rw [if_pos h64])
  have hz : (r.goes.length : Int) < 64 := by omega
  go_wp2_with fail
  refine (refPack_any (k : Int) n s w hn (by unfold maxLen; omega)).mono ?_
  rintro e w1 ⟨rfl, hb1⟩
  obtain ⟨x, hx⟩ : ∃ x, (packRes (k : Int) n s).1 = x := ⟨_, rfl⟩
  obtain ⟨y, hy⟩ : ∃ y, (packRes (k : Int) n s).2 = y := ⟨_, rfl⟩
  rw [hx] at HL
  rw [hx, hy]
  clear hx hy
  have h1 := h.below hb1
  have hgo1 := h1.goes
  have hc1 := h1.cells.2.2.2.2.2.2
  dsimp only at hgo1 hc1
  obtain ⟨m, hm⟩ : ∃ m, r.goes.length = m := ⟨_, rfl⟩
  have HM := Lib.hid hm
  have H1 := Lib.hid h1
  rw [hm] at hgo1 h64 hc1
  have hb1s := hb1.size
  clear hc6 hz h h1 hm
  have hrx : Reads (w1.alloc (.cells #[.string x] 9)) (w1.alloc (.cells #[.string x] 9)).heap.size 1 (some ⟨w1.heap.size, 0, none⟩) 1 (strs [x]) := ⟨rfl, fun _ => ⟨_, rfl, by simp, fun j u hu => cells_new w1 [.string x] _ j u hu⟩⟩
  have hone := strs_one [x]
  rw [HM.out]
  go_wp2_with (at_builtin; refine wpList_append_any _ rfl _ _ 34 rfl B 9 i0 _ 1 16 Try.underlying34 hi0 hz0 hz1 hz2 rfl (by decide) _ _ _ rfl (hgo1.alloc _) _ (some ⟨w1.heap.size, 0, none⟩) 1 1 _ rfl hrx hone ?c3 ?c4 ?c5 ?_)
  case c3 => unfold maxLen; omega
  case c4 => omega
  case c5 => simp; omega
  intro v' w2 hown2 hg2 hbl
  obtain ⟨ht2, hbl2⟩ := touch_app hg2 hbl
  have hown3 : w2.ownsRow B 9 1 v' (strs (r.goes ++ [x])).length (strs (r.goes ++ [x])) := by
    rw [strs_len, List.length_append, HM.out]
    simpa [strs] using hown2
  have hfin := H1.out.grown 3 6 ⟨9, .slice A r.goes.length c, strs r.goes⟩ ⟨9, v', strs (r.goes ++ [x])⟩ ⟨vL, vI, vT, v'⟩ { r with goes := r.goes ++ [x] } rfl (by rw [HM.out]; exact ht2) hown3 (by rw [HM.out]; exact hbl2) rfl rfl
  have hblk : Blk w2 p 42 (r.cells ⟨vL, vI, vT, .slice A r.goes.length c⟩).toArray := ht2.blk H1.out.blk (fun e => H1.out.off ⟨9, .slice A r.goes.length c, strs r.goes⟩ (by simp [RL.rows]) (by rw [HM.out]; exact e))
  have hcell := hblk.cell 6
  have hfz := hblk.frozen 6
  rw [HM.out] at hcell
  change _ = some (Value.slice A m c) at hcell
  have HF := Lib.hid (show REnd w B p ⟨vL, vI, vT, .slice A r.goes.length c⟩ { r with goes := r.goes ++ [x] } (w2.setCell ⟨p, 6, none⟩ v') from REnd.next (Touch.of_below hb1) (fun k hk => .inl hk) ⟨_, hfin⟩)
  obtain ⟨A', c', rfl⟩ := own_form hown2
  clear hfin hblk hown3 hown2 hg2 hbl ht2 hbl2 hrx hone hgo1 hc1 hb1
  go_wp2
  go_end0
  exact ⟨rfl, by rw [HL.out]; simpa [HM.out] using HF.out⟩
end Go.Proofs.Ytgacphicgglogaa
