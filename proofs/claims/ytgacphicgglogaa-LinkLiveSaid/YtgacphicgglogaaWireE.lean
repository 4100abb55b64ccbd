/- Package wire: the teller: 'small', 'great', 'list'. -/
import Derived.Test.YtgacphicgglogaaWireD
import Derived.Test.YtgacphicgglogaaRegB
import Derived.Lib.AppendStr
namespace Go.Proofs.Ytgacphicgglogaa
open Go.RowKit Crc
set_option linter.unusedVariables false

theorem byte_info : (Try.prog.info? 5).map (fun i => (i.zero, i.size, i.bytes)) = some (some (.int .u8 0), 1, 1) := by kernel_rfl
theorem byteVals_len (l : List UInt8) : (byteVals l).length = l.length := by simp [byteVals]
theorem byteVals_one (l : List UInt8) : ∀ u ∈ byteVals l, u.oneCell' = true := fun u hu => by
  obtain ⟨s, _, rfl⟩ := List.mem_map.1 hu
  rfl
theorem byteVals_str (s : ByteArray) : Lib.strCells s = byteVals s.data.toList := rfl
theorem byteVals_append (a b : List UInt8) : byteVals (a ++ b) = byteVals a ++ byteVals b := by simp [byteVals]

/-- Where the row of 'append(b, s...)' lies. -/
theorem append_str_block {P : Program} (w : World) (base : Nat) (t u ty e : TypeId) (i : TypeInfo) (ht : P.underlying t = some (.slice e)) (hu : P.underlying u = some .string) (hi : P.info? e = some i) (hz : i.zero = some (.int .u8 0)) (hsize : i.size = 1) (hby : i.bytes = 1)
    (v : Value) (n : Nat) (xs : List Value) (hown : w.ownsRow base e 1 v n xs) (s : ByteArray) (h63 : n + s.size ≤ maxLen) (hbytes : n + s.size ≤ 140737488355328)
    (v' : Value) (w' : World) (hrun : (Builtin.append_ #[t, u] ty #[v, .string s]).run P w = .ok v' w') : v'.ownBlock = v.ownBlock ∨ v'.ownBlock = some w.heap.size := by
  unfold maxLen at h63
  have hxl : xs.length = n := by simpa using hown.1
  rcases hown.2 with ⟨rfl, rfl⟩ | ⟨g, cap, cur, rfl, hbg, hg, hnc, hcm, hcs, htake⟩
  · by_cases hm : s.size = 0
    · have hf := Lib.run_firstCells_string (P := P) w 1 s
      rw [hm] at hf
      simp [Builtin.append_, run_underlying ht, run_underlying hu, sizeOf, typeInfo, hi, hsize, Builtin.lenOf, hm, hf] at hrun
      left
      rw [← hrun.1]
    · have hr := run_append_nil_string (P := P) w t u ty e i (.int .u8 0) ht hu hi hz s (by omega) (by omega) (by rw [hby]; omega)
      rw [hr] at hrun
      injection hrun with h1 h2
      right
      rw [← h1]
      rfl
  · by_cases hroom : n + s.size ≤ cap
    · have hr := Lib.run_append_room_string (P := P) w t u ty e i ht hu hi hsize g n cap cur hg s hroom (by rw [Nat.mul_one] at hcs; omega)
      rw [hr] at hrun
      injection hrun with h1 h2
      left
      rw [← h1]
      rfl
    · have hr := Lib.run_append_grow_string (P := P) w t u ty e i (.int .u8 0) ht hu hi hz ⟨g, 0, none⟩ n cap xs (by rw [hsize]; simpa using hxl) (hown.cells (g := g) rfl) s (by omega) (by omega) (by rw [hby]; exact growslice_fits (by omega) (by omega))
      rw [hr] at hrun
      injection hrun with h1 h2
      right
      rw [← h1]
      rfl

/-- 'append(b, s...)' in a walk. -/
theorem wpList_append_str {P : Program} (w : World) {ops : Array Oper} {rest : List Oper} {o : Oper} {a : Act} {Q : Exit → Act → World → Prop} (hgd : o.guard = none) (sl x : Operand) (t u : TypeId)
    (ho : o.op = .call { callee := .builtin .append, args := #[sl, x], argTypes := #[t, u] })
    (base : Nat) (e : TypeId) (i : TypeInfo) (ht : P.underlying t = some (.slice e)) (hu : P.underlying u = some .string) (hi : P.info? e = some i) (hz : i.zero = some (.int .u8 0))
    (hsize : i.size = 1) (hby : i.bytes = 1)
    (v : Value) (n : Nat) (xs : List Value) (hs : a.eval sl = v) (hown : w.ownsRow base e 1 v n xs) (s : ByteArray) (hx : a.eval x = .string s)
    (h63 : n + s.size ≤ maxLen) (hbytes : n + s.size ≤ 140737488355328) (hbase : base ≤ w.heap.size)
    (h : ∀ v' w', w'.ownsRow base e 1 v' (n + s.size) (xs ++ Lib.strCells s) → w.grownBy w' v.ownBlock → (v'.ownBlock = v.ownBlock ∨ v'.ownBlock = some w.heap.size) → wpList P ops Q rest (a.put o.dst v') w') : wpList P ops Q (o :: rest) a w := by
  refine wpList_plain hgd fun K hK => ?_
  obtain ⟨v', w', hr, h2, h3, h4⟩ := Lib.run_append_own_string (P := P) w base t u o.type e i ht hu hi hz hsize hby v n xs hown s h63 hbytes hbase
  have h5 := append_str_block w base t u o.type e i ht hu hi hz hsize hby v n xs hown s h63 hbytes v' w' hr
  unfold Oper.wp execOp
  simp only [ho, resolve, invoke, builtin, Sem.run_bind, Sem.run_pure, Result.andThen_ok, List.map_toArray, List.map_cons, List.map_nil, hs, hx, hr]
  exact hK _ _ (h v' w' h2 h3 h5)

/-- A teller in memory: what it has told. -/
def TellAt (w : World) (B p : Nat) (v : Value) (out : List UInt8) : Prop := ObjAt w B p 137 [v] [⟨5, v, byteVals out⟩]
def TellG (w : World) (B p : Nat) (out : List UInt8) (G : Nat → Prop) : Prop := ∃ v, TellAt w B p v out ∧ (∀ k, G k → k ≠ p ∧ v.ownBlock ≠ some k) ∧ ∀ k, G k → k < w.heap.size
def KeepG (G : Nat → Prop) (w w' : World) : Prop := ∀ k, G k → w'.heap[k]? = w.heap[k]?
theorem KeepG.trans {G : Nat → Prop} {a b c : World} (h : KeepG G a b) (k : KeepG G b c) : KeepG G a c := fun j hj => (k j hj).trans (h j hj)

section
variable {w w' : World} {B p : Nat} {v : Value} {out : List UInt8} {G : Nat → Prop}
theorem TellG.below (h : TellG w B p out G) (hb : Below w.heap.size w w') : TellG w' B p out G := by
  obtain ⟨v, h1, h2, h3⟩ := h
  exact ⟨v, ObjAt.below h1 hb, h2, fun k hk => Nat.lt_of_lt_of_le (h3 k hk) hb.size⟩
theorem TellG.drewN (h : TellG w B p out G) (n : Nat) : TellG (w.drewN n) B p out G := by
  obtain ⟨v, h1, h2, h3⟩ := h
  exact ⟨v, ObjAt.drewN h1 n, h2, h3⟩
theorem TellG.less {G' : Nat → Prop} (h : TellG w B p out G) (hs : ∀ k, G' k → G k) : TellG w B p out G' := by
  obtain ⟨v, h1, h2, h3⟩ := h
  exact ⟨v, h1, fun k hk => h2 k (hs k hk), fun k hk => h3 k (hs k hk)⟩
theorem TellG.alloc (h : TellG w B p out G) (o : Obj) : TellG (w.alloc o) B p out (fun k => G k ∨ k = w.heap.size) := by
  obtain ⟨v, h1, h2, h3⟩ := h
  refine ⟨v, ObjAt.alloc h1 o, fun k hk => ?_, fun k hk => ?_⟩
  · rcases hk with hk | rfl
    · exact h2 k hk
    · refine ⟨fun e => ?_, fun e => ?_⟩
      · have := h1.blk.lt
        omega
      · have := ((h1.rows ⟨5, v, byteVals out⟩ (List.mem_singleton.2 rfl)).lt _ e).2
        omega
  · rw [World.size_alloc]
    rcases hk with hk | rfl
    · exact Nat.lt_succ_of_lt (h3 k hk)
    · exact Nat.lt_succ_self _
theorem TellG.new (w : World) (hB : B ≤ w.heap.size) (hG : ∀ k, G k → k < w.heap.size) : TellG (w.alloc (.cells #[.slice none 0 0] 137)) B w.heap.size [] G := by
  refine ⟨.slice none 0 0, ⟨hB, Blk.new _ _ _, fun x hx => ?_, fun x hx => ?_, fun i j x y hx hy hij k hk => ?_⟩, fun k hk => ⟨fun e => by have := hG k hk; omega, fun e => by cases e⟩, fun k hk => by rw [World.size_alloc]; exact Nat.lt_succ_of_lt (hG k hk)⟩
  · rw [List.mem_singleton.1 hx]
    exact World.ownsRow_nil _ _ _ _
  · rw [List.mem_singleton.1 hx]
    intro e
    cases e
  · have := List.mem_of_getElem? hx
    rw [List.mem_singleton.1 this] at hk
    cases hk
theorem TellG.row (h : TellG w B p out G) : ∃ A c, w.cell? ⟨p, 0, none⟩ = some (.slice A out.length c) ∧ w.ownsRow B 5 1 (.slice A out.length c) out.length (byteVals out) ∧ p < w.heap.size := by
  obtain ⟨v, h1, h2, h3⟩ := h
  have hr := h1.rows ⟨5, v, byteVals out⟩ (List.mem_singleton.2 rfl)
  dsimp only at hr
  rw [byteVals_len] at hr
  obtain ⟨A, c, rfl⟩ := own_form hr
  exact ⟨A, c, h1.cell 0, hr, h1.blk.lt⟩

/-- The row has grown and is stored. -/
theorem TellAt.grown {w2 : World} (h : TellAt w B p v out) (hB : B ≤ w.heap.size) (hG : ∀ k, G k → k ≠ p ∧ v.ownBlock ≠ some k) (hG2 : ∀ k, G k → k < w.heap.size) (v' : Value) (new : List UInt8)
    (ho : w2.ownsRow B 5 1 v' (out.length + new.length) (byteVals out ++ byteVals new)) (ht : Touch (fun k => v.ownBlock = some k) w w2) (hbl : ∀ k, v'.ownBlock = some k → v.ownBlock = some k ∨ w.heap.size ≤ k) :
    TellG (w2.setCell ⟨p, 0, none⟩ v') B p (out ++ new) G ∧ Below B w (w2.setCell ⟨p, 0, none⟩ v') ∧ KeepG G w (w2.setCell ⟨p, 0, none⟩ v') ∧ w2.cell? ⟨p, 0, none⟩ = some v ∧ w2.frozen? ⟨p, 0, none⟩ = false := by
  have ho' : w2.ownsRow B 5 1 v' (byteVals (out ++ new)).length (byteVals (out ++ new)) := by
    rw [byteVals_len, List.length_append, byteVals_append]
    exact ho
  have h2 := ObjAt.row_ h 0 ⟨5, v, byteVals out⟩ ⟨5, v', byteVals (out ++ new)⟩ rfl ht ho' hbl
  have h3 := h2.set_ 0 v'
  have hrow := h.rows ⟨5, v, byteVals out⟩ (List.mem_singleton.2 rfl)
  have hsz : w.heap.size ≤ (w2.setCell ⟨p, 0, none⟩ v').heap.size := by rw [World.size_setCell]; exact ht.size
  have ht2 : Touch (fun k => k = p ∨ v.ownBlock = some k) w (w2.setCell ⟨p, 0, none⟩ v') := (ht.more (S1 := fun k => k = p ∨ v.ownBlock = some k) (fun k hk => .inr hk)).trans (Touch.of_set (S := fun k => k = p) _ _ rfl) (fun k hk => .inl (.inl hk))
  refine ⟨⟨v', h3, fun k hk => ⟨(hG k hk).1, fun e => ?_⟩, fun k hk => Nat.lt_of_lt_of_le (hG2 k hk) hsz⟩, ht2.below hB (fun k hk => ?_), fun k hk => ht2.block k (hG2 k hk) (fun e => ?_), h2.cell 0, h2.frozen 0⟩
  · rcases hbl k e with h4 | h4
    · exact (hG k hk).2 h4
    · have := hG2 k hk
      omega
  · rcases hk with rfl | hk
    · exact h.base
    · exact (hrow.lt k hk).1
  · rcases e with e | e
    · exact (hG k hk).1 e
    · exact (hG k hk).2 e

set_option maxHeartbeats 1000000 in
set_option maxRecDepth 100000 in
theorem small_ok (h : TellG w B p out G) (hB : B ≤ w.heap.size) (n most : Int) (h0 : 0 ≤ n) (h1 : n ≤ most) (h255 : most ≤ 255) (ho : out.length ≤ 100000) :
    Calls Try.prog 79 #[.pointer (some ⟨p, 0, none⟩), .int .i64 n, .int .i64 most] w fun e w' => e = .returned (.tuple #[]) ∧ TellG w' B p (out ++ [UInt8.ofNat n.toNat]) G ∧ Below B w w' ∧ KeepG G w w' := by
  obtain ⟨i0, hi0, hx0, hx1, hx2⟩ := info_parts byte_info
  obtain ⟨v, g1, g2, g3⟩ := h
  have hrow := g1.rows ⟨5, v, byteVals out⟩ (List.mem_singleton.2 rfl)
  dsimp only at hrow
  rw [byteVals_len] at hrow
  obtain ⟨A, c, rfl⟩ := own_form hrow
  have hc0 := g1.cell 0
  change _ = some (Value.slice A out.length c) at hc0
  have hwn : IntKind.u8.wrap n = n := IntWalk.u8_in _ (by omega)
  have hnn : ((UInt8.ofNat n.toNat).toNat : Int) = n := by
    rw [UInt8.toNat_ofNat', show (2 : Nat) ^ 8 = 256 from rfl, Nat.mod_eq_of_lt (by omega)]
    omega
  have hrx : Reads (w.alloc (.cells #[.int .u8 n] 5)) (w.alloc (.cells #[.int .u8 n] 5)).heap.size 1 (some ⟨w.heap.size, 0, none⟩) 1 (byteVals [UInt8.ofNat n.toNat]) := ⟨rfl, fun _ => ⟨_, rfl, by simp, fun j u hu => by
    have e : byteVals [UInt8.ofNat n.toNat] = [.int .u8 n] := by
      show [Value.int .u8 ((UInt8.ofNat n.toNat).toNat : Int)] = _
      rw [hnn]
    rw [e] at hu
    exact cells_new w [.int .u8 n] _ j u hu⟩⟩
  have hone := byteVals_one [UInt8.ofNat n.toNat]
  have HG1 := Lib.hid g1
  have HG2 := Lib.hid g2
  have HG3 := Lib.hid g3
  clear g1 g2 g3 hnn
  obtain ⟨m, hm⟩ : ∃ m, out.length = m := ⟨_, rfl⟩
  rw [hm] at hc0 hrow ho
  have HM := Lib.hid hm
  clear hm
  go_enter Try.func79, Try.ntmps79
  go_wp2_with fail
  refine (must_true _).mono ?_
  rintro e w1 ⟨rfl, rfl⟩
  go_wp2_with (at_builtin; go_loud (refine wpList_append_any _ rfl _ _ 75 rfl B 5 i0 _ 1 1 Try.underlying75 hi0 hx0 hx1 hx2 rfl (by decide) _ _ _ rfl (hrow.alloc _) _ (some ⟨w1.heap.size, 0, none⟩) 1 1 _ rfl hrx hone ?c3 ?c4 ?c5 ?_))
  case c3 => unfold maxLen; omega
  case c4 => omega
  case c5 => simp; omega
  intro v' w2 hown2 hg2 hbl
  obtain ⟨ht2, hbl2⟩ := touch_app hg2 hbl
  have hfin := HG1.out.grown hB HG2.out HG3.out v' [UInt8.ofNat n.toNat] (by rw [HM.out]; exact hown2) (by rw [HM.out]; exact ht2) (by rw [HM.out]; exact hbl2)
  obtain ⟨q1, q2, q3, q4, q5⟩ := hfin
  rw [HM.out] at q4
  have HQ := Lib.hid (And.intro q1 (And.intro q2 q3))
  obtain ⟨A', c', rfl⟩ := own_form hown2
  clear q1 q2 q3 hown2 hg2 hbl ht2 hbl2 hrx hone hc0
  go_wp2
  go_end0
  exact ⟨rfl, HQ.out⟩
theorem small_bad (w : World) (p : Nat) (n most : Int) (hb : ¬ (0 ≤ n ∧ n ≤ most)) :
    Calls Try.prog 79 #[.pointer (some ⟨p, 0, none⟩), .int .i64 n, .int .i64 most] w fun e w' => e = .panicked stops ∧ w' = w := by
  go_enter Try.func79, Try.ntmps79
  by_cases h0 : 0 ≤ n
  · have h1 : ¬ n ≤ most := fun h1 => hb ⟨h0, h1⟩
    have h1b : decide (n ≤ most) = false := decide_eq_false h1
    clear hb
    go_wp2_with fail
    refine (must_false _).mono ?_
    rintro e w1 ⟨rfl, rfl⟩
    exact ⟨rfl, rfl, rfl⟩
  · have h0b : decide (0 ≤ n) = false := decide_eq_false h0
    clear hb
    go_wp2_with fail
    refine (must_false _).mono ?_
    rintro e w1 ⟨rfl, rfl⟩
    exact ⟨rfl, rfl, rfl⟩
end
end Go.Proofs.Ytgacphicgglogaa
