/- The walk of LinkTwice. -/
import Derived.Test.YtgacphicgglogaaActs
import Derived.Deep.LoopGhost
namespace Go.Proofs.Ytgacphicgglogaa.linkTwice
set_option linter.unusedVariables false
open Go.RowKit Crc

def actL (k : Int) (t : ByteArray) (l : LK) : LK := if k = 0 then (l.send t).1 else if k = 3 then l.tick else if k = 5 then l.recv.1 else l
theorem send_le (l : LK) (s : ByteArray) : (l.send s).1.last ≤ l.last + 1 ∧ (l.send s).1.taken = l.taken := by
  unfold LK.send
  split
  · exact ⟨Nat.le_succ _, rfl⟩
  · split
    · exact ⟨Nat.le_succ _, rfl⟩
    · have := LK.on_keep { l with last := l.last + 1, loads := l.loads ++ [s] }
      exact ⟨by rw [this.1]; exact Nat.le_refl _, this.2.2.2.1⟩
theorem recv_le (l : LK) : l.recv.1.last = l.last ∧ l.recv.1.taken ≤ l.taken + 1 := by
  unfold LK.recv
  split
  · exact ⟨rfl, Nat.le_succ _⟩
  · exact ⟨rfl, Nat.le_refl _⟩
theorem tick_le (l : LK) : l.tick.last = l.last ∧ l.tick.taken = l.taken := by
  have := LK.tickTo_keep l (l.out - l.told)
  exact ⟨this.1, this.2.2.2.2.1⟩
theorem actL_le (k : Int) (t : ByteArray) (l : LK) : (actL k t l).last ≤ l.last + 1 ∧ (actL k t l).taken ≤ l.taken + 1 := by
  unfold actL
  split
  · have := send_le l t
    exact ⟨this.1, by rw [this.2]; exact Nat.le_succ _⟩
  · split
    · have := tick_le l
      exact ⟨by rw [this.1]; exact Nat.le_succ _, by rw [this.2]; exact Nat.le_succ _⟩
    · split
      · have := recv_le l
        exact ⟨by rw [this.1]; exact Nat.le_succ _, this.2⟩
      · exact ⟨Nat.le_succ _, Nat.le_succ _⟩
theorem actL_ok (k : Int) (t : ByteArray) {l : LK} (h : l.Ok) : (actL k t l).Ok := by
  unfold actL
  split
  · exact LK.send_ok h t
  · split
    · exact LK.tickTo_ok h _
    · split
      · exact LK.recv_ok h
      · exact h

theorem once (l : LK) (n : Nat) (s : ByteArray) : ({ l with goes := [] } : LK).arrived n s = { l.arrive n s with goes := [(packRes ((2 : Nat) : Int) (l.arrive n s).came ByteArray.empty).1] } := by
  unfold LK.arrived
  rw [LK.arrive_goes]
  rfl
theorem twice {l : LK} (h : l.Ok) (n : Nat) (s : ByteArray) (e : ByteArray) (he : e = (packRes ((2 : Nat) : Int) (l.arrive n s).came ByteArray.empty).1) : ({ l.arrive n s with goes := [e] } : LK).arrived n s = { l.arrive n s with goes := [e, e] } := by
  unfold LK.arrived
  rw [LK.arrive_goes, LK.arrive_twice h]
  rw [he]
  rfl
theorem get_load (l : LK) (n : Nat) (s : ByteArray) (hn : n < 18446744073709551616) (hs : s.size ≤ 800) : l.get (packB 1 n s) = (l.arrived n s, 0) := by
  unfold LK.get
  rw [unpack_pack 1 n s (.inl rfl) hn hs]
  rfl
theorem row_two {w : World} {B : Nat} {v : Value} {s t : ByteArray} (h : w.ownsRow B 9 1 v 2 (strs [s, t])) : ∃ g c, v = .slice (some ⟨g, 0, none⟩) 2 c ∧ (w.cell? ⟨g, 0, none⟩ = some (.string s) ∧ w.cell? ⟨g, 1, none⟩ = some (.string t)) ∧ v.ownBlock = some g := by
  obtain ⟨g, c, rfl, _, hg⟩ := h.form (by omega)
  exact ⟨g, c, rfl, ⟨h.cells (g := g) rfl 0 (.string s) rfl, h.cells (g := g) rfl 1 (.string t) rfl⟩, rfl⟩
theorem Keep.cell {G : Nat → Prop} {a b : World} (h : Keep G a b) {g i : Nat} (hg : G g) : b.cell? ⟨g, i, none⟩ = a.cell? ⟨g, i, none⟩ := World.cell?_of_block (h g hg)

set_option maxHeartbeats 8000000 in
set_option maxRecDepth 100000 in
theorem walk (v0 : Value) (a1 : Int) (load : ByteArray) (w : World) {H : Type} {enc : TypeId × Value → H} {base : Nat} {d : DataW H} {pl : List MemPlace}
    (hv : Value.okWide Try.prog w .any base 22 v0) (h1 : DataW.Trod enc Try.prog w 0 (fun _ => true) true 22 v0 d pl) (_lt1 : ∀ x ∈ pl, x.block < w.heap.size) (hw1 : (Lit.int .u64 a1).wf = true) (hs : load.size ≤ maxLen) :
    Calls Try.prog 3 #[v0, .int .u64 a1, .string load] w fun e w' => e = .returned (.bool true) ∧ Below w.heap.size w w' := by
  obtain ⟨A, n, c, acts, rfl, hnc, hcm, hAc⟩ := open_acts hv h1
  have hb64 := bounds_u64 hw1
  obtain ⟨num, rfl⟩ : ∃ num : Nat, a1 = (num : Int) := ⟨a1.toNat, by omega⟩
  have hnum : num < 18446744073709551616 := by omega
  clear hv h1 _lt1 hw1 hb64
  unfold maxLen at hcm hs
  go_enter Try.func3, Try.ntmps3
  go_wp2_with fail
  refine (wakes18_any w).mono ?_
  rintro e w1 ⟨rfl, hb1⟩
  by_cases hn : 100 < n
  · have hz : (100 : Int) < (n : Int) := by omega
    go_wp2
    go_ret
    exact ⟨rfl, hb1⟩
  have hz : ¬ (100 : Int) < (n : Int) := by omega
  by_cases hlong : 800 < load.size
  · have hz2 : (800 : Int) < (load.size : Int) := by omega
    go_wp2
    go_ret
    exact ⟨rfl, hb1⟩
  have hz2 : ¬ (800 : Int) < (load.size : Int) := by omega
  go_wp2_with fail
  refine (new_any w1 w.heap.size hb1.size).mono ?_
  rintro e w2 ⟨rfl, hA2, hb2⟩
  have hb12 := hb1.trans (hb2.mono hb1.size)
  go_wp2_with fail
  refine (new_any w2 w.heap.size hb12.size).mono ?_
  rintro e w3 ⟨rfl, hB3, hb3⟩
  have hP3 := Pair.new hA2 hb3 hB3
  have hb13 := hb12.trans (hb3.mono hb12.size)
  clear hA2 hB3 hb3 hb2 hb12 hb1
  generalize hB : w.heap.size = B at *
  have HBB := Lib.hid hB
  have HS := Lib.hid (show ∀ x, Below B w x → B ≤ x.heap.size from fun x h => by have := h.size; rw [HBB.out] at this; exact this)
  clear hB
  generalize w1.heap.size = p at *
  generalize w2.heap.size = q at *
  go_wp2_with fail
  go_loopw [35] (fun v wr => ∃ (i : Nat) (l : LK), i ≤ n ∧ v = .int .i64 (i : Int) ∧ Below B w wr ∧ Pair wr B p q l l (fun _ => False) ∧ l.Ok ∧ l.last ≤ i ∧ l.taken ≤ i) (fun v _ => n - (intOf v).toNat)
  case atStart => exact ⟨0, LK.new, Nat.zero_le _, rfl, hb13, hP3, LK.new_ok, Nat.le_refl _, Nat.le_refl _⟩
  case round =>
    obtain ⟨i, l, hi, rfl, hb, hP, ok, hlast, htaken⟩ := hrel
    have hBr := HS.out _ hb
    by_cases hin : i < n
    · have hiz : (i : Int) < (n : Int) := by omega
      obtain ⟨ad, a, rfl, hai, hawf, hc0, hc1, hc2, hc3⟩ := (hAc.below hb).at_ hin
      have hPX := hP.alloc (.cells #[.int .i64 a.kind, .string a.text, .int .i64 a.data, .int .u64 (a.number : Int)] 28)
      have hXX : Blk (wr.alloc (.cells #[.int .i64 a.kind, .string a.text, .int .i64 a.data, .int .u64 (a.number : Int)] 28)) wr.heap.size 28 #[.int .i64 a.kind, .string a.text, .int .i64 a.data, .int .u64 (a.number : Int)] := Blk.new _ _ _
      have hbX := hb.alloc hBr (.cells #[.int .i64 a.kind, .string a.text, .int .i64 a.data, .int .u64 (a.number : Int)] 28)
      have hPX2 := hPX.less (G' := fun k => k = wr.heap.size) (fun k hk => .inr hk)
      by_cases htl : 1000 < a.text.size
      · have hz3 : (1000 : Int) < (a.text.size : Int) := by omega
        clear hPX hPX2 hXX
        go_wp2
        go_ret
        exact ⟨rfl, by rw [HBB.out]; exact hbX⟩
      have hz3 : ¬ (1000 : Int) < (a.text.size : Int) := by omega
      have i0 : ∀ w, (Instr.index 29 (.agg #[.pointer (some ⟨p, 0, none⟩), .pointer (some ⟨q, 0, none⟩)]) (.int .i64 0)).run Try.prog w = .ok (.pointer (some ⟨p, 0, none⟩)) w := fun _ => by kernel_rfl
      have i1 : ∀ w, (Instr.index 29 (.agg #[.pointer (some ⟨p, 0, none⟩), .pointer (some ⟨q, 0, none⟩)]) (.int .i64 1)).run Try.prog w = .ok (.pointer (some ⟨q, 0, none⟩)) w := fun _ => by kernel_rfl
      obtain ⟨l2, hl2⟩ : ∃ l2, actL a.kind a.text l = l2 := ⟨_, rfl⟩
      have hle := actL_le a.kind a.text l
      have ok2 := actL_ok a.kind a.text ok
      rw [hl2] at hle ok2
      have HL2 := Lib.hid hl2
      have hkc : a.kind = 0 ∨ a.kind = 3 ∨ a.kind = 5 ∨ (a.kind ≠ 0 ∧ a.kind ≠ 3 ∧ a.kind ≠ 5) := by omega
      clear hPX hP hl2 hai hawf
      go_wp2
      clear hc0 hc1 hc2 hc3
      generalize hW : wr.alloc (.cells #[.int .i64 a.kind, .string a.text, .int .i64 a.data, .int .u64 (a.number : Int)] 28) = W at *
      generalize wr.heap.size = X at *
      clear hW
      go_loopw [46] (fun v wx => ((v = .int .i64 0 ∧ Pair wx B p q l l (fun k => k = X)) ∨ (v = .int .i64 1 ∧ Pair wx B p q l2 l (fun k => k = X)) ∨ (v = .int .i64 2 ∧ Pair wx B p q l2 l2 (fun k => k = X))) ∧
        Blk wx X 28 #[.int .i64 a.kind, .string a.text, .int .i64 a.data, .int .u64 (a.number : Int)] ∧ Below B w wx) (fun v _ => 2 - (intOf v).toNat)
      case atStart => exact ⟨.inl ⟨rfl, hPX2⟩, hXX, hbX⟩
      case round =>
        obtain ⟨hcs, hX, hbx⟩ := hrel
        clear hPX2 hXX hbX
        have hBx := HS.out _ hbx
        have hX0 := hX.cell 0
        have hX1 := hX.cell 1
        change _ = some (Value.int .i64 a.kind) at hX0
        change _ = some (Value.string a.text) at hX1
        rcases hcs with ⟨rfl, hP⟩ | ⟨rfl, hP⟩ | ⟨rfl, hP⟩
        · rcases hkc with hk | hk | hk | ⟨hk0, hk3, hk5⟩
          · have HL := Lib.hid (show l2 = (l.send a.text).1 by rw [← HL2.out]; unfold actL; rw [hk]; rfl)
            rw [hk] at hX0
            clear hk
            go_wp2_with fail
            refine (pair_send hP hBx ok (by omega) a.text).mono ?_
            rintro e w6 ⟨rfl, hP6, hb6, hk6⟩
            rw [← HL.out] at hP6
            have HP6 := Lib.hid hP6
            have HX6 := Lib.hid (hk6.blk hX rfl)
            have HB6 := Lib.hid (hbx.trans hb6)
            clear hP6 hb6 hk6
            go_wp2
            go_roundw
            case rel => exact ⟨.inr (.inl ⟨rfl, HP6.out⟩), HX6.out, HB6.out⟩
            case measure => simp [intOf]
          · have HL := Lib.hid (show l2 = l.tick by rw [← HL2.out]; unfold actL; rw [hk]; rfl)
            rw [hk] at hX0
            clear hk
            go_wp2_with fail
            refine (pair_tick hP hBx ok (by omega)).mono ?_
            rintro e w6 ⟨rfl, hP6, hb6, hk6⟩
            rw [← HL.out] at hP6
            have HP6 := Lib.hid hP6
            have HX6 := Lib.hid (hk6.blk hX rfl)
            have HB6 := Lib.hid (hbx.trans hb6)
            clear hP6 hb6 hk6
            go_wp2
            go_roundw
            case rel => exact ⟨.inr (.inl ⟨rfl, HP6.out⟩), HX6.out, HB6.out⟩
            case measure => simp [intOf]
          · have HL := Lib.hid (show l2 = l.recv.1 by rw [← HL2.out]; unfold actL; rw [hk]; rfl)
            rw [hk] at hX0
            clear hk
            go_wp2_with fail
            refine (pair_recv hP hBx ok (by omega)).mono ?_
            rintro e w6 ⟨rfl, hP6, hb6, hk6⟩
            rw [← HL.out] at hP6
            have HP6 := Lib.hid hP6
            have HX6 := Lib.hid (hk6.blk hX rfl)
            have HB6 := Lib.hid (hbx.trans hb6)
            clear hP6 hb6 hk6
            go_wp2
            go_roundw
            case rel => exact ⟨.inr (.inl ⟨rfl, HP6.out⟩), HX6.out, HB6.out⟩
            case measure => simp [intOf]
          · have HL := Lib.hid (show l2 = l by rw [← HL2.out]; unfold actL; rw [if_neg hk0, if_neg hk3, if_neg hk5])
            have HP6 := Lib.hid (show Pair _ B p q l2 l (fun k => k = X) by rw [HL.out]; exact hP)
            obtain ⟨K, hK⟩ : ∃ K, a.kind = K := ⟨_, rfl⟩
            rw [hK] at hX0 hk0 hk3 hk5
            have hk0b : (K == 0) = false := beq_eq_false_iff_ne.2 hk0
            have hk3b : (K == 3) = false := beq_eq_false_iff_ne.2 hk3
            have hk5b : (K == 5) = false := beq_eq_false_iff_ne.2 hk5
            clear hK
            go_wp2
            go_roundw
            case rel => exact ⟨.inr (.inl ⟨rfl, HP6.out⟩), hX, hbx⟩
            case measure => simp [intOf]
        · rcases hkc with hk | hk | hk | ⟨hk0, hk3, hk5⟩
          · have HL := Lib.hid (show l2 = (l.send a.text).1 by rw [← HL2.out]; unfold actL; rw [hk]; rfl)
            rw [hk] at hX0
            clear hk
            go_wp2_with fail
            refine (pair_send hP.symm hBx ok (by omega) a.text).mono ?_
            rintro e w6 ⟨rfl, hP6, hb6, hk6⟩
            rw [← HL.out] at hP6
            have HP6 := Lib.hid hP6.symm
            have HX6 := Lib.hid (hk6.blk hX rfl)
            have HB6 := Lib.hid (hbx.trans hb6)
            clear hP6 hb6 hk6
            go_wp2
            go_roundw
            case rel => exact ⟨.inr (.inr ⟨rfl, HP6.out⟩), HX6.out, HB6.out⟩
            case measure => simp [intOf]
          · have HL := Lib.hid (show l2 = l.tick by rw [← HL2.out]; unfold actL; rw [hk]; rfl)
            rw [hk] at hX0
            clear hk
            go_wp2_with fail
            refine (pair_tick hP.symm hBx ok (by omega)).mono ?_
            rintro e w6 ⟨rfl, hP6, hb6, hk6⟩
            rw [← HL.out] at hP6
            have HP6 := Lib.hid hP6.symm
            have HX6 := Lib.hid (hk6.blk hX rfl)
            have HB6 := Lib.hid (hbx.trans hb6)
            clear hP6 hb6 hk6
            go_wp2
            go_roundw
            case rel => exact ⟨.inr (.inr ⟨rfl, HP6.out⟩), HX6.out, HB6.out⟩
            case measure => simp [intOf]
          · have HL := Lib.hid (show l2 = l.recv.1 by rw [← HL2.out]; unfold actL; rw [hk]; rfl)
            rw [hk] at hX0
            clear hk
            go_wp2_with fail
            refine (pair_recv hP.symm hBx ok (by omega)).mono ?_
            rintro e w6 ⟨rfl, hP6, hb6, hk6⟩
            rw [← HL.out] at hP6
            have HP6 := Lib.hid hP6.symm
            have HX6 := Lib.hid (hk6.blk hX rfl)
            have HB6 := Lib.hid (hbx.trans hb6)
            clear hP6 hb6 hk6
            go_wp2
            go_roundw
            case rel => exact ⟨.inr (.inr ⟨rfl, HP6.out⟩), HX6.out, HB6.out⟩
            case measure => simp [intOf]
          · have HL := Lib.hid (show l2 = l by rw [← HL2.out]; unfold actL; rw [if_neg hk0, if_neg hk3, if_neg hk5])
            have HP6 := Lib.hid (show Pair _ B p q l2 l2 (fun k => k = X) by rw [HL.out]; exact (by rw [HL.out] at hP; exact hP))
            obtain ⟨K, hK⟩ : ∃ K, a.kind = K := ⟨_, rfl⟩
            rw [hK] at hX0 hk0 hk3 hk5
            have hk0b : (K == 0) = false := beq_eq_false_iff_ne.2 hk0
            have hk3b : (K == 3) = false := beq_eq_false_iff_ne.2 hk3
            have hk5b : (K == 5) = false := beq_eq_false_iff_ne.2 hk5
            clear hK
            go_wp2
            go_roundw
            case rel => exact ⟨.inr (.inr ⟨rfl, HP6.out⟩), hX, hbx⟩
            case measure => simp [intOf]
        · have HP2 := Lib.hid (hP.less (G' := fun _ => False) (fun k hk => hk.elim))
          have HLE := Lib.hid (show l2.last ≤ i + 1 ∧ l2.taken ≤ i + 1 by omega)
          clear hP hX hkc hle
          go_wp2
          go_roundw
          case rel => exact ⟨i + 1, l2, by omega, by go_num, hbx, HP2.out, ok2, HLE.out.1, HLE.out.2⟩
          case measure => simp [intOf]; omega
    · obtain rfl : i = n := by omega
      have hiz : ¬ (i : Int) < (i : Int) := by omega
      clear hAc
      go_wp2_with fail
      refine (pair_out hP hBr).mono ?_
      rintro e w4 ⟨v4, rfl, hP4, hb4, _, _⟩
      have hP4' := (hP4.less (G' := fun _ => False) (fun k hk => hk.elim)).symm
      have hb4' := hb.trans hb4
      have hB4 := HS.out _ hb4'
      clear hP4 hb4 hP
      go_wp2_with fail
      refine (pair_out hP4' hB4).mono ?_
      rintro e w5 ⟨v5, rfl, hP5, hb5, _, _⟩
      have hP5' := (hP5.less (G' := fun _ => False) (fun k hk => hk.elim)).symm
      have hb5' := hb4'.trans hb5
      have hB5 := HS.out _ hb5'
      clear hP5 hb5 hP4' hb4' hB4
      go_wp2_with fail
      refine (refPack_any 1 num load w5 hnum (by unfold maxLen; omega)).mono ?_
      rintro e w6 ⟨rfl, hb6⟩
      have hpk : packRes (1 : Int) num load = (packB 1 num load, 0) := packRes_ok 1 num load (.inl rfl) (by omega)
      rw [hpk]
      have hpsz : (packB 1 num load).size ≤ 140737488351232 := by rw [packB_size]; omega
      have hP6 := hP5'.below hb6
      have hb6' := hb5'.trans (hb6.mono hB5)
      have hB6 := HS.out _ hb6'
      have okc := LK.out_ok' ok
      have hget1 := get_load { l with goes := [] } num load hnum (by omega)
      rw [once] at hget1
      have okM := LK.arrive_ok ok num load
      obtain ⟨e1, he1⟩ : ∃ e1, (packRes ((2 : Nat) : Int) (l.arrive num load).came ByteArray.empty).1 = e1 := ⟨_, rfl⟩
      have hget2 := get_load ({ l.arrive num load with goes := [e1] } : LK) num load hnum (by omega)
      rw [twice ok num load e1 he1.symm] at hget2
      rw [he1] at hget1
      have okM1 : ({ l.arrive num load with goes := [e1] } : LK).Ok := ⟨okM.told, okM.out, okM.ahead, okM.room, okM.loads, okM.taken, okM.came, okM.slots, by show 1 ≤ 64; decide, okM.short⟩
      have hMlast : (l.arrive num load).last = l.last ∧ (l.arrive num load).taken = l.taken := by
        unfold LK.arrive
        split
        · have h1 := LK.comeF_keep ((l.slotIn num load).taken + 8 - (l.slotIn num load).came) (l.slotIn num load)
          have h2 : (l.slotIn num load).last = l.last ∧ (l.slotIn num load).taken = l.taken := by unfold LK.slotIn; split <;> exact ⟨rfl, rfl⟩
          exact ⟨h1.1.trans h2.1, h1.2.2.2.1.trans h2.2⟩
        · exact ⟨rfl, rfl⟩
      obtain ⟨M, hM⟩ : ∃ M, l.arrive num load = M := ⟨_, rfl⟩
      rw [hM] at hget1 hget2 okM okM1 hMlast
      have HC1 := Lib.hid (show ∀ w6 (lb : LK) (x y : Nat), Pair w6 B x y ({ l with goes := [] } : LK) lb (fun _ => False) → B ≤ w6.heap.size → Calls Try.prog 22 #[.pointer (some ⟨x, 0, none⟩), .string (packB 1 num load)] w6 fun e w' => e = .returned (.int .i64 0) ∧ Pair w' B x y ({ M with goes := [e1] } : LK) lb (fun _ => False) ∧ Below B w6 w' from fun w6 lb x y hp hB => by
        have := pair_get hp hB okc (by show l.last ≤ _; omega) (by show l.taken < _; omega) (packB 1 num load) hpsz
        rw [hget1] at this
        exact this.mono fun e w' ⟨h1, h2, h3, _⟩ => ⟨h1, h2, h3⟩)
      have HC2 := Lib.hid (show ∀ w6 (lb : LK) (x y : Nat), Pair w6 B x y ({ M with goes := [e1] } : LK) lb (fun _ => False) → B ≤ w6.heap.size → Calls Try.prog 22 #[.pointer (some ⟨x, 0, none⟩), .string (packB 1 num load)] w6 fun e w' => e = .returned (.int .i64 0) ∧ Pair w' B x y ({ M with goes := [e1, e1] } : LK) lb (fun _ => False) ∧ Below B w6 w' from fun w6 lb x y hp hB => by
        have := pair_get hp hB okM1 (by show M.last ≤ _; omega) (by show M.taken < _; omega) (packB 1 num load) hpsz
        rw [hget2] at this
        exact this.mono fun e w' ⟨h1, h2, h3, _⟩ => ⟨h1, h2, h3⟩)
      clear hb6 hget1 hget2 hpk he1 hM hP5' hb5' hB5 okc hpsz
      generalize packB 1 num load = dg at *
      go_wp2_with fail
      refine (HC1.out _ _ _ _ hP6 hB6).mono ?_
      rintro e w7 ⟨rfl, hP7, hb7⟩
      have hb7' := hb6'.trans hb7
      have hB7 := HS.out _ hb7'
      clear hP6 hb6' hb7 hB6
      go_wp2_with fail
      refine (HC1.out _ _ _ _ hP7.symm hB7).mono ?_
      rintro e w8 ⟨rfl, hP8, hb8⟩
      have hb8' := hb7'.trans hb8
      have hB8 := HS.out _ hb8'
      clear hP7 hb7' hb8 hB7
      go_wp2_with fail
      refine (HC2.out _ _ _ _ hP8 hB8).mono ?_
      rintro e w9 ⟨rfl, hP9, hb9⟩
      have hb9' := hb8'.trans hb9
      have hB9 := HS.out _ hb9'
      clear hP8 hb8' hb9 hB8
      go_wp2_with fail
      refine (pair_out hP9.symm hB9).mono ?_
      rintro e w10 ⟨v10, rfl, hP10, hb10, _, ho10⟩
      have hb10' := hb9'.trans hb10
      have hB10 := HS.out _ hb10'
      have ho10' : w10.ownsRow B 9 1 v10 1 (strs [e1]) := ho10
      obtain ⟨g10, c10, rfl, hc10, _, hg10⟩ := row_one ho10'
      clear hP9 hb9' hb10 hB9 ho10 ho10'
      go_wp2_with fail
      refine (pair_out hP10.symm hB10).mono ?_
      rintro e w11 ⟨v11, rfl, hP11, hb11, hk11, ho11⟩
      have hb11' := hb10'.trans hb11
      have hB11 := HS.out _ hb11'
      have ho11' : w11.ownsRow B 9 1 v11 2 (strs [e1, e1]) := ho11
      obtain ⟨g11, c11, rfl, hc11, hg11⟩ := row_two ho11'
      have hP11' := (hP11.less (G' := fun k => k = g10 ∨ k = g11) (fun k hk => by
        rcases hk with rfl | rfl
        · exact .inl (.inr hg10)
        · exact .inr hg11)).symm
      have hc10' := (Keep.cell (i := 0) hk11 (g := g10) (.inr hg10)).trans hc10
      have okM0 : ({ M with goes := [] } : LK).Ok := LK.out_ok' okM
      have HC10 := Lib.hid hc10'
      have HC11 := Lib.hid hc11
      clear hP10 hb10' hb11 hB10 ho11 ho11' hP11 hc10 hc10' hc11 hk11 HC1 HC2 hg10 hg11 okM1
      have hct := okM.taken
      have hcc := okM.came
      go_wp2_with fail
      go_loopg [90] (M.came - M.taken) (fun g v wr => ∃ lz : LK, Pair wr B p q lz lz (fun k => k = g10 ∨ k = g11) ∧ lz.Ok ∧ lz.came ≤ 200 ∧ g = lz.came - lz.taken ∧ Below B w wr ∧ Keep (fun k => k = g10 ∨ k = g11) w11 wr)
      case atStart => exact ⟨{ M with goes := [] }, hP11', okM0, by show M.came ≤ 200; omega, rfl, hb11', Keep.refl _ _⟩
      case round =>
        obtain ⟨lz, hPz, okz, hcz, hgz, hbz, hkz⟩ := hrel
        have hBz := HS.out _ hbz
        have htz := okz.taken
        by_cases he : lz.came = lz.taken
        · have hrc : lz.recv = (lz, ByteArray.empty, false) := by unfold LK.recv; rw [if_pos he]
          have HR := Lib.hid (show ∀ w6 (lb : LK) (x y : Nat), Pair w6 B x y lz lb (fun k => k = g10 ∨ k = g11) → B ≤ w6.heap.size → Calls Try.prog 19 #[.pointer (some ⟨x, 0, none⟩)] w6 fun e w' => e = .returned (.tuple #[.string ⟨#[]⟩, .bool false]) ∧ Pair w' B x y lz lb (fun k => k = g10 ∨ k = g11) ∧ Below B w6 w' ∧ Keep (fun k => k = g10 ∨ k = g11) w6 w' from fun w6 lb x y hp hB => by
            have := pair_recv hp hB okz (by omega)
            rw [hrc] at this
            exact this)
          clear hrc he hgz
          go_wp2_with fail
          refine (HR.out _ _ _ _ hPz hBz).mono ?_
          rintro e w12 ⟨rfl, hP12, hb12, hk12⟩
          have hb12' := hbz.trans hb12
          have hk12' := hkz.trans hk12
          have hB12 := HS.out _ hb12'
          go_wp2_with fail
          refine (HR.out _ _ _ _ hP12.symm hB12).mono ?_
          rintro e w13 ⟨rfl, hP13, hb13, hk13⟩
          have hb13' := hb12'.trans hb13
          have hk13' := hk12'.trans hk13
          have d0 : w13.cell? ⟨g10, 0, none⟩ = some (.string e1) := (Keep.cell hk13' (.inl rfl)).trans HC10.out
          have d1 : w13.cell? ⟨g11, 0, none⟩ = some (.string e1) := (Keep.cell hk13' (.inr rfl)).trans HC11.out.1
          have d2 : w13.cell? ⟨g11, 1, none⟩ = some (.string e1) := (Keep.cell hk13' (.inr rfl)).trans HC11.out.2
          have HB13 := Lib.hid hb13'
          clear hP12 hb12 hk12 hP13 hb13 hk13 hb12' hk12' hk13' hPz hbz hkz hb13'
          go_wp2
          go_quiet (fail)
          go_wp2
          go_ret
          exact ⟨rfl, by rw [HBB.out]; exact Tr_below_drewN HB13.out _⟩
        · obtain ⟨g', rfl⟩ : ∃ g', gk = g' + 1 := ⟨gk - 1, by omega⟩
          obtain ⟨x0, hx0⟩ : ∃ x0 : ByteArray, lz.recv.2.1 = x0 := ⟨_, rfl⟩
          have hr2 : lz.recv.2.2 = true := by unfold LK.recv; rw [if_neg he]
          have hrl : lz.recv.1.came = lz.came ∧ lz.recv.1.taken = lz.taken + 1 := by unfold LK.recv; rw [if_neg he]; exact ⟨rfl, rfl⟩
          have HR := Lib.hid (show ∀ w6 (lb : LK) (x y : Nat), Pair w6 B x y lz lb (fun k => k = g10 ∨ k = g11) → B ≤ w6.heap.size → Calls Try.prog 19 #[.pointer (some ⟨x, 0, none⟩)] w6 fun e w' => e = .returned (.tuple #[.string x0, .bool true]) ∧ Pair w' B x y lz.recv.1 lb (fun k => k = g10 ∨ k = g11) ∧ Below B w6 w' ∧ Keep (fun k => k = g10 ∨ k = g11) w6 w' from fun w6 lb x y hp hB => by
            have := pair_recv hp hB okz (by omega)
            rw [hx0, hr2] at this
            exact this)
          have ok' := LK.recv_ok okz
          have HRL := Lib.hid (show g' = lz.recv.1.came - lz.recv.1.taken ∧ lz.recv.1.came ≤ 200 by omega)
          clear hx0 hr2 hrl he hgz
          go_wp2_with fail
          refine (HR.out _ _ _ _ hPz hBz).mono ?_
          rintro e w12 ⟨rfl, hP12, hb12, hk12⟩
          have hb12' := hbz.trans hb12
          have hk12' := hkz.trans hk12
          have hB12 := HS.out _ hb12'
          go_wp2_with fail
          refine (HR.out _ _ _ _ hP12.symm hB12).mono ?_
          rintro e w13 ⟨rfl, hP13, hb13, hk13⟩
          have HP := Lib.hid hP13.symm
          have HB13 := Lib.hid (hb12'.trans hb13)
          have HK13 := Lib.hid (hk12'.trans hk13)
          clear hP12 hb12 hk12 hP13 hb13 hk13 hb12' hk12' hPz hbz hkz
          go_wp2
          go_roundg g'
          case measure => omega
          case rel => exact ⟨lz.recv.1, HP.out, ok', HRL.out.2, HRL.out.1, HB13.out, HK13.out⟩

end Go.Proofs.Ytgacphicgglogaa.linkTwice
