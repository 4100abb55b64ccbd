/- The document's link's end: 'Get'. -/
import Derived.Test.YtgacphicgglogaaLinkRC
import Derived.Test.YtgacphicgglogaaLinkF
namespace Go.Proofs.Ytgacphicgglogaa
open Go.RowKit Crc
set_option linter.unusedVariables false

namespace RL
def one (r : RL) : RL := { r with there := r.there ++ [false], ins := r.ins ++ [⟨#[]⟩] }
def extF : Nat → RL → RL
  | 0, r => r
  | f + 1, r => extF f r.one
def ext (r : RL) (n : Nat) : RL := extF (n - r.there.length) r
def mark (r : RL) (n : Nat) (s : ByteArray) : RL := if r.there[n - 1]?.getD false = true then r else { r with there := r.there.set (n - 1) true, ins := r.ins.set (n - 1) s }
def arrive (r : RL) (n : Nat) (s : ByteArray) : RL := if r.taken < n ∧ n ≤ r.taken + 8 then (r.ext n).mark n s else r
def arrived (r : RL) (n : Nat) (s : ByteArray) : RL := (r.arrive n s).put 2 (r.arrive n s).came ByteArray.empty
def get (r : RL) (s : ByteArray) : RL × Int :=
  if (unpackRes s).2.2.2 ≠ 0 then (r, (unpackRes s).2.2.2)
  else if (unpackRes s).1 = 1 then (r.arrived (unpackRes s).2.1 (unpackRes s).2.2.1, 0)
  else if r.sent < (unpackRes s).2.1 then (r, 5)
  else if r.told < (unpackRes s).2.1 then (({ r with told := (unpackRes s).2.1 } : RL).on, 0)
  else (r, 0)
theorem one_ok {r : RL} (h : r.Ok) (hl : r.there.length < r.taken + 8) : r.one.Ok :=
  ⟨h.told, h.sent, h.few, by show (r.ins ++ [_]).length = (r.there ++ [_]).length; rw [List.length_append, List.length_append, h.ins]; rfl, by show (r.there ++ [_]).length ≤ _; rw [List.length_append]; exact hl, h.taken, h.goes, h.short⟩
theorem mark_ok {r : RL} (h : r.Ok) (n : Nat) (s : ByteArray) : (r.mark n s).Ok := by
  unfold mark
  split
  · exact h
  · exact ⟨h.told, h.sent, h.few, by show (r.ins.set _ _).length = (r.there.set _ _).length; rw [List.length_set, List.length_set]; exact h.ins, by show (r.there.set _ _).length ≤ _; rw [List.length_set]; exact h.there, h.taken, h.goes, h.short⟩
theorem tell_ok {r : RL} (h : r.Ok) (n : Nat) (h1 : n ≤ r.sent) : ({ r with told := n } : RL).Ok := ⟨h1, h.sent, h.few, h.ins, h.there, h.taken, h.goes, h.short⟩
end RL

theorem addr_add (g j : Nat) : (⟨g, 0, none⟩ : Addr).add j = ⟨g, j, none⟩ := by unfold Addr.add; split <;> simp_all

/-- A number that is in order is entered. -/
theorem RAt.enter {w : World} {B p : Nat} {v : V4} {r : RL} (h : RAt w B p v r) (gT cT gI cI j : Nat) (s : ByteArray) (hT : v.T = .slice (some ⟨gT, 0, none⟩) r.there.length cT) (hI : v.I = .slice (some ⟨gI, 0, none⟩) r.ins.length cI) :
    RAt ((w.setCell ⟨gT, j, none⟩ (.bool true)).setCell ⟨gI, j, none⟩ (.string s)) B p v { r with there := r.there.set j true, ins := r.ins.set j s } ∧ Touch (FootV p v) w ((w.setCell ⟨gT, j, none⟩ (.bool true)).setCell ⟨gI, j, none⟩ (.string s)) := by
  obtain ⟨vL, vI, vT, vG⟩ := v
  dsimp only at hT hI
  subst hT hI
  have h1 := ObjAt.put_ h 2 4 gT r.there.length cT (bools r.there) rfl (bools_len _) j (.bool true)
  have h2 := ObjAt.put_ h1 1 9 gI r.ins.length cI (strs r.ins) rfl (strs_len _) j (.string s)
  refine ⟨?_, (Touch.of_set (S := FootV p _) ⟨gT, j, none⟩ _ (.inr (.inr (.inr (.inl rfl))))).trans (Touch.of_set (S := FootV p _) ⟨gI, j, none⟩ _ (.inr (.inr (.inl rfl)))) (fun k hk => .inl hk)⟩
  unfold RAt
  have e1 : (bools r.there).set j (.bool true) = bools (r.there.set j true) := by unfold bools; rw [List.map_set]
  have e2 : (strs r.ins).set j (.string s) = strs (r.ins.set j s) := by unfold strs; rw [List.map_set]
  rw [e1, e2] at h2
  have hc : ({ r with there := r.there.set j true, ins := r.ins.set j s } : RL).cells ⟨vL, .slice (some ⟨gI, 0, none⟩) r.ins.length cI, .slice (some ⟨gT, 0, none⟩) r.there.length cT, vG⟩ = r.cells ⟨vL, .slice (some ⟨gI, 0, none⟩) r.ins.length cI, .slice (some ⟨gT, 0, none⟩) r.there.length cT, vG⟩ := rfl
  rw [hc]
  exact h2

/-- Two appends: a number that did not come. -/
theorem RAt.appT {w w2 : World} {B p : Nat} {v : V4} {r : RL} (h : RAt w B p v r) (v' : Value) (o : Obj) (ho : w2.ownsRow B 4 1 v' (r.there.length + 1) (bools r.there ++ [.bool false])) (hg : (w.alloc o).grownBy w2 v.T.ownBlock) (hbl : v'.ownBlock = v.T.ownBlock ∨ v'.ownBlock = some (w.heap.size + 1)) :
    RAt (w2.setCell ⟨p, 4, none⟩ v') B p { v with T := v' } { r with there := r.there ++ [false] } ∧ Touch (FootV p v) w (w2.setCell ⟨p, 4, none⟩ v') ∧ (∀ k, FootV p { v with T := v' } k → FootV p v k ∨ w.heap.size ≤ k) ∧ (∀ i, w2.cell? ⟨p, i, none⟩ = (r.cells v)[i]?) ∧ ∀ i, w2.frozen? ⟨p, i, none⟩ = false := by
  obtain ⟨vL, vI, vT, vG⟩ := v
  obtain ⟨ht2, hbl2⟩ := touch_app hg hbl
  have hown3 : w2.ownsRow B 4 1 v' (bools (r.there ++ [false])).length (bools (r.there ++ [false])) := by
    rw [bools_len, List.length_append]
    simpa [bools] using ho
  have hfin := h.grown 2 4 ⟨4, vT, bools r.there⟩ ⟨4, v', bools (r.there ++ [false])⟩ ⟨vL, vI, v', vG⟩ { r with there := r.there ++ [false] } rfl ht2 hown3 hbl2 rfl rfl
  have hblk : Blk w2 p 42 (r.cells ⟨vL, vI, vT, vG⟩).toArray := ht2.blk h.blk (fun e => h.off ⟨4, vT, bools r.there⟩ (by simp [RL.rows]) e)
  exact ⟨hfin.1, hfin.2.1, hfin.2.2, fun i => by rw [hblk.cell i, List.getElem?_toArray], hblk.frozen⟩
theorem RAt.appI {w w2 : World} {B p : Nat} {v : V4} {r : RL} (h : RAt w B p v r) (v' : Value) (o : Obj) (s : ByteArray) (ho : w2.ownsRow B 9 1 v' (r.ins.length + 1) (strs r.ins ++ [.string s])) (hg : (w.alloc o).grownBy w2 v.I.ownBlock) (hbl : v'.ownBlock = v.I.ownBlock ∨ v'.ownBlock = some (w.heap.size + 1)) :
    RAt (w2.setCell ⟨p, 3, none⟩ v') B p { v with I := v' } { r with ins := r.ins ++ [s] } ∧ Touch (FootV p v) w (w2.setCell ⟨p, 3, none⟩ v') ∧ (∀ k, FootV p { v with I := v' } k → FootV p v k ∨ w.heap.size ≤ k) ∧ (∀ i, w2.cell? ⟨p, i, none⟩ = (r.cells v)[i]?) ∧ ∀ i, w2.frozen? ⟨p, i, none⟩ = false := by
  obtain ⟨vL, vI, vT, vG⟩ := v
  obtain ⟨ht2, hbl2⟩ := touch_app hg hbl
  have hown3 : w2.ownsRow B 9 1 v' (strs (r.ins ++ [s])).length (strs (r.ins ++ [s])) := by
    rw [strs_len, List.length_append]
    simpa [strs] using ho
  have hfin := h.grown 1 3 ⟨9, vI, strs r.ins⟩ ⟨9, v', strs (r.ins ++ [s])⟩ ⟨vL, v', vT, vG⟩ { r with ins := r.ins ++ [s] } rfl ht2 hown3 hbl2 rfl rfl
  have hblk : Blk w2 p 42 (r.cells ⟨vL, vI, vT, vG⟩).toArray := ht2.blk h.blk (fun e => h.off ⟨9, vI, strs r.ins⟩ (by simp [RL.rows]) e)
  exact ⟨hfin.1, hfin.2.1, hfin.2.2, fun i => by rw [hblk.cell i, List.getElem?_toArray], hblk.frozen⟩

set_option maxHeartbeats 4000000 in
set_option maxRecDepth 100000 in
theorem rget_any (w : World) (B p : Nat) (v : V4) (r : RL) (h : RAt w B p v r) (hB : B ≤ w.heap.size) (ok : r.Ok) (s : ByteArray) (hs : s.size ≤ 140737488351232) :
    Calls Try.prog 24 #[.pointer (some ⟨p, 0, none⟩), .string s] w fun e w' => e = .returned (.int .i64 (r.get s).2) ∧ REnd w B p v (r.get s).1 w' := by
  obtain ⟨i0, hi0, hx0, hx1, hx2⟩ := info_parts str_info
  obtain ⟨j0, hj0, hy0, hy1, hy2⟩ := info_parts bool_info
  obtain ⟨hun, hus, hue⟩ := unpackRes_spec s
  have HG := Lib.hid (show r.get s = if (unpackRes s).2.2.2 ≠ 0 then (r, (unpackRes s).2.2.2) else if (unpackRes s).1 = 1 then (r.arrived (unpackRes s).2.1 (unpackRes s).2.2.1, 0) else if r.sent < (unpackRes s).2.1 then (r, 5) else if r.told < (unpackRes s).2.1 then (({ r with told := (unpackRes s).2.1 } : RL).on, 0) else (r, 0) from rfl)
  go_enter Try.func24, Try.ntmps24
  go_wp2_with fail
  refine (refUnpack_any s w hs).mono ?_
  rintro e w1 ⟨rfl, hb1⟩
  obtain ⟨k, hk⟩ : ∃ k, (unpackRes s).1 = k := ⟨_, rfl⟩
  obtain ⟨n, hn⟩ : ∃ n, (unpackRes s).2.1 = n := ⟨_, rfl⟩
  obtain ⟨x, hx⟩ : ∃ x, (unpackRes s).2.2.1 = x := ⟨_, rfl⟩
  obtain ⟨er, her⟩ : ∃ er, (unpackRes s).2.2.2 = er := ⟨_, rfl⟩
  rw [hk, hn, hx, her] at HG ⊢
  rw [hn] at hun
  rw [hx] at hus
  rw [hk, her] at hue
  clear hk hn hx her
  have h1 := h.below hb1
  have hB1 : B ≤ w1.heap.size := Nat.le_trans hB hb1.size
  have ht1 : Touch (FootV p v) w w1 := Touch.of_below hb1
  have HE1 := Lib.hid (show REnd w B p v r w1 from ⟨v, h1, ht1, fun k hk => .inl hk⟩)
  obtain ⟨hc0, hc1, hc2, hc3, hc4, hc5, hc6⟩ := h1.cells
  have htk := ok.taken
  have htn := ok.there
  clear hc0 hc3 hc6
  by_cases he : er = 0
  case neg =>
    have HR := Lib.hid (show r.get s = (r, er) by rw [HG.out, if_pos he])
    have heb : (er != 0) = true := bne_iff_ne.2 he
    clear he hue
    go_wp2
    go_ret
    exact ⟨by rw [HR.out]; rfl, by rw [HR.out]; exact HE1.out⟩
  subst he
  have hk12 := hue rfl
  clear hue
  by_cases hk1 : k = 1
  case neg =>
    obtain rfl : k = 2 := by omega
    clear hk12 hk1
    by_cases hno : r.sent < n
    · have HR := Lib.hid (show r.get s = (r, 5) by rw [HG.out, if_neg (fun h => h rfl), if_neg (by decide), if_pos hno])
      have hz : (r.sent : Int) < (n : Int) := by omega
      clear hno
      go_wp2
      go_ret
      exact ⟨by rw [HR.out]; rfl, by rw [HR.out]; exact HE1.out⟩
    have hz : ¬ (r.sent : Int) < (n : Int) := by omega
    by_cases hnt : r.told < n
    case neg =>
      have HR := Lib.hid (show r.get s = (r, 0) by rw [HG.out, if_neg (fun h => h rfl), if_neg (by decide), if_neg hno, if_neg hnt])
      have hz2 : ¬ (r.told : Int) < (n : Int) := by omega
      clear hno hnt
      go_wp2
      go_ret
      exact ⟨by rw [HR.out]; rfl, by rw [HR.out]; exact HE1.out⟩
    have HR := Lib.hid (show r.get s = (({ r with told := n } : RL).on, 0) by rw [HG.out, if_neg (fun h => h rfl), if_neg (by decide), if_neg hno, if_pos hnt])
    have hz2 : (r.told : Int) < (n : Int) := by omega
    have hok2 := RL.tell_ok ok n (by omega)
    have hfz := h1.frozen 1
    have h2 : RAt (w1.setCell ⟨p, 1, none⟩ (.int .u64 (n : Int))) B p v { r with told := n } := h1.num 1 _ _ rfl rfl
    have HC := Lib.hid (ron_any _ B p v _ h2 (by rw [World.size_setCell]; exact hB1) hok2)
    have HT := Lib.hid (show Touch (FootV p v) w (w1.setCell ⟨p, 1, none⟩ (.int .u64 (n : Int))) from ht1.trans (touch_num w1 p 1 v _) (fun k hk => .inl hk))
    clear hno hnt h2 hok2
    go_wp2_with fail
    refine HC.out.mono ?_
    rintro e w4 ⟨rfl, he⟩
    have HE := Lib.hid (REnd.next HT.out (fun k hk => .inl hk) he)
    clear he
    go_wp2
    go_ret
    exact ⟨by rw [HR.out]; rfl, by rw [HR.out]; exact HE.out⟩
  subst hk1
  have HR := Lib.hid (show r.get s = (r.arrived n x, 0) by rw [HG.out, if_neg (fun h => h rfl), if_pos rfl])
  clear hk12 hc1 hc2
  have hw8 : IntKind.u64.wrap ((r.taken : Int) + 8) = (r.taken : Int) + 8 := IntWalk.u64_in _ (by omega)
  have hTAIL : ∀ (w2 : World) (v2 : V4) (r2 : RL), RAt w2 B p v2 r2 → B ≤ w2.heap.size → r2.Ok → Touch (FootV p v) w w2 → (∀ k, FootV p v2 k → FootV p v k ∨ w.heap.size ≤ k) → r2 = r.arrive n x → (Calls Try.prog 30 #[.pointer (some ⟨p, 0, none⟩)] w2 fun e w' => e = .returned (.int .u64 (r2.came : Int)) ∧ w' = w2) ∧
      (Calls Try.prog 52 #[.pointer (some ⟨p, 0, none⟩), .int .i64 2, .int .u64 (r2.came : Int), .string ⟨#[]⟩] w2 fun e w' => e = .returned (.tuple #[]) ∧ REnd w B p v (r.get s).1 w') := fun w2 v2 r2 a1 a2 a3 a4 a5 a6 => by
    refine ⟨rcame_any w2 B p v2 r2 a1 a3, (rput_any w2 B p v2 r2 a1 a2 a3.goes 2 r2.came ByteArray.empty ?_ (by decide)).mono fun e w' ⟨h1, h2⟩ => ⟨h1, ?_⟩⟩
    · have e1 := trues_len r2.there
      have e2 := a3.there
      have e3 := a3.taken
      unfold RL.came
      omega
    · rw [HR.out]
      have := REnd.next a4 a5 h2
      rw [a6] at this
      exact this
  have hR2 : (r.get s).2 = 0 := by rw [HR.out]
  have HTAIL := Lib.hid hTAIL
  have HR2 := Lib.hid hR2
  clear hTAIL hR2 HG HR
  by_cases hin : r.taken < n ∧ n ≤ r.taken + 8
  case neg =>
    have HA := Lib.hid (show r = r.arrive n x by unfold RL.arrive; rw [if_neg hin])
    obtain ⟨hcame, hput⟩ := HTAIL.out w1 v r h1 hB1 ok ht1 (fun k hk => .inl hk) HA.out
    have HC := Lib.hid hcame
    have HP := Lib.hid hput
    clear hcame hput
    by_cases ha : r.taken < n
    · have hz1 : (r.taken : Int) < (n : Int) := by omega
      have hz2 : ¬ (n : Int) ≤ (r.taken : Int) + 8 := by omega
      have hz2b : decide ((n : Int) ≤ (r.taken : Int) + 8) = false := decide_eq_false hz2
      clear hin ha
      go_wp2_with fail
      refine HC.out.mono ?_
      rintro e w2 ⟨rfl, rfl⟩
      go_wp2_with fail
      refine HP.out.mono ?_
      rintro e w4 ⟨rfl, he⟩
      have HE := Lib.hid he
      clear he
      go_wp2
      go_ret
      exact ⟨by rw [HR2.out]; rfl, HE.out⟩
    · have hz1 : ¬ (r.taken : Int) < (n : Int) := by omega
      have hz1b : decide ((r.taken : Int) < (n : Int)) = false := decide_eq_false hz1
      have hz1c : decide (r.taken < n) = false := decide_eq_false ha
      clear hin ha
      go_wp2_with fail
      refine HC.out.mono ?_
      rintro e w2 ⟨rfl, rfl⟩
      go_wp2_with fail
      refine HP.out.mono ?_
      rintro e w4 ⟨rfl, he⟩
      have HE := Lib.hid he
      clear he
      go_wp2
      go_ret
      exact ⟨by rw [HR2.out]; rfl, HE.out⟩
  obtain ⟨ha, hb⟩ := hin
  have hz1 : (r.taken : Int) < (n : Int) := by omega
  have hz2 : (n : Int) ≤ (r.taken : Int) + 8 := by omega
  have HA := Lib.hid (show (r.ext n).mark n x = r.arrive n x by unfold RL.arrive; rw [if_pos ⟨ha, hb⟩])
  clear hc4
  go_wp2_with fail
  go_loopg [36] (n - r.there.length) (fun g z wr => ∃ (r1 : RL) (v1 : V4), RAt wr B p v1 r1 ∧ r1.Ok ∧ r1.taken = r.taken ∧ g = n - r1.there.length ∧ RL.extF g r1 = r.ext n ∧ Touch (FootV p v) w wr ∧ ∀ k, FootV p v1 k → FootV p v k ∨ w.heap.size ≤ k)
  case atStart => exact ⟨r, v, h1, ok, rfl, rfl, rfl, ht1, fun k hk => .inl hk⟩
  case round =>
    obtain ⟨r1, v1, g1, ok1, hk1, hg, hext, ht, hf⟩ := hrel
    have hBr : B ≤ wr.heap.size := Nat.le_trans hB ht.size
    have htr := ok1.there
    rw [hk1] at htr
    have hct := g1.cells.2.2.2.2.1
    have hci := g1.cells.2.2.2.1
    have hot := g1.there
    have hoi := g1.ins
    have hil := ok1.ins
    rw [hil] at hoi
    obtain ⟨A, c, hT⟩ := own_form hot
    obtain ⟨AI, cI, hI⟩ := own_form hoi
    rw [hT] at hct hot
    rw [hI] at hci hoi
    obtain ⟨T, hTl⟩ : ∃ T, r1.there.length = T := ⟨_, rfl⟩
    rw [hTl] at hct hot hci hoi htr hil hT hI
    have HTF := Lib.hid hT
    have HIF := Lib.hid hI
    have HTL := Lib.hid hTl
    have HIL := Lib.hid hil
    have hwT : IntKind.u64.wrap (T : Int) = (T : Int) := IntWalk.u64_in _ (by omega)
    clear hT hI hil
    by_cases hlt : T < n
    · have hz : (T : Int) < (n : Int) := by omega
      obtain ⟨g', rfl⟩ : ∃ g', gk = g' + 1 := ⟨gk - 1, by omega⟩
      have HX := Lib.hid (show RL.extF g' r1.one = r.ext n from hext)
      have HGK := Lib.hid (show g' = n - (T + 1) by omega)
      have hok1 := RL.one_ok ok1 (by rw [hk1]; omega)
      have hrx : Reads (wr.alloc (.cells #[.bool false] 4)) (wr.alloc (.cells #[.bool false] 4)).heap.size 1 (some ⟨wr.heap.size, 0, none⟩) 1 (bools [false]) := ⟨rfl, fun _ => ⟨_, rfl, by simp, fun j u hu => cells_new wr [.bool false] _ j u hu⟩⟩
      have hone := bools_one [false]
      clear hext hg hTl hci hoi
      go_wp2_with (at_builtin; refine wpList_append_any _ rfl _ _ 40 rfl B 4 j0 _ 1 1 Try.underlying40 hj0 hy0 hy1 hy2 rfl (by decide) _ _ _ rfl (hot.alloc _) _ (some ⟨wr.heap.size, 0, none⟩) 1 1 _ rfl hrx hone ?c3 ?c4 ?c5 ?_)
      case c3 => unfold maxLen; omega
      case c4 => omega
      case c5 => simp; omega
      intro v' w2 hown2 hg2 hbl
      have hown2' : w2.ownsRow B 4 1 v' (r1.there.length + 1) (bools r1.there ++ [.bool false]) := by rw [HTL.out]; exact hown2
      obtain ⟨q1, q2, q3, q4, q5⟩ := g1.appT v' _ hown2' (by rw [HTF.out]; exact hg2) (by rw [HTF.out]; exact hbl)
      have q44 : w2.cell? ⟨p, 4, none⟩ = some (.slice A T c) := by rw [← HTF.out]; exact q4 4
      have q43 : w2.cell? ⟨p, 3, none⟩ = some (.slice AI T cI) := by rw [← HIF.out]; exact q4 3
      have q54 := q5 4
      have hoi2 := q1.ins
      dsimp only at hoi2
      rw [HIF.out, HIL.out] at hoi2
      have hB2 : B ≤ (w2.setCell ⟨p, 4, none⟩ v').heap.size := Nat.le_trans hBr q2.size
      have hsz2 : (w2.setCell ⟨p, 4, none⟩ v').heap.size = w2.heap.size := World.size_setCell _ _ _
      have Q1 := Lib.hid q1
      have Q2 := Lib.hid q2
      have Q3 := Lib.hid q3
      obtain ⟨A', c', rfl⟩ := own_form hown2
      have hrx : Reads ((w2.setCell ⟨p, 4, none⟩ (.slice A' (T + 1) c')).alloc (.cells #[.string ⟨#[]⟩] 9)) ((w2.setCell ⟨p, 4, none⟩ (.slice A' (T + 1) c')).alloc (.cells #[.string ⟨#[]⟩] 9)).heap.size 1 (some ⟨w2.heap.size, 0, none⟩) 1 (strs [⟨#[]⟩]) := ⟨rfl, fun _ => ⟨_, rfl, by rw [World.size_alloc, hsz2]; exact Nat.lt_succ_self _, fun j u hu => cells_new_at _ _ hsz2 [.string ⟨#[]⟩] _ j u hu⟩⟩
      have hone := strs_one [⟨#[]⟩]
      have HSZ2 := Lib.hid hsz2
      clear q1 q2 q3 hown2' hown2 hg2 hbl hct hot q4 q5 hsz2
      go_wp2_with (at_builtin; (refine wpList_append_any _ rfl _ _ 34 rfl B 9 i0 _ 1 16 Try.underlying34 hi0 hx0 hx1 hx2 rfl (by decide) _ _ _ rfl (hoi2.alloc _) _ (some ⟨w2.heap.size, 0, none⟩) 1 1 _ rfl hrx hone ?c3 ?c4 ?c5 ?_))
      case c3 => unfold maxLen; omega
      case c4 => omega
      case c5 => first | exact Nat.le_succ_of_le hB2 | (rw [World.size_alloc]; omega)
      intro v'' w3 hown3 hg3 hbl3
      have hown3' : w3.ownsRow B 9 1 v'' (r1.ins.length + 1) (strs r1.ins ++ [.string ⟨#[]⟩]) := by rw [HIL.out]; exact hown3
      have hbl3' : v''.ownBlock = (Value.slice AI T cI).ownBlock ∨ v''.ownBlock = some ((w2.setCell ⟨p, 4, none⟩ (.slice A' (T + 1) c')).heap.size + 1) := by first | exact hbl3 | (rw [HSZ2.out]; exact hbl3)
      obtain ⟨t1, t2, t3, t4, t5⟩ := Q1.out.appI v'' _ ⟨#[]⟩ hown3' (by rw [show ({ v1 with T := .slice A' (T + 1) c' } : V4).I = v1.I from rfl, HIF.out]; exact hg3) (by rw [show ({ v1 with T := .slice A' (T + 1) c' } : V4).I = v1.I from rfl, HIF.out]; exact hbl3')
      have t43 : w3.cell? ⟨p, 3, none⟩ = some (.slice AI T cI) := by rw [← HIF.out]; exact t4 3
      have t53 := t5 3
      have T1 := Lib.hid t1
      have HTT := Lib.hid (show Touch (FootV p v) w (w3.setCell ⟨p, 3, none⟩ v'') from (ht.trans Q2.out hf).trans t2 (fun k hk => by
        rcases Q3.out k hk with h5 | h5
        · exact hf k h5
        · exact .inr (Nat.le_trans ht.size h5)))
      have HFF := Lib.hid (show ∀ k, FootV p { v1 with T := .slice A' (T + 1) c', I := v'' } k → FootV p v k ∨ w.heap.size ≤ k from fun k hk => by
        rcases t3 k hk with h5 | h5
        · rcases Q3.out k h5 with h6 | h6
          · exact hf k h6
          · exact .inr (Nat.le_trans ht.size h6)
        · exact .inr (Nat.le_trans (Nat.le_trans ht.size Q2.out.size) h5))
      obtain ⟨A3, c3, rfl⟩ := own_form hown3
      clear t1 t2 t3 t4 t5 hown3' hown3 hg3 hbl3 hbl3' hoi2 hrx hone
      go_wp2
      go_roundg g'
      case measure => omega
      case rel => exact ⟨r1.one, _, T1.out, hok1, hk1, by rw [HGK.out]; show _ = n - (r1.there ++ [false]).length; rw [List.length_append, HTL.out]; rfl, HX.out, HTT.out, HFF.out⟩
    · have hz : ¬ (T : Int) < (n : Int) := by omega
      obtain rfl : gk = 0 := by omega
      have hre : r1 = r.ext n := hext
      have hjT : n - 1 < T := by omega
      obtain ⟨gT, cT, hTe, _, hgT⟩ := hot.form (by omega)
      injection hTe with e1 _ e2
      subst e1 e2
      obtain ⟨gI, cI', hIe, _, hgI⟩ := hoi.form (by omega)
      injection hIe with e1 _ e2
      subst e1 e2
      have hbt : r1.there[n - 1]? = some (r1.there[n - 1]?.getD false) := by
        rw [List.getElem?_eq_getElem (by rw [HTL.out]; exact hjT)]
        rfl
      have hcx := (Row.of_own hot).cell (bools_at _ _ _ hbt)
      have hwn : IntKind.u64.wrap ((n : Int) - 1) = ((n - 1 : Nat) : Int) := by rw [IntWalk.u64_in _ (by omega)]; omega
      have hz3 : ((n - 1 : Nat) : Int) < (T : Int) := by omega
      have hz4 : (0 : Int) ≤ ((n - 1 : Nat) : Int) := by omega
      have hMA := HA.out
      rw [← hre] at hMA
      have hTf := HTF.out
      have hIf := HIF.out
      rw [← HTL.out] at hTf
      have hIf2 : v1.I = .slice (some ⟨gI, 0, none⟩) r1.ins.length cI := by rw [HIL.out]; exact hIf
      have hent := g1.enter gT c gI cI (n - 1) x hTf hIf2
      obtain ⟨b0, hb0⟩ : ∃ b0, r1.there[n - 1]?.getD false = b0 := ⟨_, rfl⟩
      rw [hb0] at hcx
      have hadd := addr_add
      cases b0 with
      | true =>
        have hm1 : r1.mark n x = r1 := by unfold RL.mark; rw [if_pos hb0]
        rw [hm1] at hMA
        obtain ⟨hcame, hput⟩ := HTAIL.out wr v1 r1 g1 hBr ok1 ht hf hMA
        have HC := Lib.hid hcame
        have HP := Lib.hid hput
        obtain ⟨j, hj⟩ : ∃ j, n - 1 = j := ⟨_, rfl⟩
        rw [hj] at hcx hwn hz3 hz4
        clear hcame hput hm1 hMA hent hb0 hbt hre hext hg hj
        go_wp2_with fail
        refine HC.out.mono ?_
        rintro e w2 ⟨rfl, rfl⟩
        go_wp2_with fail
        refine HP.out.mono ?_
        rintro e w4 ⟨rfl, he⟩
        have HE := Lib.hid he
        clear he
        go_wp2
        go_ret
        exact ⟨by rw [HR2.out]; rfl, HE.out⟩
      | false =>
        have hm1 : r1.mark n x = { r1 with there := r1.there.set (n - 1) true, ins := r1.ins.set (n - 1) x } := by unfold RL.mark; rw [if_neg (by rw [hb0]; decide)]
        have okm := RL.mark_ok ok1 n x
        rw [hm1] at hMA okm
        obtain ⟨t1, t2⟩ := hent
        obtain ⟨hcame, hput⟩ := HTAIL.out _ v1 _ t1 (Nat.le_trans hBr t2.size) okm (ht.trans t2 hf) hf hMA
        have HC := Lib.hid hcame
        have HP := Lib.hid hput
        have hgne : gI ≠ gT := fun e => by
          have := g1.apart 1 2 _ _ rfl rfl (by omega) gI (by show v1.I.ownBlock = _; rw [HIF.out]; rfl)
          exact this (by show v1.T.ownBlock = _; rw [HTF.out, e]; rfl)
        have hpT : p ≠ gT := fun e => ObjAt.off g1 ⟨4, v1.T, bools r1.there⟩ (by simp [RL.rows]) (by rw [e]; show v1.T.ownBlock = _; rw [HTF.out]; rfl)
        have hfT : wr.frozen? ⟨gT, n - 1, none⟩ = false := (Row.of_own hot).frozen (by rw [bools_len, HTL.out]; exact hjT)
        have hfI : wr.frozen? ⟨gI, n - 1, none⟩ = false := (Row.of_own hoi).frozen (by rw [strs_len, ok1.ins, HTL.out]; exact hjT)
        have hcI : wr.cell? ⟨gI, n - 1, none⟩ = some (.string (r1.ins[n - 1]?.getD ByteArray.empty)) := (Row.of_own hoi).cell (strs_at _ _ (by rw [ok1.ins, HTL.out]; exact hjT))
        obtain ⟨x0, hx0⟩ : ∃ x0, r1.ins[n - 1]?.getD ByteArray.empty = x0 := ⟨_, rfl⟩
        obtain ⟨j, hj⟩ : ∃ j, n - 1 = j := ⟨_, rfl⟩
        rw [hj] at hcx hwn hz3 hz4 HC HP hfT hfI hcI
        rw [hj] at hx0
        rw [hx0] at hcI
        clear hcame hput hm1 hMA hb0 hbt hre hext hg hj t1 t2 hx0
        go_wp2_with fail
        refine HC.out.mono ?_
        rintro e w2 ⟨rfl, rfl⟩
        go_wp2_with fail
        refine HP.out.mono ?_
        rintro e w4 ⟨rfl, he⟩
        have HE := Lib.hid he
        clear he
        go_wp2
        go_ret
        exact ⟨by rw [HR2.out]; rfl, HE.out⟩

end Go.Proofs.Ytgacphicgglogaa
