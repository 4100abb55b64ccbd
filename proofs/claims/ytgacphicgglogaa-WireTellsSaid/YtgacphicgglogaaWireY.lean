/- The document's wire: 'Encode'. Printed by mk_refenc.py. -/
import Derived.Test.YtgacphicgglogaaWireX
import Derived.Test.YtgacphicgglogaaWireU
namespace Go.Proofs.Ytgacphicgglogaa
open Go.RowKit Crc
set_option linter.unusedVariables false

/-- The document's Encode under way: the message's box stays. -/
structure EncS (w wr : World) (cs : Array Value) : Prop where
  bel : Below w.heap.size w wr
  box : Blk wr w.heap.size 54 cs
theorem EncS.next {w wr w' : World} {cs : Array Value} (h : EncS w wr cs) (hb : Below wr.heap.size wr w') : EncS w w' cs := ⟨h.bel.trans (hb.mono h.bel.size), h.box.below hb h.box.lt⟩
theorem EncS.drew {w wr : World} {cs : Array Value} (h : EncS w wr cs) : EncS w wr.drew cs := ⟨h.bel.drew, h.box⟩
theorem encRes_no {m : MsgL} (h : ¬ m.Ok) : encRes m = (⟨#[]⟩, 1) := by unfold encRes; rw [if_neg h]
theorem EncS.alloc {w wr : World} {cs : Array Value} (h : EncS w wr cs) (o : Obj) : EncS w (wr.alloc o) cs := h.next ((Below.refl _ _).alloc (Nat.le_refl _) _)
/-- 'string(b)' of a row of small numbers. -/
theorem unbytes_run (w : World) (g cap : Nat) (l : List UInt8) (hrow : Row w g 5 (byteVals l)) : Sem.run Try.prog (convert 75 9 (Value.slice (some ⟨g, 0, none⟩) l.length cap)) w = .ok (.string ⟨l.toArray⟩) w :=
  run_convert_bytes_back (P := Try.prog) w 75 9 5 ⟨g, 0, none⟩ cap l Try.underlying75 Try.underlying5 Try.underlying9 (fun j hj => by
    rw [show (⟨g, 0, none⟩ : Addr).add j = ⟨g, j, none⟩ by unfold Addr.add; split <;> simp_all]
    exact hrow.cell (by simp [byteVals, hj]))


set_option maxHeartbeats 8000000 in
set_option maxRecDepth 100000 in
theorem refEncode_any (w : World) (v : Value) (m : MsgL) (h : MsgAt w w.heap.size v m) : Calls Try.prog 33 #[v] w fun e w' => e = .returned (.tuple #[.string (encRes m).1, .int .i64 (encRes m).2]) ∧ Below w.heap.size w w' := by
  obtain ⟨⟨v1, v2, v3, v4, v5, v6, rfl, a1, a2, a3, a4, a5, a6⟩, hst, hev, hss⟩ := h
  obtain ⟨A1, n1, k1, rfl, l1, b1, r1⟩ := a1
  obtain ⟨A2, n2, k2, rfl, l2, b2, r2⟩ := a2
  obtain ⟨A3, n3, k3, rfl, l3, b3, r3⟩ := a3
  obtain ⟨A4, n4, k4, rfl, l4, b4, r4⟩ := a4
  obtain ⟨A5, n5, k5, rfl, l5, b5, r5⟩ := a5
  obtain ⟨A6, n6, k6, rfl, l6, b6, r6⟩ := a6
  have hidx : ∀ k : Nat, k < 4 → ∃ (A : Option Addr) (n c : Nat) (lk : List Int), (∀ w, (Instr.index 107 (.agg #[.slice A1 n1 k1, .slice A2 n2 k2, .slice A3 n3 k3, .slice A4 n4 k4]) (.int .i64 (k : Int))).run Try.prog w = .ok (.slice A n c) w) ∧ lk.length = n ∧ n ≤ 9223372036854775807 ∧ Reads w w.heap.size 1 A n (intV lk) ∧ [m.trans, m.states, m.enter, m.vars][k]? = some lk := fun k hk => by
    match k, hk with
    | 0, _ => exact ⟨A1, n1, k1, m.trans, fun _ => by kernel_rfl, l1, b1, r1, rfl⟩
    | 1, _ => exact ⟨A2, n2, k2, m.states, fun _ => by kernel_rfl, l2, b2, r2, rfl⟩
    | 2, _ => exact ⟨A3, n3, k3, m.enter, fun _ => by kernel_rfl, l3, b3, r3, rfl⟩
    | 3, _ => exact ⟨A4, n4, k4, m.vars, fun _ => by kernel_rfl, l4, b4, r4, rfl⟩
  have HIDX := Lib.hid hidx
  have HR5 := Lib.hid r5
  have HR6 := Lib.hid r6
  have HL5 := Lib.hid l5
  have HL6 := Lib.hid l6
  have HSS := Lib.hid hss
  have hS0 : EncS w (w.alloc (.cells #[.int .i64 m.kind, .int .u64 (m.step : Int), .string m.event, .slice A1 n1 k1, .slice A2 n2 k2, .slice A3 n3 k3, .slice A4 n4 k4, .slice A5 n5 k5, .slice A6 n6 k6] 54)) #[.int .i64 m.kind, .int .u64 (m.step : Int), .string m.event, .slice A1 n1 k1, .slice A2 n2 k2, .slice A3 n3 k3, .slice A4 n4 k4, .slice A5 n5 k5, .slice A6 n6 k6] := ⟨(Below.refl _ _).alloc (Nat.le_refl _) _, Blk.new _ _ _⟩
  have HS0 := Lib.hid hS0
  clear hidx r1 r2 r3 r4 r5 r6 l1 l2 l3 l4 l5 l6 b1 b2 b3 b4 hss hS0
  unfold maxLen at hev
  go_enter Try.func33, Try.ntmps33

  by_cases hk1 : 1 ≤ m.kind
  case neg =>
    have HE := Lib.hid (encRes_no (m := m) (fun h => hk1 h.kind1))
    have hk1z : m.kind < 1 := by omega
    clear hk1
    go_wp2
    go_ret2
    exact ⟨by rw [HE.out]; rfl, HS0.out.bel⟩
  have hk1z : ¬ m.kind < 1 := by omega

  by_cases hk9 : m.kind ≤ 9
  case neg =>
    have HE := Lib.hid (encRes_no (m := m) (fun h => hk9 h.kind9))
    have hk9z : 9 < m.kind := by omega
    clear hk9
    go_wp2
    go_ret2
    exact ⟨by rw [HE.out]; rfl, HS0.out.bel⟩
  have hk9z : ¬ 9 < m.kind := by omega

  by_cases he20 : m.event.size ≤ 20
  case neg =>
    have HE := Lib.hid (encRes_no (m := m) (fun h => he20 h.event))
    have he20z : (20 : Int) < (m.event.size : Int) := by omega
    clear he20
    go_wp2
    go_ret2
    exact ⟨by rw [HE.out]; rfl, HS0.out.bel⟩
  have he20z : ¬ (20 : Int) < (m.event.size : Int) := by omega

  by_cases hs8 : n5 ≤ 8
  case neg =>
    have HE := Lib.hid (encRes_no (m := m) (fun h => hs8 (by have := h.setsN; have := HL5.out; omega)))
    have hs8z : (8 : Int) < (n5 : Int) := by omega
    clear hs8
    go_wp2
    go_ret2
    exact ⟨by rw [HE.out]; rfl, HS0.out.bel⟩
  have hs8z : ¬ (8 : Int) < (n5 : Int) := by omega

  by_cases hp40 : n6 ≤ 40
  case neg =>
    have HE := Lib.hid (encRes_no (m := m) (fun h => hp40 (by have := h.pastsN; have := HL6.out; omega)))
    have hp40z : (40 : Int) < (n6 : Int) := by omega
    clear hp40
    go_wp2
    go_ret2
    exact ⟨by rw [HE.out]; rfl, HS0.out.bel⟩
  have hp40z : ¬ (40 : Int) < (n6 : Int) := by omega

  have HKIND := Lib.hid (And.intro hk1 hk9)
  have hwk := u8_wrap_in m.kind (by omega) (by omega)
  have hwe := u8_wrap_in (m.event.size : Int) (by omega) (by omega)
  clear hev
  have hS := HS0.out
  obtain ⟨c0, c1, c2, c3, c4, c5, c6, c7, c8⟩ := msg_cells hS.box
  have hlt := hS.box.lt
  clear hS
  go_wp2_with fail
  clear c0 c1 c2 c3 c4 c5 c6 c7 c8 hlt
  have hv1 := small_val m.kind (by omega) (by omega)
  have hv2 := small_val (m.event.size : Int) (by omega) (by omega)
  have hrun1 : ∀ (w : World) (g cap : Nat), Row w g 5 [.int .u8 m.kind] → Sem.run Try.prog (convert 75 9 (Value.slice (some ⟨g, 0, none⟩) 1 cap)) w = .ok (Value.string (bs [smallB m.kind])) w := fun w g cap hrow => unbytes_run w g cap [smallB m.kind] (by rw [hv1]; exact hrow)
  have hrun2 : ∀ (w : World) (g cap : Nat), Row w g 5 [.int .u8 (m.event.size : Int)] → Sem.run Try.prog (convert 75 9 (Value.slice (some ⟨g, 0, none⟩) 1 cap)) w = .ok (Value.string (bs [smallB (m.event.size : Int)])) w := fun w g cap hrow => unbytes_run w g cap [smallB (m.event.size : Int)] (by rw [hv2]; exact hrow)
  clear hv1 hv2
  have he8 : ∀ w, Calls Try.prog 48 #[.int .u64 (m.step : Int)] w fun e w' => e = .returned (.string (bs (le8 m.step))) ∧ Below w.heap.size w w' := fun w => refEight_any m.step w hst
  have hhead : bs [smallB m.kind] ++ bs (le8 m.step) ++ bs [smallB (m.event.size : Int)] ++ m.event = bs (msgHead m) := bs_ext (by rw [bs_list]; simp [msgHead, bs])
  have hz1 : (bs [smallB m.kind]).size = 1 := rfl
  have hz2 : (bs [smallB (m.event.size : Int)]).size = 1 := rfl
  have hz8 : (bs (le8 m.step)).size = 8 := by rw [bs_size, le8_len]
  have hzh : (bs (msgHead m)).size = 10 + m.event.size := by rw [← hhead, ByteArray.size_append, ByteArray.size_append, ByteArray.size_append, hz1, hz2, hz8]
  obtain ⟨b1, hb1⟩ : ∃ b1, bs [smallB m.kind] = b1 := ⟨_, rfl⟩
  obtain ⟨b2, hb2⟩ : ∃ b2, bs [smallB (m.event.size : Int)] = b2 := ⟨_, rfl⟩
  obtain ⟨e8, hbe⟩ : ∃ e8, bs (le8 m.step) = e8 := ⟨_, rfl⟩
  rw [hb1] at hrun1 hhead hz1
  rw [hb2] at hrun2 hhead hz2
  rw [hbe] at he8 hhead hz8
  have HRUN1 := Lib.hid hrun1
  have HRUN2 := Lib.hid hrun2
  have HE8 := Lib.hid he8
  have HHEAD := Lib.hid hhead
  have HZH := Lib.hid hzh
  clear hb1 hb2 hbe hrun1 hrun2 he8 hhead hzh
  have hevl : ¬ 9223372036854775807 < 10 + m.event.size := by omega
  have HHS := Lib.hid hs8
  have HHP := Lib.hid hp40
  clear hs8 hs8z hp40 hp40z
  refine Reg.wp_chain_known 19 [(7, .string e8)] [(3, fun v w' => ∃ g, v = .slice (some ⟨g, 0, none⟩) 1 1 ∧ Row w' g 5 [.int .u8 m.kind]), (7, fun _ _ => True), (13, fun v w' => ∃ g, v = .slice (some ⟨g, 0, none⟩) 1 1 ∧ Row w' g 5 [.int .u8 (m.event.size : Int)])] (fun w' => EncS w w' #[.int .i64 m.kind, .int .u64 (m.step : Int), .string m.event, .slice A1 n1 k1, .slice A2 n2 k2, .slice A3 n3 k3, .slice A4 n4 k4, .slice A5 n5 k5, .slice A6 n6 k6]) (fun w1 w' => Below w1.heap.size w1 w') (by kernel_rfl) (by kernel_rfl) (by kernel_rfl) (by kernel_rfl) (fun _ _ d _ _ h => by cases d <;> exact h) HS0.out.drew ?_
  simp only [List.take_succ_cons, List.take_zero]
  iterate 3 (refine Reg.chain_plain rfl rfl ?_ ?_ ?_; rotate_left; (focus (intro w3 hI _; obtain ⟨c0, c1, c2, _⟩ := msg_cells hI.box; go_simp; rfl)))
  refine Reg.chain_eff rfl rfl (fun v w1 w2 hs ⟨g, e, hg⟩ => ⟨g, e, hg.below hs hg.lt⟩) (fun w1 hI _ K hK => ?_) (fun v => ?_)
  · go_simp
    refine hK (.slice (some ⟨w1.heap.size, 0, none⟩) 1 1) _ _ (by go_simp) ⟨w1.heap.size, rfl, Row.of_blk (Blk.new _ _ _)⟩ (hI.alloc _) ((Below.refl _ _).alloc (Nat.le_refl _) _)
  refine Reg.chain_plain rfl rfl (.string b1) (fun w3 hI hF => ?_) ?_
  · obtain ⟨g, rfl, hrow⟩ := hF _ (List.mem_singleton.2 rfl) (by kernel_rfl)
    have hr := HRUN1.out w3 g 1 hrow
    go_simp
  iterate 2 (refine Reg.chain_plain rfl rfl ?_ ?_ ?_; rotate_left; (focus (intro w3 hI _; obtain ⟨c0, c1, c2, _⟩ := msg_cells hI.box; go_simp; rfl)))
  simp only [Act.put, List.setIfInBounds_toArray, List.set_cons_succ, List.set_cons_zero]
  refine Reg.chain_known (.string e8) rfl rfl rfl (fun _ _ _ _ _ => trivial) (fun w3 hI _ K hK => ?_) ?_
  · go_simp
    refine (HE8.out w3).mono ?_
    rintro e w4 ⟨rfl, hb4⟩
    exact hK _ _ (by go_simp) trivial (hI.next hb4) hb4
  iterate 5 (refine Reg.chain_plain rfl rfl ?_ ?_ ?_; rotate_left; (focus (intro w3 hI _; obtain ⟨c0, c1, c2, _⟩ := msg_cells hI.box; go_simp; rfl)))
  simp only [Act.put, List.setIfInBounds_toArray, List.set_cons_succ, List.set_cons_zero]
  refine Reg.chain_eff rfl rfl (fun v w1 w2 hs ⟨g, e, hg⟩ => ⟨g, e, hg.below hs hg.lt⟩) (fun w1 hI _ K hK => ?_) (fun v2 => ?_)
  · go_simp
    refine hK (.slice (some ⟨w1.heap.size, 0, none⟩) 1 1) _ _ (by go_simp) ⟨w1.heap.size, rfl, Row.of_blk (Blk.new _ _ _)⟩ (hI.alloc _) ((Below.refl _ _).alloc (Nat.le_refl _) _)
  refine Reg.chain_plain rfl rfl (.string b2) (fun w3 hI hF => ?_) ?_
  · obtain ⟨g, rfl, hrow⟩ := hF _ (List.mem_cons_self ..) (by kernel_rfl)
    have hr := HRUN2.out w3 g 1 hrow
    go_simp
  simp only [Act.put, List.setIfInBounds_toArray, List.set_cons_succ, List.set_cons_zero]
  iterate 4 (refine Reg.chain_plain rfl rfl ?_ ?_ ?_; rotate_left; (focus (intro w3 hI _; obtain ⟨c0, c1, c2, _⟩ := msg_cells hI.box; go_simp; rfl)))
  simp only [Act.put, List.setIfInBounds_toArray, List.set_cons_succ, List.set_cons_zero]
  refine Reg.chain_end (fun w3 hI _ => ?_)
  simp only [List.drop_succ_cons, List.drop_zero]
  rw [HHEAD.out]
  have HS1 := Lib.hid hI
  clear hI HRUN1 HRUN2 HE8 HHEAD HS0 hz1 hz2 hz8 hevl hwk hwe hst
  obtain ⟨ls, hls⟩ : ∃ ls, [m.trans, m.states, m.enter, m.vars] = ls := ⟨_, rfl⟩
  have HLS := Lib.hid hls
  rw [hls] at HIDX
  have hlsl : ls.length = 4 := by rw [← hls]; rfl
  clear hls
  go_wp2_with fail
  go_loopw [4, 5] (fun t i wr => ∃ k : Nat, k ≤ 4 ∧ i = .int .i64 (k : Int) ∧ t = .string (bs (msgHead m ++ (ls.take k).flatMap listB)) ∧ EncS w wr #[.int .i64 m.kind, .int .u64 (m.step : Int), .string m.event, .slice A1 n1 k1, .slice A2 n2 k2, .slice A3 n3 k3, .slice A4 n4 k4, .slice A5 n5 k5, .slice A6 n6 k6] ∧ (∀ x ∈ ls.take k, listOk x) ∧ ((ls.take k).flatMap listB).length ≤ k * 49) (fun _ i _ => 4 - (intOf i).toNat)
  case atStart => exact ⟨0, by omega, rfl, by simp, HS1.out, fun x hx => by simp at hx, by simp⟩
  case round =>
    obtain ⟨k, hk4, rfl, rfl, hSk, hall, hlk⟩ := hrel
    clear HS1
    have hzk : (bs (msgHead m ++ (ls.take k).flatMap listB)).size ≤ 30 + k * 49 := by
      have := HZH.out
      rw [bs_size] at this ⊢
      rw [List.length_append]
      omega
    by_cases hk : k < 4
    · have hkz : (k : Int) < 4 := by omega
      obtain ⟨AA, nn, cc, lk, hix, ha, hb, hrd, hget⟩ := HIDX.out k hk
      have htake : ls.take (k + 1) = ls.take k ++ [lk] := by rw [List.take_add_one, hget]; rfl
      have hcon := refPlaces_any wr AA nn cc lk ha ((hrd.below hSk.bel).more hSk.bel.size) hb
      obtain ⟨c0, c1, c2, c3, c4, c5, c6, c7, c8⟩ := msg_cells hSk.box
      have HSK := Lib.hid hSk
      have HC := Lib.hid hcon
      have HALL := Lib.hid hall
      by_cases hok : listOk lk
      · rw [show placesRes lk = (bs (listB lk), true) by unfold placesRes; rw [if_pos hok]] at HC
        have happ : bs (msgHead m ++ (ls.take k).flatMap listB) ++ bs (listB lk) = bs (msgHead m ++ (ls.take (k + 1)).flatMap listB) := bs_ext (by rw [htake]; simp [bs])
        have HA := Lib.hid happ
        have hzl : (bs (listB lk)).size ≤ 49 := by rw [bs_size, listB_len]; have := hok.1; omega
        have HLEN := Lib.hid (show ((ls.take (k + 1)).flatMap listB).length ≤ (k + 1) * 49 by rw [htake, List.flatMap_append, List.length_append]; simp only [List.flatMap_cons, List.flatMap_nil, List.append_nil]; rw [bs_size] at hzl; omega)
        have HALL2 := Lib.hid (show ∀ y ∈ ls.take (k + 1), listOk y from fun y hy => by
          rw [htake] at hy
          rcases List.mem_append.1 hy with hy | hy
          · exact hall y hy
          · rw [List.mem_singleton.1 hy]; exact hok)
        clear happ hok htake hcon hall hlk hget hrd hSk HALL
        generalize bs (msgHead m ++ (ls.take k).flatMap listB) = tk at *
        generalize bs (listB lk) = tl at *
        go_wp2_with fail
        refine HC.out.mono ?_
        rintro e w6 ⟨rfl, hb6⟩
        have HS6 := Lib.hid (HSK.out.next hb6)
        clear c0 c1 c2 c3 c4 c5 c6 c7 c8 hb6 HSK HC hix
        go_wp2
        go_roundw
        case rel => exact ⟨k + 1, by omega, by go_num, by rw [← HA.out], HS6.out, HALL2.out, HLEN.out⟩
        case measure => simp [intOf]; omega
      · rw [show placesRes lk = (⟨#[]⟩, false) by unfold placesRes; rw [if_neg hok]] at HC
        have HE := Lib.hid (encRes_no (m := m) (fun h => hok (by
          have hm := List.mem_of_getElem? hget
          rw [← HLS.out] at hm
          simp only [List.mem_cons, List.not_mem_nil, or_false] at hm
          rcases hm with rfl | rfl | rfl | rfl
          · exact h.trans
          · exact h.states
          · exact h.enter
          · exact h.vars)))
        clear hok htake hcon hall hlk hget hrd hSk HALL
        generalize bs (msgHead m ++ (ls.take k).flatMap listB) = tk at *
        go_wp2_with fail
        refine HC.out.mono ?_
        rintro e w6 ⟨rfl, hb6⟩
        have HS6 := Lib.hid (HSK.out.next hb6)
        clear c0 c1 c2 c3 c4 c5 c6 c7 c8 hb6 HSK HC hix
        go_wp2
        go_ret2
        exact ⟨by rw [HE.out]; rfl, HS6.out.bel⟩
    · obtain rfl : k = 4 := by omega
      have hkz : ¬ (4 : Int) < 4 := by omega
      rw [List.take_of_length_le (by omega)] at hall hlk hzk
      rw [List.take_of_length_le (by omega)]
      have hlok : listOk m.trans ∧ listOk m.states ∧ listOk m.enter ∧ listOk m.vars := by
        rw [← HLS.out] at hall
        exact ⟨hall _ (by simp), hall _ (by simp), hall _ (by simp), hall _ (by simp)⟩
      have HLOK := Lib.hid hlok
      have hfl : ls.flatMap listB = msgLists m := by rw [← HLS.out]; simp [msgLists]
      rw [hfl] at hzk ⊢
      clear hall hlk hlok hfl HIDX
      obtain ⟨c0, c1, c2, c3, c4, c5, c6, c7, c8⟩ := msg_cells hSk.box
      have hlt := hSk.box.lt
      have hw5 := u8_wrap_in (n5 : Int) (by omega) (by have := HHS.out; omega)
      have hrow5 := row_small wr (n5 : Int) (by omega) (by have := HHS.out; omega)
      have HROW5 := Lib.hid hrow5
      have happ5 : bs (msgHead m ++ msgLists m) ++ bs [smallB (n5 : Int)] = bs (msgHead m ++ msgLists m ++ [smallB (n5 : Int)]) := bs_ext (by simp [bs])
      have hz5 : (bs [smallB (n5 : Int)]).size = 1 := rfl
      have hz6 : (bs (msgHead m ++ msgLists m ++ [smallB (n5 : Int)])).size ≤ 227 := by rw [← happ5, ByteArray.size_append, hz5]; omega
      have HZ6 := Lib.hid hz6
      have HS5 := Lib.hid (hSk.alloc (.cells #[.int .u8 (n5 : Int)] 5))
      obtain ⟨q5, hq5⟩ : ∃ q5, bs [smallB (n5 : Int)] = q5 := ⟨_, rfl⟩
      rw [hq5] at happ5 hz5
      have HA5 := Lib.hid happ5
      have HQ5 := Lib.hid hq5
      clear hrow5 hSk hq5 happ5 hz6
      generalize bs (msgHead m ++ msgLists m) = t0 at *
      go_wp2_with (refine wpList_unbytes rfl (.tmp 87) 75 9 5 rfl Try.underlying75 Try.underlying5 Try.underlying9 wr.heap.size 1 1 [smallB (n5 : Int)] rfl rfl HROW5.out ?_; rw [show (⟨[smallB (n5 : Int)].toArray⟩ : ByteArray) = q5 from HQ5.out])
      rw [HA5.out]
      obtain ⟨o6, ho6⟩ : ∃ o6, msgHead m ++ msgLists m ++ [smallB (n5 : Int)] = o6 := ⟨_, rfl⟩
      have HO6 := Lib.hid ho6
      rw [ho6] at HZ6 ⊢
      clear ho6
      clear c0 c1 c2 c3 c4 c5 c6 c7 c8 hw5 HROW5 HA5 HQ5 hz5 hzk hlt
      have hn58 := HHS.out
      have HSK := Lib.hid HS5.out
      generalize hW5 : wr.alloc (.cells #[.int .u8 (n5 : Int)] 5) = W5 at *
      clear hW5 HS5
      -- the sets
      go_loopw [4, 8] (fun t i wr => ∃ k : Nat, k ≤ n5 ∧ i = .int .i64 (k : Int) ∧ t = .string (bs (o6 ++ (m.sets.take k).flatMap setB)) ∧ EncS w wr #[.int .i64 m.kind, .int .u64 (m.step : Int), .string m.event, .slice A1 n1 k1, .slice A2 n2 k2, .slice A3 n3 k3, .slice A4 n4 k4, .slice A5 n5 k5, .slice A6 n6 k6] ∧ (∀ x ∈ m.sets.take k, setOk x) ∧ ((m.sets.take k).flatMap setB).length ≤ k * 18) (fun _ i _ => n5 - (intOf i).toNat)
      case atStart => exact ⟨0, by omega, rfl, by simp, HSK.out, fun x hx => by simp at hx, by simp⟩
      case round =>
        obtain ⟨k, hk5, rfl, rfl, hSk, hall, hlk⟩ := hrel
        have hzk : (bs (o6 ++ (m.sets.take k).flatMap setB)).size ≤ 400 := by
          have := HZ6.out
          rw [bs_size] at this ⊢
          rw [List.length_append]
          omega
        obtain ⟨c0, c1, c2, c3, c4, c5, c6, c7, c8⟩ := msg_cells hSk.box
        have hlt := hSk.box.lt
        by_cases hk : k < n5
        · have hkz : (k : Int) < (n5 : Int) := by omega
          have hkl : k < m.sets.length := by have := HL5.out; omega
          obtain ⟨ad, rfl, hadM, e0, e1, e2, e3⟩ := HR5.out k hkl
          obtain ⟨x, hx⟩ : ∃ x, m.sets[k] = x := ⟨_, rfl⟩
          rw [hx] at e0 e1 e2 e3
          have hbl : (ad.add (k * 4)).block < w.heap.size := by rw [block_of_add]; exact hadM
          have hcl : ∀ o, wr.cell? { block := (ad.add (k * 4)).block, off := o } = w.cell? { block := (ad.add (k * 4)).block, off := o } := fun o => hSk.bel.cell (p := { block := (ad.add (k * 4)).block, off := o }) hbl
          have f0 := (hSk.bel.cell hbl).trans e0
          have f1 := (hcl _).trans e1
          have f2 := (hcl _).trans e2
          have f3 := (hcl _).trans e3
          have htake : m.sets.take (k + 1) = m.sets.take k ++ [x] := by rw [List.take_succ_eq_append_getElem hkl, hx]
          have hmem : x ∈ m.sets := by rw [← hx]; exact List.getElem_mem hkl
          have hSX := hSk.alloc (.cells #[.int .i64 x.var, .int .i64 x.kind, .int .i64 x.a, .int .i64 x.b] 111)
          have hXB : Blk (wr.alloc (.cells #[.int .i64 x.var, .int .i64 x.kind, .int .i64 x.a, .int .i64 x.b] 111)) wr.heap.size 111 #[.int .i64 x.var, .int .i64 x.kind, .int .i64 x.a, .int .i64 x.b] := Blk.new _ _ _
          have HSX := Lib.hid hSX
          have HXB := Lib.hid hXB
          have HALL := Lib.hid hall
          have HMEM := Lib.hid hmem
          have HLK := Lib.hid hlk
          have HT := Lib.hid htake
          have HTK := Lib.hid (show ∃ tk, tk = bs (o6 ++ (m.sets.take k).flatMap setB) from ⟨_, rfl⟩)
          clear e0 e1 e2 e3 hcl hbl hx htake hmem hSX hXB hall hlk hSk
          obtain ⟨tk, htk⟩ := HTK.out
          rw [← htk] at hzk ⊢
          have HTKE := Lib.hid htk
          clear htk HTK
          by_cases hq1 : 0 ≤ x.var
          case neg =>
            have HE := Lib.hid (encRes_no (m := m) (fun h => hq1 (h.sets x HMEM.out).1.1))
            have hq1z : x.var < 0 := by omega
            clear hq1
            go_wp2
            go_ret2
            exact ⟨by rw [HE.out]; rfl, HSX.out.bel⟩
          have hq1z : ¬ x.var < 0 := by omega
          by_cases hq2 : x.var ≤ 63
          case neg =>
            have HE := Lib.hid (encRes_no (m := m) (fun h => hq2 (h.sets x HMEM.out).1.2))
            have hq2z : 63 < x.var := by omega
            clear hq2
            go_wp2
            go_ret2
            exact ⟨by rw [HE.out]; rfl, HSX.out.bel⟩
          have hq2z : ¬ 63 < x.var := by omega
          by_cases hq3 : 1 ≤ x.kind
          case neg =>
            have HE := Lib.hid (encRes_no (m := m) (fun h => hq3 (h.sets x HMEM.out).2.1))
            have hq3z : x.kind < 1 := by omega
            clear hq3
            go_wp2
            go_ret2
            exact ⟨by rw [HE.out]; rfl, HSX.out.bel⟩
          have hq3z : ¬ x.kind < 1 := by omega
          by_cases hq4 : x.kind ≤ 3
          case neg =>
            have HE := Lib.hid (encRes_no (m := m) (fun h => hq4 (h.sets x HMEM.out).2.2))
            have hq4z : 3 < x.kind := by omega
            clear hq4
            go_wp2
            go_ret2
            exact ⟨by rw [HE.out]; rfl, HSX.out.bel⟩
          have hq4z : ¬ 3 < x.kind := by omega
          have HOK := Lib.hid (show setOk x from ⟨⟨by omega, by omega⟩, by omega, by omega⟩)
          have hwv := u8_wrap_in x.var (by omega) (by omega)
          have hwkk := u8_wrap_in x.kind (by omega) (by omega)
          have hwa := u64of_wrap x.a
          have hwb := u64of_wrap x.b
          have hv1 : byteVals [smallB x.var, smallB x.kind] = [.int .u8 x.var, .int .u8 x.kind] := by
            have h1 := small_val x.var (by omega) (by omega)
            have h2 := small_val x.kind (by omega) (by omega)
            simp only [byteVals, List.map_cons, List.map_nil] at h1 h2 ⊢
            injection h1 with h1
            injection h2 with h2
            rw [h1, h2]
          have hrun1 : ∀ (w : World) (g cap : Nat), Row w g 5 [.int .u8 x.var, .int .u8 x.kind] → Sem.run Try.prog (convert 75 9 (Value.slice (some ⟨g, 0, none⟩) 2 cap)) w = .ok (Value.string (bs [smallB x.var, smallB x.kind])) w := fun w g cap hrow => unbytes_run w g cap [smallB x.var, smallB x.kind] (by rw [hv1]; exact hrow)
          clear hv1
          have hea : ∀ w, Calls Try.prog 48 #[.int .u64 (u64of x.a : Int)] w fun e w' => e = .returned (.string (bs (le8 (u64of x.a)))) ∧ Below w.heap.size w w' := fun w => refEight_any (u64of x.a) w (u64of_lt _)
          have heb : ∀ w, Calls Try.prog 48 #[.int .u64 (u64of x.b : Int)] w fun e w' => e = .returned (.string (bs (le8 (u64of x.b)))) ∧ Below w.heap.size w w' := fun w => refEight_any (u64of x.b) w (u64of_lt _)
          have hset : tk ++ (bs [smallB x.var, smallB x.kind] ++ bs (le8 (u64of x.a)) ++ bs (le8 (u64of x.b))) = bs (o6 ++ (m.sets.take (k + 1)).flatMap setB) := by
            rw [HTKE.out, HT.out]
            exact bs_ext (by simp [bs, setB])
          have hz1 : (bs [smallB x.var, smallB x.kind]).size = 2 := rfl
          have hz8a : (bs (le8 (u64of x.a))).size = 8 := by rw [bs_size, le8_len]
          have hz8b : (bs (le8 (u64of x.b))).size = 8 := by rw [bs_size, le8_len]
          have hevl : ¬ 9223372036854775807 < tk.size + 18 := by omega
          generalize bs [smallB x.var, smallB x.kind] = b1 at *
          generalize bs (le8 (u64of x.a)) = ea at *
          generalize bs (le8 (u64of x.b)) = eb at *
          have HRUN1 := Lib.hid hrun1
          have HEA := Lib.hid hea
          have HEB := Lib.hid heb
          have HSET := Lib.hid hset
          clear hrun1 hea heb hset
          go_wp2_with fail
          have HX0 := Lib.hid (show EncS w (wr.alloc (.cells #[.int .i64 x.var, .int .i64 x.kind, .int .i64 x.a, .int .i64 x.b] 111)).drew #[.int .i64 m.kind, .int .u64 (m.step : Int), .string m.event, .slice A1 n1 k1, .slice A2 n2 k2, .slice A3 n3 k3, .slice A4 n4 k4, .slice (some ad) n5 k5, .slice A6 n6 k6] ∧ Blk (wr.alloc (.cells #[.int .i64 x.var, .int .i64 x.kind, .int .i64 x.a, .int .i64 x.b] 111)).drew wr.heap.size 111 #[.int .i64 x.var, .int .i64 x.kind, .int .i64 x.a, .int .i64 x.b] from ⟨HSX.out.drew, HXB.out.drew⟩)
          clear c0 c1 c2 c3 c4 c5 c6 c7 c8 f0 f1 f2 f3 hlt HSX HXB
          refine Reg.wp_chain_known 23 [(14, .string ea), (20, .string eb)] [(8, fun v w' => ∃ g, v = .slice (some ⟨g, 0, none⟩) 2 2 ∧ Row w' g 5 [.int .u8 x.var, .int .u8 x.kind]), (14, fun _ _ => True), (20, fun _ _ => True)] (fun w' => EncS w w' #[.int .i64 m.kind, .int .u64 (m.step : Int), .string m.event, .slice A1 n1 k1, .slice A2 n2 k2, .slice A3 n3 k3, .slice A4 n4 k4, .slice (some ad) n5 k5, .slice A6 n6 k6] ∧ Blk w' wr.heap.size 111 #[.int .i64 x.var, .int .i64 x.kind, .int .i64 x.a, .int .i64 x.b]) (fun w1 w' => Below w1.heap.size w1 w') (by kernel_rfl) (by kernel_rfl) (by kernel_rfl) (by kernel_rfl) (fun _ _ d _ _ h => by cases d <;> exact h) HX0.out ?_
          simp only [List.take_succ_cons, List.take_zero]
          iterate 8 (refine Reg.chain_plain rfl rfl ?_ ?_ ?_; rotate_left; (focus (intro w3 hI _; have s0 : w3.cell? ⟨wr.heap.size, 0, none⟩ = some (.int .i64 x.var) := hI.2.cell 0; have s1 : w3.cell? ⟨wr.heap.size, 1, none⟩ = some (.int .i64 x.kind) := hI.2.cell 1; have s2 : w3.cell? ⟨wr.heap.size, 2, none⟩ = some (.int .i64 x.a) := hI.2.cell 2; have s3 : w3.cell? ⟨wr.heap.size, 3, none⟩ = some (.int .i64 x.b) := hI.2.cell 3; go_simp; rfl)))
          simp only [Act.put, List.setIfInBounds_toArray, List.set_cons_succ, List.set_cons_zero]
          refine Reg.chain_eff rfl rfl (fun v w1 w2 hs ⟨g, e, hg⟩ => ⟨g, e, hg.below hs hg.lt⟩) (fun w1 hI _ K hK => ?_) (fun v => ?_)
          · go_simp
            refine hK (.slice (some ⟨w1.heap.size, 0, none⟩) 2 2) _ _ (by go_simp) ⟨w1.heap.size, rfl, Row.of_blk (Blk.new _ _ _)⟩ ⟨hI.1.alloc _, hI.2.alloc _⟩ ((Below.refl _ _).alloc (Nat.le_refl _) _)
          refine Reg.chain_plain rfl rfl (.string b1) (fun w3 hI hF => ?_) ?_
          · obtain ⟨g, rfl, hrow⟩ := hF _ (List.mem_singleton.2 rfl) (by kernel_rfl)
            have hr := HRUN1.out w3 g 2 hrow
            go_simp
          iterate 4 (refine Reg.chain_plain rfl rfl ?_ ?_ ?_; rotate_left; (focus (intro w3 hI _; have s0 : w3.cell? ⟨wr.heap.size, 0, none⟩ = some (.int .i64 x.var) := hI.2.cell 0; have s1 : w3.cell? ⟨wr.heap.size, 1, none⟩ = some (.int .i64 x.kind) := hI.2.cell 1; have s2 : w3.cell? ⟨wr.heap.size, 2, none⟩ = some (.int .i64 x.a) := hI.2.cell 2; have s3 : w3.cell? ⟨wr.heap.size, 3, none⟩ = some (.int .i64 x.b) := hI.2.cell 3; go_simp; rfl)))
          simp only [Act.put, List.setIfInBounds_toArray, List.set_cons_succ, List.set_cons_zero]
          refine Reg.chain_known (.string ea) rfl rfl rfl (fun _ _ _ _ _ => trivial) (fun w3 hI _ K hK => ?_) ?_
          · go_simp
            refine (HEA.out w3).mono ?_
            rintro e w4 ⟨rfl, hb4⟩
            exact hK _ _ (by go_simp) trivial ⟨hI.1.next hb4, hI.2.below hb4 hI.2.lt⟩ hb4
          iterate 5 (refine Reg.chain_plain rfl rfl ?_ ?_ ?_; rotate_left; (focus (intro w3 hI _; have s0 : w3.cell? ⟨wr.heap.size, 0, none⟩ = some (.int .i64 x.var) := hI.2.cell 0; have s1 : w3.cell? ⟨wr.heap.size, 1, none⟩ = some (.int .i64 x.kind) := hI.2.cell 1; have s2 : w3.cell? ⟨wr.heap.size, 2, none⟩ = some (.int .i64 x.a) := hI.2.cell 2; have s3 : w3.cell? ⟨wr.heap.size, 3, none⟩ = some (.int .i64 x.b) := hI.2.cell 3; go_simp; rfl)))
          simp only [Act.put, List.setIfInBounds_toArray, List.set_cons_succ, List.set_cons_zero]
          refine Reg.chain_known (.string eb) rfl rfl rfl (fun _ _ _ _ _ => trivial) (fun w3 hI _ K hK => ?_) ?_
          · go_simp
            refine (HEB.out w3).mono ?_
            rintro e w4 ⟨rfl, hb4⟩
            exact hK _ _ (by go_simp) trivial ⟨hI.1.next hb4, hI.2.below hb4 hI.2.lt⟩ hb4
          iterate 2 (refine Reg.chain_plain rfl rfl ?_ ?_ ?_; rotate_left; (focus (intro w3 hI _; go_simp; rfl)))
          simp only [Act.put, List.setIfInBounds_toArray, List.set_cons_succ, List.set_cons_zero]
          refine Reg.chain_end (fun w3 hI _ => ?_)
          simp only [List.drop_succ_cons, List.drop_zero]
          rw [HSET.out]
          have HS9 := Lib.hid hI.1
          clear hI HRUN1 HEA HEB HSET HX0 hz1 hz8a hz8b hevl hwv hwkk hwa hwb
          go_wp2
          go_roundw
          case rel => exact ⟨k + 1, by omega, by go_num, rfl, HS9.out, fun y hy => by
            rw [HT.out] at hy
            rcases List.mem_append.1 hy with hy | hy
            · exact HALL.out y hy
            · rw [List.mem_singleton.1 hy]; exact HOK.out, by
            rw [HT.out, List.flatMap_append, List.length_append]
            have := HLK.out
            simp only [List.flatMap_cons, List.flatMap_nil, List.append_nil, setB, List.length_cons, List.length_append, le8_len]
            omega⟩
          case measure => simp [intOf]; omega
        · obtain rfl : k = n5 := by omega
          have hkz : ¬ (k : Int) < (k : Int) := by omega
          have hl5 := HL5.out
          rw [List.take_of_length_le (by omega)] at hall hlk hzk
          rw [List.take_of_length_le (by omega)]
          have HSOK := Lib.hid hall
          clear hall hlk hl5
          have hw6 := u8_wrap_in (n6 : Int) (by omega) (by have := HHP.out; omega)
          have HROW6 := Lib.hid (row_small wr (n6 : Int) (by omega) (by have := HHP.out; omega))
          have happ6 : bs (o6 ++ m.sets.flatMap setB) ++ bs [smallB (n6 : Int)] = bs (o6 ++ m.sets.flatMap setB ++ [smallB (n6 : Int)]) := bs_ext (by simp [bs])
          have hz5 : (bs [smallB (n6 : Int)]).size = 1 := rfl
          have HZ7 := Lib.hid (show (bs (o6 ++ m.sets.flatMap setB ++ [smallB (n6 : Int)])).size ≤ 401 by rw [← happ6, ByteArray.size_append, hz5]; omega)
          have HS6 := Lib.hid (hSk.alloc (.cells #[.int .u8 (n6 : Int)] 5))
          obtain ⟨q5, hq5⟩ : ∃ q5, bs [smallB (n6 : Int)] = q5 := ⟨_, rfl⟩
          rw [hq5] at happ6 hz5
          have HA6 := Lib.hid happ6
          have HQ5 := Lib.hid hq5
          clear hSk hq5 happ6
          obtain ⟨o7, ho7⟩ : ∃ o7, o6 ++ m.sets.flatMap setB = o7 := ⟨_, rfl⟩
          have HO7 := Lib.hid ho7
          rw [ho7] at hzk HA6 HZ7 ⊢
          clear ho7
          obtain ⟨t0, ht0⟩ : ∃ t0, bs o7 = t0 := ⟨_, rfl⟩
          rw [ht0] at hzk HA6 ⊢
          clear ht0
          go_wp2_with (refine wpList_unbytes rfl (.tmp 150) 75 9 5 rfl Try.underlying75 Try.underlying5 Try.underlying9 wr.heap.size 1 1 [smallB (n6 : Int)] rfl rfl HROW6.out ?_; rw [show (⟨[smallB (n6 : Int)].toArray⟩ : ByteArray) = q5 from HQ5.out])
          rw [HA6.out]
          obtain ⟨o8, ho8⟩ : ∃ o8, o7 ++ [smallB (n6 : Int)] = o8 := ⟨_, rfl⟩
          have HO8 := Lib.hid ho8
          rw [ho8] at HZ7 ⊢
          clear ho8
          clear c0 c1 c2 c3 c4 c5 c6 c7 c8 hw6 HROW6 HA6 HQ5 hz5 hzk hlt
          have hn640 := HHP.out
          have HSK6 := Lib.hid HS6.out
          generalize hW6 : wr.alloc (.cells #[.int .u8 (n6 : Int)] 5) = W6 at *
          clear hW6 HS6
          -- the pasts
          go_loopw [4, 10] (fun t i wr => ∃ j : Nat, j ≤ n6 ∧ i = .int .i64 (j : Int) ∧ t = .string (bs (o8 ++ (m.pasts.take j).flatMap pastB)) ∧ EncS w wr #[.int .i64 m.kind, .int .u64 (m.step : Int), .string m.event, .slice A1 n1 k1, .slice A2 n2 k2, .slice A3 n3 k3, .slice A4 n4 k4, .slice A5 k k5, .slice A6 n6 k6] ∧ (∀ x ∈ m.pasts.take j, pastOk x) ∧ ((m.pasts.take j).flatMap pastB).length ≤ j * 50) (fun _ i _ => n6 - (intOf i).toNat)
          case atStart => exact ⟨0, by omega, rfl, by simp, HSK6.out, fun x hx => by simp at hx, by simp⟩
          case round =>
            obtain ⟨j, hj6, rfl, rfl, hSj, hallj, hlj⟩ := hrel
            have hzj : (bs (o8 ++ (m.pasts.take j).flatMap pastB)).size ≤ 2401 := by
              have := HZ7.out
              rw [bs_size] at this ⊢
              rw [List.length_append]
              omega
            obtain ⟨c0, c1, c2, c3, c4, c5, c6, c7, c8⟩ := msg_cells hSj.box
            have hlt := hSj.box.lt
            by_cases hj : j < n6
            · have hjz : (j : Int) < (n6 : Int) := by omega
              have hjl : j < m.pasts.length := by have := HL6.out; omega
              obtain ⟨ad, u, rfl, hadM, e0, e1, e2⟩ := HR6.out j hjl
              obtain ⟨x, hx⟩ : ∃ x, m.pasts[j] = x := ⟨_, rfl⟩
              rw [hx] at e0 e2
              obtain ⟨AA, nn, cc, rfl, hal, hbl2, hrd⟩ := e2
              have hbl : (ad.add (j * 2)).block < w.heap.size := by rw [block_of_add]; exact hadM
              have hcl : ∀ o, wr.cell? { block := (ad.add (j * 2)).block, off := o } = w.cell? { block := (ad.add (j * 2)).block, off := o } := fun o => hSj.bel.cell (p := { block := (ad.add (j * 2)).block, off := o }) hbl
              have f1 := (hcl _).trans e1
              have htake : m.pasts.take (j + 1) = m.pasts.take j ++ [x] := by rw [List.take_succ_eq_append_getElem hjl, hx]
              have hmem : x ∈ m.pasts := by rw [← hx]; exact List.getElem_mem hjl
              have hcon := refPlaces_any wr AA nn cc x.set hal ((hrd.below hSj.bel).more hSj.bel.size) hbl2
              have HC := Lib.hid hcon
              have HSJ := Lib.hid hSj
              have HALLJ := Lib.hid hallj
              have HMEM := Lib.hid hmem
              have HLJ := Lib.hid hlj
              have HT := Lib.hid htake
              have HE0 := Lib.hid e0
              have HBL := Lib.hid hbl
              obtain ⟨tj, htj⟩ : ∃ tj, tj = bs (o8 ++ (m.pasts.take j).flatMap pastB) := ⟨_, rfl⟩
              rw [← htj] at hzj ⊢
              have HTJ := Lib.hid htj
              clear e0 e1 hcl hbl hx htake hmem hcon hallj hlj hSj hrd htj hal hbl2 hadM
              go_wp2_with fail
              refine HC.out.mono ?_
              rintro e wp ⟨rfl, hbp⟩
              have hSP := HSJ.out.next hbp
              have f0 := (hSP.bel.cell HBL.out).trans HE0.out
              clear c0 c1 c2 c3 c4 c5 c6 c7 c8 f1 hlt
              obtain ⟨c0, c1, c2, c3, c4, c5, c6, c7, c8⟩ := msg_cells hSP.box
              have hlt := hSP.box.lt
              have HSP := Lib.hid hSP
              clear hbp hSP HSJ HC
              by_cases hok : listOk x.set
              case neg =>
                rw [show placesRes x.set = (⟨#[]⟩, false) by unfold placesRes; rw [if_neg hok]]
                have HE := Lib.hid (encRes_no (m := m) (fun h => hok (h.pasts x HMEM.out).2))
                clear hok
                go_wp2
                go_ret2
                exact ⟨by rw [HE.out]; rfl, HSP.out.bel⟩
              rw [show placesRes x.set = (bs (listB x.set), true) by unfold placesRes; rw [if_pos hok]]
              have hzs : (bs (listB x.set)).size ≤ 49 := by rw [bs_size, listB_len]; have := hok.1; omega
              have HLOKX := Lib.hid hok
              have HZS := Lib.hid hzs
              obtain ⟨tl, htl⟩ : ∃ tl, bs (listB x.set) = tl := ⟨_, rfl⟩
              rw [htl] at hzs ⊢
              have HTL := Lib.hid htl
              clear hok htl
              by_cases hq1 : 0 ≤ x.state
              case neg =>
                have HE := Lib.hid (encRes_no (m := m) (fun h => hq1 (h.pasts x HMEM.out).1.1))
                have hq1z : x.state < 0 := by omega
                clear hq1
                go_wp2
                go_ret2
                exact ⟨by rw [HE.out]; rfl, HSP.out.bel⟩
              have hq1z : ¬ x.state < 0 := by omega
              by_cases hq2 : x.state ≤ 63
              case neg =>
                have HE := Lib.hid (encRes_no (m := m) (fun h => hq2 (h.pasts x HMEM.out).1.2))
                have hq2z : 63 < x.state := by omega
                clear hq2
                go_wp2
                go_ret2
                exact ⟨by rw [HE.out]; rfl, HSP.out.bel⟩
              have hq2z : ¬ 63 < x.state := by omega
              have HPOK := Lib.hid (show pastOk x from ⟨⟨by omega, by omega⟩, HLOKX.out⟩)
              have hws := u8_wrap_in x.state (by omega) (by omega)
              have HROWS := Lib.hid (row_small wp x.state (by omega) (by omega))
              have hpast : tj ++ (bs [smallB x.state] ++ tl) = bs (o8 ++ (m.pasts.take (j + 1)).flatMap pastB) := by
                rw [HTJ.out, HT.out, ← HTL.out]
                exact bs_ext (by simp [bs, pastB])
              have hz5 : (bs [smallB x.state]).size = 1 := rfl
              obtain ⟨q5, hq5⟩ : ∃ q5, bs [smallB x.state] = q5 := ⟨_, rfl⟩
              rw [hq5] at hpast hz5
              have HPAST := Lib.hid hpast
              have HQ5 := Lib.hid hq5
              have hevl : ¬ 9223372036854775807 < tj.size + (1 + tl.size) := by omega
              clear hpast hq5
              go_wp2_with (refine wpList_unbytes rfl (.tmp 198) 75 9 5 rfl Try.underlying75 Try.underlying5 Try.underlying9 wp.heap.size 1 1 [smallB x.state] rfl rfl HROWS.out ?_; rw [show (⟨[smallB x.state].toArray⟩ : ByteArray) = q5 from HQ5.out])
              go_roundw
              case rel => exact ⟨j + 1, by omega, by go_num, by rw [← HPAST.out], HSP.out.alloc _, fun y hy => by
                rw [HT.out] at hy
                rcases List.mem_append.1 hy with hy | hy
                · exact HALLJ.out y hy
                · rw [List.mem_singleton.1 hy]; exact HPOK.out, by
                rw [HT.out, List.flatMap_append, List.length_append]
                have := HLJ.out
                have := HZS.out
                rw [bs_size] at this
                simp only [List.flatMap_cons, List.flatMap_nil, List.append_nil, pastB, List.length_cons]
                omega⟩
              case measure => simp [intOf]; omega
            · obtain rfl : j = n6 := by omega
              have hjz : ¬ (j : Int) < (j : Int) := by omega
              have hl6 := HL6.out
              rw [List.take_of_length_le (by omega)] at hallj hlj hzj
              rw [List.take_of_length_le (by omega)]
              have hmok : m.Ok := ⟨HKIND.out.1, HKIND.out.2, he20, HLOK.out.1, HLOK.out.2.1, HLOK.out.2.2.1, HLOK.out.2.2.2, by have := HL5.out; have := HHS.out; omega, HSOK.out, by have := HHP.out; omega, hallj⟩
              have hmB : o8 ++ m.pasts.flatMap pastB = msgB m := by
                rw [← HO8.out, ← HO7.out, ← HO6.out, ← HL6.out, ← HL5.out]
                simp [msgB]
              rw [hmB] at hzj ⊢
              have HMOK := Lib.hid hmok
              have HSJ := Lib.hid hSj
              have hbsz := bs_size (msgB m)
              have HBSZ := Lib.hid hbsz
              clear hallj hlj hmok hmB hl6 hSj hbsz
              by_cases hlong : 800 < (msgB m).length
              · have HE := Lib.hid (show encRes m = (⟨#[]⟩, 4) by unfold encRes; rw [if_pos HMOK.out, if_pos hlong])
                have hlz : (800 : Int) < ((bs (msgB m)).size : Int) := by rw [HBSZ.out]; omega
                clear hlong
                generalize bs (msgB m) = tt at *
                go_wp2
                go_ret2
                exact ⟨by rw [HE.out]; rfl, HSJ.out.bel⟩
              · have HE := Lib.hid (encRes_eq m HMOK.out (by omega))
                have hlz : ¬ (800 : Int) < ((bs (msgB m)).size : Int) := by rw [HBSZ.out]; omega
                clear hlong
                generalize bs (msgB m) = tt at *
                go_wp2
                go_ret2
                exact ⟨by rw [HE.out]; rfl, HSJ.out.bel⟩
end Go.Proofs.Ytgacphicgglogaa
