/- The document's wire: 'Decode'. Printed by mk_refdec.py. -/
import Derived.Test.YtgacphicgglogaaWireRO
import Derived.Test.YtgacphicgglogaaWireV
import Derived.Deep.CutRange
namespace Go.Proofs.Ytgacphicgglogaa
open Go.RowKit Crc
set_option linter.unusedVariables false

/-- The document's Decode under way: the result's cells at M, the reader at M + 1, the message at M + 2. -/
structure DeS (w wr : World) (M : Nat) (cs : Array Value) (o : Option ByteArray) : Prop where
  bel : Below M w wr
  res : Blk wr M 54 zeroC
  rs : RS wr (M + 1) o
  box : Blk wr (M + 2) 54 cs
  sz : M + 3 ≤ wr.heap.size
section
variable {w wr w' : World} {M : Nat} {cs : Array Value} {o o' : Option ByteArray}
theorem DeS.touch {S : Nat → Prop} (h : DeS w wr M cs o) (ht : Touch S wr w') (hS : ∀ k, S k → M + 3 ≤ k) : DeS w w' M cs o :=
  ⟨h.bel.trans (ht.below (by have := h.sz; omega) (fun k hk => by have := hS k hk; omega)), ht.blk h.res (fun e => by have := hS _ e; omega), h.rs.touch ht (fun e => by have := hS _ e; omega), ht.blk h.box (fun e => by have := hS _ e; omega), Nat.le_trans h.sz ht.size⟩
theorem DeS.read (h : DeS w wr M cs o) (ht : Touch (fun k => k = M + 1) wr w') (hr : RS w' (M + 1) o') : DeS w w' M cs o' :=
  ⟨h.bel.trans (ht.below (by have := h.sz; omega) (fun k hk => by omega)), ht.blk h.res (by omega), hr, ht.blk h.box (by omega), Nat.le_trans h.sz ht.size⟩
theorem DeS.put (h : DeS w wr M cs o) (i : Nat) (u : Value) : DeS w (wr.setCell ⟨M + 2, i, none⟩ u) M (cs.setIfInBounds i u) o := by
  have ht := Touch.of_set (w := wr) (S := fun k => k = M + 2) ⟨M + 2, i, none⟩ u rfl
  exact ⟨h.bel.trans (ht.below (by have := h.sz; omega) (fun k hk => by omega)), ht.blk h.res (by omega), h.rs.touch ht (by omega), h.box.set_ i u, Nat.le_trans h.sz ht.size⟩
theorem de_small (h : DeS w wr M cs o) (most : Nat) (hm : most ≤ 255) : Calls Try.prog 58 #[.pointer (some ⟨M + 1, 0, none⟩), .int .i64 (most : Int)] wr fun e w' => ∃ n : Nat, e = .returned (.int .i64 (n : Int)) ∧ ∃ o', DeS w w' M cs o' ∧ SmallO o most n o' ∧ Touch (fun k => k = M + 1) wr w' :=
  (refSmall_any wr (M + 1) o h.rs most hm).mono fun e w' ⟨n, he, o', h1, h2, h3, _⟩ => ⟨n, he, o', h.read h3 h1, h2, h3⟩
theorem de_take (h : DeS w wr M cs o) (n : Nat) (hn : n ≤ 1000) : Calls Try.prog 60 #[.pointer (some ⟨M + 1, 0, none⟩), .int .i64 (n : Int)] wr fun e w' => ∃ x, e = .returned (.string x) ∧ ∃ o', DeS w w' M cs o' ∧ TakeO o n x o' ∧ Touch (fun k => k = M + 1) wr w' :=
  (refTake_any wr (M + 1) o h.rs n hn).mono fun e w' ⟨n, he, o', h1, h2, h3, _⟩ => ⟨n, he, o', h.read h3 h1, h2, h3⟩
theorem de_list (h : DeS w wr M cs o) : Calls Try.prog 61 #[.pointer (some ⟨M + 1, 0, none⟩)] wr fun e w' => ∃ v, e = .returned v ∧ ∃ (l : List Int) (o' : Option ByteArray), DeS w w' M cs o' ∧ ListO o l o' ∧ Touch (fun k => k = M + 1) wr w' ∧ w'.ownsRow wr.heap.size 3 1 v l.length (intV l) :=
  (refList_any wr (M + 1) o h.rs).mono fun e w' ⟨v, he, l, o', h1, h2, h3, h4⟩ => ⟨v, he, l, o', h.read h3 h1, h2, h3, h4⟩
theorem DeS.bad (h : DeS w wr M cs o) : ∃ b, wr.cell? ⟨M + 1, 1, none⟩ = some (.bool b) ∧ wr.frozen? ⟨M + 1, 1, none⟩ = false ∧ (b = true → o = none) := by
  obtain ⟨t, b, hb, _, ho⟩ := h.rs
  exact ⟨b, hb.cell 1, hb.frozen 1, fun e => by rw [ho, e]; rfl⟩
/-- 'r.bad = r.bad || k == 0'. -/
theorem DeS.mark (h : DeS w wr M cs o) (kk : Nat) : ∃ b, wr.cell? ⟨M + 1, 1, none⟩ = some (.bool b) ∧ wr.frozen? ⟨M + 1, 1, none⟩ = false ∧ M + 1 < wr.heap.size ∧ DeS w (wr.setCell ⟨M + 1, 1, none⟩ (.bool (b || decide (kk = 0)))) M cs (if kk = 0 then none else o) ∧ Touch (fun k => k = M + 1) wr (wr.setCell ⟨M + 1, 1, none⟩ (.bool (b || decide (kk = 0)))) := by
  obtain ⟨t, b, hb, ht, ho⟩ := h.rs
  have hts := Touch.of_set (w := wr) (S := fun k => k = M + 1) ⟨M + 1, 1, none⟩ (.bool (b || decide (kk = 0))) rfl
  refine ⟨b, hb.cell 1, hb.frozen 1, hb.lt, h.read hts ⟨t, b || decide (kk = 0), hb.set_ 1 _, ht, ?_⟩, hts⟩
  rw [ho]
  by_cases h0 : kk = 0
  · rw [if_pos h0, decide_eq_true h0, Bool.or_true]; rfl
  · rw [if_neg h0, decide_eq_false h0, Bool.or_false]

theorem num8_lt {x : ByteArray} (h : x.size ≤ 8) : numL x.data.toList < 18446744073709551616 := Nat.lt_of_lt_of_le (numL_lt _) (Nat.pow_le_pow_right (n := 256) (by omega) (show x.data.toList.length ≤ 8 by simpa using h))
/-- Rows that lie in blocks lo .. hi - 1. -/
structure Rw where
  e : TypeId
  size : Nat
  v : Value
  n : Nat
  xs : List Value
def KR (w : World) (lo hi : Nat) (rows : List Rw) : Prop := ∀ r ∈ rows, w.ownsRow lo r.e r.size r.v r.n r.xs ∧ ∀ k, r.v.ownBlock = some k → k < hi
theorem KR.nil (w : World) (lo hi : Nat) : KR w lo hi [] := fun r hr => by cases hr
theorem KR.touch {S : Nat → Prop} {lo hi : Nat} {rows : List Rw} (h : KR w lo hi rows) (ht : Touch S w w') (hS : ∀ k, S k → k < lo ∨ hi ≤ k) : KR w' lo hi rows := fun r hr =>
  ⟨ht.own (h r hr).1 (fun k hk e => by
    have h1 := ((h r hr).1.lt k hk).1
    have h2 := (h r hr).2 k hk
    rcases hS k e with h3 | h3 <;> omega), (h r hr).2⟩
theorem KR.more {lo hi hi' : Nat} {rows : List Rw} (h : KR w lo hi rows) (h2 : hi ≤ hi') : KR w lo hi' rows := fun r hr => ⟨(h r hr).1, fun k hk => Nat.lt_of_lt_of_le ((h r hr).2 k hk) h2⟩
theorem own_less {lo lo' e size n : Nat} {v : Value} {xs : List Value} (h : w.ownsRow lo e size v n xs) (hl : lo' ≤ lo) : w.ownsRow lo' e size v n xs := by
  refine ⟨h.1, ?_⟩
  rcases h.2 with h3 | ⟨g, cap, cur, h3, h4, h5⟩
  · exact .inl h3
  · exact .inr ⟨g, cap, cur, h3, Nat.le_trans hl h4, h5⟩
theorem KR.cons {lo hi : Nat} {rows : List Rw} {r : Rw} (h : KR w lo hi rows) {b : Nat} (ho : w.ownsRow b r.e r.size r.v r.n r.xs) (hb : lo ≤ b) (hi' : ∀ k, r.v.ownBlock = some k → k < hi) : KR w lo hi (r :: rows) := fun x hx => by
  rcases List.mem_cons.1 hx with rfl | hx
  · exact ⟨own_less ho hb, hi'⟩
  · exact h x hx
theorem KR.ki {lo hi : Nat} {rows : List Rw} (h : KR w lo hi rows) {v : Value} {l : List Int} (hm : (⟨3, 1, v, l.length, intV l⟩ : Rw) ∈ rows) : KI w lo hi v l := h _ hm
end


set_option pp.deepTerms true in
set_option pp.maxSteps 100000 in
set_option maxHeartbeats 16000000 in
set_option maxRecDepth 100000 in
theorem refDecode_any (w : World) (s : ByteArray) : Calls Try.prog 37 #[.string s] w fun e w' => ∃ v, e = .returned (.tuple #[v, .int .i64 (decRes s).2]) ∧ MsgOwn w' w.heap.size v (decRes s).1 ∧ Below w.heap.size w w' := by
  have hz54 : ∀ w, (zeroValue 54).run Try.prog w = .ok (.agg #[.int .i64 0, .int .u64 0, .string ⟨#[]⟩, .slice none 0 0, .slice none 0 0, .slice none 0 0, .slice none 0 0, .slice none 0 0, .slice none 0 0]) w := fun _ => by kernel_rfl
  obtain ⟨ji, hji0, hjx0, hjx1, hjx2⟩ := info_parts set_info
  obtain ⟨pi, hpi0, hpx0, hpx1, hpx2⟩ := info_parts past_info
  by_cases hlong : 800 < s.size
  · have hz : (800 : Int) < (s.size : Int) := by omega
    have HD := Lib.hid (show decRes s = (.zero, 4) by unfold decRes; rw [if_pos hlong])
    clear hlong
    go_enter Try.func37, Try.ntmps37
    go_wp2
    refine bodyPost_ret (results_msg2 rfl _ _ w.heap.size _ _ _ _ _ _ _ _ _ rfl (Blk.new w _ _)) rfl ?_
    rw [HD.out]
    exact ⟨_, rfl, fun W _ _ => msgAt_zero W, (Below.refl _ _).alloc (Nat.le_refl _) _⟩
  have hz : ¬ (800 : Int) < (s.size : Int) := by omega
  have HDR := Lib.hid (show decRes s = match readR s with | none => (.zero, 1) | some m => (m, 0) by unfold decRes; rw [if_neg hlong]; cases readR s <;> rfl)
  obtain ⟨M, hM⟩ : ∃ M, w.heap.size = M := ⟨_, rfl⟩
  have HS0 := Lib.hid (show Below M w ((w.alloc (.cells #[.int .i64 0, .int .u64 0, .string ⟨#[]⟩, .slice none 0 0, .slice none 0 0, .slice none 0 0, .slice none 0 0, .slice none 0 0, .slice none 0 0] 54)).alloc (.cells #[.string s, .bool false] 118)) ∧ Blk ((w.alloc (.cells #[.int .i64 0, .int .u64 0, .string ⟨#[]⟩, .slice none 0 0, .slice none 0 0, .slice none 0 0, .slice none 0 0, .slice none 0 0, .slice none 0 0] 54)).alloc (.cells #[.string s, .bool false] 118)) M 54 zeroC ∧ RS ((w.alloc (.cells #[.int .i64 0, .int .u64 0, .string ⟨#[]⟩, .slice none 0 0, .slice none 0 0, .slice none 0 0, .slice none 0 0, .slice none 0 0, .slice none 0 0] 54)).alloc (.cells #[.string s, .bool false] 118)) (M + 1) (some s) ∧ ((w.alloc (.cells #[.int .i64 0, .int .u64 0, .string ⟨#[]⟩, .slice none 0 0, .slice none 0 0, .slice none 0 0, .slice none 0 0, .slice none 0 0, .slice none 0 0] 54)).alloc (.cells #[.string s, .bool false] 118)).heap.size = M + 2 by
    subst hM
    have h2 := Blk.new (w.alloc (.cells zeroC 54)) 118 #[.string s, .bool false]
    rw [World.size_alloc] at h2
    exact ⟨((Below.refl _ _).alloc (Nat.le_refl _) _).alloc (by rw [World.size_alloc]; omega) _, (Blk.new w _ _).alloc _, ⟨s, false, h2, by omega, rfl⟩, by simp only [World.size_alloc]⟩)
  have HM := Lib.hid hM
  clear hlong
  go_enter Try.func37, Try.ntmps37
  go_wp2_with fail
  clear hM
  generalize (w.alloc (.cells #[.int .i64 0, .int .u64 0, .string ⟨#[]⟩, .slice none 0 0, .slice none 0 0, .slice none 0 0, .slice none 0 0, .slice none 0 0, .slice none 0 0] 54)).alloc (.cells #[.string s, .bool false] 118) = W0 at *
  refine (refSmall_any W0 (M + 1) (some s) HS0.out.2.2.1 9 (by omega)).mono ?_
  rintro e W1 ⟨kind, rfl, o1, hrs1, hsm1, ht1, hsz1⟩
  rw [HS0.out.2.2.2] at hsz1
  have HRD := Lib.hid (st_kind hsm1)
  obtain ⟨T, hT⟩ : ∃ T, o1.bind (rdStep (m00 kind)) = T := ⟨_, rfl⟩
  rw [hT] at HRD
  have HT1 := Lib.hid hT
  have hal := Touch.of_below (S := fun _ => False) ((Below.refl W1.heap.size W1).alloc (Nat.le_refl _) (.cells #[.int .i64 (kind : Int), .int .u64 0, .string ⟨#[]⟩, .slice none 0 0, .slice none 0 0, .slice none 0 0, .slice none 0 0, .slice none 0 0, .slice none 0 0] 54))
  have hS2 : DeS w (W1.alloc (.cells #[.int .i64 (kind : Int), .int .u64 0, .string ⟨#[]⟩, .slice none 0 0, .slice none 0 0, .slice none 0 0, .slice none 0 0, .slice none 0 0, .slice none 0 0] 54)) M #[.int .i64 (kind : Int), .int .u64 0, .string ⟨#[]⟩, .slice none 0 0, .slice none 0 0, .slice none 0 0, .slice none 0 0, .slice none 0 0, .slice none 0 0] o1 := by
    have hb := Blk.new W1 54 #[.int .i64 (kind : Int), .int .u64 0, .string ⟨#[]⟩, .slice none 0 0, .slice none 0 0, .slice none 0 0, .slice none 0 0, .slice none 0 0, .slice none 0 0]
    rw [hsz1] at hb
    have h3 := HS0.out.2.2.2
    exact ⟨(HS0.out.1.trans (ht1.below (by omega) (fun k hk => by omega))).trans (hal.below (by omega) (fun k hk => hk.elim)), hal.blk (ht1.blk HS0.out.2.1 (by omega)) (fun h => h), hrs1.touch hal (fun h => h), hb, by rw [World.size_alloc]; omega⟩
  have HS2 := Lib.hid hS2
  clear hrs1 hsm1 ht1 hT hal hS2 HS0
  go_wp2_with fail
  clear hsz1
  generalize W1.alloc (.cells #[.int .i64 (kind : Int), .int .u64 0, .string ⟨#[]⟩, .slice none 0 0, .slice none 0 0, .slice none 0 0, .slice none 0 0, .slice none 0 0, .slice none 0 0] 54) = W2 at *
  -- the step
  refine (de_take HS2.out 8 (by omega)).mono ?_
  rintro e W3 ⟨x, rfl, o2, hS3, htk, -⟩
  have hx8 : x.size ≤ 8 := htk.1
  have HT2 := Lib.hid ((st_step _ htk).trans HT1.out)
  have HS3 := Lib.hid hS3
  clear hS3 htk HT1 HS2
  go_wp2_with fail
  refine (refNumber_any x W3 hx8).mono ?_
  rintro e W3' ⟨rfl, rfl⟩
  have hst : numL x.data.toList < 18446744073709551616 := Nat.lt_of_lt_of_le (numL_lt _) (Nat.pow_le_pow_right (n := 256) (by omega) (show x.data.toList.length ≤ 8 by simpa using hx8))
  obtain ⟨step, hstep⟩ : ∃ step, numL x.data.toList = step := ⟨_, rfl⟩
  rw [hstep] at hst HT2 ⊢
  have HX8 := Lib.hid hx8
  clear hstep hx8

  obtain ⟨x0, x1, x2, x3, x4, x5, x6, x7, x8⟩ := msg_cells HS3.out.box
  have hfz := HS3.out.box.frozen 1
  have hlt := HS3.out.box.lt
  have HS4 : Hid (DeS w (W3.setCell ⟨M + 2, 1, none⟩ (.int .u64 (step : Int))) M #[.int .i64 (kind : Int), .int .u64 (step : Int), .string ⟨#[]⟩, .slice none 0 0, .slice none 0 0, .slice none 0 0, .slice none 0 0, .slice none 0 0, .slice none 0 0] o2) := Lib.hid (HS3.out.put 1 _)
  clear HS3
  go_wp2_with fail
  clear x0 x1 x2 x3 x4 x5 x6 x7 x8 hfz hlt
  generalize W3.setCell ⟨M + 2, 1, none⟩ (.int .u64 (step : Int)) = W4 at *
  -- the event
  refine (de_small HS4.out 20 (by omega)).mono ?_
  rintro e W5 ⟨ne, rfl, o3, hS5, hsm5, -⟩
  have HS5 := Lib.hid hS5
  have HSM5 := Lib.hid hsm5
  clear hS5 hsm5 HS4
  go_wp2_with fail
  refine (de_take HS5.out ne (by have := HSM5.out.1; omega)).mono ?_
  rintro e W6 ⟨ev, rfl, o4, hS6, htk6, -⟩
  have HT3 := Lib.hid ((st_event _ HSM5.out htk6).trans HT2.out)
  have HEV := Lib.hid (show ev.size ≤ 20 from Nat.le_trans htk6.1 HSM5.out.1)
  have HS6 := Lib.hid hS6
  clear hS6 htk6 HSM5 HS5 HT2

  obtain ⟨x0, x1, x2, x3, x4, x5, x6, x7, x8⟩ := msg_cells HS6.out.box
  have hfz := HS6.out.box.frozen 2
  have hlt := HS6.out.box.lt
  have HS7 : Hid (DeS w (W6.setCell ⟨M + 2, 2, none⟩ (.string ev)) M #[.int .i64 (kind : Int), .int .u64 (step : Int), .string ev, .slice none 0 0, .slice none 0 0, .slice none 0 0, .slice none 0 0, .slice none 0 0, .slice none 0 0] o4) := Lib.hid (HS6.out.put 2 _)
  have HR7 : Hid (KR (W6.setCell ⟨M + 2, 2, none⟩ (.string ev)) (M + 3) (W6.setCell ⟨M + 2, 2, none⟩ (.string ev)).heap.size []) := Lib.hid (KR.nil _ _ _)
  clear HS6
  go_wp2_with fail
  clear x0 x1 x2 x3 x4 x5 x6 x7 x8 hfz hlt
  generalize W6.setCell ⟨M + 2, 2, none⟩ (.string ev) = W7 at *

  -- list 3
  refine (de_list HS7.out).mono ?_
  rintro e Wa3 ⟨v3, rfl, l3, o5, hSa, hli, hta, hown⟩
  have HT4 := Lib.hid ((st_trans _ hli).trans HT3.out)
  obtain ⟨A3, c3, hv⟩ := own_form hown
  subst hv
  have hRa : KR Wa3 (M + 3) Wa3.heap.size [⟨3, 1, .slice A3 l3.length c3, l3.length, intV l3⟩] := ((HR7.out.touch hta (fun k hk => by omega)).more hta.size).cons hown HS7.out.sz (fun k hk => (hown.lt k hk).2)
  have HSa := Lib.hid hSa
  have HRa := Lib.hid hRa
  clear hSa hli hta hown hRa HS7 HR7 HT3

  obtain ⟨x0, x1, x2, x3, x4, x5, x6, x7, x8⟩ := msg_cells HSa.out.box
  have hfz := HSa.out.box.frozen 3
  have hlt := HSa.out.box.lt
  have hts := Touch.of_set (w := Wa3) (S := fun k => k = M + 2) ⟨M + 2, 3, none⟩ (.slice A3 l3.length c3) rfl
  have HS8 : Hid (DeS w (Wa3.setCell ⟨M + 2, 3, none⟩ (.slice A3 l3.length c3)) M #[.int .i64 (kind : Int), .int .u64 (step : Int), .string ev, .slice A3 l3.length c3, .slice none 0 0, .slice none 0 0, .slice none 0 0, .slice none 0 0, .slice none 0 0] o5) := Lib.hid (HSa.out.put 3 _)
  have HR8 := Lib.hid ((HRa.out.touch hts (fun k hk => by omega)).more hts.size)
  clear HSa HRa hts
  go_wp2_with fail
  clear x0 x1 x2 x3 x4 x5 x6 x7 x8 hfz hlt
  generalize Wa3.setCell ⟨M + 2, 3, none⟩ (.slice A3 l3.length c3) = W8 at *

  -- list 4
  refine (de_list HS8.out).mono ?_
  rintro e Wa4 ⟨v4, rfl, l4, o6, hSa, hli, hta, hown⟩
  have HT5 := Lib.hid ((st_states _ hli).trans HT4.out)
  obtain ⟨A4, c4, hv⟩ := own_form hown
  subst hv
  have hRa : KR Wa4 (M + 3) Wa4.heap.size [⟨3, 1, .slice A4 l4.length c4, l4.length, intV l4⟩, ⟨3, 1, .slice A3 l3.length c3, l3.length, intV l3⟩] := ((HR8.out.touch hta (fun k hk => by omega)).more hta.size).cons hown HS8.out.sz (fun k hk => (hown.lt k hk).2)
  have HSa := Lib.hid hSa
  have HRa := Lib.hid hRa
  clear hSa hli hta hown hRa HS8 HR8 HT4

  obtain ⟨x0, x1, x2, x3, x4, x5, x6, x7, x8⟩ := msg_cells HSa.out.box
  have hfz := HSa.out.box.frozen 4
  have hlt := HSa.out.box.lt
  have hts := Touch.of_set (w := Wa4) (S := fun k => k = M + 2) ⟨M + 2, 4, none⟩ (.slice A4 l4.length c4) rfl
  have HS9 : Hid (DeS w (Wa4.setCell ⟨M + 2, 4, none⟩ (.slice A4 l4.length c4)) M #[.int .i64 (kind : Int), .int .u64 (step : Int), .string ev, .slice A3 l3.length c3, .slice A4 l4.length c4, .slice none 0 0, .slice none 0 0, .slice none 0 0, .slice none 0 0] o6) := Lib.hid (HSa.out.put 4 _)
  have HR9 := Lib.hid ((HRa.out.touch hts (fun k hk => by omega)).more hts.size)
  clear HSa HRa hts
  go_wp2_with fail
  clear x0 x1 x2 x3 x4 x5 x6 x7 x8 hfz hlt
  generalize Wa4.setCell ⟨M + 2, 4, none⟩ (.slice A4 l4.length c4) = W9 at *

  -- list 5
  refine (de_list HS9.out).mono ?_
  rintro e Wa5 ⟨v5, rfl, l5, o7, hSa, hli, hta, hown⟩
  have HT6 := Lib.hid ((st_enter _ hli).trans HT5.out)
  obtain ⟨A5, c5, hv⟩ := own_form hown
  subst hv
  have hRa : KR Wa5 (M + 3) Wa5.heap.size [⟨3, 1, .slice A5 l5.length c5, l5.length, intV l5⟩, ⟨3, 1, .slice A4 l4.length c4, l4.length, intV l4⟩, ⟨3, 1, .slice A3 l3.length c3, l3.length, intV l3⟩] := ((HR9.out.touch hta (fun k hk => by omega)).more hta.size).cons hown HS9.out.sz (fun k hk => (hown.lt k hk).2)
  have HSa := Lib.hid hSa
  have HRa := Lib.hid hRa
  clear hSa hli hta hown hRa HS9 HR9 HT5

  obtain ⟨x0, x1, x2, x3, x4, x5, x6, x7, x8⟩ := msg_cells HSa.out.box
  have hfz := HSa.out.box.frozen 5
  have hlt := HSa.out.box.lt
  have hts := Touch.of_set (w := Wa5) (S := fun k => k = M + 2) ⟨M + 2, 5, none⟩ (.slice A5 l5.length c5) rfl
  have HS10 : Hid (DeS w (Wa5.setCell ⟨M + 2, 5, none⟩ (.slice A5 l5.length c5)) M #[.int .i64 (kind : Int), .int .u64 (step : Int), .string ev, .slice A3 l3.length c3, .slice A4 l4.length c4, .slice A5 l5.length c5, .slice none 0 0, .slice none 0 0, .slice none 0 0] o7) := Lib.hid (HSa.out.put 5 _)
  have HR10 := Lib.hid ((HRa.out.touch hts (fun k hk => by omega)).more hts.size)
  clear HSa HRa hts
  go_wp2_with fail
  clear x0 x1 x2 x3 x4 x5 x6 x7 x8 hfz hlt
  generalize Wa5.setCell ⟨M + 2, 5, none⟩ (.slice A5 l5.length c5) = W10 at *

  -- list 6
  refine (de_list HS10.out).mono ?_
  rintro e Wa6 ⟨v6, rfl, l6, o8, hSa, hli, hta, hown⟩
  have HT7 := Lib.hid ((st_vars _ hli).trans HT6.out)
  obtain ⟨A6, c6, hv⟩ := own_form hown
  subst hv
  have hRa : KR Wa6 (M + 3) Wa6.heap.size [⟨3, 1, .slice A6 l6.length c6, l6.length, intV l6⟩, ⟨3, 1, .slice A5 l5.length c5, l5.length, intV l5⟩, ⟨3, 1, .slice A4 l4.length c4, l4.length, intV l4⟩, ⟨3, 1, .slice A3 l3.length c3, l3.length, intV l3⟩] := ((HR10.out.touch hta (fun k hk => by omega)).more hta.size).cons hown HS10.out.sz (fun k hk => (hown.lt k hk).2)
  have HSa := Lib.hid hSa
  have HRa := Lib.hid hRa
  clear hSa hli hta hown hRa HS10 HR10 HT6

  obtain ⟨x0, x1, x2, x3, x4, x5, x6, x7, x8⟩ := msg_cells HSa.out.box
  have hfz := HSa.out.box.frozen 6
  have hlt := HSa.out.box.lt
  have hts := Touch.of_set (w := Wa6) (S := fun k => k = M + 2) ⟨M + 2, 6, none⟩ (.slice A6 l6.length c6) rfl
  have HS11 : Hid (DeS w (Wa6.setCell ⟨M + 2, 6, none⟩ (.slice A6 l6.length c6)) M #[.int .i64 (kind : Int), .int .u64 (step : Int), .string ev, .slice A3 l3.length c3, .slice A4 l4.length c4, .slice A5 l5.length c5, .slice A6 l6.length c6, .slice none 0 0, .slice none 0 0] o8) := Lib.hid (HSa.out.put 6 _)
  have HR11 := Lib.hid ((HRa.out.touch hts (fun k hk => by omega)).more hts.size)
  clear HSa HRa hts
  go_wp2_with fail
  clear x0 x1 x2 x3 x4 x5 x6 x7 x8 hfz hlt
  generalize Wa6.setCell ⟨M + 2, 6, none⟩ (.slice A6 l6.length c6) = W11 at *

  -- the sets
  refine (de_small HS11.out 8 (by omega)).mono ?_
  rintro e W12 ⟨ns, rfl, o9, hS12, hsm12, ht12⟩
  have hns : ns ≤ 8 := hsm12.1
  have HT8 := Lib.hid ((st_sets _ hsm12).trans HT7.out)
  have HS12 := Lib.hid hS12
  have HR12 := Lib.hid ((HR11.out.touch ht12 (fun k hk => by omega)).more ht12.size)
  clear hS12 hsm12 ht12 HS11 HR11 HT7
  obtain ⟨H, hH⟩ : ∃ H, W12.heap.size = H := ⟨_, rfl⟩
  rw [hH] at HR12
  have hH12 : H ≤ W12.heap.size := by omega
  have hHM : M + 3 ≤ H := by have := HS12.out.sz; omega
  clear hH
  have HT8' : Hid (SetsO ⟨(kind : Int), step, ev, l3, l4, l5, l6, [], []⟩ ns 0 [] o9 = T) := HT8
  clear HT8
  go_wp2_with fail
  go_loopg [7] ns (fun g v wr => ∃ (k : Nat) (acc : List SetL) (o : Option ByteArray) (sv : Value), k + g = ns ∧ v = .int .i64 (k : Int) ∧ DeS w wr M #[.int .i64 (kind : Int), .int .u64 (step : Int), .string ev, .slice A3 l3.length c3, .slice A4 l4.length c4, .slice A5 l5.length c5, .slice A6 l6.length c6, sv, .slice none 0 0] o ∧ wr.ownsRow H 111 4 sv acc.length (setsV acc) ∧ acc.length = k ∧ SetsO ⟨(kind : Int), step, ev, l3, l4, l5, l6, [], []⟩ ns k acc o = T ∧ (∀ x ∈ acc, x.wf) ∧ H ≤ wr.heap.size ∧ KR wr (M + 3) H [⟨3, 1, .slice A6 l6.length c6, l6.length, intV l6⟩, ⟨3, 1, .slice A5 l5.length c5, l5.length, intV l5⟩, ⟨3, 1, .slice A4 l4.length c4, l4.length, intV l4⟩, ⟨3, 1, .slice A3 l3.length c3, l3.length, intV l3⟩])
  case atStart => exact ⟨0, [], o9, .slice none 0 0, by omega, rfl, HS12.out, World.ownsRow_nil _ _ _ _, rfl, HT8'.out, (fun x hx => by cases hx), hH12, HR12.out⟩
  case round =>
    obtain ⟨k, acc, o, sv, hkg, rfl, hS, hown, hacc, hso, hwf, hHw, hkr⟩ := hrel
    obtain ⟨b, hcb, hfb, hbo⟩ := hS.bad
    have hplt : M + 1 < wr.heap.size := by have := hS.sz; omega
    have HS := Lib.hid hS
    have HOWN := Lib.hid hown
    have HACC := Lib.hid hacc
    have HSO := Lib.hid hso
    have HWF := Lib.hid hwf
    have HKR := Lib.hid hkr
    have HBO := Lib.hid hbo
    clear hS hown hacc hso hwf hkr hbo HT8' HS12 HR12 hH12
    go_upto_region 13 with fail
    go_cut [53] from 44 to 93 (fun c wx => c = .bool (decide (k < ns) && !b) ∧ wx = wr)
    case first =>
      by_cases hk : k < ns
      · have hkz : (k : Int) < (ns : Int) := by omega
        cases b with
        | true =>
          go_wp2
          go_meet
          case rel => exact ⟨by rw [decide_eq_true hk]; rfl, rfl⟩
        | false =>
          go_wp2
          go_meet
          case rel => exact ⟨by rw [decide_eq_true hk]; rfl, rfl⟩
      · have hkz : ¬ (k : Int) < (ns : Int) := by omega
        go_wp2
        go_meet
        case rel => exact ⟨by rw [decide_eq_false hk]; rfl, rfl⟩
    case rest =>
      obtain ⟨rfl, rfl⟩ := hcut
      cases hgo : (decide (k < ns) && !b)
      case true =>
        have hk : k < ns := by
          rw [Bool.and_eq_true] at hgo
          exact of_decide_eq_true hgo.1
        clear hgo hcb hfb HBO
        obtain ⟨As, cs', hsv⟩ := own_form HOWN.out
        subst hsv
        go_wp2_with fail
        refine (de_small HS.out 63 (by omega)).mono ?_
        rintro e Wa ⟨vv, rfl, oa, hSa, hsma, hta⟩
        have hal := Touch.of_below (S := fun _ => False) ((Below.refl Wa.heap.size Wa).alloc (Nat.le_refl _) (.cells #[.int .i64 (vv : Int), .int .i64 0, .int .i64 0, .int .i64 0] 111))
        have HX0 := Lib.hid (Blk.new Wa 111 #[.int .i64 (vv : Int), .int .i64 0, .int .i64 0, .int .i64 0])
        have HSX := Lib.hid (hSa.touch hal (fun j h => h.elim))
        have HTX := Lib.hid (show Touch (fun j => j = M + 1 ∨ j = Wa.heap.size) wc _ from (hta.more (fun j h => .inl h)).trans hal (fun j h => h.elim))
        have hXw : wc.heap.size ≤ Wa.heap.size := hta.size
        have hXM : M + 3 ≤ Wa.heap.size := hSa.sz
        have hXH : H ≤ Wa.heap.size := by omega
        have HSMA := Lib.hid hsma
        clear hSa hsma hta hal
        go_wp2_with fail
        generalize Wa.alloc (.cells #[.int .i64 (vv : Int), .int .i64 0, .int .i64 0, .int .i64 0] 111) = WX at *
        generalize Wa.heap.size = X at *
        refine (de_small HSX.out 3 (by omega)).mono ?_
        rintro e WY ⟨kk, rfl, ob, hSY, hsmb, htb⟩
        have hBY := htb.blk HX0.out (by omega)
        have hc1 := hBY.cell 1
        have hz1 := hBY.frozen 1
        change WY.cell? ⟨X, 1, none⟩ = some (.int .i64 0) at hc1
        have hts := Touch.of_set (w := WY) (S := fun j => j = X) ⟨X, 1, none⟩ (.int .i64 (kk : Int)) rfl
        have HSZ := Lib.hid (hSY.touch hts (fun j h => by omega))
        have HBZ : Hid (Blk (WY.setCell ⟨X, 1, none⟩ (.int .i64 (kk : Int))) X 111 #[.int .i64 (vv : Int), .int .i64 (kk : Int), .int .i64 0, .int .i64 0]) := Lib.hid (hBY.set_ 1 _)
        have HTZ := Lib.hid ((HTX.out.trans htb (fun j h => .inl (.inl h))).trans hts (fun j h => .inl (.inr h)))
        have HSMB := Lib.hid hsmb
        have hlX := hBY.lt
        clear hSY hsmb htb hBY hts HSX HTX HX0
        go_upto_region 17 with fail
        clear hc1 hz1 hlX
        generalize WY.setCell ⟨X, 1, none⟩ (.int .i64 (kk : Int)) = WZ at *
        obtain ⟨b2, hm1, hm2, hm3, hSm, htm⟩ := HSZ.out.mark kk
        have hcX : WZ.cell? ⟨X, 1, none⟩ = some (.int .i64 (kk : Int)) := HBZ.out.cell 1
        have HSm := Lib.hid hSm
        have HBm := Lib.hid (htm.blk HBZ.out (by omega))
        have HTm := Lib.hid (HTZ.out.trans htm (fun j h => .inl (.inl h)))
        clear hSm htm HSZ HBZ HTZ
        go_cut [] from 44 to 93 (fun wx => wx = WZ.setCell ⟨M + 1, 1, none⟩ (.bool (b2 || decide (kk = 0))))
        case first =>
          cases b2 with
          | true =>
            go_wp2
            go_meet
            case rel => rfl
          | false =>
            by_cases h0 : kk = 0
            · subst h0
              go_wp2
              go_meet
              case rel => rfl
            · have h0b : ((kk : Int) == 0) = false := beq_eq_false_iff_ne.2 (by omega)
              have hzz := decide_eq_false h0
              clear h0
              go_wp2
              go_meet
              case rel => rw [hzz]; rfl
        case rest =>
          subst hcut
          clear hm1 hm2 hm3 hcX
          generalize WZ.setCell ⟨M + 1, 1, none⟩ (.bool (b2 || decide (kk = 0))) = WM at *
          go_wp2_with fail
          refine (de_take HSm.out 8 (by omega)).mono ?_
          rintro e Wc ⟨xa, rfl, oc, hSc, htkc, htc⟩
          have hxa8 : xa.size ≤ 8 := htkc.1
          have HBc := Lib.hid (htc.blk HBm.out (by omega))
          have HTc := Lib.hid (HTm.out.trans htc (fun j h => .inl (.inl h)))
          have HTKC := Lib.hid htkc
          have HSc := Lib.hid hSc
          clear hSc htkc htc HSm HBm HTm
          go_wp2_with fail
          refine (refNumber_any xa Wc hxa8).mono ?_
          rintro e Wc' ⟨rfl, rfl⟩
          have hgal := num8_lt hxa8
          obtain ⟨ga, hga⟩ : ∃ ga, numL xa.data.toList = ga := ⟨_, rfl⟩
          rw [hga] at hgal ⊢
          have HGA := Lib.hid hga
          have hwa := i64of_wrap ga hgal
          have hc2 : Wc.cell? ⟨X, 2, none⟩ = some (.int .i64 0) := HBc.out.cell 2
          have hz2 := HBc.out.frozen 2
          have hlX := HBc.out.lt
          have hts := Touch.of_set (w := Wc) (S := fun j => j = X) ⟨X, 2, none⟩ (.int .i64 (i64of ga)) rfl
          have HSd := Lib.hid (HSc.out.touch hts (fun j h => by omega))
          have HBd : Hid (Blk (Wc.setCell ⟨X, 2, none⟩ (.int .i64 (i64of ga))) X 111 #[.int .i64 (vv : Int), .int .i64 (kk : Int), .int .i64 (i64of ga), .int .i64 0]) := Lib.hid (HBc.out.set_ 2 _)
          have HTd := Lib.hid (HTc.out.trans hts (fun j h => .inl (.inr h)))
          clear hga hts HSc HBc HTc
          go_wp2_with fail
          clear hc2 hz2 hlX
          generalize Wc.setCell ⟨X, 2, none⟩ (.int .i64 (i64of ga)) = Wd at *
          refine (de_take HSd.out 8 (by omega)).mono ?_
          rintro e We ⟨xb, rfl, od, hSe, htke, hte⟩
          have hxb8 : xb.size ≤ 8 := htke.1
          have HBe := Lib.hid (hte.blk HBd.out (by omega))
          have HTe := Lib.hid (HTd.out.trans hte (fun j h => .inl (.inl h)))
          have HSe := Lib.hid hSe
          have HSET := Lib.hid ((st_set (acc := acc) _ hk HSMA.out HSMB.out HTKC.out htke).trans HSO.out)
          clear hSe htke hte HSd HBd HTd HSMA HSMB HTKC HSO
          go_wp2_with fail
          refine (refNumber_any xb We hxb8).mono ?_
          rintro e We' ⟨rfl, rfl⟩
          have hgbl := num8_lt hxb8
          obtain ⟨gb, hgb⟩ : ∃ gb, numL xb.data.toList = gb := ⟨_, rfl⟩
          rw [HGA.out, hgb] at HSET
          rw [hgb] at hgbl ⊢
          have hwb := i64of_wrap gb hgbl
          have hc3 : We.cell? ⟨X, 3, none⟩ = some (.int .i64 0) := HBe.out.cell 3
          have hz3 := HBe.out.frozen 3
          have hlX := HBe.out.lt
          have hts := Touch.of_set (w := We) (S := fun j => j = X) ⟨X, 3, none⟩ (.int .i64 (i64of gb)) rfl
          have HSf := Lib.hid (HSe.out.touch hts (fun j h => by omega))
          have HBf : Hid (Blk (We.setCell ⟨X, 3, none⟩ (.int .i64 (i64of gb))) X 111 #[.int .i64 (vv : Int), .int .i64 (kk : Int), .int .i64 (i64of ga), .int .i64 (i64of gb)]) := Lib.hid (HBe.out.set_ 3 _)
          have HTf := Lib.hid (HTe.out.trans hts (fun j h => .inl (.inr h)))
          clear hgb hts HSe HBe HTe
          go_upto_region 20 with fail
          clear hc3 hz3 hlX
          generalize We.setCell ⟨X, 3, none⟩ (.int .i64 (i64of gb)) = Wf at *
          have hm7 : Wf.cell? ⟨M + 2, 7, none⟩ = some (.slice As acc.length cs') := HSf.out.box.cell 7
          have hd0 : Wf.cell? ⟨X, 0, none⟩ = some (.int .i64 (vv : Int)) := HBf.out.cell 0
          have hd1 : Wf.cell? ⟨X, 1, none⟩ = some (.int .i64 (kk : Int)) := HBf.out.cell 1
          have hd2 : Wf.cell? ⟨X, 2, none⟩ = some (.int .i64 (i64of ga)) := HBf.out.cell 2
          have hd3 : Wf.cell? ⟨X, 3, none⟩ = some (.int .i64 (i64of gb)) := HBf.out.cell 3
          have hownF := HTf.out.own HOWN.out (fun j hj => by
            have h1 := (HOWN.out.lt j hj).1
            have h2 := (HOWN.out.lt j hj).2
            show ¬ (j = M + 1 ∨ j = X)
            omega)
          have hrx : Reads (Wf.alloc (.cells #[.int .i64 (vv : Int), .int .i64 (kk : Int), .int .i64 (i64of ga), .int .i64 (i64of gb)] 111)) (Wf.heap.size + 1) 4 (some ⟨Wf.heap.size, 0, none⟩) 1 (setV ⟨(vv : Int), (kk : Int), i64of ga, i64of gb⟩) :=
            ⟨rfl, fun _ => ⟨_, rfl, Nat.lt_succ_self _, fun j u hu => cells_new Wf [.int .i64 (vv : Int), .int .i64 (kk : Int), .int .i64 (i64of ga), .int .i64 (i64of gb)] _ j u hu⟩⟩
          have hone : ∀ u ∈ setV ⟨(vv : Int), (kk : Int), i64of ga, i64of gb⟩, u.oneCell' = true := fun u hu => by
            simp only [setV, List.mem_cons, List.not_mem_nil, or_false] at hu
            rcases hu with rfl | rfl | rfl | rfl <;> rfl
          have hHWf : H ≤ Wf.heap.size := by have := HTf.out.size; omega
          rw [HACC.out] at hownF hm7
          have hkns : k < 8 := by omega
          go_wp2_with (at_builtin; refine wpList_append_any _ rfl _ _ 51 rfl H 111 ji _ 4 32 Try.underlying51 hji0 hjx0 hjx1 hjx2 rfl (by decide) _ _ _ rfl (hownF.alloc _) _ (some ⟨Wf.heap.size, 0, none⟩) 1 1 _ rfl hrx hone ?c3 ?c4 ?c5 ?_)
          case c3 => unfold maxLen; omega
          case c4 => omega
          case c5 => rw [World.size_alloc]; omega
          intro v' Wg hown3 hg3 hbl
          obtain ⟨ht3, hbl3⟩ := touch_app hg3 hbl
          have hlow : ∀ j, (Value.slice As k cs').ownBlock = some j → H ≤ j := fun j hj => (hownF.lt j hj).1
          have hTall : Touch (fun j => j = M + 1 ∨ j = X ∨ (Value.slice As k cs').ownBlock = some j) wc Wg := (HTf.out.more (fun j h => h.elim .inl (fun h => .inr (.inl h)))).trans ht3 (fun j h => .inl (.inr (.inr h)))
          have hSf' := HSf.out
          rw [HACC.out] at hSf'
          have hSg := hSf'.touch ht3 (fun j h => by have := hlow j h; omega)
          have hc7 : Wg.cell? ⟨M + 2, 7, none⟩ = some (.slice As k cs') := hSg.box.cell 7
          have hz7 := hSg.box.frozen 7
          have hlg := hSg.box.lt
          have hTs := Touch.of_set (w := Wg) (S := fun j => j = M + 2) ⟨M + 2, 7, none⟩ v' rfl
          have HSh : Hid (DeS w (Wg.setCell ⟨M + 2, 7, none⟩ v') M #[.int .i64 (kind : Int), .int .u64 (step : Int), .string ev, .slice A3 l3.length c3, .slice A4 l4.length c4, .slice A5 l5.length c5, .slice A6 l6.length c6, v', .slice none 0 0] od) := Lib.hid (hSg.put 7 v')
          have HOWH := Lib.hid (show (Wg.setCell ⟨M + 2, 7, none⟩ v').ownsRow H 111 4 v' (acc ++ [(⟨(vv : Int), (kk : Int), i64of ga, i64of gb⟩ : SetL)]).length (setsV (acc ++ [(⟨(vv : Int), (kk : Int), i64of ga, i64of gb⟩ : SetL)])) by
            have := hTs.own hown3 (fun j hj e => by have := (hown3.lt j hj).1; omega)
            rw [List.length_append, HACC.out]
            simpa [setsV] using this)
          have HJJ := Lib.hid ((HKR.out.touch hTall (fun j h => by
            rcases h with h | h | h
            · omega
            · exact .inr (by omega)
            · exact .inr (hlow j h))).touch hTs (fun j h => by omega))
          have HSZ2 := Lib.hid (show H ≤ (Wg.setCell ⟨M + 2, 7, none⟩ v').heap.size by
            have h1 := hTall.size
            rw [World.size_setCell]
            omega)
          have HWF2 := Lib.hid (show ∀ x ∈ acc ++ [(⟨(vv : Int), (kk : Int), i64of ga, i64of gb⟩ : SetL)], x.wf from fun x hx => by
            rcases List.mem_append.1 hx with hx | hx
            · exact HWF.out x hx
            · obtain rfl := List.mem_singleton.1 hx
              exact ⟨i64of_in ga hgal, i64of_in gb hgbl⟩)
          obtain ⟨A', c', hA'⟩ := own_form hown3
          subst hA'
          clear hown3 hg3 hbl ht3 hbl3 hrx hone hownF hlow hTall hSf' hSg hTs hd0 hd1 hd2 hd3 hm7 HSf HBf HTf
          go_wp2
          obtain ⟨g', rfl⟩ : ∃ g', gk = g' + 1 := ⟨gk - 1, by omega⟩
          go_roundg g'
          case measure => omega
          case rel => exact ⟨k + 1, acc ++ [(⟨(vv : Int), (kk : Int), i64of ga, i64of gb⟩ : SetL)], od, _, by omega, by go_num, HSh.out, HOWH.out, by rw [List.length_append, HACC.out]; rfl, HSET.out, HWF2.out, HSZ2.out, HJJ.out⟩
      case false =>
        have HT9 := Lib.hid (show o.bind (rdPasts ⟨(kind : Int), step, ev, l3, l4, l5, l6, acc, []⟩) = T by
          by_cases hk : k < ns
          · have hb : b = true := by
              rw [decide_eq_true hk] at hgo
              simpa using hgo
            obtain rfl := HBO.out hb
            exact HSO.out
          · obtain rfl : k = ns := by omega
            rw [← HSO.out]
            exact st_setsEnd ⟨(kind : Int), step, ev, l3, l4, l5, l6, [], []⟩)
        clear hgo hcb hfb HBO HSO
        obtain ⟨As, cs', hsv⟩ := own_form HOWN.out
        subst hsv
        go_wp2_with fail
        refine (de_small HS.out 40 (by omega)).mono ?_
        rintro e W13 ⟨np, rfl, o10, hS13, hsm13, ht13⟩
        have hnp : np ≤ 40 := hsm13.1
        have HT10 : Hid (PastsO ⟨(kind : Int), step, ev, l3, l4, l5, l6, acc, []⟩ np 0 [] o10 = T) := Lib.hid ((st_pasts _ hsm13).trans HT9.out)
        have HS13 := Lib.hid hS13
        have hown13 := ht13.own HOWN.out (fun j hj e => by have := (HOWN.out.lt j hj).1; omega)
        have HR13 := Lib.hid (((HKR.out.touch ht13 (fun j hj => by omega)).more (show H ≤ W13.heap.size by have := ht13.size; omega)).cons (r := ⟨111, 4, .slice As acc.length cs', acc.length, setsV acc⟩) hown13 hHM (fun j hj => (hown13.lt j hj).2))
        clear hS13 hsm13 ht13 hown13 HS HOWN HKR HT9 hplt hHw
        go_wp2_with fail
        obtain ⟨H2, hH2⟩ : ∃ H2, W13.heap.size = H2 := ⟨_, rfl⟩
        rw [hH2] at HR13
        have hH13 : H2 ≤ W13.heap.size := by omega
        have hH2M : M + 3 ≤ H2 := by have := HS13.out.sz; omega
        clear hH2
        go_loopg [9] np (fun g v wr => ∃ (k2 : Nat) (ps : List (PastL × Value)) (o : Option ByteArray) (pv : Value), k2 + g = np ∧ v = .int .i64 (k2 : Int) ∧ DeS w wr M #[.int .i64 (kind : Int), .int .u64 (step : Int), .string ev, .slice A3 l3.length c3, .slice A4 l4.length c4, .slice A5 l5.length c5, .slice A6 l6.length c6, .slice As acc.length cs', pv] o ∧ wr.ownsRow H2 113 2 pv ps.length (pastsV ps) ∧ ps.length = k2 ∧ PastsO ⟨(kind : Int), step, ev, l3, l4, l5, l6, acc, []⟩ np k2 (ps.map (·.1)) o = T ∧ H2 ≤ wr.heap.size ∧ (∀ x ∈ ps, KI wr H2 wr.heap.size x.2 x.1.set) ∧ KR wr (M + 3) H2 (⟨111, 4, .slice As acc.length cs', acc.length, setsV acc⟩ :: [⟨3, 1, .slice A6 l6.length c6, l6.length, intV l6⟩, ⟨3, 1, .slice A5 l5.length c5, l5.length, intV l5⟩, ⟨3, 1, .slice A4 l4.length c4, l4.length, intV l4⟩, ⟨3, 1, .slice A3 l3.length c3, l3.length, intV l3⟩]))
        case atStart => exact ⟨0, [], o10, .slice none 0 0, by omega, rfl, HS13.out, World.ownsRow_nil _ _ _ _, rfl, HT10.out, hH13, (fun x hx => by cases hx), HR13.out⟩
        case round =>
          obtain ⟨k2, ps, o, pv, hkg2, rfl, hS, hown, hps, hpo, hHw2, hin, hkr⟩ := hrel
          obtain ⟨b, hcb, hfb, hbo⟩ := hS.bad
          have hplt : M + 1 < wr.heap.size := by have := hS.sz; omega
          have HS := Lib.hid hS
          have HOWN := Lib.hid hown
          have HPS := Lib.hid hps
          have HPO := Lib.hid hpo
          have HIN := Lib.hid hin
          have HKR := Lib.hid hkr
          have HBO := Lib.hid hbo
          clear hS hown hps hpo hin hkr hbo HT10 HS13 HR13 hH13
          go_upto_region 23 with fail
          go_cut [105] from 96 to 119 (fun c wx => c = .bool (decide (k2 < np) && !b) ∧ wx = wr)
          case first =>
            by_cases hk : k2 < np
            · have hkz : (k2 : Int) < (np : Int) := by omega
              cases b with
              | true =>
                go_wp2
                go_meet
                case rel => exact ⟨by rw [decide_eq_true hk]; rfl, rfl⟩
              | false =>
                go_wp2
                go_meet
                case rel => exact ⟨by rw [decide_eq_true hk]; rfl, rfl⟩
            · have hkz : ¬ (k2 : Int) < (np : Int) := by omega
              go_wp2
              go_meet
              case rel => exact ⟨by rw [decide_eq_false hk]; rfl, rfl⟩
          case rest =>
            obtain ⟨rfl, rfl⟩ := hcut
            cases hgo : (decide (k2 < np) && !b)
            case true =>
              have hk : k2 < np := by
                rw [Bool.and_eq_true] at hgo
                exact of_decide_eq_true hgo.1
              clear hgo hcb hfb HBO
              obtain ⟨Ap, cp, hpv⟩ := own_form HOWN.out
              subst hpv
              go_wp2_with fail
              refine (de_small HS.out 63 (by omega)).mono ?_
              rintro e Wa ⟨vv, rfl, oa, hSa, hsma, hta⟩
              have hal := Touch.of_below (S := fun _ => False) ((Below.refl Wa.heap.size Wa).alloc (Nat.le_refl _) (.cells #[.int .i64 (vv : Int), .slice none 0 0] 113))
              have HX0 := Lib.hid (Blk.new Wa 113 #[.int .i64 (vv : Int), .slice none 0 0])
              have HSX := Lib.hid (hSa.touch hal (fun j h => h.elim))
              have HTX := Lib.hid (show Touch (fun j => j = M + 1 ∨ j = Wa.heap.size) wc _ from (hta.more (fun j h => .inl h)).trans hal (fun j h => h.elim))
              have hXw : wc.heap.size ≤ Wa.heap.size := hta.size
              have hXM : M + 3 ≤ Wa.heap.size := hSa.sz
              have hXH : H2 ≤ Wa.heap.size := by omega
              have hXl : Wa.heap.size < (Wa.alloc (.cells #[.int .i64 (vv : Int), .slice none 0 0] 113)).heap.size := by rw [World.size_alloc]; omega
              have HSMA := Lib.hid hsma
              clear hSa hsma hta hal
              go_wp2_with fail
              have HXL := Lib.hid hXl
              clear hXl
              generalize Wa.alloc (.cells #[.int .i64 (vv : Int), .slice none 0 0] 113) = WX at *
              generalize Wa.heap.size = X at *
              refine (de_list HSX.out).mono ?_
              rintro e WY ⟨lv, rfl, l, ob, hSY, hli, htb, hol⟩
              obtain ⟨Al, cl, hlv⟩ := own_form hol
              subst hlv
              have hBY := htb.blk HX0.out (by omega)
              have hc1 := hBY.cell 1
              have hz1 := hBY.frozen 1
              change WY.cell? ⟨X, 1, none⟩ = some (.slice none 0 0) at hc1
              have hts := Touch.of_set (w := WY) (S := fun j => j = X) ⟨X, 1, none⟩ (.slice Al l.length cl) rfl
              have HSZ := Lib.hid (hSY.touch hts (fun j h => by omega))
              have HBZ : Hid (Blk (WY.setCell ⟨X, 1, none⟩ (.slice Al l.length cl)) X 113 #[.int .i64 (vv : Int), .slice Al l.length cl]) := Lib.hid (hBY.set_ 1 _)
              have HTZ := Lib.hid ((HTX.out.trans htb (fun j h => .inl (.inl h))).trans hts (fun j h => .inl (.inr h)))
              have HPAST := Lib.hid ((st_past (acc := ps.map (·.1)) _ hk HSMA.out hli).trans HPO.out)
              have HKI := Lib.hid (show KI (WY.setCell ⟨X, 1, none⟩ (.slice Al l.length cl)) WX.heap.size (WY.setCell ⟨X, 1, none⟩ (.slice Al l.length cl)).heap.size (.slice Al l.length cl) l from ((KI.of_own hol).touch hts (fun j hj => .inl (by have := HXL.out; omega))).more (Nat.le_refl _) hts.size)
              have hlX := hBY.lt
              have HXLs := Lib.hid (show wc.heap.size ≤ WX.heap.size by have := HXL.out; omega)
              clear hSY hli htb hol hBY hts HSX HTX HX0 HSMA HPO
              go_upto_region 27 with fail
              clear hc1 hz1 hlX
              generalize WY.setCell ⟨X, 1, none⟩ (.slice Al l.length cl) = Wf at *
              have hm8 : Wf.cell? ⟨M + 2, 8, none⟩ = some (.slice Ap ps.length cp) := HSZ.out.box.cell 8
              have hd0 : Wf.cell? ⟨X, 0, none⟩ = some (.int .i64 (vv : Int)) := HBZ.out.cell 0
              have hd1 : Wf.cell? ⟨X, 1, none⟩ = some (.slice Al l.length cl) := HBZ.out.cell 1
              have hownF := HTZ.out.own HOWN.out (fun j hj => by
                have h1 := (HOWN.out.lt j hj).1
                have h2 := (HOWN.out.lt j hj).2
                show ¬ (j = M + 1 ∨ j = X)
                omega)
              have hrx : Reads (Wf.alloc (.cells #[.int .i64 (vv : Int), .slice Al l.length cl] 113)) (Wf.heap.size + 1) 2 (some ⟨Wf.heap.size, 0, none⟩) 1 [.int .i64 (vv : Int), .slice Al l.length cl] :=
                ⟨rfl, fun _ => ⟨_, rfl, Nat.lt_succ_self _, fun j u hu => cells_new Wf [.int .i64 (vv : Int), .slice Al l.length cl] _ j u hu⟩⟩
              have hone : ∀ u ∈ [Value.int .i64 (vv : Int), .slice Al l.length cl], u.oneCell' = true := fun u hu => by
                simp only [List.mem_cons, List.not_mem_nil, or_false] at hu
                rcases hu with rfl | rfl <;> rfl
              have hHWf : H2 ≤ Wf.heap.size := by have := HTZ.out.size; omega
              rw [HPS.out] at hownF hm8
              have hkns : k2 < 40 := by omega
              go_wp2_with (at_builtin; refine wpList_append_any _ rfl _ _ 52 rfl H2 113 pi _ 2 32 Try.underlying52 hpi0 hpx0 hpx1 hpx2 rfl (by decide) _ _ _ rfl (hownF.alloc _) _ (some ⟨Wf.heap.size, 0, none⟩) 1 1 _ rfl hrx hone ?c3 ?c4 ?c5 ?_)
              case c3 => unfold maxLen; omega
              case c4 => omega
              case c5 => rw [World.size_alloc]; omega
              intro v' Wg hown3 hg3 hbl
              obtain ⟨ht3, hbl3⟩ := touch_app hg3 hbl
              have hlow : ∀ j, (Value.slice Ap k2 cp).ownBlock = some j → H2 ≤ j ∧ j < wc.heap.size := fun j hj => by
                have h0 := HOWN.out
                rw [HPS.out] at h0
                exact h0.lt j hj
              have hTall : Touch (fun j => j = M + 1 ∨ j = X ∨ (Value.slice Ap k2 cp).ownBlock = some j) wc Wg := (HTZ.out.more (fun j h => h.elim .inl (fun h => .inr (.inl h)))).trans ht3 (fun j h => .inl (.inr (.inr h)))
              have hSf' := HSZ.out
              rw [HPS.out] at hSf'
              have hSg := hSf'.touch ht3 (fun j h => by have := (hlow j h).1; omega)
              have hc8 : Wg.cell? ⟨M + 2, 8, none⟩ = some (.slice Ap k2 cp) := hSg.box.cell 8
              have hz8 := hSg.box.frozen 8
              have hlg := hSg.box.lt
              have hTs := Touch.of_set (w := Wg) (S := fun j => j = M + 2) ⟨M + 2, 8, none⟩ v' rfl
              have HSh : Hid (DeS w (Wg.setCell ⟨M + 2, 8, none⟩ v') M #[.int .i64 (kind : Int), .int .u64 (step : Int), .string ev, .slice A3 l3.length c3, .slice A4 l4.length c4, .slice A5 l5.length c5, .slice A6 l6.length c6, .slice As acc.length cs', v'] ob) := Lib.hid (hSg.put 8 v')
              have HOWH := Lib.hid (show (Wg.setCell ⟨M + 2, 8, none⟩ v').ownsRow H2 113 2 v' (ps ++ [((⟨(vv : Int), l⟩ : PastL), Value.slice Al l.length cl)]).length (pastsV (ps ++ [((⟨(vv : Int), l⟩ : PastL), Value.slice Al l.length cl)])) by
                have := hTs.own hown3 (fun j hj e => by have := (hown3.lt j hj).1; omega)
                rw [List.length_append, HPS.out]
                simpa [pastsV] using this)
              have HJJ := Lib.hid ((HKR.out.touch hTall (fun j h => by
                rcases h with h | h | h
                · omega
                · exact .inr (by omega)
                · exact .inr (hlow j h).1)).touch hTs (fun j h => by omega))
              have HSZ2 := Lib.hid (show H2 ≤ (Wg.setCell ⟨M + 2, 8, none⟩ v').heap.size by
                have h1 := hTall.size
                rw [World.size_setCell]
                omega)
              have HPAST2 := Lib.hid (show PastsO ⟨(kind : Int), step, ev, l3, l4, l5, l6, acc, []⟩ np (k2 + 1) ((ps ++ [((⟨(vv : Int), l⟩ : PastL), Value.slice Al l.length cl)]).map (·.1)) ob = T by
                rw [List.map_append]
                exact HPAST.out)
              have HIN2 := Lib.hid (show ∀ x ∈ ps ++ [((⟨(vv : Int), l⟩ : PastL), Value.slice Al l.length cl)], KI (Wg.setCell ⟨M + 2, 8, none⟩ v') H2 (Wg.setCell ⟨M + 2, 8, none⟩ v').heap.size x.2 x.1.set from fun x hx => by
                rcases List.mem_append.1 hx with hx | hx
                · have h := HIN.out x hx
                  have h0 := HOWN.out
                  rw [HPS.out] at h0
                  refine ⟨hTs.own (hTall.own h.1 (fun j hj e => ?_)) (fun j hj e => by have := (h.1.lt j hj).1; omega), fun j hj => by have h1 := h.2 j hj; have h2 := hTall.size; rw [World.size_setCell]; omega⟩
                  rcases e with e | e | e
                  · have := (h.1.lt j hj).1
                    omega
                  · have := h.2 j hj
                    omega
                  · exact own_own_ne h0 h.1 (by decide) j e hj
                · obtain rfl := List.mem_singleton.1 hx
                  refine (((HKI.out.touch ht3 (fun j hj => .inl ?_)).touch hTs (fun j hj => .inl ?_)).more ?_ ?_)
                  · have h1 := (hlow j hj).2
                    have h2 := HXLs.out
                    omega
                  · have h2 := HXLs.out
                    omega
                  · have h2 := HXLs.out
                    omega
                  · have h2 := ht3.size
                    rw [World.size_setCell]
                    omega)
              obtain ⟨A', c', hA'⟩ := own_form hown3
              subst hA'
              clear hown3 hg3 hbl ht3 hbl3 hrx hone hownF hlow hTall hSf' hSg hTs hd0 hd1 hm8 HSZ HBZ HTZ HPAST HKI
              go_wp2
              obtain ⟨g', rfl⟩ : ∃ g', gk = g' + 1 := ⟨gk - 1, by omega⟩
              go_roundg g'
              case measure => omega
              case rel => exact ⟨k2 + 1, ps ++ [((⟨(vv : Int), l⟩ : PastL), Value.slice Al l.length cl)], ob, _, by omega, by go_num, HSh.out, HOWH.out, by rw [List.length_append, HPS.out]; rfl, HPAST2.out, HSZ2.out, HIN2.out, HJJ.out⟩
            case false =>
              have HT11 := Lib.hid (show o.bind (rdEnd ⟨(kind : Int), step, ev, l3, l4, l5, l6, acc, ps.map (·.1)⟩) = T by
                by_cases hk : k2 < np
                · have hb : b = true := by
                    rw [decide_eq_true hk] at hgo
                    simpa using hgo
                  obtain rfl := HBO.out hb
                  exact HPO.out
                · obtain rfl : k2 = np := by omega
                  rw [← HPO.out]
                  exact st_pastsEnd ⟨(kind : Int), step, ev, l3, l4, l5, l6, acc, []⟩)
              clear hgo hcb hfb HBO HPO hplt
              obtain ⟨Ap, cp, hpv⟩ := own_form HOWN.out
              subst hpv
              obtain ⟨t, b', hrb, _, ho⟩ := HS.out.rs
              have hr0 : wc.cell? ⟨M + 1, 0, none⟩ = some (.string t) := hrb.cell 0
              have hr1 : wc.cell? ⟨M + 1, 1, none⟩ = some (.bool b') := hrb.cell 1
              have HO := Lib.hid ho
              clear hrb ho
              obtain ⟨m0, m1, m2, m3, m4, m5, m6, m7, m8⟩ := msg_cells HS.out.box
              obtain ⟨r0, r1, r2, r3, r4, r5, r6, r7, r8⟩ := msg_cells HS.out.res
              have f0 := HS.out.res.frozen 0
              have f1 := HS.out.res.frozen 1
              have f2 := HS.out.res.frozen 2
              have f3 := HS.out.res.frozen 3
              have f4 := HS.out.res.frozen 4
              have f5 := HS.out.res.frozen 5
              have f6 := HS.out.res.frozen 6
              have f7 := HS.out.res.frozen 7
              have f8 := HS.out.res.frozen 8
              have hlt := HS.out.box.lt
              have HBADV := Lib.hid (fun (hno : readR s = none) => show decRes s = (.zero, 1) by rw [HDR.out, hno])
              cases b' with
              | true =>
                obtain rfl : o = none := by rw [HO.out]; rfl
                have HNO := Lib.hid (HBADV.out (by rw [HRD.out, ← HT11.out]; split <;> rfl))
                go_wp2
                obtain ⟨fin, hfe, hN, hT⟩ := nine_ex (.int .i64 0) (.int .u64 0) (.string ⟨#[]⟩) (.slice none 0 0) (.slice none 0 0) (.slice none 0 0) (.slice none 0 0) (.slice none 0 0) (.slice none 0 0) HS.out.res
                rw [← hfe]
                clear hfe
                refine bodyPost_ret (results_msg2 rfl _ _ M _ _ _ _ _ _ _ _ _ rfl hN) rfl ?_
                rw [HNO.out, HM.out]
                exact ⟨_, rfl, fun W _ _ => msgAt_zero W, HS.out.bel.trans (hT.below (by have := HS.out.sz; omega) (fun k h => by omega))⟩
              | false =>
                obtain rfl : o = some t := by rw [HO.out]; rfl
                by_cases h0 : t.size = 0
                · have hts : ¬ (0 : Int) < (t.size : Int) := by omega
                  have htn : ¬ 0 < t.size := by omega
                  by_cases hk0 : kind = 0
                  · have hkb : ((kind : Int) == 0) = true := by rw [hk0]; rfl
                    have HNO := Lib.hid (HBADV.out (by rw [HRD.out, if_pos hk0]))
                    clear hk0
                    go_wp2
                    obtain ⟨fin, hfe, hN, hT⟩ := nine_ex (.int .i64 0) (.int .u64 0) (.string ⟨#[]⟩) (.slice none 0 0) (.slice none 0 0) (.slice none 0 0) (.slice none 0 0) (.slice none 0 0) (.slice none 0 0) HS.out.res
                    rw [← hfe]
                    clear hfe
                    refine bodyPost_ret (results_msg2 rfl _ _ M _ _ _ _ _ _ _ _ _ rfl hN) rfl ?_
                    rw [HNO.out, HM.out]
                    exact ⟨_, rfl, fun W _ _ => msgAt_zero W, HS.out.bel.trans (hT.below (by have := HS.out.sz; omega) (fun k h => by omega))⟩
                  · have hkb : ((kind : Int) == 0) = false := beq_eq_false_iff_ne.2 (by omega)
                    have HDD := Lib.hid (show decRes s = (⟨(kind : Int), step, ev, l3, l4, l5, l6, acc, ps.map (·.1)⟩, 0) by
                      rw [HDR.out, HRD.out, if_neg hk0, ← HT11.out]
                      show (match rdEnd ⟨(kind : Int), step, ev, l3, l4, l5, l6, acc, ps.map (·.1)⟩ t with | none => (MsgL.zero, (1 : Int)) | some m => (m, 0)) = _
                      unfold rdEnd
                      rw [if_pos h0])
                    clear hk0
                    go_wp2
                    obtain ⟨fin, hfe, hN, hT⟩ := nine_ex (.int .i64 (kind : Int)) (.int .u64 (step : Int)) (.string ev) (.slice A3 l3.length c3) (.slice A4 l4.length c4) (.slice A5 l5.length c5) (.slice A6 l6.length c6) (.slice As acc.length cs') (.slice Ap ps.length cp) HS.out.res
                    rw [← hfe]
                    clear hfe
                    refine bodyPost_ret (results_msg2 rfl _ _ M _ _ _ _ _ _ _ _ _ rfl hN) rfl ?_
                    rw [HDD.out, HM.out]
                    refine ⟨_, rfl, fun WW hsz hag => ?_, HS.out.bel.trans (hT.below (by have := HS.out.sz; omega) (fun k h => by omega))⟩
                    have hkr := HKR.out.touch hT (fun j h => .inl (by omega))
                    have hpo' := hT.own HOWN.out (fun j hj e => by have := (HOWN.out.lt j hj).1; omega)
                    have hin' := fun x hx => ((HIN.out x hx).touch hT (fun j h => .inl (by omega)))
                    have hag2 : ∀ lo, M ≤ lo → ∀ k, lo ≤ k → k < fin.heap.size → WW.heap[k]? = fin.heap[k]? := fun lo hlo k h1 h2 => hag k (by omega) h2
                    refine ⟨⟨_, _, _, _, _, _, rfl, ((hkr.ki (l := l3) (by simp)).agree (hag2 _ (by omega))).ints, ((hkr.ki (l := l4) (by simp)).agree (hag2 _ (by omega))).ints, ((hkr.ki (l := l5) (by simp)).agree (hag2 _ (by omega))).ints, ((hkr.ki (l := l6) (by simp)).agree (hag2 _ (by omega))).ints, setsAt_of_own (own_agree (hkr _ (.head _)).1 (hag2 _ (by omega))), pastsAt_of_own (own_agree hpo' (hag2 _ (by omega))) (fun x hx => ((hin' x hx).agree (hag2 _ (by omega))).ints)⟩, hst, ?_, HWF.out⟩
                    show ev.size ≤ maxLen
                    have := HEV.out
                    unfold maxLen
                    omega
                · have hts : (0 : Int) < (t.size : Int) := by omega
                  have htn : 0 < t.size := by omega
                  have hte : ¬ t = ByteArray.empty := fun e => h0 (by rw [e]; rfl)
                  have HNO := Lib.hid (HBADV.out (by
                    rw [HRD.out, ← HT11.out]
                    show (if kind = 0 then none else rdEnd ⟨(kind : Int), step, ev, l3, l4, l5, l6, acc, ps.map (·.1)⟩ t) = none
                    unfold rdEnd
                    rw [if_neg h0]
                    split <;> rfl))
                  clear h0
                  go_wp2
                  obtain ⟨fin, hfe, hN, hT⟩ := nine_ex (.int .i64 0) (.int .u64 0) (.string ⟨#[]⟩) (.slice none 0 0) (.slice none 0 0) (.slice none 0 0) (.slice none 0 0) (.slice none 0 0) (.slice none 0 0) HS.out.res
                  rw [← hfe]
                  clear hfe
                  refine bodyPost_ret (results_msg2 rfl _ _ M _ _ _ _ _ _ _ _ _ rfl hN) rfl ?_
                  rw [HNO.out, HM.out]
                  exact ⟨_, rfl, fun W _ _ => msgAt_zero W, HS.out.bel.trans (hT.below (by have := HS.out.sz; omega) (fun k h => by omega))⟩
end Go.Proofs.Ytgacphicgglogaa
