/- The code's end and the document's end side by side in memory; 'Same' of two lists of texts. -/
import Derived.Test.YtgacphicgglogaaLinkRS
import Derived.StillTailTactics
namespace Go.Proofs.Ytgacphicgglogaa
open Go.RowKit Crc
set_option linter.unusedVariables false

def Duo (w : World) (B p q : Nat) (l : LK) (r : RL) (G : Nat → Prop) : Prop :=
  ∃ vL vG v, LinkAt w B p vL vG l ∧ RAt w B q v r ∧ Apart (Foot p vL vG) (FootV q v) ∧ Apart (Foot p vL vG) G ∧ Apart (FootV q v) G ∧ ∀ k, G k → k < w.heap.size

section
variable {w w' : World} {B p q : Nat} {l l' : LK} {r r' : RL} {G : Nat → Prop}
theorem Duo.below (h : Duo w B p q l r G) (hb : Below w.heap.size w w') : Duo w' B p q l r G := by
  obtain ⟨vL, vG, v, h1, h2, h3, h4, h5, h6⟩ := h
  exact ⟨vL, vG, v, h1.below hb, h2.below hb, h3, h4, h5, fun k hk => Nat.lt_of_lt_of_le (h6 k hk) hb.size⟩
theorem Duo.drewN (h : Duo w B p q l r G) (n : Nat) : Duo (w.drewN n) B p q l r G := by
  obtain ⟨vL, vG, v, h1, h2, h3, h4, h5, h6⟩ := h
  exact ⟨vL, vG, v, h1.drewN n, h2.drewN n, h3, h4, h5, h6⟩
theorem Duo.drew (h : Duo w B p q l r G) : Duo w.drew B p q l r G := h.drewN 1
theorem Duo.less {G' : Nat → Prop} (h : Duo w B p q l r G) (hs : ∀ k, G' k → G k) : Duo w B p q l r G' := by
  obtain ⟨vL, vG, v, h1, h2, h3, h4, h5, h6⟩ := h
  exact ⟨vL, vG, v, h1, h2, h3, fun k hk hg => h4 k hk (hs k hg), fun k hk hg => h5 k hk (hs k hg), fun k hk => h6 k (hs k hk)⟩
theorem Duo.alloc (h : Duo w B p q l r G) (o : Obj) : Duo (w.alloc o) B p q l r (fun k => G k ∨ k = w.heap.size) := by
  obtain ⟨vL, vG, v, h1, h2, h3, h4, h5, h6⟩ := h
  refine ⟨vL, vG, v, h1.alloc o, h2.alloc o, h3, fun k hk hg => ?_, fun k hk hg => ?_, fun k hk => ?_⟩
  · rcases hg with hg | rfl
    · exact h4 k hk hg
    · exact absurd (h1.foot hk).2 (Nat.lt_irrefl _)
  · rcases hg with hg | rfl
    · exact h5 k hk hg
    · exact absurd (h2.foot hk).2 (Nat.lt_irrefl _)
  · rw [World.size_alloc]
    rcases hk with hk | rfl
    · exact Nat.lt_succ_of_lt (h6 k hk)
    · exact Nat.lt_succ_self _
theorem Duo.stepL (h : Duo w B p q l r G) (hB : B ≤ w.heap.size) : ∃ vL vG, LinkAt w B p vL vG l ∧ ∀ l' w', LinkEnd w B p vL vG l' w' → Duo w' B p q l' r G ∧ Below B w w' ∧ Keep G w w' := by
  obtain ⟨vL, vG, v, h1, h2, h3, h4, h5, h6⟩ := h
  refine ⟨vL, vG, h1, fun la' w' he => ?_⟩
  obtain ⟨vL', vG', h1', hap, ht, hf⟩ := he.apart h3 (fun k hk => (h2.foot hk).2)
  refine ⟨⟨vL', vG', v, h1', h2.touch ht h3.symm, hap, fun k hk hg => ?_, h5, fun k hk => Nat.lt_of_lt_of_le (h6 k hk) ht.size⟩, ht.below hB (fun k hk => (h1.foot hk).1), fun k hk => ht.block k (h6 k hk) (fun hf => h4 k hf hk)⟩
  rcases hf k hk with h7 | h7
  · exact h4 k h7 hg
  · have := h6 k hg
    omega
theorem Duo.stepR (h : Duo w B p q l r G) (hB : B ≤ w.heap.size) : ∃ v, RAt w B q v r ∧ ∀ r' w', REnd w B q v r' w' → Duo w' B p q l r' G ∧ Below B w w' ∧ Keep G w w' := by
  obtain ⟨vL, vG, v, h1, h2, h3, h4, h5, h6⟩ := h
  refine ⟨v, h2, fun r' w' he => ?_⟩
  obtain ⟨v', h2', ht, hf⟩ := he
  refine ⟨⟨vL, vG, v', h1.touch ht h3, h2', fun k hk hg => ?_, h4, fun k hk hg => ?_, fun k hk => Nat.lt_of_lt_of_le (h6 k hk) ht.size⟩, ht.below hB (fun k hk => (h2.foot hk).1), fun k hk => ht.block k (h6 k hk) (fun hf => h5 k hf hk)⟩
  · rcases hf k hg with h7 | h7
    · exact h3 k hk h7
    · have := (h1.foot hk).2
      omega
  · rcases hf k hk with h7 | h7
    · exact h5 k h7 hg
    · have := h6 k hg
      omega

theorem duo_send (h : Duo w B p q l r G) (hB : B ≤ w.heap.size) (ok : l.Ok) (hl : l.last < 1099511627776) (s : ByteArray) :
    Calls Try.prog 17 #[.pointer (some ⟨p, 0, none⟩), .string s] w fun e w' => e = .returned (.int .i64 (l.send s).2) ∧ Duo w' B p q (l.send s).1 r G ∧ Below B w w' ∧ Keep G w w' := by
  obtain ⟨vL, vG, h1, hs⟩ := h.stepL hB
  exact (send_any w B p vL vG l h1 hB ok hl s).mono fun e w' ⟨he, h2⟩ => ⟨he, hs _ _ h2⟩
theorem duo_rsend (h : Duo w B p q l r G) (hB : B ≤ w.heap.size) (ok : r.Ok) (hl : r.loads.length < 1099511627776) (s : ByteArray) :
    Calls Try.prog 23 #[.pointer (some ⟨q, 0, none⟩), .string s] w fun e w' => e = .returned (.int .i64 (r.send s).2) ∧ Duo w' B p q l (r.send s).1 G ∧ Below B w w' ∧ Keep G w w' := by
  obtain ⟨v, h1, hs⟩ := h.stepR hB
  exact (rsend_any w B q v r h1 hB ok hl s).mono fun e w' ⟨he, h2⟩ => ⟨he, hs _ _ h2⟩
theorem duo_get (h : Duo w B p q l r G) (hB : B ≤ w.heap.size) (ok : l.Ok) (hl : l.last ≤ 1099511627776) (htk : l.taken < 1099511627776) (s : ByteArray) (hs : s.size ≤ 140737488351232) :
    Calls Try.prog 22 #[.pointer (some ⟨p, 0, none⟩), .string s] w fun e w' => e = .returned (.int .i64 (l.get s).2) ∧ Duo w' B p q (l.get s).1 r G ∧ Below B w w' ∧ Keep G w w' := by
  obtain ⟨vL, vG, h1, hst⟩ := h.stepL hB
  exact (get_any w B p vL vG l h1 hB ok hl htk s hs).mono fun e w' ⟨he, h2⟩ => ⟨he, hst _ _ h2⟩
theorem duo_rget (h : Duo w B p q l r G) (hB : B ≤ w.heap.size) (ok : r.Ok) (s : ByteArray) (hs : s.size ≤ 140737488351232) :
    Calls Try.prog 24 #[.pointer (some ⟨q, 0, none⟩), .string s] w fun e w' => e = .returned (.int .i64 (r.get s).2) ∧ Duo w' B p q l (r.get s).1 G ∧ Below B w w' ∧ Keep G w w' := by
  obtain ⟨v, h1, hst⟩ := h.stepR hB
  exact (rget_any w B q v r h1 hB ok s hs).mono fun e w' ⟨he, h2⟩ => ⟨he, hst _ _ h2⟩
theorem duo_tick (h : Duo w B p q l r G) (hB : B ≤ w.heap.size) (ok : l.Ok) (hl : l.last ≤ 1099511627776) :
    Calls Try.prog 18 #[.pointer (some ⟨p, 0, none⟩)] w fun e w' => e = .returned (.tuple #[]) ∧ Duo w' B p q l.tick r G ∧ Below B w w' ∧ Keep G w w' := by
  obtain ⟨vL, vG, h1, hs⟩ := h.stepL hB
  exact (tick_any w B p vL vG l h1 hB ok hl).mono fun e w' ⟨he, h2⟩ => ⟨he, hs _ _ h2⟩
theorem duo_rtick (h : Duo w B p q l r G) (hB : B ≤ w.heap.size) (ok : r.Ok) :
    Calls Try.prog 25 #[.pointer (some ⟨q, 0, none⟩)] w fun e w' => e = .returned (.tuple #[]) ∧ Duo w' B p q l r.tick G ∧ Below B w w' ∧ Keep G w w' := by
  obtain ⟨v, h1, hs⟩ := h.stepR hB
  exact (rtick_any w B q v r h1 hB ok).mono fun e w' ⟨he, h2⟩ => ⟨he, hs _ _ h2⟩
theorem duo_recv (h : Duo w B p q l r G) (hB : B ≤ w.heap.size) (ok : l.Ok) (hl : l.taken < 1099511627776) :
    Calls Try.prog 19 #[.pointer (some ⟨p, 0, none⟩)] w fun e w' => e = .returned (.tuple #[.string l.recv.2.1, .bool l.recv.2.2]) ∧ Duo w' B p q l.recv.1 r G ∧ Below B w w' ∧ Keep G w w' := by
  obtain ⟨vL, vG, h1, hs⟩ := h.stepL hB
  exact (recv_any w B p vL vG l h1 hB ok hl).mono fun e w' ⟨he, h2⟩ => ⟨he, hs _ _ h2⟩
theorem duo_rrecv (h : Duo w B p q l r G) (hB : B ≤ w.heap.size) (ok : r.Ok) :
    Calls Try.prog 28 #[.pointer (some ⟨q, 0, none⟩)] w fun e w' => e = .returned (.tuple #[.string r.recv.2.1, .bool r.recv.2.2]) ∧ Duo w' B p q l r.recv.1 G ∧ Below B w w' ∧ Keep G w w' := by
  obtain ⟨v, h1, hs⟩ := h.stepR hB
  exact (rrecv_any w B q v r h1 ok).mono fun e w' ⟨he, h2⟩ => ⟨he, hs _ _ h2⟩
theorem duo_out (h : Duo w B p q l r G) (hB : B ≤ w.heap.size) :
    Calls Try.prog 20 #[.pointer (some ⟨p, 0, none⟩)] w fun e w' => ∃ v, e = .returned v ∧ Duo w' B p q { l with goes := [] } r (fun k => G k ∨ v.ownBlock = some k) ∧ Below B w w' ∧ Keep G w w' ∧ w'.ownsRow B 9 1 v l.goes.length (strs l.goes) := by
  obtain ⟨vL, vG, v, h1, h2, h3, h4, h5, h6⟩ := h
  refine (out_any w B p vL vG l h1).mono fun e w' ⟨he, hw⟩ => ⟨vG, he, ?_⟩
  obtain ⟨h7, h8, h9⟩ := out_end h1
  rw [← hw] at h7 h8 h9
  refine ⟨⟨vL, .slice none 0 0, v, h7, h2.touch h9 (fun k hk e => by subst e; exact h3 k (.inl rfl) hk), fun k hk hg => ?_, fun k hk hg => ?_, fun k hk hg => ?_, fun k hk => ?_⟩, h9.below hB (fun k hk => by subst hk; exact h1.base), fun k hk => h9.block k (h6 k hk) (fun e => h4 k (.inl e) hk), h8⟩
  · rcases hk with hk | hk | hk
    · exact h3 k (.inl hk) hg
    · exact h3 k (.inr (.inl hk)) hg
    · cases hk
  · rcases hk with hk | hk | hk
    · rcases hg with hg | hg
      · exact h4 k (.inl hk) hg
      · exact h1.pG (hk ▸ hg)
    · rcases hg with hg | hg
      · exact h4 k (.inr (.inl hk)) hg
      · exact h1.apart k hk hg
    · cases hk
  · rcases hg with hg | hg
    · exact h5 k hk hg
    · exact h3 k (.inr (.inr hg)) hk
  · rcases hk with hk | hk
    · exact Nat.lt_of_lt_of_le (h6 k hk) h9.size
    · exact Nat.lt_of_lt_of_le (h1.goes.lt k hk).2 h9.size
theorem duo_rout (h : Duo w B p q l r G) (hB : B ≤ w.heap.size) :
    Calls Try.prog 27 #[.pointer (some ⟨q, 0, none⟩)] w fun e w' => ∃ v, e = .returned v ∧ Duo w' B p q l { r with goes := [] } G ∧ Below B w w' ∧ Keep G w w' ∧ w'.ownsRow B 9 1 v r.goes.length (strs r.goes) := by
  obtain ⟨vL, vG, v, h1, h2, h3, h4, h5, h6⟩ := h
  refine (rout_any w B q v r h2).mono fun e w' ⟨he, hw⟩ => ⟨v.G, he, ?_⟩
  obtain ⟨h7, h8, h9⟩ := rout_end h2
  rw [← hw] at h7 h8 h9
  have hsub : ∀ k, FootV q { v with G := .slice none 0 0 } k → FootV q v k := fun k hk => by
    rcases hk with hk | hk | hk | hk | hk
    · exact .inl hk
    · exact .inr (.inl hk)
    · exact .inr (.inr (.inl hk))
    · exact .inr (.inr (.inr (.inl hk)))
    · cases hk
  exact ⟨⟨vL, vG, _, h1.touch h9 (fun k hk e => by subst e; exact h3 k hk (.inl rfl)), h7, fun k hk hg => h3 k hk (hsub k hg), h4, fun k hk hg => h5 k (hsub k hk) hg, fun k hk => Nat.lt_of_lt_of_le (h6 k hk) h9.size⟩, h9.below hB (fun k hk => by subst hk; exact h2.base), fun k hk => h9.block k (h6 k hk) (fun e => h5 k (.inl e) hk), h8⟩
theorem duo_state (h : Duo w B p q l r G) :
    Calls Try.prog 29 #[.pointer (some ⟨p, 0, none⟩)] w fun e w' => e = .returned (.tuple #[.int .u64 l.last, .int .u64 l.told, .int .u64 l.came, .int .u64 l.taken]) ∧ ∃ n, w' = w.drewN n := by
  obtain ⟨vL, vG, v, h1, h2, h3, h4, h5, h6⟩ := h
  exact state_any w B p vL vG l h1
theorem duo_came (h : Duo w B p q l r G) (ok : r.Ok) :
    Calls Try.prog 30 #[.pointer (some ⟨q, 0, none⟩)] w fun e w' => e = .returned (.int .u64 (r.came : Int)) ∧ w' = w := by
  obtain ⟨vL, vG, v, h1, h2, h3, h4, h5, h6⟩ := h
  exact rcame_any w B q v r h2 ok
theorem duo_cells (h : Duo w B p q l r G) : ∃ A c, w.cell? ⟨q, 0, none⟩ = some (.slice A r.loads.length c) ∧ w.cell? ⟨q, 1, none⟩ = some (.int .u64 r.told) ∧ w.cell? ⟨q, 5, none⟩ = some (.int .u64 r.taken) := by
  obtain ⟨vL, vG, v, h1, h2, h3, h4, h5, h6⟩ := h
  obtain ⟨A, c, e⟩ := own_form h2.loads
  have := h2.cells
  rw [e] at this
  exact ⟨A, c, this.1, this.2.1, this.2.2.2.2.2.1⟩
end

/-- The two ends anew. -/
theorem Duo.new {w w1 : World} {B : Nat} (h1 : LinkAt w1 B w.heap.size (.slice none 0 0) (.slice none 0 0) LK.new) (hB : B ≤ w1.heap.size) :
    Duo (w1.alloc (.cells (RL.new.cells ⟨.slice none 0 0, .slice none 0 0, .slice none 0 0, .slice none 0 0⟩).toArray 42)) B w.heap.size w1.heap.size LK.new RL.new (fun _ => False) := by
  refine ⟨_, _, ⟨.slice none 0 0, .slice none 0 0, .slice none 0 0, .slice none 0 0⟩, h1.alloc _, ⟨hB, Blk.new _ _ _, fun x hx => ?_, fun x hx => ?_, fun i j x y hx hy hij k hk => ?_⟩, fun k hk hg => ?_, fun _ _ h => h, fun _ _ h => h, fun _ h => h.elim⟩
  · simp only [RL.rows, RL.new, List.mem_cons, List.not_mem_nil, or_false] at hx
    rcases hx with rfl | rfl | rfl | rfl <;> exact World.ownsRow_nil _ _ _ _
  · simp only [RL.rows, RL.new, List.mem_cons, List.not_mem_nil, or_false] at hx
    rcases hx with rfl | rfl | rfl | rfl <;> (intro e; cases e)
  · have hx' := List.mem_of_getElem? hx
    simp only [RL.rows, RL.new, List.mem_cons, List.not_mem_nil, or_false] at hx'
    rcases hx' with rfl | rfl | rfl | rfl <;> cases hk
  · have g1 := (h1.foot hk).2
    rcases hg with rfl | hg | hg | hg | hg
    · exact Nat.lt_irrefl _ g1
    · cases hg
    · cases hg
    · cases hg
    · cases hg

set_option maxHeartbeats 1000000 in
set_option maxRecDepth 100000 in
theorem sameStr_any (w : World) (A1 A2 : Option Addr) (n1 n2 c1 c2 : Nat) (l1 l2 : List ByteArray) (hn1 : l1.length = n1) (hn2 : l2.length = n2) (h1 : Reads w w.heap.size 1 A1 n1 (strs l1)) (h2 : Reads w w.heap.size 1 A2 n2 (strs l2)) (hm : n1 ≤ maxLen) :
    Calls Try.prog 26 #[.slice A1 n1 c1, .slice A2 n2 c2] w fun e w' => e = .returned (.bool (decide (l1 = l2))) ∧ ∃ n, w' = w.drewN n := by
  unfold maxLen at hm
  obtain ⟨b, hb0⟩ : ∃ b, decide (l1 = l2) = b := ⟨_, rfl⟩
  rw [hb0]
  have HB := Lib.hid hb0
  clear hb0
  go_enter Try.func26, Try.ntmps26
  by_cases hne : n1 = n2
  · subst hne
    go_wp2
    go_loopw [5] (fun v wr => ∃ k m : Nat, v = .int .i64 (k : Int) ∧ k ≤ n1 ∧ wr = w.drewN m ∧ l1.take k = l2.take k) (fun v _ => n1 - (intOf v).toNat)
    case atStart => exact ⟨0, 0, rfl, Nat.zero_le _, rfl, rfl⟩
    case round =>
      obtain ⟨k, m, rfl, hk, rfl, htk⟩ := hrel
      by_cases hkn : k < n1
      · have hkz : (k : Int) < (n1 : Int) := by omega
        obtain ⟨a1, u1, rfl, hb1, hu1, hc1⟩ := h1.at_ hkn
        obtain ⟨a2, u2, rfl, hb2, hu2, hc2⟩ := h2.at_ hkn
        have hl1 : k < l1.length := by omega
        have hl2 : k < l2.length := by omega
        have e1 : u1 = .string l1[k] := by simpa [strs, hl1] using hu1.symm
        have e2 : u2 = .string l2[k] := by simpa [strs, hl2] using hu2.symm
        subst e1 e2
        by_cases he : l1[k] = l2[k]
        · have HT := Lib.hid (show l1.take (k + 1) = l2.take (k + 1) by rw [List.take_succ_eq_append_getElem hl1, List.take_succ_eq_append_getElem hl2, htk, he])
          rw [he] at hc1
          clear hu1 hu2 htk he
          generalize l2[k] = x at *
          go_wp2
          go_quiet (fail)
          go_wp2
          go_roundw
          case rel => exact ⟨k + 1, m + nq, by go_num, by omega, rfl, HT.out⟩
          case measure => simp [intOf]; omega
        · have hbf : b = false := by
            rw [← HB.out]
            exact decide_eq_false fun h => he (by subst h; rfl)
          subst hbf
          have hez : (l1[k].toList == l2[k].toList) = false := beq_eq_false_iff_ne.2 (fun h => he (Go.WideShapes.bytes_inj (by rw [ByteArray.toList_eq, ByteArray.toList_eq] at h; exact h)))
          clear hu1 hu2 htk
          generalize l1[k] = x at *
          generalize l2[k] = y at *
          go_wp2
          go_quiet (fail)
          go_wp2
          go_ret
          exact ⟨rfl, m + nq, by first | rfl | rw [World.drewN_drewN]⟩
      · obtain rfl : k = n1 := by omega
        have hkz : ¬ (k : Int) < (k : Int) := by omega
        have hbt : b = true := by
          rw [← HB.out]
          rw [List.take_of_length_le (by omega), List.take_of_length_le (by omega)] at htk
          exact decide_eq_true htk
        subst hbt
        clear htk
        go_wp2
        go_ret
        exact ⟨rfl, m, rfl⟩
  · have hbf : b = false := by
      rw [← HB.out]
      exact decide_eq_false fun h => hne (by rw [← hn1, ← hn2, h])
    subst hbf
    have hnz : ¬ (n1 : Int) = (n2 : Int) := by omega
    go_wp2
    go_ret
    exact ⟨rfl, 0, rfl⟩

end Go.Proofs.Ytgacphicgglogaa
