/- Package wire: what a reading of pasts keeps, between its calls. -/
import Derived.Test.YtgacphicgglogaaWireP
import Derived.Test.YtgacphicgglogaaRegP
namespace Go.Proofs.Ytgacphicgglogaa
open Go.RowKit Crc
set_option linter.unusedVariables false

def pastsV (ps : List (PastL × Value)) : List Value := ps.flatMap fun x => [.int .i64 x.1.state, x.2]
theorem Touch.set1 {S : Nat → Prop} {w w1 : World} (h : Touch S w w1) (p : Addr) (u : Value) (hp : S p.block) : Touch S w (w1.setCell p u) := h.trans (Touch.of_set (S := S) p u hp) (fun _ hk => .inl hk)
theorem bytesR_size {s x t : ByteArray} {n : Nat} (h : bytesR s n = some (x, t)) : x.size ≤ n := by
  unfold bytesR at h
  split at h
  · injection h with h
    injection h with e1 e2
    subst e1
    rw [ByteArray.size_extract]
    omega
  · cases h
theorem RdS.same {w wr : World} {M : Nat} {cs : Array Value} {s : ByteArray} (h : RdS w wr M cs s) (i : Nat) (u : Value) (hu : cs[i]? = some u) : RdS w (wr.setCell ⟨M, i, none⟩ u) M cs s := by
  have h1 := h.put i u
  have e : cs.setIfInBounds i u = cs := by
    refine Array.ext_getElem? fun j => ?_
    by_cases hij : i = j
    · subst hij
      have hlt : i < cs.size := (Array.getElem?_eq_some_iff.1 hu).1
      rw [hu]
      simp [hlt]
    · rw [Array.getElem?_setIfInBounds_ne hij]
  rw [e] at h1
  exact h1
/-- 'return m, api.OK' writes the message's cells and the error's anew. -/
theorem read_last {w wr : World} {M : Nat} {x0 x1 x2 x3 x4 x5 x6 x7 x8 : Value} {s : ByteArray} (h : RdS w wr M #[x0, x1, x2, x3, x4, x5, x6, x7, x8] s) :
    Blk ((((((((((wr.setCell ⟨M, 0, none⟩ x0).setCell ⟨M, 1, none⟩ x1).setCell ⟨M, 2, none⟩ x2).setCell ⟨M, 3, none⟩ x3).setCell ⟨M, 4, none⟩ x4).setCell ⟨M, 5, none⟩ x5).setCell ⟨M, 6, none⟩ x6).setCell ⟨M, 7, none⟩ x7).setCell ⟨M, 8, none⟩ x8).setCell ⟨M + 1, 0, none⟩ (.int .i64 0)) M 54 #[x0, x1, x2, x3, x4, x5, x6, x7, x8] ∧ Blk ((((((((((wr.setCell ⟨M, 0, none⟩ x0).setCell ⟨M, 1, none⟩ x1).setCell ⟨M, 2, none⟩ x2).setCell ⟨M, 3, none⟩ x3).setCell ⟨M, 4, none⟩ x4).setCell ⟨M, 5, none⟩ x5).setCell ⟨M, 6, none⟩ x6).setCell ⟨M, 7, none⟩ x7).setCell ⟨M, 8, none⟩ x8).setCell ⟨M + 1, 0, none⟩ (.int .i64 0)) (M + 1) 30 #[.int .i64 0] ∧ Below M w ((((((((((wr.setCell ⟨M, 0, none⟩ x0).setCell ⟨M, 1, none⟩ x1).setCell ⟨M, 2, none⟩ x2).setCell ⟨M, 3, none⟩ x3).setCell ⟨M, 4, none⟩ x4).setCell ⟨M, 5, none⟩ x5).setCell ⟨M, 6, none⟩ x6).setCell ⟨M, 7, none⟩ x7).setCell ⟨M, 8, none⟩ x8).setCell ⟨M + 1, 0, none⟩ (.int .i64 0)) ∧ Touch (fun k => k = M ∨ k = M + 1) wr ((((((((((wr.setCell ⟨M, 0, none⟩ x0).setCell ⟨M, 1, none⟩ x1).setCell ⟨M, 2, none⟩ x2).setCell ⟨M, 3, none⟩ x3).setCell ⟨M, 4, none⟩ x4).setCell ⟨M, 5, none⟩ x5).setCell ⟨M, 6, none⟩ x6).setCell ⟨M, 7, none⟩ x7).setCell ⟨M, 8, none⟩ x8).setCell ⟨M + 1, 0, none⟩ (.int .i64 0)) := by
  have hputs := (((((((((h.same 0 x0 rfl).same 1 x1 rfl).same 2 x2 rfl).same 3 x3 rfl).same 4 x4 rfl).same 5 x5 rfl).same 6 x6 rfl).same 7 x7 rfl).same 8 x8 rfl)
  exact ⟨hputs.box.far (p := ⟨M + 1, 0, none⟩) (by show M ≠ M + 1; omega) (.int .i64 0), hputs.ec.set_ 0 (.int .i64 0), hputs.bel.setCell (p := ⟨M + 1, 0, none⟩) (by show M ≤ M + 1; omega) (.int .i64 0), (((((((((((Touch.refl (fun k => k = M ∨ k = M + 1) wr).set1 ⟨M, 0, none⟩ x0 (.inl rfl)).set1 ⟨M, 1, none⟩ x1 (.inl rfl)).set1 ⟨M, 2, none⟩ x2 (.inl rfl)).set1 ⟨M, 3, none⟩ x3 (.inl rfl)).set1 ⟨M, 4, none⟩ x4 (.inl rfl)).set1 ⟨M, 5, none⟩ x5 (.inl rfl)).set1 ⟨M, 6, none⟩ x6 (.inl rfl)).set1 ⟨M, 7, none⟩ x7 (.inl rfl)).set1 ⟨M, 8, none⟩ x8 (.inl rfl)).set1 ⟨M + 1, 0, none⟩ (.int .i64 0) (.inr rfl))⟩
theorem dst_free {ops : Array Oper} {t : Tmp} (h : ops.toList.all (fun o => o.dst != some t) = true) : ∀ (j : Nat) (o : Oper), ops[j]? = some o → o.dst ≠ some t := fun j o ho => by
  have hm : o ∈ ops.toList := by
    rw [Array.mem_toList_iff]
    exact Array.mem_of_getElem? ho
  have := List.all_eq_true.1 h o hm
  simpa using this
theorem own_own_ne {w : World} {b1 e1 s1 n1 b2 e2 s2 n2 : Nat} {v1 v2 : Value} {x1 x2 : List Value} (h1 : w.ownsRow b1 e1 s1 v1 n1 x1) (h2 : w.ownsRow b2 e2 s2 v2 n2 x2) (hne : e1 ≠ e2) : ∀ j, v1.ownBlock = some j → v2.ownBlock ≠ some j := by
  intro j hj hk
  rcases h1.2 with ⟨rfl, _⟩ | ⟨g, cap, cur, rfl, _, hh, _⟩
  · simp [Value.ownBlock] at hj
  rcases h2.2 with ⟨rfl, _⟩ | ⟨g', cap', cur', rfl, _, hh', _⟩
  · simp [Value.ownBlock] at hk
  obtain rfl : g = j := by simpa [Value.ownBlock] using hj
  obtain rfl : g' = g := by simpa [Value.ownBlock] using hk
  rw [hh] at hh'
  injection hh' with hh'
  injection hh' with _ ht
  exact hne ht
theorem pastsV_len : ∀ ps : List (PastL × Value), (pastsV ps).length = ps.length * 2
  | [] => rfl
  | x :: l => by
    have := pastsV_len l
    unfold pastsV at this ⊢
    rw [List.flatMap_cons, List.length_append, this]
    simp only [List.length_cons, List.length_nil]
    omega
theorem pastsV_at : ∀ (l : List (PastL × Value)) (i j : Nat) (h : i < l.length), j < 2 → (pastsV l)[i * 2 + j]? = [Value.int .i64 (l[i]'h).1.state, (l[i]'h).2][j]?
  | [], i, j, h, _ => absurd h (by simp)
  | a :: l, 0, j, _, hj => by
    unfold pastsV
    rw [List.flatMap_cons, List.getElem?_append_left (by show _ < 2; omega)]
    simp
  | a :: l, i + 1, j, h, hj => by
    have := pastsV_at l i j (by simpa using h) hj
    unfold pastsV at this ⊢
    rw [List.flatMap_cons, List.getElem?_append_right (by show 2 ≤ _; omega)]
    show (l.flatMap _)[(i + 1) * 2 + j - 2]? = _
    rw [show (i + 1) * 2 + j - 2 = i * 2 + j by omega, this]
    rfl
theorem own_max {w : World} {base e size n : Nat} {v : Value} {xs : List Value} (h : w.ownsRow base e size v n xs) : n ≤ 9223372036854775807 := by
  rcases h.2 with ⟨_, h0⟩ | ⟨g, cap, cur, hv, _, _, h1, h2, _⟩
  · omega
  · unfold maxLen at h2
    omega
theorem setsAt_of_own {w : World} {B : Nat} {v : Value} {l : List SetL} (h : w.ownsRow B 111 4 v l.length (setsV l)) : SetsAt w w.heap.size v l := by
  have hmax := own_max h
  obtain ⟨A, c, rfl⟩ := own_form h
  refine ⟨A, l.length, c, rfl, rfl, hmax, fun i hi => ?_⟩
  obtain ⟨ad, hA, hb, hc⟩ := (Reads.of_own h).2 (by omega)
  obtain ⟨g, cap, hv, _, hlt⟩ := h.form (by omega)
  have hA2 : A = some ⟨g, 0, none⟩ := by injection hv
  subst hA2
  injection hA with hA
  subst hA
  have hadd : ∀ k, (⟨g, 0, none⟩ : Addr).add k = ⟨g, k, none⟩ := by intro k; unfold Addr.add; split <;> simp_all
  have hc' : ∀ j, j < 4 → ∀ u, (setV l[i])[j]? = some u → w.cell? ⟨g, i * 4 + j, none⟩ = some u := fun j hj u hu => by
    rw [← hadd]
    exact hc _ _ ((setsV_at l i j hi hj).trans hu)
  exact ⟨⟨g, 0, none⟩, rfl, hlt, by rw [hadd]; exact hc' 0 (by omega) _ rfl, by rw [hadd]; exact hc' 1 (by omega) _ rfl, by rw [hadd]; exact hc' 2 (by omega) _ rfl, by rw [hadd]; exact hc' 3 (by omega) _ rfl⟩
theorem pastsAt_of_own {w : World} {B : Nat} {v : Value} {ps : List (PastL × Value)} (h : w.ownsRow B 113 2 v ps.length (pastsV ps)) (hin : ∀ x ∈ ps, IntsAt w w.heap.size x.2 x.1.set) : PastsAt w w.heap.size v (ps.map (·.1)) := by
  have hmax := own_max h
  obtain ⟨A, c, rfl⟩ := own_form h
  refine ⟨A, ps.length, c, rfl, by simp, hmax, fun i hi0 => ?_⟩
  have hi : i < ps.length := by simpa using hi0
  obtain ⟨ad, hA, hb, hc⟩ := (Reads.of_own h).2 (by omega)
  obtain ⟨g, cap, hv, _, hlt⟩ := h.form (by omega)
  have hA2 : A = some ⟨g, 0, none⟩ := by injection hv
  subst hA2
  injection hA with hA
  subst hA
  have hadd : ∀ k, (⟨g, 0, none⟩ : Addr).add k = ⟨g, k, none⟩ := by intro k; unfold Addr.add; split <;> simp_all
  have hc' : ∀ j, j < 2 → ∀ u, [Value.int .i64 (ps[i]'hi).1.state, (ps[i]'hi).2][j]? = some u → w.cell? ⟨g, i * 2 + j, none⟩ = some u := fun j hj u hu => by
    rw [← hadd]
    exact hc _ _ ((pastsV_at ps i j hi hj).trans hu)
  have hx : (ps.map (·.1))[i]'hi0 = (ps[i]'hi).1 := by simp
  refine ⟨⟨g, 0, none⟩, (ps[i]'hi).2, rfl, hlt, by rw [hadd, hx]; exact hc' 0 (by omega) _ rfl, by rw [hadd]; exact hc' 1 (by omega) _ rfl, by rw [hx]; exact hin _ (List.getElem_mem _)⟩
/-- What a past's reading may write: the reader, and the row of pasts. -/
def SP (M : Nat) (pv : Value) (j : Nat) : Prop := j = M + 2 ∨ pv.ownBlock = some j
/-- Both readings of a past went well. -/
def PR (s : ByteArray) (n : Nat) (l : List Int) (t2 : ByteArray) : Prop := ∃ t, smallR s 63 = some (n, t) ∧ listR t = some (l, t2)
theorem PR.pastR {s t2 : ByteArray} {n : Nat} {l : List Int} (h : PR s n l t2) : pastR s = some (⟨(n : Int), l⟩, t2) := by
  obtain ⟨t, h1, h2⟩ := h
  unfold Go.Proofs.Ytgacphicgglogaa.pastR
  rw [h1, Option.bind_some]
  simp only
  rw [h2]
  rfl
def PR3 (s : ByteArray) (v : Value) (_ : World) : Prop := ∃ n t, smallR s 63 = some (n, t) ∧ v = .int .i64 (n : Int)
def PR5 (s : ByteArray) (B : Nat) (v : Value) (w : World) : Prop := ∃ n l t2 A c, PR s n l t2 ∧ v = .slice A l.length c ∧ KI w B w.heap.size (.slice A l.length c) l
def PR7 (s : ByteArray) (B : Nat) (v : Value) (w : World) : Prop := ∃ g n l t2 A c, PR s n l t2 ∧ v = .slice (some ⟨g, 0, none⟩) 1 1 ∧ B ≤ g ∧ Blk w g 113 #[.int .i64 (n : Int), .slice A l.length c] ∧ KI w B w.heap.size (.slice A l.length c) l
def PR8 (w W0 : World) (M H k : Nat) (cs : Array Value) (s : ByteArray) (xs : List Value) (v : Value) (w' : World) : Prop :=
  ∃ n l t2 A c, PR s n l t2 ∧ KI w' W0.heap.size w'.heap.size (.slice A l.length c) l ∧ w'.ownsRow H 113 2 v (k + 1) (xs ++ [.int .i64 (n : Int), .slice A l.length c]) ∧ RdS w w' M cs t2
def PPre (w W0 : World) (M : Nat) (cs : Array Value) (s : ByteArray) : Nat → World → Prop
  | 3, w' => Touch (fun _ => False) W0 w'
  | 5, w' => ∃ n t, smallR s 63 = some (n, t) ∧ RdS w w' M cs t ∧ Touch (fun j => j = M + 2) W0 w'
  | 7, w' => ∃ n l t2, PR s n l t2 ∧ RdS w w' M cs t2 ∧ Touch (fun j => j = M + 2) W0 w'
  | 8, w' => ∃ n l t2, PR s n l t2 ∧ RdS w w' M cs t2 ∧ Touch (fun j => j = M + 2) W0 w'
  | _, _ => True
def PPan (w : World) (M : Nat) (cs : Array Value) (s0 : ByteArray) (c : List PanicEntry) (w' : World) : Prop := c = stops ∧ RdF w w' M cs ∧ readR s0 = none
def PStep (M : Nat) (pv : Value) (_ : Nat) (w w' : World) : Prop := Touch (SP M pv) w w'
section
variable {w W0 wa wb : World} {M B : Nat} {pv v : Value} {s : ByteArray} {cs : Array Value}
theorem PR5.keep (h : PR5 s B v wa) (ht : Touch (SP M pv) wa wb) (hM : M + 2 < B) (hp : ∀ j, pv.ownBlock = some j → j < B) : PR5 s B v wb := by
  obtain ⟨n, l, t2, A, c, h1, h2, h3⟩ := h
  exact ⟨n, l, t2, A, c, h1, h2, (h3.touch ht (fun k hk => .inl (by rcases hk with hk | hk; omega; exact hp k hk))).more (Nat.le_refl _) ht.size⟩
theorem PR7.keep (h : PR7 s B v wa) (ht : Touch (SP M pv) wa wb) (hM : M + 2 < B) (hp : ∀ j, pv.ownBlock = some j → j < B) : PR7 s B v wb := by
  obtain ⟨g, n, l, t2, A, c, h1, h2, h3, h4, h5⟩ := h
  have hS : ∀ k, SP M pv k → k < B := fun k hk => by rcases hk with hk | hk; omega; exact hp k hk
  exact ⟨g, n, l, t2, A, c, h1, h2, h3, ht.blk h4 (fun e => by have := hS g e; omega), (h5.touch ht (fun k hk => .inl (hS k hk))).more (Nat.le_refl _) ht.size⟩
theorem PR.inj {n n' : Nat} {l l' : List Int} {t t' : ByteArray} (h : PR s n l t) (h' : PR s n' l' t') : n = n' ∧ l = l' ∧ t = t' := by
  obtain ⟨u, h1, h2⟩ := h
  obtain ⟨u', h3, h4⟩ := h'
  rw [h1] at h3
  injection h3 with h3
  injection h3 with e1 e2
  subst e1 e2
  rw [h2] at h4
  injection h4 with h4
  injection h4 with e3 e4
  exact ⟨rfl, e3, e4⟩
end
end Go.Proofs.Ytgacphicgglogaa
