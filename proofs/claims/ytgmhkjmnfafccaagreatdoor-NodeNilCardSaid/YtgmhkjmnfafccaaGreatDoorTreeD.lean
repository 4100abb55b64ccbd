/- 'Right', and 'has'. -/
import Derived.Test.YtgmhkjmnfafccaaGreatDoorTreeC
namespace Go.Proofs.YtgmhkjmnfafccaaGreatDoor
open Go.RowKit Go.Shelf
attribute [local go_sem] Oper.semAt_some

namespace Tr
def reals (st : Sts) (l : List Nat) : Nat := (l.filter fun k => !pastB (kd st k)).length
def kidOk (st : Sts) (i k : Nat) : Prop := kd st i = 3 → pastB (kd st k) = false ∧ kd st k ≠ 4
instance (st : Sts) (i k : Nat) : Decidable (kidOk st i k) := by unfold kidOk; infer_instance
def nodeOk (st : Sts) (i : Nat) : Prop := (∀ k ∈ kids st i, kidOk st i k) ∧ (if kd st i = 2 ∨ kd st i = 3 then reals st (kids st i) ≠ 0 else (kids st i).length = 0)
instance (st : Sts) (i : Nat) : Decidable (nodeOk st i) := by unfold nodeOk; infer_instance
def right (st : Sts) : Prop := shape st ∧ ∀ i, i < st.length → nodeOk st i
instance (st : Sts) : Decidable (right st) := by unfold right; infer_instance
theorem kidsFrom_len (st : Sts) (e : Nat) : ∀ f k, (kidsFrom st e f k).length ≤ f
  | 0, _ => Nat.le_refl _
  | f + 1, k => by
    unfold kidsFrom
    split
    · have := kidsFrom_len st e f (fin st k); simp; omega
    · simp
theorem kids_len (st : Sts) {i : Nat} (h : i < st.length) : (kids st i).length ≤ st.length := by
  have h1 := kidsFrom_len st (fin st i) (fin st i - (i + 1)) (i + 1)
  have h2 := fin_le st h
  unfold kids; omega
theorem reals_snoc (st : Sts) (l : List Nat) (k : Nat) : reals st (l ++ [k]) = reals st l + if pastB (kd st k) then 0 else 1 := by
  unfold reals
  rw [List.filter_append, List.length_append]
  cases h : pastB (kd st k) <;> simp [h]
theorem reals_le (st : Sts) (l : List Nat) : reals st l ≤ l.length := List.length_filter_le _ _
end Tr

/-- The marks of loops over functions that are over. -/
def Marks (S : Nat) (W : World) : List Deferred → Prop
  | [] => True
  | d :: ds => (∃ D, d.target = .collected D ∧ W.heap[D]? = some (.deferred (some [])) ∧ S ≤ D ∧ ∀ d' ∈ ds, d'.target ≠ .collected D) ∧ Marks S W ds

theorem Marks.keep {S : Nat} {W W' : World} : ∀ {ds : List Deferred}, Marks S W ds → (∀ D, W.heap[D]? = some (.deferred (some [])) → (∃ d ∈ ds, d.target = .collected D) → W'.heap[D]? = W.heap[D]?) → Marks S W' ds
  | [], _, _ => trivial
  | d :: ds, ⟨⟨D, hd, hD, hS, hne⟩, hm⟩, hk => ⟨⟨D, hd, (hk D hD ⟨d, by simp, hd⟩).trans hD, hS, hne⟩, hm.keep fun D' hD' ⟨d', hd', ht⟩ => hk D' hD' ⟨d', by simp [hd'], ht⟩⟩

theorem leaves_marks {n : Nat} {P : Program} {fn : Func} {tmps : Array Value} {R : Ending → World → Prop} {S : Nat} : ∀ (ds : List Deferred) (W : World), Marks S W ds →
    (∀ W', Below S W W' → (∀ p v, W.cell? p = some v → W'.cell? p = some v) → LeavesIn Fence.wide n P fn tmps R [] .returning W') → LeavesInM Fence.wide n P fn tmps R ds .returning W
  | [], W, _, hR => hR W (Below.refl _ _) (fun _ _ h => h)
  | d :: ds, W, ⟨⟨D, hd, hD, hS, hne⟩, hm⟩, hR => by
    refine ⟨by simp, .inl ⟨D, _, hd, run_takeDeferred hD, ?_⟩⟩
    refine leaves_marks ds _ (hm.keep fun D' hD' ⟨d', hd', ht⟩ => World.putObj_heap_other (fun e => hne d' hd' (by rw [ht, e]))) fun W' hb hc => ?_
    refine hR W' (Below.trans ((Below.refl S W).grown (grownBy_putObj' W D (.deferred none)) ?_ (fun k e => by cases e; exact hS)) hb) (fun p v hp => hc p v (cell_kept hp (grownBy_putObj' _ D (.deferred none)) (fun r e => by cases e; exact ⟨_, hD, rfl⟩)))
    have := (Array.getElem?_eq_some_iff.1 hD).1
    omega

theorem Marks.set_ {S : Nat} {W : World} {ds : List Deferred} {g t : Nat} {cs : Array Value} (hM : Marks S W ds) (hb : Blk W g t cs) (i : Nat) (u : Value) : Marks S (W.setCell ⟨g, i, none⟩ u) ds :=
  hM.keep fun D hD _ => Below.heap_setCell _ _ _ _ (fun e => by
    have e2 : D = g := e
    subst e2
    have := hb.symm.trans hD
    cases this)

theorem Marks.mem {S : Nat} {W : World} : ∀ {ds : List Deferred}, Marks S W ds → ∀ d ∈ ds, ∃ D, d.target = .collected D ∧ W.heap[D]? = some (.deferred (some []))
  | [], _, d, hd => by cases hd
  | d0 :: ds, ⟨⟨D, h1, h2, _, _⟩, hm⟩, d, hd => by
    rcases List.mem_cons.1 hd with rfl | hd
    · exact ⟨D, h1, h2⟩
    · exact hm.mem d hd

/-- What the loop over a state's children leaves as it goes on. -/
structure KI (S H : Nat) (w W2 : World) (nk nr : Nat) (W' : World) : Prop where
  c5 : Blk W' (H + 1) 3 #[.int .i64 (nk : Int)]
  c6 : Blk W' (H + 1 + 1) 3 #[.int .i64 (nr : Int)]
  c2 : Blk W' (S + 1) 4 #[.bool false]
  same : ∀ k, k < W2.heap.size → k ≠ H + 1 → k ≠ H + 1 + 1 → k ≠ S + 1 → W'.heap[k]? = W2.heap[k]?
  size : W2.heap.size ≤ W'.heap.size
  below : Below S w W'

theorem Blk.row_ne {W : World} {g t : Nat} {cs : Array Value} {row : Option Nat} (h : Blk W g t cs) (hr : ∀ r, row = some r → ∃ o : Obj, W.heap[r]? = some o ∧ o.isCells = false) : some g ≠ row := fun e => by
  obtain ⟨o, ho, hc⟩ := hr g e.symm
  have := Option.some.inj (h.symm.trans ho)
  subst this
  cases hc

theorem KI.grown {S H : Nat} {w W2 : World} {nk nr : Nat} {W' W'' : World} {row : Option Nat} (h : KI S H w W2 nk nr W') (hS : S ≤ W2.heap.size) (hg : W'.grownBy W'' row) (hr : ∀ r, row = some r → W2.heap.size ≤ r ∧ ∃ o : Obj, W'.heap[r]? = some o ∧ o.isCells = false) :
    KI S H w W2 nk nr W'' where
  c5 := h.c5.grown hg (h.c5.row_ne fun r e => (hr r e).2)
  c6 := h.c6.grown hg (h.c6.row_ne fun r e => (hr r e).2)
  c2 := h.c2.grown hg (h.c2.row_ne fun r e => (hr r e).2)
  same := fun k hk h1 h2 h3 => (hg.block k (by have := h.size; omega) (fun e => by have := (hr k e.symm).1; omega)).trans (h.same k hk h1 h2 h3)
  size := Nat.le_trans h.size hg.size
  below := h.below.grown hg (Nat.le_trans hS h.size) (fun r e => by have := (hr r e).1; omega)

theorem KI.set5 {S H : Nat} {w W2 : World} {nk nr : Nat} {X : World} (h : KI S H w W2 nk nr X) (hSH : S < H) (m : Nat) : KI S H w W2 m nr (X.setCell ⟨H + 1, 0, none⟩ (.int .i64 (m : Int))) where
  c5 := h.c5.set_ 0 _
  c6 := h.c6.far (p := ⟨H + 1, 0, none⟩) (by show H + 1 + 1 ≠ H + 1; omega) _
  c2 := h.c2.far (p := ⟨H + 1, 0, none⟩) (by show S + 1 ≠ H + 1; omega) _
  same := fun k hk h1 h2 h3 => (Below.heap_setCell X ⟨H + 1, 0, none⟩ _ k h1).trans (h.same k hk h1 h2 h3)
  size := by rw [World.size_setCell]; exact h.size
  below := h.below.setCell (p := ⟨H + 1, 0, none⟩) (by show S ≤ H + 1; omega) _
theorem KI.set6 {S H : Nat} {w W2 : World} {nk nr : Nat} {X : World} (h : KI S H w W2 nk nr X) (hSH : S < H) (m : Nat) : KI S H w W2 nk m (X.setCell ⟨H + 1 + 1, 0, none⟩ (.int .i64 (m : Int))) where
  c5 := h.c5.far (p := ⟨H + 1 + 1, 0, none⟩) (by show H + 1 ≠ H + 1 + 1; omega) _
  c6 := h.c6.set_ 0 _
  c2 := h.c2.far (p := ⟨H + 1 + 1, 0, none⟩) (by show S + 1 ≠ H + 1 + 1; omega) _
  same := fun k hk h1 h2 h3 => (Below.heap_setCell X ⟨H + 1 + 1, 0, none⟩ _ k h2).trans (h.same k hk h1 h2 h3)
  size := by rw [World.size_setCell]; exact h.size
  below := h.below.setCell (p := ⟨H + 1 + 1, 0, none⟩) (by show S ≤ H + 1 + 1; omega) _
theorem KI.set2 {S H : Nat} {w W2 : World} {nk nr : Nat} {X : World} (h : KI S H w W2 nk nr X) (hSH : S < H) : KI S H w W2 nk nr (X.setCell ⟨S + 1, 0, none⟩ (.bool false)) where
  c5 := h.c5.far (p := ⟨S + 1, 0, none⟩) (by show H + 1 ≠ S + 1; omega) _
  c6 := h.c6.far (p := ⟨S + 1, 0, none⟩) (by show H + 1 + 1 ≠ S + 1; omega) _
  c2 := h.c2.set_ 0 _
  same := fun k hk h1 h2 h3 => (Below.heap_setCell X ⟨S + 1, 0, none⟩ _ k h3).trans (h.same k hk h1 h2 h3)
  size := by rw [World.size_setCell]; exact h.size
  below := h.below.setCell (p := ⟨S + 1, 0, none⟩) (by show S ≤ S + 1; omega) _
theorem KpK.set_ {n₀ iB lB : Nat} (X : World) (g : Nat) (v : Value) (h1 : n₀ ≤ g) (h2 : g ≠ lB) (h3 : g ≠ iB) : KpK n₀ iB lB X (X.setCell ⟨g, 0, none⟩ v) :=
  ⟨(Below.refl n₀ X).setCell (p := ⟨g, 0, none⟩) h1 _, Below.heap_setCell X ⟨g, 0, none⟩ _ lB (Ne.symm h2), Below.heap_setCell X ⟨g, 0, none⟩ _ iB (Ne.symm h3)⟩
theorem KpK.trans {n₀ iB lB : Nat} {A B C : World} (h : KpK n₀ iB lB A B) (k : KpK n₀ iB lB B C) : KpK n₀ iB lB A C := ⟨h.1.trans k.1, k.2.1.trans h.2.1, k.2.2.trans h.2.2⟩

theorem five_new (W : World) (c1 c2 c3 c4 c5 : Array Value) (t1 t2 t3 t4 t5 : TypeId) (W2 : World) (h : ((((W.alloc (.cells c1 t1)).alloc (.cells c2 t2)).alloc (.cells c3 t3)).alloc (.cells c4 t4)).alloc (.cells c5 t5) = W2) :
    Blk W2 W.heap.size t1 c1 ∧ Blk W2 (W.heap.size + 1) t2 c2 ∧ Blk W2 (W.heap.size + 1 + 1) t3 c3 ∧ Blk W2 (W.heap.size + 1 + 1 + 1) t4 c4 ∧ Blk W2 (W.heap.size + 1 + 1 + 1 + 1) t5 c5 ∧ W2.heap.size = W.heap.size + 5 ∧ Below W.heap.size W W2 := by
  subst h
  have b1 := Blk.new W t1 c1
  have b2 := Blk.new (W.alloc (.cells c1 t1)) t2 c2
  have b3 := Blk.new ((W.alloc (.cells c1 t1)).alloc (.cells c2 t2)) t3 c3
  have b4 := Blk.new (((W.alloc (.cells c1 t1)).alloc (.cells c2 t2)).alloc (.cells c3 t3)) t4 c4
  have b5 := Blk.new ((((W.alloc (.cells c1 t1)).alloc (.cells c2 t2)).alloc (.cells c3 t3)).alloc (.cells c4 t4)) t5 c5
  simp only [World.size_alloc] at b2 b3 b4 b5
  refine ⟨(((b1.alloc _).alloc _).alloc _).alloc _, ((b2.alloc _).alloc _).alloc _, (b3.alloc _).alloc _, b4.alloc _, b5, by simp only [World.size_alloc], ?_⟩
  exact (((((Below.refl _ W).alloc (Nat.le_refl _) _).alloc (by simp only [World.size_alloc]; omega) _).alloc (by simp only [World.size_alloc]; omega) _).alloc (by simp only [World.size_alloc]; omega) _).alloc (by simp only [World.size_alloc]; omega) _

set_option maxRecDepth 100000 in
set_option maxHeartbeats 2000000 in
theorem right_in (A : Option Addr) (n c : Nat) (st : Sts) (w : World) (h : Tree w w.heap.size A n st) (hw : Tr.Wf st) (hn : n ≤ maxLen) :
    CallsIn Fence.wide 3 Tryz.prog 104 #[.slice A n c] w fun e w' => e = .returned (.bool (decide (Tr.right st))) ∧ Below w.heap.size w w' := by
  refine callsIn_of_wp_marks Tryz.func104 rfl trivial ?_ rfl
  simp only [Tryz.ntmps104, List.size_toArray, List.length_cons, List.length_nil, Nat.reduceAdd, Nat.reduceSub, Array.replicate_succ, Array.replicate_zero, List.push_toArray, List.append_toArray, List.nil_append, List.cons_append]
  gi_wp2
  refine ⟨trivial, (callsIn_wide.2 (shape_any _ A n c st ((h.alloc (Nat.le_refl _) _).alloc (by simp) _ |>.more (by simp only [World.size_alloc]; omega)) hw hn)).mono ?_⟩
  rintro e w1 ⟨rfl, hb1⟩
  have hB1 : Below w.heap.size w w1 := (((Below.refl _ w).alloc (Nat.le_refl _) _).alloc (by simp) _).trans (hb1.mono (by simp; omega))
  have hL1 : Blk w1 w.heap.size 37 #[.slice A n c] := ((Blk.new w _ _).alloc _).below hb1 (by simp only [World.size_alloc]; omega)
  have hR1 : Blk w1 (w.heap.size + 1) 4 #[.bool false] := by
    have := Blk.new (w.alloc (.cells #[.slice A n c] 37)) 4 #[.bool false]
    rw [World.size_alloc] at this
    exact this.below hb1 (by simp only [World.size_alloc]; omega)
  clear hb1
  have hcL := hL1.cell 0
  by_cases hs : Tr.shape st
  · rw [decide_eq_true hs]
    have hn40 : n ≤ 40 := by rw [← h.1]; exact hs.2.2.2
    clear hn
    gi_wp2
    refine wpIn_loop (fun a' W' => ∃ (i : Nat) (ds : List Deferred) (u3 u4 u5 u6 u7 u14 u15 u16 u17 u18 u19 u20 u21 u22 u23 u24 u25 u26 u27 u28 u29 u30 u31 u32 u33 u34 u35 u36 u37 u38 u39 u40 u41 u42 u43 u44 u45 u46 u47 u48 u49 u50 u51 u52 u53 u54 u55 u56 u57 u58 u59 u60 u61 : Value), (i ≤ n ∧ Below w.heap.size w W' ∧ Blk W' w.heap.size 37 #[.slice A n c] ∧ Blk W' (w.heap.size + 1) 4 #[.bool false] ∧ Marks w.heap.size W' ds ∧ ∀ j, j < i → Tr.nodeOk st j) ∧
      a' = { tmps := #[.slice A n c, .pointer (some ⟨w.heap.size, 0, none⟩), .pointer (some ⟨w.heap.size + 1, 0, none⟩), u3, u4, u5, u6, u7, .slice A n c, .bool true, .bool false, .slice A n c, .int .i64 (n : Int), .int .i64 (i : Int), u14, u15, u16, u17, u18, u19, u20, u21, u22, u23, u24, u25, u26, u27, u28, u29, u30, u31, u32, u33, u34, u35, u36, u37, u38, u39, u40, u41, u42, u43, u44, u45, u46, u47, u48, u49, u50, u51, u52, u53, u54, u55, u56, u57, u58, u59, u60, u61], defers := ds }) (fun a' _ => n - (intOf (a'.tmps.getD 13 undef)).toNat) ?_ ?_
    · refine ⟨0, [], _, _, _, _, _, _, _, _, _, _, _, _, _, _, _, _, _, _, _, _, _, _, _, _, _, _, _, _, _, _, _, _, _, _, _, _, _, _, _, _, _, _, _, _, _, _, _, _, _, _, _, _, _, ⟨by omega, hB1, hL1, hR1, trivial, fun j hj => absurd hj (by omega)⟩, rfl⟩
    · rintro _ W ⟨i, ds, u3, u4, u5, u6, u7, u14, u15, u16, u17, u18, u19, u20, u21, u22, u23, u24, u25, u26, u27, u28, u29, u30, u31, u32, u33, u34, u35, u36, u37, u38, u39, u40, u41, u42, u43, u44, u45, u46, u47, u48, u49, u50, u51, u52, u53, u54, u55, u56, u57, u58, u59, u60, u61, ⟨hin, hB, hL, hR, hM, hall⟩, rfl⟩
      have hcL := hL.cell 0
      have hHs := hB.size
      have ht := h.below hB
      by_cases hlt : i < n
      · have hltz : (i : Int) < (n : Int) := by omega
        obtain ⟨ad, rfl, hab⟩ := h.addr hlt
        obtain ⟨hk1, hk2⟩ := ht.at_ hlt
        obtain ⟨s0, s3, a4, n4, c4, a5, n5, c5, hc0, hc3, hc4, hc5⟩ := ht.all hlt
        have hcL2 : ∀ o, (W.alloc o).cell? ⟨w.heap.size, 0, none⟩ = some (.slice (some ad) n c) := fun o => (World.cell?_alloc_lt W o ⟨w.heap.size, 0, none⟩ hL.lt).trans hcL
        have hcL4 : ∀ o o' o'', (((W.alloc o).alloc o').alloc o'').cell? ⟨w.heap.size, 0, none⟩ = some (.slice (some ad) n c) := fun o o' o'' => by
          rw [World.cell?_alloc_lt _ _ _ (by have := hL.lt; simp only [World.size_alloc]; omega), World.cell?_alloc_lt _ _ _ (by have := hL.lt; simp only [World.size_alloc]; omega)]
          exact hcL2 o
        gi_wp2
        refine ⟨trivial, (kids_in _ (some ad) n c i _).mono ?_⟩
        rintro e w2 ⟨rfl, hw2⟩
        gi_wp2
        clear hw2
        generalize hW2 : ((((W.alloc (.cells #[.string s0, .int .i64 (Tr.kd st i), .int .i64 (Tr.dp st i), .string s3, .slice a4 n4 c4, .slice a5 n5 c5] 99)).alloc (.cells #[.int .i64 0] 3)).alloc (.cells #[.int .i64 0] 3)).alloc (.cells #[.slice (some ad) n c] 37)).alloc (.cells #[.int .i64 (i : Int)] 3) = W2
        obtain ⟨f4, f5, f6, f7, f8, fsz, fB⟩ := five_new _ _ _ _ _ _ _ _ _ _ _ _ hW2
        clear hW2
        have fBw : Below w.heap.size w W2 := hB.trans (fB.mono hHs)
        have hSH := hR.lt
        have hK0 : KI w.heap.size W.heap.size w W2 0 0 W2 := ⟨f5, f6, hR.below fB hSH, fun _ _ _ _ _ => rfl, Nat.le_refl _, fBw⟩
        refine wpIn_rangeFunc_ownF rfl (by omega) (gf := 213) (lb := #[.pointer (some ⟨W.heap.size + 1 + 1 + 1 + 1, 0, none⟩), .pointer (some ⟨W.heap.size + 1 + 1 + 1, 0, none⟩)]) rfl trivial (enters_of Tryz.func213 (by kernel_rfl) rfl)
          (kids_stops 2 (by omega) (W.heap.size + 1 + 1 + 1 + 1) (W.heap.size + 1 + 1 + 1) w.heap.size (some ad) n c st (Nat.le_trans hn40 (by unfold maxLen; omega)) i hlt W2 fBw.size (f8.cell 0) (f7.cell 0) (h.below fBw))
          ?hKt ?hKb (Below.refl _ _) (fun _ => rfl)
          (fun (pre : List { x : Nat // x < n }) W' => KI w.heap.size W.heap.size w W2 pre.length (Tr.reals st (pre.map Subtype.val)) W' ∧ ∀ x ∈ pre, Tr.kidOk st i x.1)
          (fun c (pre : List { x : Nat // x < n }) W' => c = .ret ∧ (∃ x ∈ pre, ¬ Tr.kidOk st i x.1) ∧ ∃ nk nr, KI w.heap.size W.heap.size w W2 nk nr W')
          (fun s A B row hs hg hr => ⟨hs.1.grown fBw.size hg hr, hs.2⟩)
          (fun c s A B row hs hg hr => ⟨hs.1, hs.2.1, by obtain ⟨nk, nr, hk⟩ := hs.2.2; exact ⟨nk, nr, hk.grown fBw.size hg hr⟩⟩)
          ⟨hK0, fun x hx => by cases hx⟩
          (fun x => { tmps := #[.slice (some ad) n c, .pointer (some ⟨w.heap.size, 0, none⟩), .pointer (some ⟨w.heap.size + 1, 0, none⟩), .int .i64 (i : Int), .pointer (some ⟨W.heap.size, 0, none⟩), .pointer (some ⟨W.heap.size + 1, 0, none⟩), .pointer (some ⟨W.heap.size + 1 + 1, 0, none⟩), .int .i64 (x.1 : Int), .slice (some ad) n c, .bool true, .bool false, .slice (some ad) n c, .int .i64 (n : Int), .int .i64 (i : Int), .bool true, .int .i64 (i : Int), .pointer (some (ad.add (i * 6))), .agg #[.string s0, .int .i64 (Tr.kd st i), .int .i64 (Tr.dp st i), .string s3, .slice a4 n4 c4, .slice a5 n5 c5], .slice (some ad) n c, .int .i64 (i : Int), .func (.func 213) #[] #[.pointer (some ⟨W.heap.size + 1 + 1 + 1 + 1, 0, none⟩), .pointer (some ⟨W.heap.size + 1 + 1 + 1, 0, none⟩)], .int .i64 (x.1 : Int), u22, u23, u24, u25, u26, u27, u28, u29, u30, u31, u32, u33, u34, u35, u36, u37, u38, u39, u40, u41, u42, u43, u44, u45, u46, u47, u48, u49, u50, u51, u52, u53, u54, u55, u56, u57, u58, u59, u60, u61], defers := [] }) ?assign ?body ?done ?stop
        case hKt =>
          rintro A B C ⟨h1, h2, h3⟩ ⟨k1, k2, k3⟩
          exact ⟨h1.trans k1, k2.trans h2, k3.trans h3⟩
        case hKb =>
          intro X l o o' hl ho hc hwk
          exact ⟨belowK_b (w := W2) fBw.size X l o o' hl ho hc hwk, World.putObj_heap_other (by omega), World.putObj_heap_other (by omega)⟩
        case assign =>
          intro l x X K hK
          gi_wp2
          exact hK
        case body =>
          rintro l pre x X ⟨hki, hok⟩ hlen
          have htX := (h.below hki.below).at_ x.2
          have hX4 : Blk X W.heap.size 99 #[.string s0, .int .i64 (Tr.kd st i), .int .i64 (Tr.dp st i), .string s3, .slice a4 n4 c4, .slice a5 n5 c5] := (hki.same W.heap.size (by omega) (by omega) (by omega) (by omega)).trans f4
          have hXL : Blk X w.heap.size 37 #[.slice (some ad) n c] := (hki.same w.heap.size (by omega) (by omega) (by omega) (by omega)).trans (hL.below fB hL.lt)
          have hplen : pre.length < 40 := by have := Tr.kids_len st (i := i) (by rw [h.1]; exact hlt); rw [h.1] at this; omega
          have hrlen := Tr.reals_le st (pre.map Subtype.val)
          rw [List.length_map] at hrlen
          have hrs := Tr.reals_snoc st (pre.map Subtype.val) x.1
          rw [show pre.map Subtype.val ++ [x.1] = (pre ++ [x]).map Subtype.val by simp] at hrs
          have hkok : (∀ y ∈ pre ++ [x], Tr.kidOk st i y.1) ↔ Tr.kidOk st i x.1 := by
            constructor
            · exact fun h => h x (by simp)
            · intro h y hy
              rcases List.mem_append.1 hy with hy | hy
              · exact hok y hy
              · rw [List.mem_singleton.1 hy]; exact h
          have hpl1 : (pre ++ [x]).length = pre.length + 1 := by simp
          have hxn := x.2
          have hxz : (x.1 : Int) < (n : Int) := by omega
          obtain ⟨K, hK⟩ : ∃ K, Tr.kd st x.1 = K := ⟨_, rfl⟩
          obtain ⟨nk, hnk⟩ : ∃ nk, pre.length = nk := ⟨_, rfl⟩
          obtain ⟨nr, hnr⟩ : ∃ nr, Tr.reals st (pre.map Subtype.val) = nr := ⟨_, rfl⟩
          unfold Tr.kidOk at hkok
          rw [hK] at htX hkok hrs
          rw [hnk] at hki hplen hrlen hpl1
          rw [hnr] at hki hrlen hrs
          have haH : ad.block ≠ W.heap.size + 1 := by omega
          have haH2 : ad.block ≠ W.heap.size + 1 + 1 := by omega
          have hab2 : (ad.add (x.1 * 6)).block = ad.block := block_of_add _ _
          have h5c : X.cell? ⟨W.heap.size + 1, 0, none⟩ = some (.int .i64 (nk : Int)) := hki.c5.cell 0
          have h5f := hki.c5.frozen 0
          have h6f := hki.c6.frozen 0
          have h2f := hki.c2.frozen 0
          have gL : ∀ v, (X.setCell ⟨W.heap.size + 1, 0, none⟩ v).cell? ⟨w.heap.size, 0, none⟩ = some (.slice (some ad) n c) := fun v => (hXL.far (p := ⟨W.heap.size + 1, 0, none⟩) (by show w.heap.size ≠ W.heap.size + 1; omega) v).cell 0
          have gs : ∀ v, (X.setCell ⟨W.heap.size + 1, 0, none⟩ v).cell? ⟨W.heap.size, 1, none⟩ = some (.int .i64 (Tr.kd st i)) := fun v => (hX4.far (p := ⟨W.heap.size + 1, 0, none⟩) (by show W.heap.size ≠ W.heap.size + 1; omega) v).cell 1
          have g6 : ∀ v, (X.setCell ⟨W.heap.size + 1, 0, none⟩ v).cell? ⟨W.heap.size + 1 + 1, 0, none⟩ = some (.int .i64 (nr : Int)) := fun v => (hki.c6.far (p := ⟨W.heap.size + 1, 0, none⟩) (by show W.heap.size + 1 + 1 ≠ W.heap.size + 1; omega) v).cell 0
          have g2 : ∀ v, (X.setCell ⟨W.heap.size + 1, 0, none⟩ v).cell? ⟨w.heap.size + 1, 0, none⟩ = some (.bool false) := fun v => (hki.c2.far (p := ⟨W.heap.size + 1, 0, none⟩) (by show w.heap.size + 1 ≠ W.heap.size + 1; omega) v).cell 0
          have gk : ∀ v, (X.setCell ⟨W.heap.size + 1, 0, none⟩ v).cell? { block := (ad.add (x.1 * 6)).block, off := (ad.add (x.1 * 6)).off + 1 } = some (.int .i64 K) := fun v =>
            (World.cell?_setCell_other X _ _ v (fun e => haH (by rw [← hab2]; exact (congrArg Addr.block e).symm))).trans htX.1
          have mL : ∀ v u, ((X.setCell ⟨W.heap.size + 1, 0, none⟩ v).setCell ⟨W.heap.size + 1 + 1, 0, none⟩ u).cell? ⟨w.heap.size, 0, none⟩ = some (.slice (some ad) n c) := fun v u => ((hXL.far (p := ⟨W.heap.size + 1, 0, none⟩) (by show w.heap.size ≠ W.heap.size + 1; omega) v).far (p := ⟨W.heap.size + 1 + 1, 0, none⟩) (by show w.heap.size ≠ W.heap.size + 1 + 1; omega) u).cell 0
          have ms : ∀ v u, ((X.setCell ⟨W.heap.size + 1, 0, none⟩ v).setCell ⟨W.heap.size + 1 + 1, 0, none⟩ u).cell? ⟨W.heap.size, 1, none⟩ = some (.int .i64 (Tr.kd st i)) := fun v u => ((hX4.far (p := ⟨W.heap.size + 1, 0, none⟩) (by show W.heap.size ≠ W.heap.size + 1; omega) v).far (p := ⟨W.heap.size + 1 + 1, 0, none⟩) (by show W.heap.size ≠ W.heap.size + 1 + 1; omega) u).cell 1
          have m2 : ∀ v u, ((X.setCell ⟨W.heap.size + 1, 0, none⟩ v).setCell ⟨W.heap.size + 1 + 1, 0, none⟩ u).cell? ⟨w.heap.size + 1, 0, none⟩ = some (.bool false) := fun v u => ((hki.c2.far (p := ⟨W.heap.size + 1, 0, none⟩) (by show w.heap.size + 1 ≠ W.heap.size + 1; omega) v).far (p := ⟨W.heap.size + 1 + 1, 0, none⟩) (by show w.heap.size + 1 ≠ W.heap.size + 1 + 1; omega) u).cell 0
          have mk : ∀ v u, ((X.setCell ⟨W.heap.size + 1, 0, none⟩ v).setCell ⟨W.heap.size + 1 + 1, 0, none⟩ u).cell? { block := (ad.add (x.1 * 6)).block, off := (ad.add (x.1 * 6)).off + 1 } = some (.int .i64 K) := fun v u =>
            (World.cell?_setCell_other _ _ _ u (fun e => haH2 (by rw [← hab2]; exact (congrArg Addr.block e).symm))).trans (gk v)
          have HRS := Lib.hid hrs
          have HPL := Lib.hid hpl1
          have HKOK := Lib.hid hkok
          have hSH2 : w.heap.size < W.heap.size := by omega
          have hK5 := (hki.set5 hSH2 (nk + 1))
          have hK56 := (hki.set5 hSH2 (nk + 1)).set6 hSH2 (nr + 1)
          have HK := Lib.hid hK
          clear hrs hpl1 hkok hok hK hnk hnr hxn htX hX4 hXL hab2 haH haH2
          cases hp : Tr.pastB K with
          | false =>
            by_cases hK3 : Tr.kd st i = 3
            · by_cases hK4 : K = 4
              · subst hK4
                gi_wp2_with (first | (refine ⟨trivial, ?_⟩; gi_at_call 161; refine (CallsIn.inRound l (callsIn_wide.2 (past_any _ 4))).mono ?_; rintro e w' ⟨rfl, rfl⟩; rw [hp]) | refine ⟨trivial, ?_⟩)
                exact ⟨((KeepsOthers.setCell _ _ _).trans (KeepsOthers.setCell _ _ _)).trans (KeepsOthers.setCell _ _ _), rfl, ⟨x, by simp, fun hk => (hk hK3).2 HK.out⟩, _, _, hK56.set2 hSH2⟩
              · gi_wp2_with (first | (refine ⟨trivial, ?_⟩; gi_at_call 161; refine (CallsIn.inRound l (callsIn_wide.2 (past_any _ K))).mono ?_; rintro e w' ⟨rfl, rfl⟩; rw [hp]) | refine ⟨trivial, ?_⟩)
                refine ⟨(KeepsOthers.setCell _ _ _).trans (KeepsOthers.setCell _ _ _), (KpK.set_ _ _ _ (by omega) (by omega) (by omega)).trans (KpK.set_ _ _ _ (by omega) (by omega) (by omega)), ?_, HKOK.out.2 fun _ => ⟨hp, hK4⟩⟩
                rw [HPL.out, HRS.out, hp]
                exact hK56
            · gi_wp2_with (first | (refine ⟨trivial, ?_⟩; gi_at_call 161; refine (CallsIn.inRound l (callsIn_wide.2 (past_any _ K))).mono ?_; rintro e w' ⟨rfl, rfl⟩; rw [hp]) | refine ⟨trivial, ?_⟩)
              refine ⟨(KeepsOthers.setCell _ _ _).trans (KeepsOthers.setCell _ _ _), (KpK.set_ _ _ _ (by omega) (by omega) (by omega)).trans (KpK.set_ _ _ _ (by omega) (by omega) (by omega)), ?_, HKOK.out.2 fun h => absurd h hK3⟩
              rw [HPL.out, HRS.out, hp]
              exact hK56
          | true =>
            by_cases hK3 : Tr.kd st i = 3
            · gi_wp2_with (first | (refine ⟨trivial, ?_⟩; gi_at_call 161; refine (CallsIn.inRound l (callsIn_wide.2 (past_any _ K))).mono ?_; rintro e w' ⟨rfl, rfl⟩; rw [hp]) | refine ⟨trivial, ?_⟩)
              exact ⟨(KeepsOthers.setCell _ _ _).trans (KeepsOthers.setCell _ _ _), rfl, ⟨x, by simp, fun hk => by have := (hk hK3).1; rw [HK.out, hp] at this; cases this⟩, _, _, hK5.set2 hSH2⟩
            · gi_wp2_with (first | (refine ⟨trivial, ?_⟩; gi_at_call 161; refine (CallsIn.inRound l (callsIn_wide.2 (past_any _ K))).mono ?_; rintro e w' ⟨rfl, rfl⟩; rw [hp]) | refine ⟨trivial, ?_⟩)
              refine ⟨KeepsOthers.setCell _ _ _, KpK.set_ _ _ _ (by omega) (by omega) (by omega), ?_, HKOK.out.2 fun h => absurd h hK3⟩
              rw [HPL.out, HRS.out, hp]
              exact hK5
        case done =>
          rintro D ys X hD hys ⟨hki, hok⟩ hX
          have hlenk : ys.length = (Tr.kids st i).length := by rw [← hys, List.length_map]
          have hok2 : ∀ k ∈ Tr.kids st i, Tr.kidOk st i k := fun k hk => by
            rw [← hys] at hk
            obtain ⟨x, hx, rfl⟩ := List.mem_map.1 hk
            exact hok x hx
          rw [hys, hlenk] at hki
          have hMX : Marks w.heap.size X ({ target := .collected D, args := #[] } :: ds) := by
            refine ⟨⟨D, rfl, hX, by omega, fun d' hd' e => ?_⟩, hM.keep fun D' hD' _ => ?_⟩
            · obtain ⟨D', hd2, hD'⟩ := hM.mem d' hd'
              rw [e] at hd2
              injection hd2 with hd2
              have := (Array.getElem?_eq_some_iff.1 hD').1
              omega
            · have hlt' := (Array.getElem?_eq_some_iff.1 hD').1
              have hne : D' ≠ w.heap.size + 1 := fun e => by
                subst e
                have := hR.symm.trans hD'
                cases this
              exact (hki.same D' (by omega) (by omega) (by omega) hne).trans (fB.block D' hlt')
          have hX4 : Blk X W.heap.size 99 #[.string s0, .int .i64 (Tr.kd st i), .int .i64 (Tr.dp st i), .string s3, .slice a4 n4 c4, .slice a5 n5 c5] := (hki.same W.heap.size (by omega) (by omega) (by omega) (by omega)).trans f4
          have hXL : Blk X w.heap.size 37 #[.slice (some ad) n c] := (hki.same w.heap.size (by omega) (by omega) (by omega) (by omega)).trans (hL.below fB hL.lt)
          have hkc : X.cell? ⟨W.heap.size, 1, none⟩ = some (.int .i64 (Tr.kd st i)) := hX4.cell 1
          have h5c : X.cell? ⟨W.heap.size + 1, 0, none⟩ = some (.int .i64 ((Tr.kids st i).length : Int)) := hki.c5.cell 0
          have h6c : X.cell? ⟨W.heap.size + 1 + 1, 0, none⟩ = some (.int .i64 (Tr.reals st (Tr.kids st i) : Int)) := hki.c6.cell 0
          have h2c : X.cell? ⟨w.heap.size + 1, 0, none⟩ = some (.bool false) := hki.c2.cell 0
          have h2f := hki.c2.frozen 0
          by_cases hnode : Tr.nodeOk st i
          · have hall' : ∀ j, j < i + 1 → Tr.nodeOk st j := fun j hj => by
              by_cases h : j = i
              · subst h; exact hnode
              · exact hall j (by omega)
            have hnx := hnode.2
            by_cases hK : Tr.kd st i = 2 ∨ Tr.kd st i = 3
            · rw [if_pos hK] at hnx
              have hnz : ¬ ((Tr.reals st (Tr.kids st i) : Nat) : Int) = 0 := by omega
              rcases hK with hK | hK
              · gi_wp2
                first
                | exact ⟨⟨i + 1, _, _, _, _, _, _, _, _, _, _, _, _, _, _, _, _, _, _, _, _, _, _, _, _, _, _, _, _, _, _, _, _, _, _, _, _, _, _, _, _, _, _, _, _, _, _, _, _, _, _, _, _, _, _, ⟨by omega, hki.below, hXL, hki.c2, hMX, hall'⟩, rfl⟩, by simp [intOf]; omega⟩
                | exact ⟨⟨i + 1, ⟨by omega, hki.below, hki.c2, hall'⟩, by omega⟩, by simp [intOf]; omega⟩
              · gi_wp2
                first
                | exact ⟨⟨i + 1, _, _, _, _, _, _, _, _, _, _, _, _, _, _, _, _, _, _, _, _, _, _, _, _, _, _, _, _, _, _, _, _, _, _, _, _, _, _, _, _, _, _, _, _, _, _, _, _, _, _, _, _, _, _, ⟨by omega, hki.below, hXL, hki.c2, hMX, hall'⟩, rfl⟩, by simp [intOf]; omega⟩
                | exact ⟨⟨i + 1, ⟨by omega, hki.below, hki.c2, hall'⟩, by omega⟩, by simp [intOf]; omega⟩
            · rw [if_neg hK] at hnx
              have hK2 : ¬ Tr.kd st i = 2 := fun h => hK (.inl h)
              have hK3 : ¬ Tr.kd st i = 3 := fun h => hK (.inr h)
              have hnz : ¬ (0 : Int) < ((Tr.kids st i).length : Int) := by omega
              clear hK
              have HNX := Lib.hid hnx
              clear hnx
              gi_wp2
              first
                | exact ⟨⟨i + 1, _, _, _, _, _, _, _, _, _, _, _, _, _, _, _, _, _, _, _, _, _, _, _, _, _, _, _, _, _, _, _, _, _, _, _, _, _, _, _, _, _, _, _, _, _, _, _, _, _, _, _, _, _, _, ⟨by omega, hki.below, hXL, hki.c2, hMX, hall'⟩, rfl⟩, by simp [intOf]; omega⟩
                | exact ⟨⟨i + 1, ⟨by omega, hki.below, hki.c2, hall'⟩, by omega⟩, by simp [intOf]; omega⟩
          · have hnr : decide (Tr.right st) = false := decide_eq_false fun hr => hnode (hr.2 i (by rw [h.1]; exact hlt))
            by_cases hK : Tr.kd st i = 2 ∨ Tr.kd st i = 3
            · have hz0 : Tr.reals st (Tr.kids st i) = 0 := by
                by_cases h0 : Tr.reals st (Tr.kids st i) = 0
                · exact h0
                · exact absurd ⟨hok2, by rw [if_pos hK]; exact h0⟩ hnode
              have hz : ((Tr.reals st (Tr.kids st i) : Nat) : Int) = 0 := by omega
              rcases hK with hK | hK
              · gi_wp2
                refine leaves_marks _ _ (hMX.set_ hki.c2 0 _) fun W' hb hc => ?_
                have hc5 := hc ⟨w.heap.size + 1, 0, none⟩ _ ((hki.c2.set_ 0 (.bool false)).cell 0)
                refine ⟨.bool false, ?_, by first | rfl | rw [hnr], (hki.below.setCell (p := ⟨w.heap.size + 1, 0, none⟩) (by simp) _).trans hb⟩
                simp [results, Tryz.f104, go_sem, hc5]
              · gi_wp2
                refine leaves_marks _ _ (hMX.set_ hki.c2 0 _) fun W' hb hc => ?_
                have hc5 := hc ⟨w.heap.size + 1, 0, none⟩ _ ((hki.c2.set_ 0 (.bool false)).cell 0)
                refine ⟨.bool false, ?_, by first | rfl | rw [hnr], (hki.below.setCell (p := ⟨w.heap.size + 1, 0, none⟩) (by simp) _).trans hb⟩
                simp [results, Tryz.f104, go_sem, hc5]
            · have hp0 : 0 < (Tr.kids st i).length := by
                by_cases h0 : (Tr.kids st i).length = 0
                · exact absurd ⟨hok2, by rw [if_neg hK]; exact h0⟩ hnode
                · omega
              have hK2 : ¬ Tr.kd st i = 2 := fun h => hK (.inl h)
              have hK3 : ¬ Tr.kd st i = 3 := fun h => hK (.inr h)
              have hpz : (0 : Int) < ((Tr.kids st i).length : Int) := by omega
              clear hK
              gi_wp2
              refine leaves_marks _ _ (hMX.set_ hki.c2 0 _) fun W' hb hc => ?_
              have hc5 := hc ⟨w.heap.size + 1, 0, none⟩ _ ((hki.c2.set_ 0 (.bool false)).cell 0)
              refine ⟨.bool false, ?_, by first | rfl | rw [hnr], (hki.below.setCell (p := ⟨w.heap.size + 1, 0, none⟩) (by simp) _).trans hb⟩
              simp [results, Tryz.f104, go_sem, hc5]
        case stop =>
          rintro D c pre X hD hys ⟨rfl, ⟨x, hx, hnok⟩, nk, nr, hki⟩ hX
          have hnr : decide (Tr.right st) = false := decide_eq_false fun hr => hnok ((hr.2 i (by rw [h.1]; exact hlt)).1 x.1 (hys.subset (List.mem_map.2 ⟨x, hx, rfl⟩)))
          have hMX : Marks w.heap.size X ({ target := .collected D, args := #[] } :: ds) := by
            refine ⟨⟨D, rfl, hX, by omega, fun d' hd' e => ?_⟩, hM.keep fun D' hD' _ => ?_⟩
            · obtain ⟨D', hd2, hD'⟩ := hM.mem d' hd'
              rw [e] at hd2
              injection hd2 with hd2
              have := (Array.getElem?_eq_some_iff.1 hD').1
              omega
            · have hlt' := (Array.getElem?_eq_some_iff.1 hD').1
              have hne : D' ≠ w.heap.size + 1 := fun e => by
                subst e
                have := hR.symm.trans hD'
                cases this
              exact (hki.same D' (by omega) (by omega) (by omega) hne).trans (fB.block D' hlt')
          gi_wp2
          refine leaves_marks _ _ hMX fun W' hb hc => ?_
          have hc5 := hc ⟨w.heap.size + 1, 0, none⟩ _ (hki.c2.cell 0)
          refine ⟨.bool false, ?_, by first | rfl | rw [hnr], hki.below.trans hb⟩
          simp [results, Tryz.f104, go_sem, hc5]
      · obtain rfl : i = n := by omega
        have hlz : ¬ (i : Int) < (i : Int) := by omega
        have hr : decide (Tr.right st) = true := decide_eq_true ⟨hs, by rw [h.1]; exact hall⟩
        have hc1 : W.cell? ⟨w.heap.size + 1, 0, none⟩ = some (.bool false) := hR.cell 0
        have hf1 := hR.frozen 0
        gi_wp2
        refine leaves_marks ds _ (hM.set_ hR 0 _) fun W' hb hc => ?_
        have hc5 := hc ⟨w.heap.size + 1, 0, none⟩ _ ((hR.set_ 0 (.bool true)).cell 0)
        refine ⟨.bool true, ?_, by first | rfl | rw [hr], (hB.setCell (p := ⟨w.heap.size + 1, 0, none⟩) (by simp) _).trans hb⟩
        simp [results, Tryz.f104, go_sem, hc5]
  · rw [decide_eq_false hs]
    have hr : decide (Tr.right st) = false := decide_eq_false fun h => hs h.1
    have hc1 : w1.cell? ⟨w.heap.size + 1, 0, none⟩ = some (.bool false) := hR1.cell 0
    have hf1 := hR1.frozen 0
    gi_wp2
    refine leaves_marks (S := w.heap.size) [] _ trivial fun W' hb hc => ?_
    have hc5 := hc ⟨w.heap.size + 1, 0, none⟩ _ ((hR1.set_ 0 (.bool false)).cell 0)
    refine ⟨.bool false, ?_, by rw [hr], (hB1.setCell (p := ⟨w.heap.size + 1, 0, none⟩) (by simp) _).trans hb⟩
    simp [results, Tryz.f104, go_sem, hc5]

end Go.Proofs.YtgmhkjmnfafccaaGreatDoor
