/- The evaluator's operations are the model's: append. -/
import Derived.Test.YtgmhkjmnfafccaaGreatDoorEvH
namespace Go.Proofs.YtgmhkjmnfafccaaGreatDoor
open Go.RowKit
namespace Ev
set_option linter.unusedVariables false
section
variable {P : Program} {T : Tb} {base : Nat} {e : Env} {H H' : AH} {w : World} {x : AV}
/-- A block is given up. -/
theorem kill_ok (hr : HRel base e H w) {b : Nat} (hb : b < 2 ^ depth) : HRel base e (H.put b none) w := by
  have alive : ∀ b', b' < 2 ^ depth → ∀ x, (H.put b none).get b' = some x → b' ≠ b ∧ H.get b' = some x := fun b' hb' x hx => by
    rw [AH.get_put _ _ _ _ hb hb'] at hx
    by_cases hbb : b' = b
    · rw [if_pos hbb] at hx; cases hx
    · rw [if_neg hbb] at hx; exact ⟨hbb, hx⟩
  exact ⟨hr.size, hr.next, hr.fresh, fun b' y hb' hy => hr.blk b' y hb' (alive b' hb' y hy).2, fun b1 b2 x1 x2 p1 p2 hb1 hb2 hx1 hx2 hp1 hp2 hne => hr.inj b1 b2 _ _ _ _ hb1 hb2 (alive b1 hb1 _ hx1).2 (alive b2 hb2 _ hx2).2 hp1 hp2 hne⟩
/-- What 'append' does in memory, whatever its second argument is. -/
structure App (P : Program) (w : World) (app : Sem Value) (el : TypeId) (size n : Nat) (s' : Value) (news : List Value) : Prop where
  len : news.length = n * size
  nil : s' = .slice none 0 0 → n = 0 → app.run P w = .ok s' w
  room : ∀ g off len cap w', s' = .slice (some ⟨g, off, none⟩) len cap → len + n ≤ cap → (storeCells ⟨g, off + len * size, none⟩ news).run P w = .ok () w' → app.run P w = .ok (.slice (some ⟨g, off, none⟩) (len + n) cap) w'
  grow : ∀ bs len cap (olds : List Value), s' = .slice bs len cap → (Builtin.firstCells size len s').run P w.drew = .ok olds.toArray w.drew → cap < len + n → len + n < 200000 →
    ∃ nc more, len + n ≤ nc ∧ more.length = (nc - (len + n)) * size ∧ app.run P w = .ok (.slice (some ⟨w.heap.size, 0, none⟩) (len + n) nc) (w.drew.alloc (.cells (olds ++ news ++ more).toArray el))
theorem grown_ok {app : Sem Value} {el : TypeId} {size n len nc : Nat} {all : List AV} {ys more : List Value} (hr : HRel base e H w) (hall : DRL e all ys) (hlen : ys.length = (len + n) * size) (hmore : more.length = (nc - (len + n)) * size) (hnc : len + n ≤ nc) (hn : H.next + 1 ≤ 2 ^ depth)
    (hrun : app.run P w = .ok (.slice (some ⟨w.heap.size, 0, none⟩) (len + n) nc) (w.drew.alloc (.cells (ys ++ more).toArray el))) :
    Does P base e w (do pure (.value (← app))) (.slc H.next 0 (len + n) (.to size)) (H.alloc (.cells all el)) := by
  obtain ⟨h1, h2⟩ := row_ok (more := more) hr.drew el hn hall
  refine ⟨_, _, _, _, new_le hr.drew _, by simp only [Sem.run_bind, hrun, Result.andThen_ok]; rfl, .inl rfl, .slc (g := w.heap.size) (o := 0) (z := (ys ++ more).length) (by unfold Env.new; rw [if_pos rfl]; rfl) ?_ hnc, h1, ((Below.refl _ _).drew).trans h2⟩
  show 0 + 0 + nc * size = (ys ++ more).length
  rw [List.length_append, hlen, hmore, ← Nat.add_mul, show len + n + (nc - (len + n)) = nc by omega]
  omega
theorem evAppend_ok {app : Sem Value} {el : TypeId} {s : AV} {s' : Value} {new : List AV} {news : List Value} {n size : Nat} (hr : HRel base e H w) (hs : DR e s s') (hnew : DRL e new news) (ha : App P w app el size n s' news) (hsz : 0 < size) (hnn : n < 100000) (hone : new.all oneB = true)
    (h : evAppend H el s new n size = some (.val x H')) (hn : H'.next ≤ 2 ^ depth) : Does P base e w (do pure (.value (← app))) x H' := by
  unfold evAppend at h
  split at h
  · cases hs
    cases hn0 : (n == 0) with
    | true =>
      rw [hn0] at h
      cases h
      have := ha.nil rfl (by simpa using hn0)
      exact does_value hr this (.v _)
    | false =>
      rw [hn0] at h
      cases h
      have hpos : n ≠ 0 := by simpa using hn0
      obtain ⟨nc, more, g1, g2, g3⟩ := ha.grow none 0 0 [] rfl (run_firstCells_none w.drew size 0 0 0) (by omega) (by omega)
      rw [List.nil_append, Nat.zero_add] at g3
      rw [Nat.zero_add] at g1 g2
      have := grown_ok (P := P) (len := 0) hr hnew (by rw [ha.len, Nat.zero_add]) (by rw [Nat.zero_add]; exact g2) (by omega) hn (by rw [Nat.zero_add]; exact g3)
      rw [Nat.zero_add] at this
      exact this
  · rename_i b off len cap
    cases hs with
    | slc hb hc hl =>
      rename_i g o z c
      cases hlb : Nat.blt len 100000 with
      | false => rw [hlb] at h; cases h
      | true =>
        rw [hlb] at h
        have hlen := of_eq_true ((Nat.blt_eq).symm.trans (eq_true hlb))
        dsimp only [cond_true] at h
        split at h
        · cases h
        · rename_i old hold
          obtain ⟨olds, o1, o2, o3⟩ := load_ok hr hold hb
          have hfc : (Builtin.firstCells size len (.slice (some ⟨g, o + off, none⟩) len c)).run P w.drew = .ok olds.toArray w.drew := run_firstCells_some w.drew size len ⟨g, o + off, none⟩ len c olds o2 (fun j v hj => by rw [Addr.add_mid]; exact o3 j v hj)
          have grow : ∀ {H2 : AH}, HRel base e H2 w → H2.next = H.next → c < len + n → H2.next + 1 ≤ 2 ^ depth → Does P base e w (do pure (.value (← app))) (.slc H2.next 0 (len + n) (.to size)) (H2.alloc (.cells (old ++ new) el)) := fun h2 he hlt hn2 => by
            obtain ⟨nc, more, g1, g2, g3⟩ := ha.grow _ len c olds rfl hfc hlt (by omega)
            exact grown_ok h2 (o1.append hnew) (by rw [List.length_append, o2, ha.len, ← Nat.add_mul]) g2 g1 hn2 g3
          have inplace : ∀ {H2 : AH}, storeN H b (off + len * size) new = some H2 → len + n ≤ c → Does P base e w (do pure (.value (← app))) (.slc b off (len + n) cap) H2 := fun hst hle => by
            obtain ⟨w', k1, k2, k3, _⟩ := store_ok (P := P) hr hst hb hnew
            have hrun := ha.room g (o + off) len c w' rfl hle (by rw [Nat.add_assoc]; exact k1)
            exact ⟨e, w', _, _, ELe.refl e, by simp only [Sem.run_bind, hrun, Result.andThen_ok]; rfl, .inl rfl, .slc hb hc hle, k2, k3⟩
          split at h
          · rename_i c'
            have hcc : c = c' := hc
            subst hcc
            cases hle : (len + n).ble c with
            | true =>
              rw [hle] at h
              dsimp only [cond_true] at h
              split at h
              · rename_i H2 hst
                cases h
                exact inplace hst (Nat.le_of_ble_eq_true hle)
              · cases h
            | false =>
              rw [hle] at h
              cases h
              refine grow hr rfl ?_ hn
              have : ¬ len + n ≤ c := fun hh => by rw [Nat.ble_eq_true_of_le hh] at hle; cases hle
              omega
          · rename_i s2
            have hcs : o + off + c * s2 = z := hc
            cases hss : (s2 == size && isType H b el) with
            | false => rw [hss] at h; cases h
            | true =>
              rw [hss] at h
              rw [Bool.and_eq_true] at hss
              obtain ⟨hss, hty⟩ := hss
              have hs2 : s2 = size := by simpa using hss
              subst hs2
              dsimp only [cond_true] at h
              have hblk : ∃ l t, H.get b = some (.cells l t) ∧ t = el := by
                unfold isType at hty
                split at hty
                · rename_i l t hg
                  exact ⟨l, t, hg, by simpa using hty⟩
                · cases hty
              obtain ⟨l, t, hg, htel⟩ := hblk
              subst htel
              obtain ⟨g', o', z', q1, q2, cs, q3, q4, q5, q6⟩ := hr.blk b _ (hr.lt2 hb) hg
              rw [hb] at q1
              cases q1
              split at h
              · rename_i H2 hst
                cases h
                refine inplace hst ?_
                have hfit : off + len * s2 + new.length ≤ l.length := by
                  unfold storeN at hst
                  rw [hg] at hst
                  dsimp only at hst
                  cases hcnd : ((off + len * s2 + new.length).ble l.length && new.all oneB) with
                  | false => rw [hcnd] at hst; cases hst
                  | true =>
                    rw [Bool.and_eq_true] at hcnd
                    exact Nat.le_of_ble_eq_true hcnd.1
                have h1 : new.length = n * s2 := by rw [← hnew.length, ha.len]
                have h2 : (len + n) * s2 ≤ c * s2 := by
                  rw [Nat.add_mul]
                  omega
                exact Nat.le_of_mul_le_mul_right h2 hsz
              · cases h
                by_cases hle : len + n ≤ c
                · -- the row has room: it goes over to the new block
                  have h2 : (len + n) * s2 ≤ c * s2 := Nat.mul_le_mul_right _ hle
                  rw [Nat.add_mul] at h2
                  have hnl : news.length = n * s2 := ha.len
                  have honev : ∀ v ∈ news, v.oneCell' = true := fun v hvm => by
                    obtain ⟨i, hi⟩ := List.mem_iff_getElem?.1 hvm
                    have hlt : i < new.length := by rw [← hnew.length]; exact (List.getElem?_eq_some_iff.1 hi).1
                    obtain ⟨y, hy, hd⟩ := hnew.get (List.getElem?_eq_getElem hlt)
                    rw [hy] at hi
                    cases hi
                    exact one_dr hd (List.all_eq_true.1 hone _ (List.getElem_mem hlt))
                  have hst := run_storeCells_at (P := P) g (o + off + len * s2) t news 0 cs w q3 (by omega) honev
                  rw [Nat.add_zero] at hst
                  have hrun := ha.room g (o + off) len c _ rfl hle hst
                  obtain ⟨R, hR⟩ : ∃ R, (cs.toList.take (o + off + len * s2) ++ news ++ cs.toList.drop (o + off + len * s2 + news.length)).toArray = R := ⟨_, rfl⟩
                  rw [hR] at hrun
                  have hnew' : (w.setRow g R).heap[g]? = some (.cells R t (0, 0)) := setRow_heap w g cs R t (0, 0) q3
                  have hfar : ∀ k, k ≠ g → (w.setRow g R).heap[k]? = w.heap[k]? := fun k hk => setRow_other w g k R hk
                  have hsize : (w.setRow g R).heap.size = w.heap.size := setRow_size w g R
                  have hnx : H.next + 1 ≤ 2 ^ depth := hn
                  have hle' := new_le hr (g, o + off, z)
                  have hrel : HRel base (Env.new e H.next (g, o + off, z)) ((H.put b none).alloc (.cells (old ++ new) t)) (w.setRow g R) := by
                    have hb2 := hr.lt2 hb
                    have hbn : b ≠ H.next := Nat.ne_of_lt (hr.lt hb)
                    have alive : ∀ b', b' < 2 ^ depth → ∀ y, ((H.put b none).alloc (.cells (old ++ new) t)).get b' = some y → (b' = H.next ∧ y = .cells (old ++ new) t) ∨ (b' ≠ H.next ∧ b' ≠ b ∧ H.get b' = some y) := fun b' hb' y hy => by
                      rw [AH.get_alloc _ _ _ (by show H.next < _; omega) hb'] at hy
                      by_cases h1 : b' = H.next
                      · rw [if_pos (show b' = (H.put b none).next from h1)] at hy
                        cases hy
                        exact .inl ⟨h1, rfl⟩
                      · rw [if_neg (show ¬ b' = (H.put b none).next from h1), AH.get_put _ _ _ _ hb2 hb'] at hy
                        by_cases h2 : b' = b
                        · rw [if_pos h2] at hy; cases hy
                        · rw [if_neg h2] at hy; exact .inr ⟨h1, h2, hy⟩
                    refine ⟨by rw [hsize]; exact hr.size, hn, fun b' hb' => ?_, fun b' y hb' hy => ?_, fun b1 b2 x1 x2 p1 p2 hb1 hb2' hx1 hx2 hp1 hp2 hne => ?_⟩
                    · have hb'' : H.next + 1 ≤ b' := hb'
                      unfold Env.new
                      rw [if_neg (by omega)]
                      exact hr.fresh b' (by omega)
                    · rcases alive b' hb' y hy with ⟨rfl, rfl⟩ | ⟨h1, h2, h3⟩
                      · refine ⟨g, o + off, z, by unfold Env.new; rw [if_pos rfl], q2, R, hnew', ?_, ?_, ?_⟩
                        · rw [← hR]
                          simp
                          omega
                        · rw [List.length_append, ← o1.length, ← hnew.length, o2, hnl]
                          omega
                        · have hol : olds = (cs.toList.drop (o + off)).take (len * s2) := by
                            apply List.ext_getElem?
                            intro j
                            rw [List.getElem?_take]
                            by_cases hj : j < len * s2
                            · rw [if_pos hj, List.getElem?_drop]
                              have hlt : j < olds.length := by rw [o2]; exact hj
                              have h9 := o3 j _ (List.getElem?_eq_getElem hlt)
                              rw [cell_of_row w g _ cs t (0, 0) q3] at h9
                              rw [List.getElem?_eq_getElem hlt, ← h9]
                              simp
                            · rw [if_neg hj, List.getElem?_eq_none (by rw [o2]; omega)]
                          rw [← hR]
                          show DRL _ (old ++ new) (((cs.toList.take (o + off + len * s2) ++ news ++ cs.toList.drop (o + off + len * s2 + news.length)).drop (o + off)).take (old ++ new).length)
                          have hN : (old ++ new).length = len * s2 + news.length := by rw [List.length_append, ← o1.length, ← hnew.length, o2]
                          rw [hN, take_drop_mid cs.toList news (o + off) (len * s2) (len * s2 + news.length) (by simp; omega) (Nat.le_refl _) (by simp; omega), List.take_take, Nat.min_eq_left (by omega), ← hol, List.drop_of_length_le (by rw [List.length_take]; omega), List.append_nil]
                          exact (o1.append hnew).mono hle'
                      · obtain ⟨g2, o2', z2, m1, m2, m3⟩ := hr.blk b' y hb' h3
                        exact ⟨g2, o2', z2, hle' _ _ m1, m2, (m3.mono hle').heap (hfar g2 (hr.inj b' b y _ _ _ hb' hb2 h3 hg m1 hb h2))⟩
                    · rcases alive b1 hb1 x1 hx1 with ⟨e1, -⟩ | ⟨e1, e2, e3⟩ <;> rcases alive b2 hb2' x2 hx2 with ⟨f1, -⟩ | ⟨f1, f2, f3⟩
                      · exact absurd (e1.trans f1.symm) hne
                      · obtain ⟨g2, o2', z2, m1, m2, m3⟩ := hr.blk b2 x2 hb2' f3
                        rw [hle' _ _ m1] at hp2
                        cases hp2
                        unfold Env.new at hp1
                        rw [if_pos e1] at hp1
                        cases hp1
                        exact fun hh => hr.inj b2 b x2 _ _ _ hb2' hb2 f3 hg m1 hb f2 hh.symm
                      · obtain ⟨g2, o2', z2, m1, m2, m3⟩ := hr.blk b1 x1 hb1 e3
                        rw [hle' _ _ m1] at hp1
                        cases hp1
                        unfold Env.new at hp2
                        rw [if_pos f1] at hp2
                        cases hp2
                        exact fun hh => hr.inj b1 b x1 _ _ _ hb1 hb2 e3 hg m1 hb e2 hh
                      · obtain ⟨g1, o1', z1, m1, -, -⟩ := hr.blk b1 x1 hb1 e3
                        obtain ⟨g2, o2', z2, n1, -, -⟩ := hr.blk b2 x2 hb2' f3
                        rw [hle' _ _ m1] at hp1
                        rw [hle' _ _ n1] at hp2
                        cases hp1
                        cases hp2
                        exact hr.inj b1 b2 x1 x2 _ _ hb1 hb2' e3 f3 m1 n1 hne
                  refine ⟨Env.new e H.next (g, o + off, z), w.setRow g R, .value (.slice (some ⟨g, o + off + 0, none⟩) (len + n) c), _, hle', ?_, .inl rfl, .slc (g := g) (o := o + off) (z := z) (by unfold Env.new; rw [if_pos rfl]) hcs hle, hrel, ⟨rfl, rfl, rfl, by rw [hsize]; exact Nat.le_refl _, fun k hk => hfar k (by omega)⟩⟩
                  simp only [Sem.run_bind, hrun, Result.andThen_ok]
                  rfl
                · exact grow (kill_ok hr (hr.lt2 hb)) rfl (by omega) hn
  · cases h
end
end Ev
end Go.Proofs.YtgmhkjmnfafccaaGreatDoor
