/- The pair's steps ('do', printed by mk_pairdo.py) and its judgement ('right'). -/
import Derived.Test.YtgacphicgglogaaLinkS
import Derived.Test.YtgacphicgglogaaRegO
import Derived.Deep.CutRange
import Derived.Test.YtgacphicgglogaaLinkRE
import Derived.BigQuiet
import Derived.Deep.QuietTactic

/-! ## The pair: a step as a function; the step's box beside the pair. -/
namespace Go.Proofs.Ytgacphicgglogaa
open Go.RowKit Crc
set_option linter.unusedVariables false

def whoN (a : Int) : Nat := (bits .and .i64 a 1).toNat
theorem who_val (a : Int) : whoN a < 2 ∧ bits .and .i64 a 1 = (whoN a : Int) := by
  have h : bits .and .i64 a 1 = (((BitVec.ofInt 64 a).toNat &&& 1 : Nat) : Int) := by
    show IntKind.i64.wrap ((BitVec.ofInt 64 a &&& BitVec.ofInt 64 1).toNat : Int) = _
    rw [BitVec.toNat_and, show (BitVec.ofInt 64 1).toNat = 1 from rfl, Nat.and_one_is_mod]
    exact IntWalk.i64_in _ (by omega)
  have h2 : (BitVec.ofInt 64 a).toNat &&& 1 < 2 := by rw [Nat.and_one_is_mod]; omega
  unfold whoN
  rw [h]
  exact ⟨by omega, by omega⟩

structure StepL where
  kind : Int
  who : Int
  i : Int
  bit : Int
  load : ByteArray
def StepL.cells (t : StepL) : List Value := [.int .i64 t.kind, .int .i64 t.who, .int .i64 t.i, .int .i64 t.bit, .string t.load]
/-- A step, ahead of the flush. -/
def PS.act (s : PS) (t : StepL) : PS :=
  if t.kind = 0 then (if ((s.ends (whoN t.who)).send t.load).2 = 0 then ({ s with ends := upd s.ends (whoN t.who) ((s.ends (whoN t.who)).send t.load).1 } : PS).addRow (whoN t.who) t.load else { s with ends := upd s.ends (whoN t.who) ((s.ends (whoN t.who)).send t.load).1 })
  else if t.kind = 1 then (if (Bag.takeR (s.bags (whoN t.who)) t.i).2 = 0 then { s with bags := upd s.bags (whoN t.who) (Bag.takeL (s.bags (whoN t.who)) t.i), ends := upd s.ends (1 - whoN t.who) ((s.ends (1 - whoN t.who)).get (Bag.takeR (s.bags (whoN t.who)) t.i).1).1 } else { s with bags := upd s.bags (whoN t.who) (Bag.takeL (s.bags (whoN t.who)) t.i) })
  else if t.kind = 2 then { s with bags := upd s.bags (whoN t.who) (Bag.takeL (s.bags (whoN t.who)) t.i) }
  else if t.kind = 3 then { s with bags := upd s.bags (whoN t.who) (Bag.twiceL (s.bags (whoN t.who)) t.i) }
  else if t.kind = 4 then { s with bags := upd s.bags (whoN t.who) (Bag.turnL (s.bags (whoN t.who)) t.i t.bit) }
  else if t.kind = 5 then { s with ends := upd s.ends (whoN t.who) (s.ends (whoN t.who)).tick }
  else s.recvS (whoN t.who)
def PS.doS (s : PS) (t : StepL) : PS := (s.act t).flushS

/-- A block of its own beside the pair. -/
def boxX {B : Nat} (X : Nat → Th B) (n q t : Nat) (cs : List Value) : Nat → Th B := fun j => if j = n then objTh B q t cs [] else X j
section
variable {w w' : World} {B : Nat} {P : Ptrs} {s : PS} {n : Nat} {X : Nat → Th B}
theorem PairX.hB (h : PairX w B P s n X) : B ≤ w.heap.size := by
  obtain ⟨hn, h⟩ := h
  obtain ⟨F, hF, _⟩ := Sys.step h 4 (by omega)
  rw [if_pos (show 4 < 5 by omega), show s.things B P 4 = pairTh B P.p P.pe P.pb s.sent s.read from rfl] at hF
  obtain ⟨vs, ho, rfl⟩ := hF
  have := ho.base
  have := ho.blk.lt
  omega
theorem PairX.drewN (h : PairX w B P s n X) (k : Nat) : PairX (w.drewN k) B P s n X := ⟨h.1, h.2.touch (S := fun _ => False) ((Touch.refl _ _).drewN k) (fun _ h => h.elim)⟩
theorem PairX.box (h : PairX w B P s n X) (t : Nat) (cs : List Value) : PairX (w.alloc (.cells cs.toArray t)) B P s (n + 1) (boxX X n w.heap.size t cs) := by
  have hB := h.hB
  have hal := (Below.refl w.heap.size w).alloc (Nat.le_refl _) (.cells cs.toArray t)
  refine ⟨by have := h.1; omega, (h.2.add (objTh B w.heap.size t cs []) (FootR w.heap.size []) hal ⟨⟨hB, Blk.new _ _ _, fun x hx => (by cases hx), fun x hx => (by cases hx), fun i j x y hi => (by simp at hi)⟩, rfl⟩ (fun k hk => ?_)).congr fun j hj => ?_⟩
  · rcases hk with rfl | ⟨x, hx, _⟩
    · exact Nat.le_refl _
    · cases hx
  · unfold boxX
    have := h.1
    by_cases hjn : j = n
    · rw [if_pos hjn, if_neg (by omega), if_pos hjn]
    · rw [if_neg hjn]
      by_cases h5 : j < 5
      · rw [if_pos h5, if_pos h5]
      · rw [if_neg h5, if_neg h5, if_neg hjn]
theorem PairX.boxAt {q t : Nat} {cs : List Value} (h : PairX w B P s (n + 1) (boxX X n q t cs)) (hn : 5 ≤ n) : ObjAt w B q t cs [] := by
  obtain ⟨_, F, h1, _⟩ := h
  have h2 := h1 n (by omega)
  dsimp only [boxX] at h2
  rw [if_neg (show ¬ n < 5 by omega), if_pos rfl] at h2
  exact h2.1
theorem PairX.unbox {q t : Nat} {cs : List Value} (h : PairX w B P s (n + 1) (boxX X n q t cs)) (hn : 5 ≤ n) : PairX w B P s n X := (h.less hn).same fun j _ hj => if_neg (by omega)
/-- The box stays while a row of the pair is written. -/
theorem PairX.boxStay {q t : Nat} {cs : List Value} (h : PairX w B P s (n + 1) (boxX X n q t cs)) (hn : 5 ≤ n) (r : Nat) (hr : r < 4) {A : Option Addr} {m c : Nat} (hc : w.cell? ⟨P.p, 4 + r, none⟩ = some (.slice A m c)) {w3 : World} (ht : Touch (fun k => (Value.slice A m c).ownBlock = some k) w w3) (k : Nat) : w3.cell? ⟨q, k, none⟩ = cs[k]? := by
  obtain ⟨_, F, h1, h2⟩ := h
  have h4 := h1 4 (by omega)
  have hq := h1 n (by omega)
  dsimp only [boxX] at h4 hq
  rw [if_pos (show 4 < 5 by omega), show s.things B P 4 = pairTh B P.p P.pe P.pb s.sent s.read from rfl] at h4
  rw [if_neg (show ¬ n < 5 by omega), if_pos rfl] at hq
  obtain ⟨vs, ho, hF4⟩ := h4
  obtain ⟨hbx, hFn⟩ := hq
  have hcell : w.cell? ⟨P.p, 4 + r, none⟩ = some (vs r) := by
    rw [ho.cell]
    match r, hr with
    | 0, _ => rfl
    | 1, _ => rfl
    | 2, _ => rfl
    | 3, _ => rfl
  have hv : vs r = .slice A m c := Option.some.inj (hcell.symm.trans hc)
  have hmem : (⟨9, vs r, strs (s.row r)⟩ : RowV) ∈ [(⟨9, vs 0, strs (s.sent 0)⟩ : RowV), ⟨9, vs 1, strs (s.sent 1)⟩, ⟨9, vs 2, strs (s.read 0)⟩, ⟨9, vs 3, strs (s.read 1)⟩] := by
    match r, hr with
    | 0, _ => exact .head _
    | 1, _ => exact .tail _ (.head _)
    | 2, _ => exact .tail _ (.tail _ (.head _))
    | 3, _ => exact .tail _ (.tail _ (.tail _ (.head _)))
  have hq4 : ¬ (Value.slice A m c).ownBlock = some q := fun e => h2 4 n q (by omega) (by omega) (by omega) (by
    rw [hF4]
    exact .inr ⟨_, hmem, by rw [← hv] at e; exact e⟩) (by rw [hFn]; exact .inl rfl)
  rw [(ht.blk hbx.blk hq4).cell, List.getElem?_toArray]
theorem PairX.facts {q t : Nat} {cs : List Value} (h : PairX w B P s (n + 1) (boxX X n q t cs)) (hn : 5 ≤ n) (i : Nat) (hi : i < 2) : w.cell? ⟨P.p, i, none⟩ = some (.pointer (some ⟨P.pe i, 0, none⟩)) ∧ w.cell? ⟨P.p, 2 + i, none⟩ = some (.pointer (some ⟨P.pb i, 0, none⟩)) ∧ ∀ k, w.cell? ⟨q, k, none⟩ = cs[k]? :=
  ⟨((h.pair h.hB).1 i hi).1, ((h.pair h.hB).1 i hi).2, fun k => (h.boxAt hn).cell k⟩
end
end Go.Proofs.Ytgacphicgglogaa

/-! ## The pair: 'do'. Printed by mk_pairdo.py. -/
namespace Go.Proofs.Ytgacphicgglogaa
open Go.RowKit Crc
set_option linter.unusedVariables false

/-- What a step asks of the pair. -/
structure PS.Fit (s : PS) : Prop where
  ends : ∀ j, j < 2 → (s.ends j).Ok
  last : ∀ j, j < 2 → (s.ends j).last < 1000000
  taken : ∀ j, j < 2 → (s.ends j).taken < 1000000
  bags : ∀ j, j < 2 → (s.bags j).length ≤ 16
  items : ∀ j, j < 2 → ∀ x ∈ s.bags j, x.1.size ≤ 2000
  sent : ∀ j, j < 2 → (s.sent j).length ≤ 100000
  read : ∀ j, j < 2 → (s.read j).length ≤ 100000
theorem upd_same {α : Type} (f : Nat → α) (i : Nat) (a : α) : upd f i a i = a := by simp [upd]
theorem upd_all {α : Type} {p : α → Prop} {f : Nat → α} {i : Nat} {a : α} (h : ∀ j, j < 2 → p (f j)) (ha : p a) : ∀ j, j < 2 → p (upd f i a j) := fun j hj => by
  unfold upd
  split
  · exact ha
  · exact h j hj
theorem addRow_ends (s : PS) (r : Nat) (x : ByteArray) : (s.addRow r x).ends = s.ends ∧ (s.addRow r x).bags = s.bags := by unfold PS.addRow; split <;> exact ⟨rfl, rfl⟩
theorem Bag.takeL_le (l : List Bag.Item) (i : Int) (h : l.length ≤ 16) : (Bag.takeL l i).length ≤ 16 := by
  unfold Bag.takeL
  split
  · rw [List.length_eraseIdx]; split <;> omega
  · exact h
theorem Bag.twiceL_le (l : List Bag.Item) (i : Int) (h : l.length ≤ 16) : (Bag.twiceL l i).length ≤ 16 := by
  unfold Bag.twiceL
  split
  · rename_i hc
    rw [List.length_append]
    have : (l[i.toNat]?).toList.length ≤ 1 := by cases l[i.toNat]? <;> simp
    omega
  · exact h
theorem Bag.turnL_le (l : List Bag.Item) (i bit : Int) (h : l.length ≤ 16) : (Bag.turnL l i bit).length ≤ 16 := by
  unfold Bag.turnL
  split
  · rw [List.length_modify]; exact h
  · exact h
theorem act_fit {s : PS} (h : s.Fit) (t : StepL) : (∀ j, j < 2 → ((s.act t).ends j).Ok) ∧ ∀ j, j < 2 → ((s.act t).bags j).length ≤ 16 := by
  have hv := (who_val t.who).1
  unfold PS.act
  split
  · split
    · rw [(addRow_ends _ _ _).1, (addRow_ends _ _ _).2]
      exact ⟨upd_all (p := LK.Ok) h.ends (LK.send_ok (h.ends _ hv) _), h.bags⟩
    · exact ⟨upd_all (p := LK.Ok) h.ends (LK.send_ok (h.ends _ hv) _), h.bags⟩
  · split
    · split
      · exact ⟨upd_all (p := LK.Ok) h.ends (LK.get_ok (h.ends _ (by omega)) _), upd_all (p := fun l : List Bag.Item => l.length ≤ 16) h.bags (Bag.takeL_le _ _ (h.bags _ hv))⟩
      · exact ⟨h.ends, upd_all (p := fun l : List Bag.Item => l.length ≤ 16) h.bags (Bag.takeL_le _ _ (h.bags _ hv))⟩
    · split
      · exact ⟨h.ends, upd_all (p := fun l : List Bag.Item => l.length ≤ 16) h.bags (Bag.takeL_le _ _ (h.bags _ hv))⟩
      · split
        · exact ⟨h.ends, upd_all (p := fun l : List Bag.Item => l.length ≤ 16) h.bags (Bag.twiceL_le _ _ (h.bags _ hv))⟩
        · split
          · exact ⟨h.ends, upd_all (p := fun l : List Bag.Item => l.length ≤ 16) h.bags (Bag.turnL_le _ _ _ (h.bags _ hv))⟩
          · split
            · exact ⟨upd_all (p := LK.Ok) h.ends (LK.tickTo_ok (h.ends _ hv) _), h.bags⟩
            · unfold PS.recvS
              split
              · rw [(addRow_ends _ _ _).1, (addRow_ends _ _ _).2]
                exact ⟨upd_all (p := LK.Ok) h.ends (LK.recv_ok (h.ends _ hv)), h.bags⟩
              · exact ⟨upd_all (p := LK.Ok) h.ends (LK.recv_ok (h.ends _ hv)), h.bags⟩


set_option maxHeartbeats 4000000 in
set_option maxRecDepth 100000 in
theorem do_tick {w : World} {B n : Nat} {P : Ptrs} {s : PS} {X : Nat → Th B} (h : PairX w B P s n X) (fit : s.Fit) (who i bit : Int) (load : ByteArray) :
    Calls Try.prog 42 #[.pointer (some ⟨P.p, 0, none⟩), .agg #[.int .i64 5, .int .i64 who, .int .i64 i, .int .i64 bit, .string load]] w fun e w' => e = .returned (.tuple #[]) ∧ PairX w' B P (s.doS ⟨5, who, i, bit, load⟩) n X ∧ Below B w w' := by
  obtain ⟨i0, hi0, hz0, hz1, hz2⟩ := info_parts str_info
  have hB := h.hB
  have hn := h.1
  obtain ⟨hv2, hwho⟩ := who_val who
  have hbx := h.box 82 [.int .i64 5, .int .i64 who, .int .i64 i, .int .i64 bit, .string load]
  have hbe : Below B w (w.alloc (.cells #[.int .i64 5, .int .i64 who, .int .i64 i, .int .i64 bit, .string load] 82)) := (Below.refl _ _).alloc hB _
  obtain ⟨hfe, hfb⟩ := act_fit fit ⟨5, who, i, bit, load⟩
  have HDO := Lib.hid (show ∀ w1, PairX w1 B P (s.act ⟨5, who, i, bit, load⟩) n X → Calls Try.prog 73 #[.pointer (some ⟨P.p, 0, none⟩)] w1 fun e w' => e = .returned (.tuple #[]) ∧ PairX w' B P (s.doS ⟨5, who, i, bit, load⟩) n X ∧ Below B w1 w' from fun w1 hp => flush_ps hp hp.hB hfb (fun j hj => (hfe j hj).goes))
  have HBX := Lib.hid hbx
  have HBE := Lib.hid hbe
  obtain ⟨v, hvv⟩ : ∃ v, whoN who = v := ⟨_, rfl⟩
  rw [hvv] at hv2 hwho
  have hvz : (v : Int) < 2 := by omega
  have HACT := Lib.hid (show s.act ⟨5, who, i, bit, load⟩ = { s with ends := upd s.ends v (s.ends v).tick } by unfold PS.act; simp only [hvv]; rfl)
  obtain ⟨hce, hcb, hcs⟩ := hbx.facts hn v hv2
  have hw1 : (w.alloc (.cells #[.int .i64 5, .int .i64 who, .int .i64 i, .int .i64 bit, .string load] 82)).heap.size = w.heap.size + 1 := World.size_alloc _ _
  have hpl := (hbx.pair hbx.hB).2.1
  clear hfe hfb hbx hbe hvv h
  go_enter Try.func42, Try.ntmps42
  go_upto_region 18 with fail
  generalize w.alloc (.cells #[.int .i64 5, .int .i64 who, .int .i64 i, .int .i64 bit, .string load] 82) = W0 at *
  obtain ⟨vL, vG, hl, hst⟩ := HBX.out.link HBX.out.hB v hv2
  have HC := Lib.hid (tick_any W0 B (P.pe v) vL vG _ hl HBX.out.hB (fit.ends v hv2) (by have := fit.last v hv2; omega))
  have HST := Lib.hid hst
  clear hst hl hcs hcb hw1
  go_wp2_with fail
  refine HC.out.mono ?_
  rintro e w2 ⟨rfl, he⟩
  obtain ⟨hp2, hb2⟩ := HST.out _ w2 he
  have HP := Lib.hid (hp2.unbox hn)
  have HBP := Lib.hid (HBE.out.trans hb2)
  clear hp2 hb2 he hce HC HST
  go_wp2_with fail
  refine (HDO.out _ (by rw [HACT.out]; exact HP.out)).mono ?_
  rintro e wz ⟨rfl, hpz, hbz⟩
  have HZ := Lib.hid (And.intro hpz (HBP.out.trans hbz))
  clear hpz hbz HP HBP HDO HACT
  go_wp2
  go_end0
  exact ⟨rfl, HZ.out.1, HZ.out.2⟩


set_option maxHeartbeats 4000000 in
set_option maxRecDepth 100000 in
theorem do_recv {w : World} {B n : Nat} {P : Ptrs} {s : PS} {X : Nat → Th B} (h : PairX w B P s n X) (fit : s.Fit) (kind who i bit : Int) (load : ByteArray) (h0 : kind ≠ 0) (h1 : kind ≠ 1) (h2 : kind ≠ 2) (h3 : kind ≠ 3) (h4 : kind ≠ 4) (h5 : kind ≠ 5):
    Calls Try.prog 42 #[.pointer (some ⟨P.p, 0, none⟩), .agg #[.int .i64 kind, .int .i64 who, .int .i64 i, .int .i64 bit, .string load]] w fun e w' => e = .returned (.tuple #[]) ∧ PairX w' B P (s.doS ⟨kind, who, i, bit, load⟩) n X ∧ Below B w w' := by
  obtain ⟨i0, hi0, hz0, hz1, hz2⟩ := info_parts str_info
  have hB := h.hB
  have hn := h.1
  obtain ⟨hv2, hwho⟩ := who_val who
  have hbx := h.box 82 [.int .i64 kind, .int .i64 who, .int .i64 i, .int .i64 bit, .string load]
  have hbe : Below B w (w.alloc (.cells #[.int .i64 kind, .int .i64 who, .int .i64 i, .int .i64 bit, .string load] 82)) := (Below.refl _ _).alloc hB _
  obtain ⟨hfe, hfb⟩ := act_fit fit ⟨kind, who, i, bit, load⟩
  have HDO := Lib.hid (show ∀ w1, PairX w1 B P (s.act ⟨kind, who, i, bit, load⟩) n X → Calls Try.prog 73 #[.pointer (some ⟨P.p, 0, none⟩)] w1 fun e w' => e = .returned (.tuple #[]) ∧ PairX w' B P (s.doS ⟨kind, who, i, bit, load⟩) n X ∧ Below B w1 w' from fun w1 hp => flush_ps hp hp.hB hfb (fun j hj => (hfe j hj).goes))
  have HBX := Lib.hid hbx
  have HBE := Lib.hid hbe
  obtain ⟨v, hvv⟩ : ∃ v, whoN who = v := ⟨_, rfl⟩
  rw [hvv] at hv2 hwho
  have hvz : (v : Int) < 2 := by omega
  have HACT := Lib.hid (show s.act ⟨kind, who, i, bit, load⟩ = s.recvS v by unfold PS.act; simp only [hvv]; rw [if_neg h0, if_neg h1, if_neg h2, if_neg h3, if_neg h4, if_neg h5])
  obtain ⟨hce, hcb, hcs⟩ := hbx.facts hn v hv2
  have hw1 : (w.alloc (.cells #[.int .i64 kind, .int .i64 who, .int .i64 i, .int .i64 bit, .string load] 82)).heap.size = w.heap.size + 1 := World.size_alloc _ _
  have hpl := (hbx.pair hbx.hB).2.1
  clear hfe hfb hbx hbe hvv h
  go_enter Try.func42, Try.ntmps42
  have b0 : (kind == 0) = false := beq_eq_false_iff_ne.2 h0
  have b1 : (kind == 1) = false := beq_eq_false_iff_ne.2 h1
  have b2 : (kind == 2) = false := beq_eq_false_iff_ne.2 h2
  have b3 : (kind == 3) = false := beq_eq_false_iff_ne.2 h3
  have b4 : (kind == 4) = false := beq_eq_false_iff_ne.2 h4
  have b5 : (kind == 5) = false := beq_eq_false_iff_ne.2 h5
  clear h0 h1 h2 h3 h4 h5
  go_upto_region 3 with fail
  generalize w.alloc (.cells #[.int .i64 kind, .int .i64 who, .int .i64 i, .int .i64 bit, .string load] 82) = W0 at *
  have HC := Lib.hid (recv_ps HBX.out HBX.out.hB v hv2 (fit.ends v hv2) (by have := fit.taken v hv2; omega) (fit.read v hv2))
  clear hcs hcb hw1 hce
  go_wp2_with fail
  refine HC.out.mono ?_
  rintro e w2 ⟨rfl, hp2, hb2⟩
  have HP := Lib.hid (hp2.unbox hn)
  have HBP := Lib.hid (HBE.out.trans hb2)
  clear hp2 hb2 HC
  go_wp2_with fail
  refine (HDO.out _ (by rw [HACT.out]; exact HP.out)).mono ?_
  rintro e wz ⟨rfl, hpz, hbz⟩
  have HZ := Lib.hid (And.intro hpz (HBP.out.trans hbz))
  clear hpz hbz HP HBP HDO HACT
  go_wp2
  go_end0
  exact ⟨rfl, HZ.out.1, HZ.out.2⟩


set_option maxHeartbeats 4000000 in
set_option maxRecDepth 100000 in
theorem do_drop {w : World} {B n : Nat} {P : Ptrs} {s : PS} {X : Nat → Th B} (h : PairX w B P s n X) (fit : s.Fit) (who i bit : Int) (load : ByteArray) :
    Calls Try.prog 42 #[.pointer (some ⟨P.p, 0, none⟩), .agg #[.int .i64 2, .int .i64 who, .int .i64 i, .int .i64 bit, .string load]] w fun e w' => e = .returned (.tuple #[]) ∧ PairX w' B P (s.doS ⟨2, who, i, bit, load⟩) n X ∧ Below B w w' := by
  obtain ⟨i0, hi0, hz0, hz1, hz2⟩ := info_parts str_info
  have hB := h.hB
  have hn := h.1
  obtain ⟨hv2, hwho⟩ := who_val who
  have hbx := h.box 82 [.int .i64 2, .int .i64 who, .int .i64 i, .int .i64 bit, .string load]
  have hbe : Below B w (w.alloc (.cells #[.int .i64 2, .int .i64 who, .int .i64 i, .int .i64 bit, .string load] 82)) := (Below.refl _ _).alloc hB _
  obtain ⟨hfe, hfb⟩ := act_fit fit ⟨2, who, i, bit, load⟩
  have HDO := Lib.hid (show ∀ w1, PairX w1 B P (s.act ⟨2, who, i, bit, load⟩) n X → Calls Try.prog 73 #[.pointer (some ⟨P.p, 0, none⟩)] w1 fun e w' => e = .returned (.tuple #[]) ∧ PairX w' B P (s.doS ⟨2, who, i, bit, load⟩) n X ∧ Below B w1 w' from fun w1 hp => flush_ps hp hp.hB hfb (fun j hj => (hfe j hj).goes))
  have HBX := Lib.hid hbx
  have HBE := Lib.hid hbe
  obtain ⟨v, hvv⟩ : ∃ v, whoN who = v := ⟨_, rfl⟩
  rw [hvv] at hv2 hwho
  have hvz : (v : Int) < 2 := by omega
  have HACT := Lib.hid (show s.act ⟨2, who, i, bit, load⟩ = { s with bags := upd s.bags v (Bag.takeL (s.bags v) i) } by unfold PS.act; simp only [hvv]; rfl)
  obtain ⟨hce, hcb, hcs⟩ := hbx.facts hn v hv2
  have hw1 : (w.alloc (.cells #[.int .i64 2, .int .i64 who, .int .i64 i, .int .i64 bit, .string load] 82)).heap.size = w.heap.size + 1 := World.size_alloc _ _
  have hpl := (hbx.pair hbx.hB).2.1
  clear hfe hfb hbx hbe hvv h
  go_enter Try.func42, Try.ntmps42
  go_upto_region 12 with fail
  generalize w.alloc (.cells #[.int .i64 2, .int .i64 who, .int .i64 i, .int .i64 bit, .string load] 82) = W0 at *
  clear hce hcb hcs hw1 hpl
  refine RegO.wp_once 9 8 (fun v' w' => (∃ c, v' = .int .i64 c) ∧ PairX w' B P { s with bags := upd s.bags v (Bag.takeL (s.bags v) i) } (n + 1) (boxX X n w.heap.size 82 [.int .i64 2, .int .i64 who, .int .i64 i, .int .i64 bit, .string load]) ∧ Below B W0 w') (fun w' => ∃ s', PairX w' B P s' (n + 1) (boxX X n w.heap.size 82 [.int .i64 2, .int .i64 who, .int .i64 i, .int .i64 bit, .string load])) (fun w' => w' = W0.drew) (fun wa wb => (PairX wa B P { s with bags := upd s.bags v (Bag.takeL (s.bags v) i) } (n + 1) (boxX X n w.heap.size 82 [.int .i64 2, .int .i64 who, .int .i64 i, .int .i64 bit, .string load]) → PairX wb B P { s with bags := upd s.bags v (Bag.takeL (s.bags v) i) } (n + 1) (boxX X n w.heap.size 82 [.int .i64 2, .int .i64 who, .int .i64 i, .int .i64 bit, .string load])) ∧ (Below B W0 wa → Below B W0 wb)) (by kernel_rfl) (by kernel_rfl) (by kernel_rfl) (by kernel_rfl) (fun _ _ d _ _ h => by cases d <;> exact h) ⟨s, HBX.out.drewN 1⟩ rfl ?_
  simp only [List.take_succ_cons, List.take_zero]
  repeat (refine RegO.chain_plain rfl rfl ?_ ?_ ?_; rotate_left; (focus (intro w3 hI _; obtain ⟨s', hp'⟩ := hI; obtain ⟨hce, hcb, hcs⟩ := hp'.facts hn v hv2; have hc2 := hcs 2; have hc3 := hcs 3; have hc4 := hcs 4; simp only [List.getElem?_cons_succ, List.getElem?_cons_zero] at hc2 hc3 hc4; clear hp' hcs; go_simp; rfl)))
  simp only [Act.put, List.setIfInBounds_toArray, List.set_cons_succ, List.set_cons_zero]
  refine RegO.chain_eff rfl rfl (fun v' wa wb hs ho => ⟨ho.1, hs.1 ho.2.1, hs.2 ho.2.2⟩) (fun w3 hI hPre _ KK hKK => ?_) (fun v' => ?_)
  · subst hPre
    have hbd : Below B W0 W0.drew := (Below.refl _ _).drew
    have HBD := Lib.hid hbd
    have hp0 := HBX.out.drewN 1
    have HP0 := Lib.hid hp0
    clear hbd hp0 hI
    go_simp
    obtain ⟨vb, hbg, hst⟩ := HP0.out.bag HP0.out.hB v hv2
    refine (Bag.drop_any W0.drew B (P.pb v) vb _ hbg (fit.bags v hv2) i).mono ?_
    rintro e w4 ⟨⟨c, rfl⟩, he⟩
    obtain ⟨hp4, hb4⟩ := hst _ w4 he
    exact hKK (.int .i64 c) _ _ (by go_simp) ⟨⟨c, rfl⟩, hp4, HBD.out.trans hb4⟩ ⟨_, hp4⟩ ⟨fun _ => hp4, fun _ => HBD.out.trans hb4⟩
  refine RegO.chain_end (fun w3 hI hF => ?_)
  have hf3 := hF _ (List.mem_singleton.2 rfl)
  dsimp only at hf3
  clear hF hI
  simp only [List.drop_succ_cons, List.drop_zero]
  obtain ⟨⟨c, rfl⟩, hp2, hb2⟩ := hf3
  have HP := Lib.hid (hp2.unbox hn)
  have HBP := Lib.hid (HBE.out.trans hb2)
  clear hp2 hb2
  go_wp2_with fail
  refine (HDO.out _ (by rw [HACT.out]; exact HP.out)).mono ?_
  rintro e wz ⟨rfl, hpz, hbz⟩
  have HZ := Lib.hid (And.intro hpz (HBP.out.trans hbz))
  clear hpz hbz HP HBP HDO HACT
  go_wp2
  go_end0
  exact ⟨rfl, HZ.out.1, HZ.out.2⟩


set_option maxHeartbeats 4000000 in
set_option maxRecDepth 100000 in
theorem do_twice {w : World} {B n : Nat} {P : Ptrs} {s : PS} {X : Nat → Th B} (h : PairX w B P s n X) (fit : s.Fit) (who i bit : Int) (load : ByteArray) :
    Calls Try.prog 42 #[.pointer (some ⟨P.p, 0, none⟩), .agg #[.int .i64 3, .int .i64 who, .int .i64 i, .int .i64 bit, .string load]] w fun e w' => e = .returned (.tuple #[]) ∧ PairX w' B P (s.doS ⟨3, who, i, bit, load⟩) n X ∧ Below B w w' := by
  obtain ⟨i0, hi0, hz0, hz1, hz2⟩ := info_parts str_info
  have hB := h.hB
  have hn := h.1
  obtain ⟨hv2, hwho⟩ := who_val who
  have hbx := h.box 82 [.int .i64 3, .int .i64 who, .int .i64 i, .int .i64 bit, .string load]
  have hbe : Below B w (w.alloc (.cells #[.int .i64 3, .int .i64 who, .int .i64 i, .int .i64 bit, .string load] 82)) := (Below.refl _ _).alloc hB _
  obtain ⟨hfe, hfb⟩ := act_fit fit ⟨3, who, i, bit, load⟩
  have HDO := Lib.hid (show ∀ w1, PairX w1 B P (s.act ⟨3, who, i, bit, load⟩) n X → Calls Try.prog 73 #[.pointer (some ⟨P.p, 0, none⟩)] w1 fun e w' => e = .returned (.tuple #[]) ∧ PairX w' B P (s.doS ⟨3, who, i, bit, load⟩) n X ∧ Below B w1 w' from fun w1 hp => flush_ps hp hp.hB hfb (fun j hj => (hfe j hj).goes))
  have HBX := Lib.hid hbx
  have HBE := Lib.hid hbe
  obtain ⟨v, hvv⟩ : ∃ v, whoN who = v := ⟨_, rfl⟩
  rw [hvv] at hv2 hwho
  have hvz : (v : Int) < 2 := by omega
  have HACT := Lib.hid (show s.act ⟨3, who, i, bit, load⟩ = { s with bags := upd s.bags v (Bag.twiceL (s.bags v) i) } by unfold PS.act; simp only [hvv]; rfl)
  obtain ⟨hce, hcb, hcs⟩ := hbx.facts hn v hv2
  have hw1 : (w.alloc (.cells #[.int .i64 3, .int .i64 who, .int .i64 i, .int .i64 bit, .string load] 82)).heap.size = w.heap.size + 1 := World.size_alloc _ _
  have hpl := (hbx.pair hbx.hB).2.1
  clear hfe hfb hbx hbe hvv h
  go_enter Try.func42, Try.ntmps42
  go_upto_region 14 with fail
  generalize w.alloc (.cells #[.int .i64 3, .int .i64 who, .int .i64 i, .int .i64 bit, .string load] 82) = W0 at *
  clear hce hcb hcs hw1 hpl
  refine RegO.wp_once 9 8 (fun v' w' => (∃ c, v' = .int .i64 c) ∧ PairX w' B P { s with bags := upd s.bags v (Bag.twiceL (s.bags v) i) } (n + 1) (boxX X n w.heap.size 82 [.int .i64 3, .int .i64 who, .int .i64 i, .int .i64 bit, .string load]) ∧ Below B W0 w') (fun w' => ∃ s', PairX w' B P s' (n + 1) (boxX X n w.heap.size 82 [.int .i64 3, .int .i64 who, .int .i64 i, .int .i64 bit, .string load])) (fun w' => w' = W0.drew) (fun wa wb => (PairX wa B P { s with bags := upd s.bags v (Bag.twiceL (s.bags v) i) } (n + 1) (boxX X n w.heap.size 82 [.int .i64 3, .int .i64 who, .int .i64 i, .int .i64 bit, .string load]) → PairX wb B P { s with bags := upd s.bags v (Bag.twiceL (s.bags v) i) } (n + 1) (boxX X n w.heap.size 82 [.int .i64 3, .int .i64 who, .int .i64 i, .int .i64 bit, .string load])) ∧ (Below B W0 wa → Below B W0 wb)) (by kernel_rfl) (by kernel_rfl) (by kernel_rfl) (by kernel_rfl) (fun _ _ d _ _ h => by cases d <;> exact h) ⟨s, HBX.out.drewN 1⟩ rfl ?_
  simp only [List.take_succ_cons, List.take_zero]
  repeat (refine RegO.chain_plain rfl rfl ?_ ?_ ?_; rotate_left; (focus (intro w3 hI _; obtain ⟨s', hp'⟩ := hI; obtain ⟨hce, hcb, hcs⟩ := hp'.facts hn v hv2; have hc2 := hcs 2; have hc3 := hcs 3; have hc4 := hcs 4; simp only [List.getElem?_cons_succ, List.getElem?_cons_zero] at hc2 hc3 hc4; clear hp' hcs; go_simp; rfl)))
  simp only [Act.put, List.setIfInBounds_toArray, List.set_cons_succ, List.set_cons_zero]
  refine RegO.chain_eff rfl rfl (fun v' wa wb hs ho => ⟨ho.1, hs.1 ho.2.1, hs.2 ho.2.2⟩) (fun w3 hI hPre _ KK hKK => ?_) (fun v' => ?_)
  · subst hPre
    have hbd : Below B W0 W0.drew := (Below.refl _ _).drew
    have HBD := Lib.hid hbd
    have hp0 := HBX.out.drewN 1
    have HP0 := Lib.hid hp0
    clear hbd hp0 hI
    go_simp
    obtain ⟨vb, hbg, hst⟩ := HP0.out.bag HP0.out.hB v hv2
    refine (Bag.twice_any W0.drew B (P.pb v) vb _ hbg (fit.bags v hv2) i HP0.out.hB).mono ?_
    rintro e w4 ⟨⟨c, rfl⟩, he⟩
    obtain ⟨hp4, hb4⟩ := hst _ w4 he
    exact hKK (.int .i64 c) _ _ (by go_simp) ⟨⟨c, rfl⟩, hp4, HBD.out.trans hb4⟩ ⟨_, hp4⟩ ⟨fun _ => hp4, fun _ => HBD.out.trans hb4⟩
  refine RegO.chain_end (fun w3 hI hF => ?_)
  have hf3 := hF _ (List.mem_singleton.2 rfl)
  dsimp only at hf3
  clear hF hI
  simp only [List.drop_succ_cons, List.drop_zero]
  obtain ⟨⟨c, rfl⟩, hp2, hb2⟩ := hf3
  have HP := Lib.hid (hp2.unbox hn)
  have HBP := Lib.hid (HBE.out.trans hb2)
  clear hp2 hb2
  go_wp2_with fail
  refine (HDO.out _ (by rw [HACT.out]; exact HP.out)).mono ?_
  rintro e wz ⟨rfl, hpz, hbz⟩
  have HZ := Lib.hid (And.intro hpz (HBP.out.trans hbz))
  clear hpz hbz HP HBP HDO HACT
  go_wp2
  go_end0
  exact ⟨rfl, HZ.out.1, HZ.out.2⟩


set_option maxHeartbeats 4000000 in
set_option maxRecDepth 100000 in
theorem do_turn {w : World} {B n : Nat} {P : Ptrs} {s : PS} {X : Nat → Th B} (h : PairX w B P s n X) (fit : s.Fit) (who i bit : Int) (load : ByteArray) :
    Calls Try.prog 42 #[.pointer (some ⟨P.p, 0, none⟩), .agg #[.int .i64 4, .int .i64 who, .int .i64 i, .int .i64 bit, .string load]] w fun e w' => e = .returned (.tuple #[]) ∧ PairX w' B P (s.doS ⟨4, who, i, bit, load⟩) n X ∧ Below B w w' := by
  obtain ⟨i0, hi0, hz0, hz1, hz2⟩ := info_parts str_info
  have hB := h.hB
  have hn := h.1
  obtain ⟨hv2, hwho⟩ := who_val who
  have hbx := h.box 82 [.int .i64 4, .int .i64 who, .int .i64 i, .int .i64 bit, .string load]
  have hbe : Below B w (w.alloc (.cells #[.int .i64 4, .int .i64 who, .int .i64 i, .int .i64 bit, .string load] 82)) := (Below.refl _ _).alloc hB _
  obtain ⟨hfe, hfb⟩ := act_fit fit ⟨4, who, i, bit, load⟩
  have HDO := Lib.hid (show ∀ w1, PairX w1 B P (s.act ⟨4, who, i, bit, load⟩) n X → Calls Try.prog 73 #[.pointer (some ⟨P.p, 0, none⟩)] w1 fun e w' => e = .returned (.tuple #[]) ∧ PairX w' B P (s.doS ⟨4, who, i, bit, load⟩) n X ∧ Below B w1 w' from fun w1 hp => flush_ps hp hp.hB hfb (fun j hj => (hfe j hj).goes))
  have HBX := Lib.hid hbx
  have HBE := Lib.hid hbe
  obtain ⟨v, hvv⟩ : ∃ v, whoN who = v := ⟨_, rfl⟩
  rw [hvv] at hv2 hwho
  have hvz : (v : Int) < 2 := by omega
  have HACT := Lib.hid (show s.act ⟨4, who, i, bit, load⟩ = { s with bags := upd s.bags v (Bag.turnL (s.bags v) i bit) } by unfold PS.act; simp only [hvv]; rfl)
  obtain ⟨hce, hcb, hcs⟩ := hbx.facts hn v hv2
  have hw1 : (w.alloc (.cells #[.int .i64 4, .int .i64 who, .int .i64 i, .int .i64 bit, .string load] 82)).heap.size = w.heap.size + 1 := World.size_alloc _ _
  have hpl := (hbx.pair hbx.hB).2.1
  clear hfe hfb hbx hbe hvv h
  go_enter Try.func42, Try.ntmps42
  go_upto_region 16 with fail
  generalize w.alloc (.cells #[.int .i64 4, .int .i64 who, .int .i64 i, .int .i64 bit, .string load] 82) = W0 at *
  clear hce hcb hcs hw1 hpl
  refine RegO.wp_once 11 10 (fun v' w' => (∃ c, v' = .int .i64 c) ∧ PairX w' B P { s with bags := upd s.bags v (Bag.turnL (s.bags v) i bit) } (n + 1) (boxX X n w.heap.size 82 [.int .i64 4, .int .i64 who, .int .i64 i, .int .i64 bit, .string load]) ∧ Below B W0 w') (fun w' => ∃ s', PairX w' B P s' (n + 1) (boxX X n w.heap.size 82 [.int .i64 4, .int .i64 who, .int .i64 i, .int .i64 bit, .string load])) (fun w' => w' = W0.drew) (fun wa wb => (PairX wa B P { s with bags := upd s.bags v (Bag.turnL (s.bags v) i bit) } (n + 1) (boxX X n w.heap.size 82 [.int .i64 4, .int .i64 who, .int .i64 i, .int .i64 bit, .string load]) → PairX wb B P { s with bags := upd s.bags v (Bag.turnL (s.bags v) i bit) } (n + 1) (boxX X n w.heap.size 82 [.int .i64 4, .int .i64 who, .int .i64 i, .int .i64 bit, .string load])) ∧ (Below B W0 wa → Below B W0 wb)) (by kernel_rfl) (by kernel_rfl) (by kernel_rfl) (by kernel_rfl) (fun _ _ d _ _ h => by cases d <;> exact h) ⟨s, HBX.out.drewN 1⟩ rfl ?_
  simp only [List.take_succ_cons, List.take_zero]
  repeat (refine RegO.chain_plain rfl rfl ?_ ?_ ?_; rotate_left; (focus (intro w3 hI _; obtain ⟨s', hp'⟩ := hI; obtain ⟨hce, hcb, hcs⟩ := hp'.facts hn v hv2; have hc2 := hcs 2; have hc3 := hcs 3; have hc4 := hcs 4; simp only [List.getElem?_cons_succ, List.getElem?_cons_zero] at hc2 hc3 hc4; clear hp' hcs; go_simp; rfl)))
  simp only [Act.put, List.setIfInBounds_toArray, List.set_cons_succ, List.set_cons_zero]
  refine RegO.chain_eff rfl rfl (fun v' wa wb hs ho => ⟨ho.1, hs.1 ho.2.1, hs.2 ho.2.2⟩) (fun w3 hI hPre _ KK hKK => ?_) (fun v' => ?_)
  · subst hPre
    have hbd : Below B W0 W0.drew := (Below.refl _ _).drew
    have HBD := Lib.hid hbd
    have hp0 := HBX.out.drewN 1
    have HP0 := Lib.hid hp0
    clear hbd hp0 hI
    go_simp
    obtain ⟨vb, hbg, hst⟩ := HP0.out.bag HP0.out.hB v hv2
    refine (Bag.turn_any W0.drew B (P.pb v) vb _ hbg i bit HP0.out.hB (fit.items v hv2)).mono ?_
    rintro e w4 ⟨⟨c, rfl⟩, he⟩
    obtain ⟨hp4, hb4⟩ := hst _ w4 he
    exact hKK (.int .i64 c) _ _ (by go_simp) ⟨⟨c, rfl⟩, hp4, HBD.out.trans hb4⟩ ⟨_, hp4⟩ ⟨fun _ => hp4, fun _ => HBD.out.trans hb4⟩
  refine RegO.chain_end (fun w3 hI hF => ?_)
  have hf3 := hF _ (List.mem_singleton.2 rfl)
  dsimp only at hf3
  clear hF hI
  simp only [List.drop_succ_cons, List.drop_zero]
  obtain ⟨⟨c, rfl⟩, hp2, hb2⟩ := hf3
  have HP := Lib.hid (hp2.unbox hn)
  have HBP := Lib.hid (HBE.out.trans hb2)
  clear hp2 hb2
  go_wp2_with fail
  refine (HDO.out _ (by rw [HACT.out]; exact HP.out)).mono ?_
  rintro e wz ⟨rfl, hpz, hbz⟩
  have HZ := Lib.hid (And.intro hpz (HBP.out.trans hbz))
  clear hpz hbz HP HBP HDO HACT
  go_wp2
  go_end0
  exact ⟨rfl, HZ.out.1, HZ.out.2⟩


set_option maxHeartbeats 4000000 in
set_option maxRecDepth 100000 in
theorem do_take {w : World} {B n : Nat} {P : Ptrs} {s : PS} {X : Nat → Th B} (h : PairX w B P s n X) (fit : s.Fit) (who i bit : Int) (load : ByteArray) :
    Calls Try.prog 42 #[.pointer (some ⟨P.p, 0, none⟩), .agg #[.int .i64 1, .int .i64 who, .int .i64 i, .int .i64 bit, .string load]] w fun e w' => e = .returned (.tuple #[]) ∧ PairX w' B P (s.doS ⟨1, who, i, bit, load⟩) n X ∧ Below B w w' := by
  obtain ⟨i0, hi0, hz0, hz1, hz2⟩ := info_parts str_info
  have hB := h.hB
  have hn := h.1
  obtain ⟨hv2, hwho⟩ := who_val who
  have hbx := h.box 82 [.int .i64 1, .int .i64 who, .int .i64 i, .int .i64 bit, .string load]
  have hbe : Below B w (w.alloc (.cells #[.int .i64 1, .int .i64 who, .int .i64 i, .int .i64 bit, .string load] 82)) := (Below.refl _ _).alloc hB _
  obtain ⟨hfe, hfb⟩ := act_fit fit ⟨1, who, i, bit, load⟩
  have HDO := Lib.hid (show ∀ w1, PairX w1 B P (s.act ⟨1, who, i, bit, load⟩) n X → Calls Try.prog 73 #[.pointer (some ⟨P.p, 0, none⟩)] w1 fun e w' => e = .returned (.tuple #[]) ∧ PairX w' B P (s.doS ⟨1, who, i, bit, load⟩) n X ∧ Below B w1 w' from fun w1 hp => flush_ps hp hp.hB hfb (fun j hj => (hfe j hj).goes))
  have HBX := Lib.hid hbx
  have HBE := Lib.hid hbe
  obtain ⟨v, hvv⟩ : ∃ v, whoN who = v := ⟨_, rfl⟩
  rw [hvv] at hv2 hwho
  have hvz : (v : Int) < 2 := by omega
  have HACT := Lib.hid (show s.act ⟨1, who, i, bit, load⟩ = (if (Bag.takeR (s.bags v) i).2 = 0 then { s with bags := upd s.bags v (Bag.takeL (s.bags v) i), ends := upd s.ends (1 - v) ((s.ends (1 - v)).get (Bag.takeR (s.bags v) i).1).1 } else { s with bags := upd s.bags v (Bag.takeL (s.bags v) i) }) by unfold PS.act; simp only [hvv]; rfl)
  obtain ⟨hce, hcb, hcs⟩ := hbx.facts hn v hv2
  have hw1 : (w.alloc (.cells #[.int .i64 1, .int .i64 who, .int .i64 i, .int .i64 bit, .string load] 82)).heap.size = w.heap.size + 1 := World.size_alloc _ _
  have hpl := (hbx.pair hbx.hB).2.1
  clear hfe hfb hbx hbe hvv h
  go_enter Try.func42, Try.ntmps42
  have htx : (Bag.takeR (s.bags v) i).1.size ≤ 2000 := by
    unfold Bag.takeR
    split
    · cases hg : (s.bags v)[i.toNat]? with
      | none => exact Nat.zero_le _
      | some x => exact fit.items v hv2 x (List.mem_of_getElem? hg)
    · exact Nat.zero_le _
  have HTX := Lib.hid htx
  clear htx
  go_upto_region 8 with fail
  generalize w.alloc (.cells #[.int .i64 1, .int .i64 who, .int .i64 i, .int .i64 bit, .string load] 82) = W0 at *
  clear hce hcb hcs hw1 hpl
  refine RegO.wp_once 14 8 (fun v' w' => v' = .tuple #[.string (Bag.takeR (s.bags v) i).1, .int .i64 (Bag.takeR (s.bags v) i).2] ∧ PairX w' B P { s with bags := upd s.bags v (Bag.takeL (s.bags v) i) } (n + 1) (boxX X n w.heap.size 82 [.int .i64 1, .int .i64 who, .int .i64 i, .int .i64 bit, .string load]) ∧ Below B W0 w') (fun w' => ∃ s', PairX w' B P s' (n + 1) (boxX X n w.heap.size 82 [.int .i64 1, .int .i64 who, .int .i64 i, .int .i64 bit, .string load])) (fun w' => w' = W0.drew) (fun wa wb => (PairX wa B P { s with bags := upd s.bags v (Bag.takeL (s.bags v) i) } (n + 1) (boxX X n w.heap.size 82 [.int .i64 1, .int .i64 who, .int .i64 i, .int .i64 bit, .string load]) → PairX wb B P { s with bags := upd s.bags v (Bag.takeL (s.bags v) i) } (n + 1) (boxX X n w.heap.size 82 [.int .i64 1, .int .i64 who, .int .i64 i, .int .i64 bit, .string load])) ∧ (Below B W0 wa → Below B W0 wb)) (by kernel_rfl) (by kernel_rfl) (by kernel_rfl) (by kernel_rfl) (fun _ _ d _ _ h => by cases d <;> exact h) ⟨s, HBX.out.drewN 1⟩ rfl ?_
  simp only [List.take_succ_cons, List.take_zero]
  repeat (refine RegO.chain_plain rfl rfl ?_ ?_ ?_; rotate_left; (focus (intro w3 hI _; obtain ⟨s', hp'⟩ := hI; obtain ⟨hce, hcb, hcs⟩ := hp'.facts hn v hv2; have hc2 := hcs 2; have hc3 := hcs 3; have hc4 := hcs 4; simp only [List.getElem?_cons_succ, List.getElem?_cons_zero] at hc2 hc3 hc4; clear hp' hcs; go_simp; rfl)))
  simp only [Act.put, List.setIfInBounds_toArray, List.set_cons_succ, List.set_cons_zero]
  refine RegO.chain_eff rfl rfl (fun v' wa wb hs ho => ⟨ho.1, hs.1 ho.2.1, hs.2 ho.2.2⟩) (fun w3 hI hPre _ KK hKK => ?_) (fun v' => ?_)
  · subst hPre
    have hbd : Below B W0 W0.drew := (Below.refl _ _).drew
    have HBD := Lib.hid hbd
    have hp0 := HBX.out.drewN 1
    have HP0 := Lib.hid hp0
    clear hbd hp0 hI
    go_simp
    obtain ⟨vb, hbg, hst⟩ := HP0.out.bag HP0.out.hB v hv2
    refine (Bag.take_any W0.drew B (P.pb v) vb _ hbg (fit.bags v hv2) i).mono ?_
    rintro e w4 ⟨rfl, he⟩
    obtain ⟨hp4, hb4⟩ := hst _ w4 he
    exact hKK (.tuple #[.string (Bag.takeR (s.bags v) i).1, .int .i64 (Bag.takeR (s.bags v) i).2]) _ _ (by go_simp) ⟨rfl, hp4, HBD.out.trans hb4⟩ ⟨_, hp4⟩ ⟨fun _ => hp4, fun _ => HBD.out.trans hb4⟩
  refine RegO.chain_plain rfl rfl (.tuple #[.string (Bag.takeR (s.bags v) i).1, .int .i64 (Bag.takeR (s.bags v) i).2]) (fun w3 hI hF => ?_) ?_
  · have hf3 := hF _ (List.mem_singleton.2 rfl) (by kernel_rfl)
    dsimp only at hf3
    obtain ⟨rfl, _⟩ := hf3
    clear hF hI
    go_simp
    try rfl
  simp only [Act.put, List.setIfInBounds_toArray, List.set_cons_succ, List.set_cons_zero]
  repeat (refine RegO.chain_plain rfl rfl ?_ ?_ ?_; rotate_left; (focus (intro w3 hI _; clear hI; go_simp; rfl)))
  simp only [Act.put, List.setIfInBounds_toArray, List.set_cons_succ, List.set_cons_zero]
  refine RegO.chain_end (fun w3 hI hF => ?_)
  have hf3 := hF _ (List.mem_singleton.2 rfl)
  dsimp only at hf3
  clear hF hI
  simp only [List.drop_succ_cons, List.drop_zero]
  obtain ⟨rfl, hp2, hb2⟩ := hf3
  have HP2 := Lib.hid hp2
  have HB2 := Lib.hid (HBE.out.trans hb2)
  clear hp2 hb2
  obtain ⟨tx, htx⟩ : ∃ tx, (Bag.takeR (s.bags v) i).1 = tx := ⟨_, rfl⟩
  obtain ⟨tc, htc⟩ : ∃ tc, (Bag.takeR (s.bags v) i).2 = tc := ⟨_, rfl⟩
  rw [htx] at HTX HACT ⊢
  rw [htc] at HACT ⊢
  clear htx htc
  by_cases h0 : tc = 0
  · rw [if_pos h0] at HACT
    subst h0
    have h1v : 1 - v < 2 := by omega
    have hsub : (1 : Int) - (v : Int) = ((1 - v : Nat) : Int) := by omega
    have hsw : IntKind.i64.wrap ((1 : Int) - (v : Int)) = ((1 - v : Nat) : Int) := by rw [hsub]; exact IntWalk.i64_in _ (by omega)
    have hsz1 : ((1 - v : Nat) : Int) < 2 := by omega
    obtain ⟨u, hu⟩ : ∃ u, 1 - v = u := ⟨_, rfl⟩
    rw [hu] at h1v hsw hsz1 HACT
    clear hsub hu
    obtain ⟨hce, _, _⟩ := HP2.out.facts hn u h1v
    obtain ⟨vL, vG, hl, hst⟩ := HP2.out.link HP2.out.hB u h1v
    have HC := Lib.hid (get_any w3 B (P.pe u) vL vG _ hl HP2.out.hB (fit.ends u h1v) (by have := fit.last u h1v; show (s.ends u).last ≤ _; omega) (by have := fit.taken u h1v; show (s.ends u).taken < _; omega) tx (by have := HTX.out; omega))
    have HST := Lib.hid hst
    have hpl := (HP2.out.pair HP2.out.hB).2.1
    clear hl hst
    go_wp2_with fail
    refine HC.out.mono ?_
    rintro e w4 ⟨rfl, he⟩
    obtain ⟨hp4, hb4⟩ := HST.out _ w4 he
    have HP := Lib.hid (hp4.unbox hn)
    have HBP := Lib.hid (HB2.out.trans hb4)
    clear hp4 hb4 he hce HC HST HP2 HB2
    go_wp2_with fail
    refine (HDO.out _ (by rw [HACT.out]; exact HP.out)).mono ?_
    rintro e wz ⟨rfl, hpz, hbz⟩
    have HZ := Lib.hid (And.intro hpz (HBP.out.trans hbz))
    clear hpz hbz HP HBP HDO HACT
    go_wp2
    go_end0
    exact ⟨rfl, HZ.out.1, HZ.out.2⟩
  · rw [if_neg h0] at HACT
    have h0b : (tc == 0) = false := beq_eq_false_iff_ne.2 h0
    have HP := Lib.hid (HP2.out.unbox hn)
    have HBP := Lib.hid HB2.out
    clear h0 HP2 HB2
    go_wp2_with fail
    refine (HDO.out _ (by rw [HACT.out]; exact HP.out)).mono ?_
    rintro e wz ⟨rfl, hpz, hbz⟩
    have HZ := Lib.hid (And.intro hpz (HBP.out.trans hbz))
    clear hpz hbz HP HBP HDO HACT
    go_wp2
    go_end0
    exact ⟨rfl, HZ.out.1, HZ.out.2⟩


set_option maxHeartbeats 4000000 in
set_option maxRecDepth 100000 in
theorem do_send {w : World} {B n : Nat} {P : Ptrs} {s : PS} {X : Nat → Th B} (h : PairX w B P s n X) (fit : s.Fit) (who i bit : Int) (load : ByteArray) :
    Calls Try.prog 42 #[.pointer (some ⟨P.p, 0, none⟩), .agg #[.int .i64 0, .int .i64 who, .int .i64 i, .int .i64 bit, .string load]] w fun e w' => e = .returned (.tuple #[]) ∧ PairX w' B P (s.doS ⟨0, who, i, bit, load⟩) n X ∧ Below B w w' := by
  obtain ⟨i0, hi0, hz0, hz1, hz2⟩ := info_parts str_info
  have hB := h.hB
  have hn := h.1
  obtain ⟨hv2, hwho⟩ := who_val who
  have hbx := h.box 82 [.int .i64 0, .int .i64 who, .int .i64 i, .int .i64 bit, .string load]
  have hbe : Below B w (w.alloc (.cells #[.int .i64 0, .int .i64 who, .int .i64 i, .int .i64 bit, .string load] 82)) := (Below.refl _ _).alloc hB _
  obtain ⟨hfe, hfb⟩ := act_fit fit ⟨0, who, i, bit, load⟩
  have HDO := Lib.hid (show ∀ w1, PairX w1 B P (s.act ⟨0, who, i, bit, load⟩) n X → Calls Try.prog 73 #[.pointer (some ⟨P.p, 0, none⟩)] w1 fun e w' => e = .returned (.tuple #[]) ∧ PairX w' B P (s.doS ⟨0, who, i, bit, load⟩) n X ∧ Below B w1 w' from fun w1 hp => flush_ps hp hp.hB hfb (fun j hj => (hfe j hj).goes))
  have HBX := Lib.hid hbx
  have HBE := Lib.hid hbe
  obtain ⟨v, hvv⟩ : ∃ v, whoN who = v := ⟨_, rfl⟩
  rw [hvv] at hv2 hwho
  have hvz : (v : Int) < 2 := by omega
  have HACT := Lib.hid (show s.act ⟨0, who, i, bit, load⟩ = (if ((s.ends v).send load).2 = 0 then ({ s with ends := upd s.ends v ((s.ends v).send load).1 } : PS).addRow v load else { s with ends := upd s.ends v ((s.ends v).send load).1 }) by unfold PS.act; simp only [hvv]; rfl)
  obtain ⟨hce, hcb, hcs⟩ := hbx.facts hn v hv2
  have hw1 : (w.alloc (.cells #[.int .i64 0, .int .i64 who, .int .i64 i, .int .i64 bit, .string load] 82)).heap.size = w.heap.size + 1 := World.size_alloc _ _
  have hpl := (hbx.pair hbx.hB).2.1
  clear hfe hfb hbx hbe hvv h
  go_enter Try.func42, Try.ntmps42
  go_upto_region 5 with fail
  generalize w.alloc (.cells #[.int .i64 0, .int .i64 who, .int .i64 i, .int .i64 bit, .string load] 82) = W0 at *
  clear hce hcb hcs hw1 hpl
  refine RegO.wp_once 9 8 (fun v' w' => v' = .int .i64 ((s.ends v).send load).2 ∧ PairX w' B P { s with ends := upd s.ends v ((s.ends v).send load).1 } (n + 1) (boxX X n w.heap.size 82 [.int .i64 0, .int .i64 who, .int .i64 i, .int .i64 bit, .string load]) ∧ Below B W0 w') (fun w' => ∃ s', PairX w' B P s' (n + 1) (boxX X n w.heap.size 82 [.int .i64 0, .int .i64 who, .int .i64 i, .int .i64 bit, .string load])) (fun w' => w' = W0.drew) (fun wa wb => (PairX wa B P { s with ends := upd s.ends v ((s.ends v).send load).1 } (n + 1) (boxX X n w.heap.size 82 [.int .i64 0, .int .i64 who, .int .i64 i, .int .i64 bit, .string load]) → PairX wb B P { s with ends := upd s.ends v ((s.ends v).send load).1 } (n + 1) (boxX X n w.heap.size 82 [.int .i64 0, .int .i64 who, .int .i64 i, .int .i64 bit, .string load])) ∧ (Below B W0 wa → Below B W0 wb)) (by kernel_rfl) (by kernel_rfl) (by kernel_rfl) (by kernel_rfl) (fun _ _ d _ _ h => by cases d <;> exact h) ⟨s, HBX.out.drewN 1⟩ rfl ?_
  simp only [List.take_succ_cons, List.take_zero]
  repeat (refine RegO.chain_plain rfl rfl ?_ ?_ ?_; rotate_left; (focus (intro w3 hI _; obtain ⟨s', hp'⟩ := hI; obtain ⟨hce, hcb, hcs⟩ := hp'.facts hn v hv2; have hc2 := hcs 2; have hc3 := hcs 3; have hc4 := hcs 4; simp only [List.getElem?_cons_succ, List.getElem?_cons_zero] at hc2 hc3 hc4; clear hp' hcs; go_simp; rfl)))
  simp only [Act.put, List.setIfInBounds_toArray, List.set_cons_succ, List.set_cons_zero]
  refine RegO.chain_eff rfl rfl (fun v' wa wb hs ho => ⟨ho.1, hs.1 ho.2.1, hs.2 ho.2.2⟩) (fun w3 hI hPre _ KK hKK => ?_) (fun v' => ?_)
  · subst hPre
    have hbd : Below B W0 W0.drew := (Below.refl _ _).drew
    have HBD := Lib.hid hbd
    have hp0 := HBX.out.drewN 1
    have HP0 := Lib.hid hp0
    clear hbd hp0 hI
    go_simp
    obtain ⟨vL, vG, hl, hst⟩ := HP0.out.link HP0.out.hB v hv2
    refine (send_any W0.drew B (P.pe v) vL vG _ hl HP0.out.hB (fit.ends v hv2) (by have := fit.last v hv2; omega) load).mono ?_
    rintro e w4 ⟨rfl, he⟩
    obtain ⟨hp4, hb4⟩ := hst _ w4 he
    exact hKK (.int .i64 ((s.ends v).send load).2) _ _ (by go_simp) ⟨rfl, hp4, HBD.out.trans hb4⟩ ⟨_, hp4⟩ ⟨fun _ => hp4, fun _ => HBD.out.trans hb4⟩
  refine RegO.chain_end (fun w3 hI hF => ?_)
  have hf3 := hF _ (List.mem_singleton.2 rfl)
  dsimp only at hf3
  clear hF hI
  simp only [List.drop_succ_cons, List.drop_zero]
  obtain ⟨rfl, hp2, hb2⟩ := hf3
  have HP1 := Lib.hid hp2
  have HB1 := Lib.hid (HBE.out.trans hb2)
  clear hp2 hb2
  obtain ⟨l', hl'⟩ : ∃ l', ((s.ends v).send load).1 = l' := ⟨_, rfl⟩
  obtain ⟨code, hcode⟩ : ∃ code, ((s.ends v).send load).2 = code := ⟨_, rfl⟩
  rw [hl', hcode] at HACT
  rw [hl'] at HP1
  rw [hcode]
  clear hl' hcode
  generalize w3 = w1 at *
  by_cases h0 : code = 0
  · rw [if_pos h0] at HACT
    subst h0
    have hB1 : B ≤ w1.heap.size := HP1.out.hB
    obtain ⟨-, hpl1, -, hrows⟩ := HP1.out.pair hB1
    obtain ⟨A, c, hc, hown, hfin⟩ := hrows v (by omega)
    obtain ⟨m, hm⟩ : ∃ m, (({ s with ends := upd s.ends v l' } : PS).row v).length = m := ⟨_, rfl⟩
    have hml : m ≤ 100000 := by
      rw [← hm]
      unfold PS.row
      rw [if_pos hv2]
      exact fit.sent v hv2
    rw [hm] at hc hown hfin
    have hc' : w1.cell? ⟨P.p, 4 + v, none⟩ = some (.slice A m c) := hc
    have HBOX := Lib.hid (fun (w3 : World) (ht : Touch (AS A m c) w1 w3) => HP1.out.boxStay hn v (by omega) hc ht 4)
    have hbox1 : w1.cell? ⟨w.heap.size, 4, none⟩ = some (.string load) := HBOX.out w1 (Touch.refl _ _)
    have HOWN := Lib.hid hown
    have HFIN := Lib.hid hfin
    have HCELL := Lib.hid (fun (w3 : World) (ht : Touch (AS A m c) w1 w3) => HP1.out.stay hB1 v (by omega) hc ht)
    clear hrows hc hown hfin hm
    have hcell : ∀ w3, Touch (AS A m c) w1 w3 → w3.cell? ⟨P.p, 4 + v, none⟩ = some (.slice A m c) := HCELL.out
    have hbx : ∀ w3, Touch (AS A m c) w1 w3 → w3.cell? ⟨w.heap.size, 4, none⟩ = some (.string load) := HBOX.out
    go_wp2_with fail
    clear hc' hbox1
    refine RegP.wp_chain 14 [(10, AMade w1 load), (11, AGrown w1 B A m c (strs (({ s with ends := upd s.ends v l' } : PS).row v ++ [load])))] [10, 11] (fun w' => Touch (AS A m c) w1 w') (APre w1 10 11) (fun _ _ => False) (fun _ wa wb => Touch (AS A m c) wa wb) (by kernel_rfl) (by kernel_rfl) (by kernel_rfl) rfl (by kernel_rfl) (by kernel_rfl) (fun _ _ _ _ _ h => h.elim) ((Touch.refl _ _).drewN 1) ?hpre (by decide) ?_
    case hpre =>
      intro k hk
      have hk' : k = 10 := by simpa using hk.symm
      subst hk'
      exact (Touch.refl _ _).drewN 1
    simp only [List.take_succ_cons, List.take_zero]
    repeat (refine RegP.chain_plain rfl rfl ?_ ?_ ?_; rotate_left; (focus (intro w3 hI _; have hcx := hcell _ hI; have hbx4 := hbx _ hI; clear hI; go_simp; rfl)))
    simp only [Act.put, List.setIfInBounds_toArray, List.set_cons_succ, List.set_cons_zero]
    refine RegP.chain_eff rfl rfl (fun _ _ _ _ _ _ hs h => h.keep HOWN.out hs) (fun w3 hI hP _ KK hKK => ?_) (fun v9 => ?_)
    · have hP' : Touch (fun _ => False) w1 w3 := hP
      have hal := (Below.refl w3.heap.size w3).alloc (Nat.le_refl _) (.cells #[.string load] 9)
      have HA := Lib.hid (show AMade w1 load (.slice (some ⟨w3.heap.size, 0, none⟩) 1 1) (w3.alloc (.cells #[.string load] 9)) from ⟨_, rfl, hP'.size, Blk.new _ _ _⟩)
      have HP2 := Lib.hid (show APre w1 10 11 11 (w3.alloc (.cells #[.string load] 9)) from hP'.trans (Touch.of_below (S := fun _ => False) hal) (fun _ h => h.elim))
      clear hP hcell hbx
      go_simp
      exact hKK _ _ _ (by go_simp) HA.out (hI.trans (Touch.of_below (S := fun _ => False) hal) (fun _ h => h.elim)) (Touch.of_below hal) HP2.out
    repeat (refine RegP.chain_plain rfl rfl ?_ ?_ ?_; rotate_left; (focus (intro w3 hI _; have hcx := hcell _ hI; have hbx4 := hbx _ hI; clear hI; go_simp; rfl)))
    simp only [Act.put, List.setIfInBounds_toArray, List.set_cons_succ, List.set_cons_zero]
    refine RegP.chain_eff rfl rfl (fun j v wa wb hj hne _ _ => (hne (by simp only [Reg.Rof]; rw [if_neg (by omega), if_neg (by omega)])).elim) (fun w3 hI hP hF KK hKK => ?_) (fun v10 => ?_)
    · have hP' : Touch (fun _ => False) w1 w3 := hP
      have f9 := hF _ (List.mem_cons_self ..) (by kernel_rfl)
      dsimp only at f9
      obtain ⟨g, rfl, hg, hbg⟩ := f9
      have hown3 := hP'.own HOWN.out (fun _ _ h => h)
      have hrx : Reads w3 (g + 1) 1 (some ⟨g, 0, none⟩) 1 (strs [load]) := ⟨rfl, fun _ => ⟨_, rfl, Nat.lt_succ_self _, fun j u hu => by
        rw [show (⟨g, 0, none⟩ : Addr).add j = ⟨g, j, none⟩ by unfold Addr.add; split <;> simp_all, hbg.cell j]
        simpa [strs] using hu⟩⟩
      have hszz : B ≤ w3.heap.size := Nat.le_trans hB1 hP'.size
      clear hcell hF hP hbx
      refine wp_append_any _ _ _ _ rfl B 9 i0 _ 1 16 Try.underlying34 hi0 hz0 hz1 hz2 rfl (by decide) _ _ _ (by go_simp) hown3 _ (some ⟨g, 0, none⟩) 1 1 _ (by go_simp) hrx (strs_one _) ?c3 ?c4 ?c5 ?_
      case c3 => unfold maxLen; omega
      case c4 => omega
      case c5 => omega
      intro v' w4 hown4 hg4 hbl
      have hT5 : Touch (AS A m c) w3 w4 := Touch.of_grown hg4 (fun k h => h)
      refine hKK v' _ _ (by go_simp) ⟨by unfold strs at hown4 ⊢; rw [List.map_append]; exact hown4, fun k hk => ?_⟩ (hI.trans hT5 (fun k h => .inl h)) hT5 trivial
      rcases hbl with h | h
      · exact .inl (h.symm.trans hk)
      · rw [h] at hk
        injection hk with hk
        have := hP'.size
        exact .inr (by omega)
    repeat (refine RegP.chain_plain rfl rfl ?_ ?_ ?_; rotate_left; (focus (intro w3 hI _; have hcx := hcell _ hI; have hbx4 := hbx _ hI; clear hI; go_simp; rfl)))
    simp only [Act.put, List.setIfInBounds_toArray, List.set_cons_succ, List.set_cons_zero]
    refine RegP.chain_end (fun w3 hI hF => ?_)
    have f10 := hF _ (List.mem_cons_self ..)
    dsimp only at f10
    obtain ⟨hown3, hbl⟩ := f10
    clear hF hcell hbx
    simp only [List.drop_succ_cons, List.drop_zero]
    obtain ⟨A', c', rfl⟩ := own_form hown3
    obtain ⟨q1, q2, q3, q4, q5⟩ := HFIN.out load (.slice A' (m + 1) c') w3 hI hown3 hbl
    have HP := Lib.hid (q4.unbox hn)
    have HBP := Lib.hid (HB1.out.trans q5)
    clear q4 q5 hown3 hbl hI
    go_wp2
    refine RegP.Held.normal ?_
    go_wp2_with fail
    refine (HDO.out _ (by rw [HACT.out]; exact HP.out)).mono ?_
    rintro e wz ⟨rfl, hpz, hbz⟩
    have HZ := Lib.hid (And.intro hpz (HBP.out.trans hbz))
    clear hpz hbz HP HBP HDO HACT
    go_wp2
    go_end0
    exact ⟨rfl, HZ.out.1, HZ.out.2⟩
  · rw [if_neg h0] at HACT
    have h0b : (code == 0) = false := beq_eq_false_iff_ne.2 h0
    have HP := Lib.hid (HP1.out.unbox hn)
    have HBP := Lib.hid HB1.out
    clear h0 HP1 HB1
    go_wp2_with fail
    refine (HDO.out _ (by rw [HACT.out]; exact HP.out)).mono ?_
    rintro e wz ⟨rfl, hpz, hbz⟩
    have HZ := Lib.hid (And.intro hpz (HBP.out.trans hbz))
    clear hpz hbz HP HBP HDO HACT
    go_wp2
    go_end0
    exact ⟨rfl, HZ.out.1, HZ.out.2⟩


/-- Any step. -/
theorem do_ps {w : World} {B n : Nat} {P : Ptrs} {s : PS} {X : Nat → Th B} (h : PairX w B P s n X) (fit : s.Fit) (t : StepL) :
    Calls Try.prog 42 #[.pointer (some ⟨P.p, 0, none⟩), .agg t.cells.toArray] w fun e w' => e = .returned (.tuple #[]) ∧ PairX w' B P (s.doS t) n X ∧ Below B w w' := by
  obtain ⟨kind, who, i, bit, load⟩ := t
  by_cases h0 : kind = 0
  · subst h0
    exact do_send h fit who i bit load
  by_cases h1 : kind = 1
  · subst h1
    exact do_take h fit who i bit load
  by_cases h2 : kind = 2
  · subst h2
    exact do_drop h fit who i bit load
  by_cases h3 : kind = 3
  · subst h3
    exact do_twice h fit who i bit load
  by_cases h4 : kind = 4
  · subst h4
    exact do_turn h fit who i bit load
  by_cases h5 : kind = 5
  · subst h5
    exact do_tick h fit who i bit load
  exact do_recv h fit kind who i bit load h0 h1 h2 h3 h4 h5

end Go.Proofs.Ytgacphicgglogaa

/-! ## The pair: 'right' of a pair that is right. -/
namespace Go.Proofs.Ytgacphicgglogaa
open Go.RowKit Crc
set_option linter.unusedVariables false

/-- What is read is the beginning of what was sent. -/
def PS.Right (s : PS) : Prop := ∀ i, i < 2 → (s.read (1 - i)).length ≤ (s.sent i).length ∧ s.read (1 - i) = (s.sent i).take (s.read (1 - i)).length
theorem reads_take {w : World} {X n k : Nat} {A : Option Addr} {l : List ByteArray} (h : Reads w X 1 A n (strs l)) (hk : k ≤ n) (hl : l.length = n) : Reads w X 1 A k (strs (l.take k)) := by
  refine ⟨by rw [strs_len, List.length_take]; omega, fun hk0 => ?_⟩
  obtain ⟨ad, hA, hb, hc⟩ := h.2 (by omega)
  refine ⟨ad, hA, hb, fun j u hu => hc j u ?_⟩
  unfold strs at hu ⊢
  rw [List.map_take, List.getElem?_take] at hu
  split at hu
  · exact hu
  · cases hu

set_option maxHeartbeats 4000000 in
set_option maxRecDepth 100000 in
theorem right_ps {w : World} {B n : Nat} {P : Ptrs} {s : PS} {X : Nat → Th B} (h : PairX w B P s n X) (hR : s.Right) (hsz : ∀ j, j < 2 → (s.sent j).length ≤ 100000) :
    Calls Try.prog 43 #[.pointer (some ⟨P.p, 0, none⟩)] w fun e w' => e = .returned (.bool true) ∧ ∃ q, w' = w.drewN q := by
  have H := Lib.hid h
  clear h
  go_enter Try.func43, Try.ntmps43
  go_wp2_with fail
  go_loopw [5] (fun v wr => ∃ k : Nat, k ≤ 2 ∧ v = .int .i64 (k : Int) ∧ ∃ q, wr = w.drewN q) (fun v _ => 2 - (intOf v).toNat)
  case atStart => exact ⟨0, by omega, rfl, 0, rfl⟩
  case round =>
    obtain ⟨i, hi2, rfl, q, hq⟩ := hrel
    have HQ := Lib.hid hq
    by_cases hi : i < 2
    · have hiz : (i : Int) < 2 := by omega
      have hp : PairX wr B P s n X := by rw [hq]; exact H.out.drewN q
      clear hq
      obtain ⟨-, hpl, -, hrows⟩ := hp.pair hp.hB
      obtain ⟨hle, heq⟩ := hR i hi
      have hu2 : 1 - i < 2 := by omega
      have hsw : IntKind.i64.wrap ((1 : Int) - (i : Int)) = ((1 - i : Nat) : Int) := by rw [show (1 : Int) - (i : Int) = ((1 - i : Nat) : Int) by omega]; exact IntWalk.i64_in _ (by omega)
      obtain ⟨u, hu⟩ : ∃ u, 1 - i = u := ⟨_, rfl⟩
      rw [hu] at hle heq hu2 hsw
      have huz : (u : Int) < 2 := by omega
      obtain ⟨A1, c1, hc1, ho1, -⟩ := hrows (2 + u) (by omega)
      obtain ⟨A2, c2, hc2, ho2, -⟩ := hrows i (by omega)
      have e1 : s.row (2 + u) = s.read u := by unfold PS.row; rw [if_neg (by omega), Nat.add_sub_cancel_left]
      have e2 : s.row i = s.sent i := by unfold PS.row; rw [if_pos hi]
      rw [e1] at hc1 ho1
      rw [e2] at hc2 ho2
      rw [show 4 + (2 + u) = 6 + u by omega] at hc1
      have hcap := own_cap ho2
      have hr1 := Reads.of_own ho1
      have hr2 := reads_take (k := (s.read u).length) (Reads.of_own ho2) hle rfl
      have hs2 := hsz i hi
      obtain ⟨m, hm⟩ : ∃ m, (s.read u).length = m := ⟨_, rfl⟩
      obtain ⟨k, hk⟩ : ∃ k, (s.sent i).length = k := ⟨_, rfl⟩
      rw [hm] at hc1 hr1 hr2 hle heq
      rw [hk] at hc2 hle hcap hs2
      have hcon : ∀ w', (∃ q', w' = wr.drewN q') → Calls Try.prog 26 #[.slice A1 m c1, .slice A2 m c2] w' fun e w'' => e = .returned (.bool true) ∧ ∃ n, w'' = w'.drewN n := fun w' hw' => by
        obtain ⟨q', rfl⟩ := hw'
        have := sameStr_any (wr.drewN q') A1 A2 m m c1 c2 (s.read u) ((s.sent i).take m) hm (by rw [List.length_take]; omega) (hr1.drewN q') (hr2.drewN q') (by unfold maxLen; omega)
        rw [decide_eq_true heq] at this
        exact this
      have HC := Lib.hid hcon
      have hnk : ¬ (k : Int) < (m : Int) := by omega
      have hkd : decide (k < m) = false := decide_eq_false (by omega)
      have hmc : (m : Int) ≤ (c2 : Int) := by omega
      have hmc2 : m ≤ c2 := by omega
      clear hp hrows ho1 ho2 e1 e2 hcap hr1 hr2 hm hk hcon heq hu
      go_wp2_with fail
      go_quiet ((go_at_call 26; exact Calls.quiet_of (HC.out _ ⟨_, rfl⟩)))
      go_wp2
      go_roundw
      case rel => exact ⟨i + 1, by omega, by go_num, q + nq, by rw [HQ.out, World.drewN_drewN]⟩
      case measure => simp [intOf]; omega
    · obtain rfl : i = 2 := by omega
      have hiz : ¬ (2 : Int) < 2 := by omega
      clear hq
      go_wp2
      go_ret
      exact ⟨rfl, q, HQ.out⟩
end Go.Proofs.Ytgacphicgglogaa
