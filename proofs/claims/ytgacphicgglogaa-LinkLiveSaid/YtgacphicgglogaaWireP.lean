/- Package wire: rows that a reading has made and keeps. -/
import Derived.Test.YtgacphicgglogaaWireO
namespace Go.Proofs.Ytgacphicgglogaa
open Go.RowKit Crc
set_option linter.unusedVariables false

/-- A row of numbers that lies in blocks lo .. hi - 1. -/
def KI (w : World) (lo hi : Nat) (v : Value) (l : List Int) : Prop := w.ownsRow lo 3 1 v l.length (intV l) ∧ ∀ k, v.ownBlock = some k → k < hi
section
variable {w w' : World} {lo hi lo' hi' : Nat} {v : Value} {l : List Int}
theorem KI.touch {S : Nat → Prop} (h : KI w lo hi v l) (ht : Touch S w w') (hS : ∀ k, S k → k < lo ∨ hi ≤ k) : KI w' lo hi v l :=
  ⟨ht.own h.1 (fun k hk e => by
    have h1 := (h.1.lt k hk).1
    have h2 := h.2 k hk
    rcases hS k e with h3 | h3 <;> omega), h.2⟩
theorem KI.more (h : KI w lo hi v l) (h1 : lo' ≤ lo) (h2 : hi ≤ hi') : KI w lo' hi' v l := by
  refine ⟨?_, fun k hk => Nat.lt_of_lt_of_le (h.2 k hk) h2⟩
  refine ⟨h.1.1, ?_⟩
  rcases h.1.2 with h3 | ⟨g, cap, cur, h3, h4, h5⟩
  · exact .inl h3
  · exact .inr ⟨g, cap, cur, h3, Nat.le_trans h1 h4, h5⟩
theorem KI.agree {W : World} (h : KI w lo hi v l) (ha : ∀ k, lo ≤ k → k < w.heap.size → W.heap[k]? = w.heap[k]?) : KI W lo hi v l := by
  refine ⟨⟨h.1.1, ?_⟩, h.2⟩
  rcases h.1.2 with h1 | ⟨g, cap, cur, hv, hb, hg, h3⟩
  · exact .inl h1
  · exact .inr ⟨g, cap, cur, hv, hb, (ha g hb (Array.getElem?_eq_some_iff.1 hg).1).trans hg, h3⟩
theorem KI.of_own (h : w.ownsRow lo 3 1 v l.length (intV l)) : KI w lo w.heap.size v l := ⟨h, fun k hk => (h.lt k hk).2⟩
theorem KI.ints (h : KI w lo hi v l) : IntsAt w w.heap.size v l := by
  obtain ⟨A, c, rfl⟩ := own_form h.1
  refine ⟨A, l.length, c, rfl, rfl, ?_, Reads.of_own h.1⟩
  rcases h.1.2 with ⟨_, h0⟩ | ⟨g, cap, cur, hv, _, _, h1, h2, _⟩
  · omega
  · injection hv with _ _ e3
    subst e3
    unfold maxLen at h2
    omega
end

theorem own_agree {w W : World} {base e size n : Nat} {v : Value} {xs : List Value} (h : w.ownsRow base e size v n xs) (ha : ∀ k, base ≤ k → k < w.heap.size → W.heap[k]? = w.heap[k]?) : W.ownsRow base e size v n xs := by
  refine ⟨h.1, ?_⟩
  rcases h.2 with h1 | ⟨g, cap, cur, hv, hb, hg, h3⟩
  · exact .inl h1
  · exact .inr ⟨g, cap, cur, hv, hb, (ha g hb (Array.getElem?_eq_some_iff.1 hg).1).trans hg, h3⟩
/-- A message whose rows lie in blocks from lo on. -/
def MsgOwn (w : World) (lo : Nat) (v : Value) (m : MsgL) : Prop := ∀ W : World, w.heap.size ≤ W.heap.size → (∀ k, lo ≤ k → k < w.heap.size → W.heap[k]? = w.heap[k]?) → MsgAt W W.heap.size v m
theorem MsgOwn.at_ {w : World} {lo : Nat} {v : Value} {m : MsgL} (h : MsgOwn w lo v m) : MsgAt w w.heap.size v m := h w (Nat.le_refl _) fun _ _ _ => rfl
theorem MsgOwn.touch {S : Nat → Prop} {w w2 : World} {lo : Nat} {v : Value} {m : MsgL} (h : MsgOwn w lo v m) (ht : Touch S w w2) (hS : ∀ k, S k → k < lo ∨ w.heap.size ≤ k) : MsgOwn w2 lo v m := fun W hsz hag =>
  h W (Nat.le_trans ht.size hsz) fun k h1 h2 => (hag k h1 (Nat.lt_of_lt_of_le h2 ht.size)).trans (ht.block k h2 fun e => by rcases hS k e with h3 | h3 <;> omega)
theorem MsgOwn.more {w : World} {lo lo' : Nat} {v : Value} {m : MsgL} (h : MsgOwn w lo v m) (hl : lo' ≤ lo) : MsgOwn w lo' v m := fun W hsz hag => h W hsz fun k h1 h2 => hag k (Nat.le_trans hl h1) h2
/-- A message's value, whatever it holds. -/
def MsgShape (x : Value) : Prop := ∃ (a b : Int) (c : ByteArray) (A3 : Option Addr) (n3 k3 : Nat) (A4 : Option Addr) (n4 k4 : Nat) (A5 : Option Addr) (n5 k5 : Nat) (A6 : Option Addr) (n6 k6 : Nat) (A7 : Option Addr) (n7 k7 : Nat) (A8 : Option Addr) (n8 k8 : Nat), x = .agg #[.int .i64 a, .int .u64 b, .string c, .slice A3 n3 k3, .slice A4 n4 k4, .slice A5 n5 k5, .slice A6 n6 k6, .slice A7 n7 k7, .slice A8 n8 k8]
/-- What 'read' leaves. -/
def RRead (w : World) (s : ByteArray) : Ending → World → Prop := fun e w' =>
  (∃ m v, readR s = some m ∧ e = .returned (.tuple #[v, .int .i64 0]) ∧ MsgOwn w' w.heap.size v m ∧ Below w.heap.size w w') ∨ (readR s = none ∧ ∃ x, MsgShape x ∧ e = .returned (.tuple #[x, .int .i64 1]) ∧ Below w.heap.size w w')
theorem read_bad {w w1 : World} {M : Nat} (hM : w.heap.size = M) {s : ByteArray} (hno : readR s = none) {x0 x1 x2 x3 x4 x5 x6 x7 x8 : Value} (hF : RdF w w1 M #[x0, x1, x2, x3, x4, x5, x6, x7, x8]) (tmps : Array Value) (h2 : tmps[2]? = some (.pointer (some ⟨M, 0, none⟩))) (h3 : tmps[3]? = some (.pointer (some ⟨M + 1, 0, none⟩)))
    (hsh : MsgShape (.agg #[x0, x1, x2, x3, x4, x5, x6, x7, x8]) := by exact ⟨_, _, _, _, _, _, _, _, _, _, _, _, _, _, _, _, _, _, _, _, _, rfl⟩) :
    bodyPostD Try.prog Try.f55 (RRead w s) (.panic stops) { tmps := tmps, defers := [{ target := .fn (.func 77) #[], args := #[.pointer (some ⟨M + 1, 0, none⟩)] }] } w1 := by
  obtain ⟨hb, hE, hbel⟩ := hF
  refine read_fail _ tmps M x0 x1 x2 x3 x4 x5 x6 x7 x8 (.int .i64 0) w1 h2 h3 hb hE (fun o => .inr ⟨hno, _, hsh, rfl, ?_⟩)
  rw [hM]
  have := hE.lt
  exact (hbel.alloc (by omega) o).setCell (by show M ≤ M + 1; omega) _
theorem set_info : (Try.prog.info? 111).map (fun i => (i.zero, i.size, i.bytes)) = some (some (.agg #[.int .i64 0, .int .i64 0, .int .i64 0, .int .i64 0]), 4, 32) := by kernel_rfl
theorem past_info : (Try.prog.info? 113).map (fun i => (i.zero, i.size, i.bytes)) = some (some (.agg #[.int .i64 0, .slice none 0 0]), 2, 32) := by kernel_rfl
def setV (x : SetL) : List Value := [.int .i64 x.var, .int .i64 x.kind, .int .i64 x.a, .int .i64 x.b]
def setsV (l : List SetL) : List Value := l.flatMap setV
theorem setsV_len : ∀ l : List SetL, (setsV l).length = l.length * 4
  | [] => rfl
  | x :: l => by
    have := setsV_len l
    unfold setsV at this ⊢
    rw [List.flatMap_cons, List.length_append, this, List.length_cons]
    show 4 + l.length * 4 = _
    omega
theorem setsV_at : ∀ (l : List SetL) (i j : Nat) (h : i < l.length), j < 4 → (setsV l)[i * 4 + j]? = (setV (l[i]'h))[j]?
  | [], i, j, h, _ => absurd h (by simp)
  | a :: l, 0, j, _, hj => by
    unfold setsV
    rw [List.flatMap_cons, List.getElem?_append_left (by show _ < 4; omega)]
    simp
  | a :: l, i + 1, j, h, hj => by
    have := setsV_at l i j (by simpa using h) hj
    unfold setsV at this ⊢
    rw [List.flatMap_cons, List.getElem?_append_right (by show 4 ≤ _; omega)]
    show (l.flatMap setV)[(i + 1) * 4 + j - 4]? = _
    rw [show (i + 1) * 4 + j - 4 = i * 4 + j by omega, this]
    rfl
theorem setsV_one (l : List SetL) : ∀ u ∈ setsV l, u.oneCell' = true := fun u hu => by
  obtain ⟨x, _, hu⟩ := List.mem_flatMap.1 hu
  simp only [setV, List.mem_cons, List.not_mem_nil, or_false] at hu
  rcases hu with rfl | rfl | rfl | rfl <;> rfl
end Go.Proofs.Ytgacphicgglogaa
