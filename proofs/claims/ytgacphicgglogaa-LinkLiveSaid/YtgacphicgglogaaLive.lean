/- Calm rounds of the pair: the contract of calm; in the end all is read and told (numbers alone, then the ends, then the pair). -/
import Derived.Test.YtgacphicgglogaaLinkP
import Derived.Deep.LoopGhost

/-! ## A calm round: what it makes of the pair ('PS.calmS'), that it keeps what always holds, and the contract of 'calm'. -/
namespace Go.Proofs.Ytgacphicgglogaa
open Go.RowKit Crc
set_option linter.unusedVariables false

/-- The first item of a bag comes to the other end. -/
def PS.one (s : PS) (v : Nat) : PS := { s with bags := upd s.bags v (Bag.takeL (s.bags v) 0), ends := upd s.ends (1 - v) ((s.ends (1 - v)).get (Bag.takeR (s.bags v) 0).1).1 }
def PS.drain (s : PS) (v : Nat) : Nat → PS
  | 0 => s
  | k + 1 => (s.drain v k).one v
def PS.recvN (s : PS) (v : Nat) : Nat → PS
  | 0 => s
  | k + 1 => (s.recvN v k).recvS v
def PS.calmW (s : PS) (v : Nat) : PS := (s.drain v (s.bags v).length).recvN (1 - v) 64
def PS.calmK (s : PS) : Nat → PS
  | 0 => s
  | k + 1 => (s.calmK k).calmW k
def PS.tickW (s : PS) (v : Nat) : PS := { s with ends := upd s.ends v (s.ends v).tick }
def PS.calmS (s : PS) : PS := (((s.calmK 2).tickW 0).tickW 1).flushS

theorem Bag.take0 (x : Bag.Item) (l : List Bag.Item) : Bag.takeL (x :: l) 0 = l ∧ Bag.takeR (x :: l) 0 = (x.1, 0) := by
  have hin : Bag.inB (x :: l) 0 := ⟨Int.le_refl _, by rw [List.length_cons]; omega⟩
  unfold Bag.takeL Bag.takeR
  rw [if_pos hin, if_pos hin]
  exact ⟨rfl, rfl⟩
theorem InvP.one {s : PS} {N v : Nat} (h : InvP s N) (hv : v < 2) (hN : N < 100000) (hne : 0 < (s.bags v).length) : InvP (s.one v) N := by
  cases hb : s.bags v with
  | nil => rw [hb] at hne; exact absurd hne (by decide)
  | cons x l =>
    have hit : ItemOk (s.ends v) (s.sent v) x := h.items v hv x (by rw [hb]; exact .head _)
    have hlen := h.bags v hv
    rw [hb, List.length_cons] at hlen
    have htake : InvP { s with bags := upd s.bags v l } N := h.bag hv (by omega) (fun y hy => h.items v hv y (by rw [hb]; exact .tail _ hy))
    have h11 : 1 - (1 - v) = v := by omega
    have := htake.get (u := 1 - v) (by omega) hN (x := x) (by rw [h11]; exact hit)
    unfold PS.one
    rw [hb, (Bag.take0 x l).1, (Bag.take0 x l).2]
    exact this
theorem one_len {s : PS} {v : Nat} : ((s.one v).bags v).length = (s.bags v).length - 1 := by
  show (upd s.bags v _ v).length = _
  rw [upd_same]
  cases s.bags v with
  | nil => rfl
  | cons x l => rw [(Bag.take0 x l).1]; rfl
theorem InvP.take0 {s : PS} {N v : Nat} (h : InvP s N) (hv : v < 2) (hne : 0 < (s.bags v).length) : (Bag.takeR (s.bags v) 0).1.size ≤ 2000 := by
  cases hb : s.bags v with
  | nil => rw [hb] at hne; exact absurd hne (by decide)
  | cons x l =>
    rw [(Bag.take0 x l).2]
    exact (h.items v hv x (by rw [hb]; exact .head _)).size
theorem InvP.drain {s : PS} {N v : Nat} (h : InvP s N) (hv : v < 2) (hN : N < 100000) : ∀ k, k ≤ (s.bags v).length → InvP (s.drain v k) N ∧ ((s.drain v k).bags v).length = (s.bags v).length - k
  | 0, _ => ⟨h, rfl⟩
  | k + 1, hk => by
    obtain ⟨h1, h2⟩ := InvP.drain h hv hN k (by omega)
    refine ⟨h1.one hv hN (by omega), ?_⟩
    show (((s.drain v k).one v).bags v).length = _
    rw [one_len, h2]
    omega
theorem InvP.recvN {s : PS} {N v : Nat} (h : InvP s N) (hv : v < 2) : ∀ k, InvP (s.recvN v k) N
  | 0 => h
  | k + 1 => (InvP.recvN h hv k).recv hv
theorem InvP.calmW {s : PS} {N v : Nat} (h : InvP s N) (hv : v < 2) (hN : N < 100000) : InvP (s.calmW v) N := (h.drain hv hN _ (Nat.le_refl _)).1.recvN (by omega) 64
theorem InvP.calmK {s : PS} {N : Nat} (h : InvP s N) (hN : N < 100000) : ∀ k, k ≤ 2 → InvP (s.calmK k) N
  | 0, _ => h
  | k + 1, hk => (InvP.calmK h hN k (by omega)).calmW (by omega) hN
theorem InvP.calmS {s : PS} {N : Nat} (h : InvP s N) (hN : N < 100000) : InvP s.calmS N := (((h.calmK hN 2 (Nat.le_refl _)).tick (v := 0) (by omega)).tick (v := 1) (by omega)).flushS

set_option maxHeartbeats 4000000 in
set_option maxRecDepth 100000 in
theorem calm_ps {w : World} {B n N : Nat} {P : Ptrs} {s : PS} {X : Nat → Th B} (h : PairX w B P s n X) (hI : InvP s N) (hN : N ≤ 10000) :
    Calls Try.prog 44 #[.pointer (some ⟨P.p, 0, none⟩)] w fun e w' => e = .returned (.tuple #[]) ∧ PairX w' B P s.calmS n X ∧ Below B w w' := by
  have H := Lib.hid h
  have HI := Lib.hid hI
  have HN := Lib.hid hN
  clear h hI hN
  go_enter Try.func44, Try.ntmps44
  go_wp2_with fail
  go_loopw [5] (fun v wr => ∃ k : Nat, k ≤ 2 ∧ v = .int .i64 (k : Int) ∧ PairX wr B P (s.calmK k) n X ∧ Below B w wr) (fun v _ => 2 - (intOf v).toNat)
  case atStart => exact ⟨0, by omega, rfl, H.out, Below.refl _ _⟩
  case round =>
    obtain ⟨k, hk, rfl, hp, hb⟩ := hrel
    have HB := Lib.hid hb
    have HK := Lib.hid (InvP.calmK HI.out (by have := HN.out; omega) k hk)
    by_cases hk2 : k < 2
    case neg =>
      obtain rfl : k = 2 := by omega
      have hkz : ¬ ((2 : Nat) : Int) < 2 := by omega
      obtain ⟨s2, hs2⟩ : ∃ s2, s.calmK 2 = s2 := ⟨_, rfl⟩
      have HS := Lib.hid (show s.calmS = ((s2.tickW 0).tickW 1).flushS by unfold PS.calmS; rw [hs2])
      rw [hs2] at hp HK
      clear hs2
      have HP := Lib.hid hp
      obtain ⟨he0, -⟩ := (hp.pair hp.hB).1 0 (by omega)
      have hpl := (hp.pair hp.hB).2.1
      obtain ⟨vL, vG, hl, hst⟩ := hp.link hp.hB 0 (by omega)
      have fit := HK.out.fit (by have := HN.out; omega)
      have HC := Lib.hid (tick_any wr B (P.pe 0) vL vG _ hl hp.hB (fit.ends 0 (by omega)) (by have := fit.last 0 (by omega); omega))
      have HST := Lib.hid hst
      clear hp hb hl hst
      go_wp2_with fail
      refine HC.out.mono ?_
      rintro e w2 ⟨rfl, he⟩
      obtain ⟨hp2, hb2⟩ := HST.out _ w2 he
      have HI2 := Lib.hid (HK.out.tick (v := 0) (by omega))
      obtain ⟨he1, -⟩ := (hp2.pair hp2.hB).1 1 (by omega)
      have hpl2 := (hp2.pair hp2.hB).2.1
      obtain ⟨vL2, vG2, hl2, hst2⟩ := hp2.link hp2.hB 1 (by omega)
      have fit2 := HI2.out.fit (by have := HN.out; omega)
      have HC2 := Lib.hid (tick_any w2 B (P.pe 1) vL2 vG2 _ hl2 hp2.hB (fit2.ends 1 (by omega)) (by have := fit2.last 1 (by omega); omega))
      have HST2 := Lib.hid hst2
      have HB2 := Lib.hid (HB.out.trans hb2)
      clear hp2 hl2 hst2 he hb2 HC HST HP he0 hpl fit fit2
      go_wp2_with fail
      refine HC2.out.mono ?_
      rintro e w3 ⟨rfl, he⟩
      obtain ⟨hp3, hb3⟩ := HST2.out _ w3 he
      have HI3 := Lib.hid (HI2.out.tick (v := 1) (by omega))
      have HP3 := Lib.hid hp3
      have HB3 := Lib.hid (HB2.out.trans hb3)
      clear hp3 hb3 he HC2 HST2 he1 hpl2
      go_wp2_with fail
      refine (flush_ps HP3.out HP3.out.hB HI3.out.bags (fun j hj => (HI3.out.ok j hj).goes)).mono ?_
      rintro e w4 ⟨rfl, hp4, hb4⟩
      have HZ := Lib.hid (And.intro hp4 (HB3.out.trans hb4))
      clear hp4 hb4
      go_wp2
      go_end0
      exact ⟨rfl, by rw [HS.out]; exact HZ.out.1, HZ.out.2⟩
    have hkz : (k : Int) < 2 := by omega
    obtain ⟨sk, hsk⟩ : ∃ sk, s.calmK k = sk := ⟨_, rfl⟩
    have HS := Lib.hid (show s.calmK (k + 1) = sk.calmW k by rw [← hsk]; rfl)
    rw [hsk] at hp HK
    clear hsk
    have HP := Lib.hid hp
    clear hp hb
    go_wp2_with fail
    go_loopg [3] (sk.bags k).length (fun g v wr => ∃ j : Nat, j + g = (sk.bags k).length ∧ PairX wr B P (sk.drain k j) n X ∧ Below B w wr)
    case atStart => exact ⟨0, by omega, HP.out, HB.out⟩
    case round =>
      obtain ⟨j, hj, hp, hb⟩ := hrel
      obtain ⟨hid, hlen⟩ := HK.out.drain hk2 (by have := HN.out; omega) j (by omega)
      obtain ⟨sj, hsj⟩ : ∃ sj, sk.drain k j = sj := ⟨_, rfl⟩
      have HSJ := Lib.hid hsj
      rw [hsj] at hp hid hlen
      clear hsj
      have HP1 := Lib.hid hp
      have HB1 := Lib.hid hb
      have HI1 := Lib.hid hid
      have HJ := Lib.hid hj
      have HLEN := Lib.hid hlen
      obtain ⟨vb, hbg, hst⟩ := hp.bag hp.hB k hk2
      obtain ⟨-, hcb⟩ := (hp.pair hp.hB).1 k hk2
      have hpl := (hp.pair hp.hB).2.1
      have HL := Lib.hid (Bag.len_any wr B (P.pb k) vb _ hbg)
      have HBG := Lib.hid hbg
      have HST := Lib.hid hst
      clear hp hb hid hbg hst hj hlen
      go_wp2_with fail
      refine HL.out.mono ?_
      rintro e w2 ⟨rfl, rfl⟩
      by_cases hz : 0 < (sj.bags k).length
      · have hzz : (0 : Int) < ((sj.bags k).length : Int) := by omega
        have HT := Lib.hid (Bag.take_any wr B (P.pb k) vb _ HBG.out (HI1.out.bags k hk2) 0)
        have hu2 : 1 - k < 2 := by omega
        have hsub : (1 : Int) - (k : Int) = ((1 - k : Nat) : Int) := by omega
        have hsw : IntKind.i64.wrap ((1 : Int) - (k : Int)) = ((1 - k : Nat) : Int) := by rw [hsub]; exact IntWalk.i64_in _ (by omega)
        have hsz1 : ((1 - k : Nat) : Int) < 2 := by omega
        have HSZ := Lib.hid (HI1.out.take0 hk2 hz)
        have HONE := Lib.hid (show sj.one k = { ({ sj with bags := upd sj.bags k (Bag.takeL (sj.bags k) 0) } : PS) with ends := upd sj.ends (1 - k) ((sj.ends (1 - k)).get (Bag.takeR (sj.bags k) 0).1).1 } from rfl)
        obtain ⟨tx, htx⟩ : ∃ tx, (Bag.takeR (sj.bags k) 0).1 = tx := ⟨_, rfl⟩
        obtain ⟨tc, htc⟩ : ∃ tc, (Bag.takeR (sj.bags k) 0).2 = tc := ⟨_, rfl⟩
        rw [htx] at HT HSZ HONE
        rw [htc] at HT
        clear htx htc
        obtain ⟨u, hu⟩ : ∃ u, 1 - k = u := ⟨_, rfl⟩
        rw [hu] at hu2 hsw hsz1 HONE
        clear hsub hu
        go_wp2_with fail
        refine HT.out.mono ?_
        rintro e w3 ⟨rfl, he⟩
        obtain ⟨hp3, hb3⟩ := HST.out _ w3 he
        obtain ⟨hce, -⟩ := (hp3.pair hp3.hB).1 u hu2
        have hpl3 := (hp3.pair hp3.hB).2.1
        obtain ⟨vL, vG, hl, hst3⟩ := hp3.link hp3.hB u hu2
        have fit := HI1.out.fit (by have := HN.out; omega)
        have HC := Lib.hid (get_any w3 B (P.pe u) vL vG _ hl hp3.hB (fit.ends u hu2) (by have := fit.last u hu2; show (sj.ends u).last ≤ _; omega) (by have := fit.taken u hu2; show (sj.ends u).taken < _; omega) tx (by have := HSZ.out; omega))
        have HST3 := Lib.hid hst3
        have HB3 := Lib.hid (HB1.out.trans hb3)
        clear hp3 hb3 he hl hst3 hcb hpl HL HBG HST HT fit
        go_wp2_with fail
        refine HC.out.mono ?_
        rintro e w4 ⟨rfl, he⟩
        obtain ⟨hp4, hb4⟩ := HST3.out _ w4 he
        have HP4 := Lib.hid (show PairX w4 B P (sk.drain k (j + 1)) n X by
          show PairX w4 B P ((sk.drain k j).one k) n X
          rw [HSJ.out, HONE.out]
          exact hp4)
        have HB4 := Lib.hid (HB3.out.trans hb4)
        clear hp4 hb4 he HC HST3
        obtain ⟨g', rfl⟩ : ∃ g', gk = g' + 1 := ⟨gk - 1, by have := HLEN.out; have := HJ.out; omega⟩
        go_wp2
        go_roundg g'
        case measure => omega
        case rel => exact ⟨j + 1, by have := HJ.out; omega, HP4.out, HB4.out⟩
      · have hzz : ¬ (0 : Int) < ((sj.bags k).length : Int) := by omega
        have HJE := Lib.hid (show j = (sk.bags k).length by have := HLEN.out; have := HJ.out; omega)
        obtain ⟨u, hu⟩ : ∃ u, 1 - k = u := ⟨_, rfl⟩
        have hu2 : u < 2 := by omega
        have hsub : (1 : Int) - (k : Int) = (u : Int) := by omega
        have hsw : IntKind.i64.wrap ((1 : Int) - (k : Int)) = (u : Int) := by rw [hsub]; exact IntWalk.i64_in _ (by omega)
        have HCW := Lib.hid (show s.calmK (k + 1) = sj.recvN u 64 by rw [HS.out]; unfold PS.calmW; rw [← HJE.out, HSJ.out, hu])
        clear hsub hu hcb hpl HL HBG HST HLEN HJ HSJ HJE HS HP HB HK
        go_wp2_with fail
        go_loopw [35] (fun v wr => ∃ i : Nat, i ≤ 64 ∧ v = .int .i64 (i : Int) ∧ PairX wr B P (sj.recvN u i) n X ∧ Below B w wr) (fun v _ => 64 - (intOf v).toNat)
        case atStart => exact ⟨0, by omega, rfl, HP1.out, HB1.out⟩
        case round =>
          obtain ⟨i, hi, rfl, hp, hb⟩ := hrel
          have HII := Lib.hid (HI1.out.recvN hu2 i)
          by_cases hi64 : i < 64
          · have hiz : (i : Int) < 64 := by omega
            have HSU := Lib.hid (show sj.recvN u (i + 1) = (sj.recvN u i).recvS u from rfl)
            obtain ⟨si, hsi⟩ : ∃ si, sj.recvN u i = si := ⟨_, rfl⟩
            rw [hsi] at hp HII HSU
            clear hsi
            have fit := HII.out.fit (by have := HN.out; omega)
            have HC := Lib.hid (recv_ps hp hp.hB u hu2 (fit.ends u hu2) (by have := fit.taken u hu2; omega) (fit.read u hu2))
            have HBI := Lib.hid hb
            clear hp hb fit
            go_wp2_with fail
            refine HC.out.mono ?_
            rintro e w5 ⟨rfl, hp5, hb5⟩
            have HP5 := Lib.hid hp5
            have HB5 := Lib.hid (HBI.out.trans hb5)
            clear hp5 hb5 HC
            go_wp2
            go_roundw
            case rel => exact ⟨i + 1, by omega, by go_num, by rw [HSU.out]; exact HP5.out, HB5.out⟩
            case measure => simp [intOf]; omega
          · obtain rfl : i = 64 := by omega
            have HP6 := Lib.hid (show PairX wr B P (s.calmK (k + 1)) n X by rw [HCW.out]; exact hp)
            have HB6 := Lib.hid hb
            clear hp hb HII HCW HP1
            go_wp2_with fail
            go_roundw
            case rel => exact ⟨k + 1, by omega, by go_num, HP6.out, HB6.out⟩
            case measure => simp [intOf]; omega
end Go.Proofs.Ytgacphicgglogaa

/-! ## Calm rounds of the pair: in the end all is read and told (numbers alone, then the ends, then the pair). -/
/-! ## Calm rounds of two ends, as numbers alone: what an end makes of what comes to it ('Run'), and what a bag of a calm round holds. -/
namespace Go.Proofs.Ytgacphicgglogaa
namespace Live
set_option linter.unusedVariables false

/-- A datagram: a load's number, or how far the other end came. -/
inductive Dg where
  | load (n : Nat)
  | ack (n : Nat)
def Dg.isLoad : Dg → Bool
  | .load _ => true
  | .ack _ => false
/-- How many loads there are. -/
def loads (L : List Dg) : Nat := L.countP Dg.isLoad
/-- The loads behind a, up to b. -/
def seg (a b : Nat) : List Dg := (List.range' (a + 1) (b - a)).map Dg.load
theorem seg_length (a b : Nat) : (seg a b).length = b - a := by simp [seg]
theorem seg_get (a b i : Nat) : (seg a b)[i]? = if i < b - a then some (.load (a + 1 + i)) else none := by
  unfold seg
  by_cases h : i < b - a
  · rw [if_pos h, List.getElem?_map, List.getElem?_range' h]
    simp
  · rw [if_neg h, List.getElem?_eq_none (by simp; omega)]
theorem loads_seg (a b : Nat) : loads (seg a b) = b - a := by
  unfold loads
  rw [List.countP_eq_length.2 fun d hd => ?_, seg_length]
  unfold seg at hd
  obtain ⟨k, _, rfl⟩ := List.mem_map.1 hd
  rfl
theorem loads_append (A B : List Dg) : loads (A ++ B) = loads A + loads B := List.countP_append
theorem loads_take_le (A : List Dg) (k : Nat) : loads (A.take k) ≤ loads A := (List.take_sublist k A).countP_le
theorem loads_le (A : List Dg) : loads A ≤ A.length := List.countP_le_length
theorem loads_load (n : Nat) (L : List Dg) : loads (.load n :: L) = loads L + 1 := List.countP_cons_of_pos rfl
theorem loads_ack (n : Nat) (L : List Dg) : loads (.ack n :: L) = loads L := List.countP_cons_of_neg (by simp [Dg.isLoad])

/-- An end: what it was told, how far it sent, how far all came to it, and which loads it has. -/
structure St where
  t : Nat
  o : Nat
  c : Nat
  has : Nat → Prop
/-- An end tells just how far it has all. -/
def Tight (e : St) : Prop := (∀ k, k ≤ e.c → e.has k) ∧ ∀ x, (∀ k, k ≤ x → e.has k) → x ≤ e.c
/-- A load comes to an end. -/
structure Come (τ n : Nat) (e e1 : St) : Prop where
  t : e1.t = e.t
  o : e1.o = e.o
  c : e.c ≤ e1.c
  has : ∀ k, e1.has k ↔ e.has k ∨ (k = n ∧ n ≤ τ + 8)
  tight : Tight e1
/-- What an end makes of what comes to it, and what it sends. -/
inductive Run (last τ : Nat) : St → List Dg → List Dg → St → Prop
  | nil (e : St) : Run last τ e [] [] e
  | load {e e1 e' : St} {n : Nat} {L M : List Dg} (h : Come τ n e e1) (r : Run last τ e1 L M e') : Run last τ e (.load n :: L) (.ack e1.c :: M) e'
  | ack {e e1 e' : St} {n : Nat} {L M : List Dg} (ht : e1.t = max e.t n) (ho : e1.o = min last (max e.t n + 8)) (hc : e1.c = e.c) (hh : e1.has = e.has) (r : Run last τ e1 L M e') : Run last τ e (.ack n :: L) (seg e.o e1.o ++ M) e'

section
variable {last τ : Nat} {e e' : St} {L M : List Dg}
theorem Run.mono (r : Run last τ e L M e') (h0 : e.o = min last (e.t + 8)) : e.t ≤ e'.t ∧ e.o ≤ e'.o ∧ e.c ≤ e'.c ∧ (∀ k, e.has k → e'.has k) ∧ e'.o = min last (e'.t + 8) := by
  induction r with
  | nil e => exact ⟨Nat.le_refl _, Nat.le_refl _, Nat.le_refl _, fun _ h => h, h0⟩
  | load h r ih =>
    obtain ⟨i1, i2, i3, i4, i5⟩ := ih (by rw [h.o, h.t]; exact h0)
    exact ⟨by rw [← h.t]; exact i1, by rw [← h.o]; exact i2, Nat.le_trans h.c i3, fun k hk => i4 k ((h.has k).2 (.inl hk)), i5⟩
  | ack ht ho hc hh r ih =>
    obtain ⟨i1, i2, i3, i4, i5⟩ := ih (by rw [ho, ht])
    exact ⟨by omega, by omega, by omega, fun k hk => i4 k (by rw [hh]; exact hk), i5⟩
/-- What an end has behind it. -/
theorem Run.has (r : Run last τ e L M e') (k : Nat) : e'.has k ↔ e.has k ∨ ((.load k : Dg) ∈ L ∧ k ≤ τ + 8) := by
  induction r with
  | nil e => simp
  | load h r ih =>
    rw [ih, h.has]
    constructor
    · rintro ((h1 | ⟨rfl, h1⟩) | ⟨h1, h2⟩)
      · exact .inl h1
      · exact .inr ⟨.head _, h1⟩
      · exact .inr ⟨.tail _ h1, h2⟩
    · rintro (h1 | ⟨h1, h2⟩)
      · exact .inl (.inl h1)
      · rcases List.mem_cons.1 h1 with h3 | h3
        · injection h3 with h3
          exact .inl (.inr ⟨h3, by omega⟩)
        · exact .inr ⟨h3, h2⟩
  | ack ht ho hc hh r ih =>
    rw [ih, hh]
    constructor
    · rintro (h1 | ⟨h1, h2⟩)
      · exact .inl h1
      · exact .inr ⟨.tail _ h1, h2⟩
    · rintro (h1 | ⟨h1, h2⟩)
      · exact .inl h1
      · rcases List.mem_cons.1 h1 with h3 | h3
        · cases h3
        · exact .inr ⟨h3, h2⟩
theorem Run.tight (r : Run last τ e L M e') (h : Tight e) : Tight e' := by
  induction r with
  | nil e => exact h
  | load h1 r ih => exact ih h1.tight
  | ack ht ho hc hh r ih => exact ih ⟨fun k hk => by rw [hh]; exact h.1 k (by rw [← hc]; exact hk), fun x hx => by rw [hc]; exact h.2 x (fun k hk => by rw [← hh]; exact hx k hk)⟩
/-- What was told to an end. -/
theorem Run.told (r : Run last τ e L M e') : ∀ m, (.ack m : Dg) ∈ L → m ≤ e'.t := by
  have mono : ∀ {e e' : St} {L M : List Dg}, Run last τ e L M e' → e.t ≤ e'.t := by
    intro e e' L M r
    induction r with
    | nil e => exact Nat.le_refl _
    | load h r ih => rw [← h.t]; exact ih
    | ack ht ho hc hh r ih => omega
  induction r with
  | nil e => intro m hm; cases hm
  | load h r ih =>
    intro m hm
    rcases List.mem_cons.1 hm with h1 | h1
    · cases h1
    · exact ih m h1
  | ack ht ho hc hh r ih =>
    intro m hm
    rcases List.mem_cons.1 hm with h1 | h1
    · injection h1 with h1
      have := mono r
      omega
    · exact ih m h1
/-- No more was told than was said. -/
theorem Run.toldLe (r : Run last τ e L M e') (b : Nat) (h : e.t ≤ b) (hb : ∀ m, (.ack m : Dg) ∈ L → m ≤ b) : e'.t ≤ b := by
  induction r with
  | nil e => exact h
  | load h1 r ih => exact ih (by rw [h1.t]; exact h) (fun m hm => hb m (.tail _ hm))
  | ack ht ho hc hh r ih => exact ih (by have := hb _ (.head _); omega) (fun m hm => hb m (.tail _ hm))
theorem Run.length (r : Run last τ e L M e') (h0 : e.o = min last (e.t + 8)) : M.length = loads L + (e'.o - e.o) ∧ loads M = e'.o - e.o := by
  induction r with
  | nil e => simp [loads]
  | load h r ih =>
    obtain ⟨i1, i2⟩ := ih (by rw [h.o, h.t]; exact h0)
    rw [List.length_cons, loads_load, loads_ack, ← h.o]
    exact ⟨by omega, i2⟩
  | ack ht ho hc hh r ih =>
    obtain ⟨i1, i2⟩ := ih (by rw [ho, ht])
    obtain ⟨-, j2, -⟩ := r.mono (by rw [ho, ht])
    rw [List.length_append, seg_length, loads_append, loads_seg, loads_ack]
    exact ⟨by omega, by omega⟩
/-- Where the loads stand that an end sends on. -/
theorem Run.loadAt (r : Run last τ e L M e') (h0 : e.o = min last (e.t + 8)) (n : Nat) (h1 : e.o < n) (h2 : n ≤ e'.o) : ∃ i j m, M[i]? = some (.load n) ∧ L[j]? = some (.ack m) ∧ i = loads (L.take j) + (n - 1 - e.o) ∧ loads (M.take i) = n - 1 - e.o := by
  induction r with
  | nil e => omega
  | load h r ih =>
    obtain ⟨i, j, m, h3, h4, h5, h6⟩ := ih (by rw [h.o, h.t]; exact h0) (by rw [h.o]; exact h1) h2
    refine ⟨i + 1, j + 1, m, h3, h4, ?_, ?_⟩
    · rw [List.take_succ_cons, loads_load, ← h.o]
      omega
    · rw [List.take_succ_cons, loads_ack, ← h.o]
      exact h6
  | @ack e e1 e' k L M ht ho hc hh r ih =>
    by_cases hn : n ≤ e1.o
    · refine ⟨n - 1 - e.o, 0, k, ?_, rfl, by simp [loads], ?_⟩
      · rw [List.getElem?_append_left (by rw [seg_length]; omega), seg_get, if_pos (by omega), show e.o + 1 + (n - 1 - e.o) = n by omega]
      · rw [List.take_append_of_le_length (by rw [seg_length]; omega)]
        have h3 := loads_seg e.o (n - 1)
        unfold seg at h3 ⊢
        rw [← List.map_take, List.take_range'_of_length_ge (by omega)]
        exact h3
    · obtain ⟨i, j, m, h3, h4, h5, h6⟩ := ih (by rw [ho, ht]) (by omega) h2
      clear ih
      have hoo : e.o ≤ e1.o := by omega
      refine ⟨(e1.o - e.o) + i, j + 1, m, ?_, h4, ?_, ?_⟩
      · rw [List.getElem?_append_right (by rw [seg_length]; omega), seg_length, Nat.add_sub_cancel_left]
        exact h3
      · rw [List.take_succ_cons, loads_ack]
        omega
      · rw [List.take_append, List.take_of_length_le (by rw [seg_length]; omega), seg_length, Nat.add_sub_cancel_left, loads_append, loads_seg, h6]
        omega
/-- Where the answer to a load stands, and what it says. -/
theorem Run.ackAt (r : Run last τ e L M e') (h0 : e.o = min last (e.t + 8)) (j n : Nat) (hj : L[j]? = some (.load n)) (x : Nat) (hx : ∀ k, k ≤ x → e.has k ∨ (k ≤ τ + 8 ∧ ∃ i, i ≤ j ∧ L[i]? = some (.load k))) : ∃ i m, M[i]? = some (.ack m) ∧ i ≤ loads (L.take j) + (e'.o - e.o) ∧ x ≤ m := by
  induction r generalizing j with
  | nil e => simp at hj
  | @load e e1 e' k L M h r ih =>
    cases j with
    | zero =>
      refine ⟨0, e1.c, rfl, Nat.zero_le _, h.tight.2 x fun k' hk' => (h.has k').2 ?_⟩
      rcases hx k' hk' with h1 | ⟨h1, i, h2, h3⟩
      · exact .inl h1
      · obtain rfl : i = 0 := by omega
        injection h3 with h3
        injection h3 with h3
        exact .inr ⟨h3.symm, by omega⟩
    | succ j =>
      obtain ⟨i, m, h1, h2, h3⟩ := ih (by rw [h.o, h.t]; exact h0) j hj (fun k' hk' => by
        rcases hx k' hk' with h1 | ⟨h1, i, h2, h3⟩
        · exact .inl ((h.has k').2 (.inl h1))
        · cases i with
          | zero =>
            injection h3 with h3
            injection h3 with h3
            exact .inl ((h.has k').2 (.inr ⟨h3.symm, by omega⟩))
          | succ i => exact .inr ⟨h1, i, by omega, h3⟩)
      refine ⟨i + 1, m, h1, ?_, h3⟩
      rw [List.take_succ_cons, loads_load, ← h.o]
      omega
  | @ack e e1 e' k L M ht ho hc hh r ih =>
    cases j with
    | zero => injection hj with hj; cases hj
    | succ j =>
      obtain ⟨i, m, h1, h2, h3⟩ := ih (by rw [ho, ht]) j hj (fun k' hk' => by
        rcases hx k' hk' with h1 | ⟨h1, i, h2, h3⟩
        · exact .inl (by rw [hh]; exact h1)
        · cases i with
          | zero => injection h3 with h3; cases h3
          | succ i => exact .inr ⟨h1, i, by omega, h3⟩)
      obtain ⟨-, j2, -⟩ := r.mono (by rw [ho, ht])
      refine ⟨(e1.o - e.o) + i, m, ?_, ?_, h3⟩
      · rw [List.getElem?_append_right (by rw [seg_length]; omega), seg_length, Nat.add_sub_cancel_left]
        exact h1
      · rw [List.take_succ_cons, loads_ack]
        omega
end

/-- Two ends through calm rounds: each end's state, and the bag that goes from it to the other one. -/
structure Sim (last : Nat → Nat) (e : Nat → Nat → St) (bag M : Nat → Nat → List Dg) (τ : Nat → Nat → Nat) : Prop where
  out : ∀ v s, v < 2 → (e v s).o = min (last v) ((e v s).t + 8)
  told : ∀ v s, v < 2 → (e v s).t ≤ (e (1 - v) s).c
  came : ∀ v s, v < 2 → (e (1 - v) s).c ≤ (e v s).o
  hasLe : ∀ v s k, v < 2 → (e (1 - v) s).has k → k ≤ (e v s).o
  tight : ∀ v s, v < 2 → Tight (e v s)
  short : ∀ v s, v < 2 → (bag v s).length ≤ 16
  loadLe : ∀ v s n, v < 2 → (.load n : Dg) ∈ bag v s → n ≤ (e v s).o
  ackLe : ∀ v s n, v < 2 → (.ack n : Dg) ∈ bag v s → n ≤ (e v s).c
  run : ∀ v s, v < 2 → Run (last v) (τ v s) (e v s) (bag (1 - v) s) (M v s) (e v (s + 1))
  bagS : ∀ v s, v < 2 → bag v (s + 1) = (M v s ++ seg (e v (s + 1)).t (e v (s + 1)).o).take 16
  read : ∀ v s, v < 2 → τ v (s + 1) = (e v (s + 1)).c
end Live
end Go.Proofs.Ytgacphicgglogaa

/-! ## Calm rounds of two ends, as numbers alone: in the end all is told. -/
namespace Go.Proofs.Ytgacphicgglogaa
namespace Live
set_option linter.unusedVariables false

theorem loads_lt {A : List Dg} {i i' n : Nat} (h : A[i]? = some (.load n)) (hi : i < i') : loads (A.take i) + 1 ≤ loads (A.take i') := by
  have h1 : A.take (i + 1) = A.take i ++ [.load n] := by rw [List.take_add_one, h]; rfl
  have h2 : loads (A.take (i + 1)) = loads (A.take i) + 1 := by rw [h1, loads_append]; rfl
  have h3 : A.take (i + 1) = (A.take i').take (i + 1) := by rw [List.take_take, Nat.min_eq_left (by omega)]
  have := loads_take_le (A.take i') (i + 1)
  rw [← h3] at this
  omega

section
variable {last : Nat → Nat} {e : Nat → Nat → St} {bag M : Nat → Nat → List Dg} {τ : Nat → Nat → Nat}
theorem two (v : Nat) (hv : v < 2) : 1 - (1 - v) = v := by omega
theorem Sim.mono (h : Sim last e bag M τ) (v s : Nat) (hv : v < 2) : (e v s).t ≤ (e v (s + 1)).t ∧ (e v s).o ≤ (e v (s + 1)).o ∧ (e v s).c ≤ (e v (s + 1)).c ∧ ∀ k, (e v s).has k → (e v (s + 1)).has k := by
  have := (h.run v s hv).mono (h.out v s hv)
  exact ⟨this.1, this.2.1, this.2.2.1, this.2.2.2.1⟩
theorem Sim.toldLe (h : Sim last e bag M τ) (v s : Nat) (hv : v < 2) : (e v (s + 1)).t ≤ (e (1 - v) s).c :=
  (h.run v s hv).toldLe _ (h.told v s hv) (fun m hm => h.ackLe (1 - v) s m (by omega) hm)
theorem Sim.cameLe (h : Sim last e bag M τ) (v s : Nat) (hv : v < 2) : (e (1 - v) (s + 1)).c ≤ (e v s).o := by
  have h1 := (h.tight (1 - v) (s + 1) (by omega)).1 _ (Nat.le_refl _)
  rcases ((h.run (1 - v) s (by omega)).has _).1 h1 with h2 | ⟨h2, -⟩
  · exact h.hasLe v s _ hv h2
  · rw [two v hv] at h2
    exact h.loadLe v s _ hv h2
theorem Sim.step1 (h : Sim last e bag M τ) (v s : Nat) (hv : v < 2) : (e v (s + 1)).o ≤ (e v s).o + 8 := by
  have h1 := h.toldLe v s hv
  have h2 := h.came v s hv
  have h3 := h.out v (s + 1) hv
  omega
theorem Sim.step2 (h : Sim last e bag M τ) (v s : Nat) (hv : v < 2) : (e v (s + 2)).o ≤ (e v s).o + 8 := by
  have h1 := h.toldLe v (s + 1) hv
  have h2 := h.cameLe v s hv
  have h3 := h.out v (s + 2) hv
  have h4 : (e v (s + 2)).t ≤ (e v s).o := Nat.le_trans h1 h2
  omega
theorem Sim.len (h : Sim last e bag M τ) (v s : Nat) (hv : v < 2) : (M v s).length = loads (bag (1 - v) s) + ((e v (s + 1)).o - (e v s).o) ∧ loads (M v s) = (e v (s + 1)).o - (e v s).o := (h.run v s hv).length (h.out v s hv)
theorem Sim.bagLoads (h : Sim last e bag M τ) (v s : Nat) (hv : v < 2) : loads (bag v (s + 1)) ≤ ((e v (s + 1)).o - (e v s).o) + 8 := by
  rw [h.bagS v s hv]
  refine Nat.le_trans (loads_take_le _ _) ?_
  rw [loads_append, loads_seg, (h.len v s hv).2]
  have h3 := h.out v (s + 1) hv
  omega
theorem Sim.bagGet (h : Sim last e bag M τ) (v s i : Nat) (hv : v < 2) (hi : i < 16) : (bag v (s + 1))[i]? = (M v s ++ seg (e v (s + 1)).t (e v (s + 1)).o)[i]? ∧ (bag v (s + 1)).take i = (M v s ++ seg (e v (s + 1)).t (e v (s + 1)).o).take i := by
  rw [h.bagS v s hv, List.getElem?_take, if_pos hi, List.take_take, Nat.min_eq_left (by omega)]
  exact ⟨rfl, rfl⟩
/-- In a calm round's bag few loads stand ahead of an answer. -/
theorem Sim.early (h : Sim last e bag M τ) (v s j m : Nat) (hv : v < 2) (hj : (bag v (s + 1))[j]? = some (.ack m)) : loads ((bag v (s + 1)).take j) ≤ 8 := by
  have hs := h.short v (s + 1) hv
  have hlt := (List.getElem?_eq_some_iff.1 hj).1
  obtain ⟨h1, h2⟩ := h.bagGet v s j hv (by omega)
  rw [h1] at hj
  rw [h2]
  by_cases hm : j < (M v s).length
  · rw [List.take_append_of_le_length (by omega)]
    refine Nat.le_trans (loads_take_le _ _) ?_
    rw [(h.len v s hv).2]
    have := h.step1 v s hv
    omega
  · rw [List.getElem?_append_right (by omega), seg_get] at hj
    split at hj
    · injection hj with hj; cases hj
    · cases hj
/-- What is sent on is in the bag. -/
theorem Sim.onIn (h : Sim last e bag M τ) (v s k : Nat) (hv : v < 2) (h1 : (e v (s + 1)).o < k) (h2 : k ≤ (e v (s + 2)).o) : ∃ i, (bag v (s + 2))[i]? = some (.load k) ∧ loads ((bag v (s + 2)).take i) = k - 1 - (e v (s + 1)).o := by
  obtain ⟨i, j, m, h3, h4, h5, h6⟩ := (h.run v (s + 1) hv).loadAt (h.out v (s + 1) hv) k h1 h2
  have h7 := h.early (1 - v) s j m (by omega) h4
  have h8 := h.step1 v (s + 1) hv
  have h8' : (e v (s + 2)).o ≤ (e v (s + 1)).o + 8 := h8
  have hlt := (List.getElem?_eq_some_iff.1 h3).1
  obtain ⟨h9, h10⟩ := h.bagGet v (s + 1) i hv (by omega)
  refine ⟨i, ?_, ?_⟩
  · show (bag v (s + 1 + 1))[i]? = _
    rw [h9, List.getElem?_append_left hlt]
    exact h3
  · show loads ((bag v (s + 1 + 1)).take i) = _
    rw [h10, List.take_append_of_le_length (by omega)]
    exact h6
/-- What a tick sends is in the bag, if there is room. -/
theorem Sim.tickIn (h : Sim last e bag M τ) (v s k : Nat) (hv : v < 2) (h1 : (e v (s + 1)).t < k) (h2 : k ≤ (e v (s + 1)).o) (h3 : (M v s).length + (k - 1 - (e v (s + 1)).t) < 16) :
    (bag v (s + 1))[(M v s).length + (k - 1 - (e v (s + 1)).t)]? = some (.load k) ∧ loads ((bag v (s + 1)).take ((M v s).length + (k - 1 - (e v (s + 1)).t))) ≤ ((e v (s + 1)).o - (e v s).o) + (k - 1 - (e v (s + 1)).t) := by
  obtain ⟨h9, h10⟩ := h.bagGet v s _ hv h3
  rw [h9, h10]
  refine ⟨?_, ?_⟩
  · rw [List.getElem?_append_right (by omega), Nat.add_sub_cancel_left, seg_get, if_pos (by omega), show (e v (s + 1)).t + 1 + (k - 1 - (e v (s + 1)).t) = k by omega]
  · rw [List.take_append, List.take_of_length_le (by omega), Nat.add_sub_cancel_left, loads_append, (h.len v s hv).2]
    have := loads_le ((seg (e v (s + 1)).t (e v (s + 1)).o).take (k - 1 - (e v (s + 1)).t))
    rw [List.length_take] at this
    omega
/-- A load among the first eight is answered, and the answer is heard. -/
theorem Sim.heard (h : Sim last e bag M τ) (v s j n x : Nat) (hv : v < 2) (hj : (bag v (s + 1))[j]? = some (.load n)) (hl : loads ((bag v (s + 1)).take j) ≤ 7) (hx : ∀ k, k ≤ x → (e (1 - v) (s + 1)).has k ∨ ∃ i, i ≤ j ∧ (bag v (s + 1))[i]? = some (.load k)) : x ≤ (e v (s + 3)).t := by
  have hu : 1 - v < 2 := by omega
  have r := h.run (1 - v) (s + 1) hu
  rw [two v hv] at r
  obtain ⟨i, m, h1, h2, h3⟩ := r.ackAt (h.out (1 - v) (s + 1) hu) j n hj x (fun k hk => by
    rcases hx k hk with h1 | ⟨i, h1, h2⟩
    · exact .inl h1
    · refine .inr ⟨?_, i, h1, h2⟩
      have h4 := h.loadLe v (s + 1) k hv (List.mem_of_getElem? h2)
      have h5 := h.out v (s + 1) hv
      have h6 := h.told v (s + 1) hv
      have h7 := h.read (1 - v) s hu
      omega)
  have h4 := h.step1 (1 - v) (s + 1) hu
  have hlt := (List.getElem?_eq_some_iff.1 h1).1
  obtain ⟨h9, -⟩ := h.bagGet (1 - v) (s + 1) i hu (by omega)
  have h5 : (.ack m : Dg) ∈ bag (1 - v) (s + 2) := by
    refine List.mem_of_getElem? (i := i) ?_
    show (bag (1 - v) (s + 1 + 1))[i]? = _
    rw [h9, List.getElem?_append_left hlt]
    exact h1
  exact Nat.le_trans h3 ((h.run v (s + 2) hv).told m h5)
/-- Ticks bring over what is behind. -/
theorem Sim.onward (h : Sim last e bag M τ) (v a : Nat) (hv : v < 2) : min (e v (a + 2)).o ((e v (a + 1)).t + 8 - ((e (1 - v) (a + 1)).o - (e (1 - v) a).o)) ≤ (e v (a + 4)).t := by
  obtain ⟨x, hx⟩ : ∃ x, min (e v (a + 2)).o ((e v (a + 1)).t + 8 - ((e (1 - v) (a + 1)).o - (e (1 - v) a).o)) = x := ⟨_, rfl⟩
  rw [hx]
  have m1 := (h.mono v (a + 2) hv).1
  have m2 := (h.mono v (a + 3) hv).1
  have m3 := h.mono v (a + 1) hv
  have m1' : (e v (a + 2)).t ≤ (e v (a + 3)).t := m1
  have m2' : (e v (a + 3)).t ≤ (e v (a + 4)).t := m2
  have m3' : (e v (a + 1)).t ≤ (e v (a + 2)).t := m3.1
  have m4' : (e v (a + 1)).o ≤ (e v (a + 2)).o := m3.2.1
  by_cases hlt : x ≤ (e v (a + 2)).t
  · omega
  have h1 := (h.len v (a + 1) hv).1
  have h1' : (M v (a + 1)).length = loads (bag (1 - v) (a + 1)) + ((e v (a + 2)).o - (e v (a + 1)).o) := h1
  have h2 := h.bagLoads (1 - v) a (by omega)
  have h3 := h.step1 (1 - v) a (by omega)
  have h4 := h.out v (a + 1) hv
  have h5 := h.out v (a + 2) hv
  have h6 := h.mono (1 - v) a (by omega)
  have h7 := h6.2.1
  obtain ⟨h8, h9⟩ := h.tickIn v (a + 1) x hv (by show (e v (a + 2)).t < x; omega) (by show x ≤ (e v (a + 2)).o; omega) (by show _ + (x - 1 - (e v (a + 2)).t) < 16; omega)
  have h9' : loads ((bag v (a + 1 + 1)).take ((M v (a + 1)).length + (x - 1 - (e v (a + 1 + 1)).t))) ≤ ((e v (a + 2)).o - (e v (a + 1)).o) + (x - 1 - (e v (a + 2)).t) := h9
  refine h.heard v (a + 1) _ x x hv h8 (by omega) (fun k hk => ?_)
  by_cases hkt : k ≤ (e v (a + 2)).t
  · exact .inl ((h.tight (1 - v) (a + 2) (by omega)).1 k (Nat.le_trans hkt (h.told v (a + 2) hv)))
  · have hkt' : (e v (a + 1 + 1)).t < k := by show (e v (a + 2)).t < k; omega
    refine .inr ⟨(M v (a + 1)).length + (k - 1 - (e v (a + 1 + 1)).t), by omega, (h.tickIn v (a + 1) k hv hkt' (by show k ≤ (e v (a + 2)).o; omega) (by show _ + (k - 1 - (e v (a + 2)).t) < 16; omega)).1⟩
/-- The first loads. -/
theorem Sim.first (h : Sim last e bag M τ) (v : Nat) (hv : v < 2) (a : Nat) : min (e v (a + 1)).o ((e v (a + 1)).t + 4) ≤ (e v (a + 5)).t := by
  have hu : 1 - v < 2 := by omega
  have h1 := h.onward v a hv
  have h2 := h.onward v (a + 1) hv
  have h2' : min (e v (a + 3)).o ((e v (a + 2)).t + 8 - ((e (1 - v) (a + 2)).o - (e (1 - v) (a + 1)).o)) ≤ (e v (a + 5)).t := h2
  have h3 := h.step2 (1 - v) a hu
  have h4 := (h.mono (1 - v) a hu).2.1
  have h5 := (h.mono (1 - v) (a + 1) hu).2.1
  have h5' : (e (1 - v) (a + 1)).o ≤ (e (1 - v) (a + 2)).o := h5
  have m1 := h.mono v (a + 1) hv
  have m1a : (e v (a + 1)).t ≤ (e v (a + 2)).t := m1.1
  have m1b : (e v (a + 1)).o ≤ (e v (a + 2)).o := m1.2.1
  have m2b : (e v (a + 2)).o ≤ (e v (a + 3)).o := (h.mono v (a + 2) hv).2.1
  have m4 : (e v (a + 4)).t ≤ (e v (a + 5)).t := (h.mono v (a + 4) hv).1
  omega
theorem Sim.monos (h : Sim last e bag M τ) (v s k : Nat) (hv : v < 2) : (e v s).t ≤ (e v (s + k)).t ∧ (e v s).o ≤ (e v (s + k)).o ∧ (e v s).c ≤ (e v (s + k)).c := by
  induction k with
  | zero => exact ⟨Nat.le_refl _, Nat.le_refl _, Nat.le_refl _⟩
  | succ k ih =>
    have := h.mono v (s + k) hv
    exact ⟨Nat.le_trans ih.1 this.1, Nat.le_trans ih.2.1 this.2.1, Nat.le_trans ih.2.2 this.2.2.1⟩
theorem Sim.nine (h : Sim last e bag M τ) (v : Nat) (hv : v < 2) : (e v 1).o ≤ (e v 9).t := by
  have h1 := h.first v hv 0
  have h2 := h.first v hv 4
  have h3 := h.out v 1 hv
  have h4 := (h.monos v 1 4 hv).2.1
  have h1' : min (e v 1).o ((e v 1).t + 4) ≤ (e v 5).t := h1
  have h2' : min (e v 5).o ((e v 5).t + 4) ≤ (e v 9).t := h2
  have h4' : (e v 1).o ≤ (e v 5).o := h4
  omega
/-- What was sent on behind the first round came. -/
theorem Sim.later (h : Sim last e bag M τ) (v : Nat) (hv : v < 2) (a k : Nat) (h1 : (e v 1).o < k) (h2 : k ≤ (e v (a + 1)).o) : (e (1 - v) (a + 2)).has k := by
  induction a with
  | zero => have h2' : k ≤ (e v 1).o := h2; omega
  | succ a ih =>
    by_cases hk : k ≤ (e v (a + 1)).o
    · exact (h.mono (1 - v) (a + 2) (by omega)).2.2.2 k (ih hk)
    · obtain ⟨i, h3, -⟩ := h.onIn v a k hv (by omega) h2
      have h4 := List.mem_of_getElem? h3
      have r := h.run (1 - v) (a + 2) (by omega)
      rw [two v hv] at r
      refine (r.has k).2 (.inr ⟨h4, ?_⟩)
      have h5 := h.loadLe v (a + 2) k hv h4
      have h6 := h.out v (a + 2) hv
      have h7 := h.told v (a + 2) hv
      have h8 := h.read (1 - v) (a + 1) (by omega)
      have h8' : τ (1 - v) (a + 2) = (e (1 - v) (a + 2)).c := h8
      omega
theorem Sim.all (h : Sim last e bag M τ) (v : Nat) (hv : v < 2) (a k : Nat) (hk : k ≤ (e v (a + 7)).o) : (e (1 - v) (a + 8)).has k := by
  by_cases h1 : k ≤ (e v 1).o
  · have h2 := h.nine v hv
    have h3 := h.toldLe v 8 hv
    have h3' : (e v 9).t ≤ (e (1 - v) 8).c := h3
    have h4 := (h.monos (1 - v) 8 a (by omega)).2.2
    rw [Nat.add_comm 8 a] at h4
    exact (h.tight (1 - v) (a + 8) (by omega)).1 k (by omega)
  · exact h.later v hv (a + 6) k (by omega) hk
/-- Where something new was sent on, or there is room, all is told in two rounds. -/
theorem Sim.fresh (h : Sim last e bag M τ) (v : Nat) (hv : v < 2) (a : Nat) (hn : (e v (a + 7)).o < (e v (a + 8)).o ∨ (M v (a + 7)).length ≤ 15) : (e v (a + 8)).o ≤ (e v (a + 10)).t := by
  have hall := h.all v hv a
  have m1 : (e v (a + 7)).o ≤ (e v (a + 8)).o := (h.mono v (a + 7) hv).2.1
  have m2 : (e v (a + 8)).t ≤ (e v (a + 9)).t := (h.mono v (a + 8) hv).1
  have m3 : (e v (a + 9)).t ≤ (e v (a + 10)).t := (h.mono v (a + 9) hv).1
  by_cases hlt : (e v (a + 7)).o < (e v (a + 8)).o
  · obtain ⟨i, h1, h2⟩ := h.onIn v (a + 6) (e v (a + 8)).o hv hlt (Nat.le_refl _)
    have h3 := h.step1 v (a + 7) hv
    have h3' : (e v (a + 8)).o ≤ (e v (a + 7)).o + 8 := h3
    have h2' : loads ((bag v (a + 8)).take i) = (e v (a + 8)).o - 1 - (e v (a + 7)).o := h2
    refine h.heard v (a + 7) i _ _ hv h1 (by show loads ((bag v (a + 8)).take i) ≤ 7; omega) (fun k hk => ?_)
    by_cases hk7 : k ≤ (e v (a + 7)).o
    · exact .inl (hall k hk7)
    · obtain ⟨i', h4, h5⟩ := h.onIn v (a + 6) k hv (by show (e v (a + 7)).o < k; omega) hk
      have h5' : loads ((bag v (a + 8)).take i') = k - 1 - (e v (a + 7)).o := h5
      refine .inr ⟨i', ?_, h4⟩
      refine Nat.le_of_not_lt fun hgt => ?_
      have := loads_lt h1 hgt
      have : loads ((bag v (a + 8)).take i) + 1 ≤ loads ((bag v (a + 8)).take i') := this
      omega
  · have hM := hn.resolve_left hlt
    by_cases ht : (e v (a + 8)).o ≤ (e v (a + 8)).t
    · omega
    · obtain ⟨h1, h2⟩ := h.tickIn v (a + 7) ((e v (a + 8)).t + 1) hv (Nat.lt_succ_self _) (by show (e v (a + 8)).t + 1 ≤ (e v (a + 8)).o; omega) (by show _ + ((e v (a + 8)).t + 1 - 1 - (e v (a + 8)).t) < 16; omega)
      have h2' : loads ((bag v (a + 7 + 1)).take ((M v (a + 7)).length + ((e v (a + 8)).t + 1 - 1 - (e v (a + 7 + 1)).t))) ≤ ((e v (a + 8)).o - (e v (a + 7)).o) + ((e v (a + 8)).t + 1 - 1 - (e v (a + 8)).t) := h2
      exact h.heard v (a + 7) _ _ _ hv h1 (by omega) (fun k hk => .inl (hall k (by omega)))
theorem Sim.base (h : Sim last e bag M τ) (v : Nat) (hv : v < 2) : (e v 8).o ≤ (e v 10).t ∨ (e v 9).o ≤ (e v 11).t := by
  have hu : 1 - v < 2 := by omega
  by_cases h1 : (e v 7).o < (e v 8).o ∨ (M v 7).length ≤ 15
  · exact .inl (h.fresh v hv 0 h1)
  refine .inr (h.fresh v hv 1 ?_)
  by_cases h2 : (e v 8).o < (e v 9).o
  · exact .inl h2
  refine .inr ?_
  show (M v 8).length ≤ 15
  have h3 := (h.len v 7 hv).1
  have h4 := (h.len v 8 hv).1
  have h5 := h.bagLoads (1 - v) 6 hu
  have h6 := h.bagLoads (1 - v) 7 hu
  have h7 := h.step2 (1 - v) 6 hu
  have h3' : (M v 7).length = loads (bag (1 - v) 7) + ((e v 8).o - (e v 7).o) := h3
  have h4' : (M v 8).length = loads (bag (1 - v) 8) + ((e v 9).o - (e v 8).o) := h4
  have h5' : loads (bag (1 - v) 7) ≤ ((e (1 - v) 7).o - (e (1 - v) 6).o) + 8 := h5
  have h6' : loads (bag (1 - v) 8) ≤ ((e (1 - v) 8).o - (e (1 - v) 7).o) + 8 := h6
  have h7' : (e (1 - v) 8).o ≤ (e (1 - v) 6).o + 8 := h7
  have h8 : (e (1 - v) 6).o ≤ (e (1 - v) 7).o := (h.mono (1 - v) 6 hu).2.1
  omega
theorem Sim.ever (h : Sim last e bag M τ) (v : Nat) (hv : v < 2) (a : Nat) : (e v (a + 9)).o ≤ (e v (a + 11)).t := by
  have step : ∀ a, (e v (a + 8)).o ≤ (e v (a + 10)).t → (e v (a + 9)).o ≤ (e v (a + 11)).t := fun a ha => by
    by_cases h1 : (e v (a + 8)).o < (e v (a + 9)).o
    · have h2 := h.fresh v hv (a + 1) (.inl (by show (e v (a + 1 + 7)).o < (e v (a + 1 + 8)).o; rw [show a + 1 + 7 = a + 8 by omega, show a + 1 + 8 = a + 9 by omega]; exact h1))
      rw [show a + 1 + 8 = a + 9 by omega, show a + 1 + 10 = a + 11 by omega] at h2
      exact h2
    · have m3 : (e v (a + 10)).t ≤ (e v (a + 11)).t := (h.mono v (a + 10) hv).1
      omega
  induction a with
  | zero =>
    rcases h.base v hv with h1 | h1
    · exact step 0 h1
    · exact h1
  | succ a ih =>
    have h2 := step (a + 1) (by rw [show a + 1 + 8 = a + 9 by omega, show a + 1 + 10 = a + 11 by omega]; exact ih)
    exact h2
/-- In the end all is told. -/
theorem Sim.live (h : Sim last e bag M τ) (v : Nat) (hv : v < 2) (q : Nat) : min (last v) ((e v 1).t + 8 + 8 * q) ≤ (e v (9 + 2 * q)).t := by
  induction q with
  | zero =>
    have h1 := h.nine v hv
    have h2 := h.out v 1 hv
    show min (last v) ((e v 1).t + 8) ≤ (e v 9).t
    omega
  | succ q ih =>
    have h1 := h.ever v hv (2 * q)
    have h2 := h.out v (9 + 2 * q) hv
    rw [show 2 * q + 9 = 9 + 2 * q by omega, show 2 * q + 11 = 9 + 2 * (q + 1) by omega] at h1
    omega
end
end Live
end Go.Proofs.Ytgacphicgglogaa

/-! ## Calm rounds of the pair are those of 'Live': in the end all is read and told. -/
namespace Go.Proofs.Ytgacphicgglogaa
open Go.RowKit Crc
set_option linter.unusedVariables false

/-- What a datagram says to an end; one that is wrong says nothing. -/
def dg (x : ByteArray) : Live.Dg := if (unpackRes x).2.2.2 ≠ 0 then .ack 0 else if (unpackRes x).1 = 1 then .load (unpackRes x).2.1 else .ack (unpackRes x).2.1
theorem dg_load {n : Nat} {y : ByteArray} (hn : n < 1000000) (hy : y.size ≤ 800) : dg (packB 1 n y) = .load n := by
  unfold dg
  rw [unpack_pack 1 n y (.inl rfl) (by omega) hy]
  rfl
theorem dg_ack {n : Nat} (hn : n < 1000000) : dg (packB 2 n ByteArray.empty) = .ack n := by
  unfold dg
  rw [unpack_pack 2 n ByteArray.empty (.inr ⟨rfl, rfl⟩) (by omega) (by decide)]
  rfl

namespace LK
/-- Does an end have a load? -/
def Has (l : LK) (k : Nat) : Prop := k ≤ l.came ∨ (k ≤ l.taken + 8 ∧ (l.slots[k % 8]?.getD none).isSome = true)
structure Neat (l : LK) : Prop where
  out : l.out = min l.last (l.told + 8)
  gap : l.came < l.taken + 8 → ¬ (l.slots[(l.came + 1) % 8]?.getD none).isSome = true
def st (l : LK) : Live.St := ⟨l.told, l.out, l.came, l.Has⟩
theorem st_tight {l : LK} (h : l.Neat) : Live.Tight l.st := ⟨fun k hk => .inl hk, fun x hx => by
  refine Nat.le_of_not_lt fun hlt => ?_
  have hlt' : l.came < x := hlt
  have h1 : l.Has (l.came + 1) := hx (l.came + 1) hlt'
  rcases h1 with h1 | ⟨h1, h2⟩
  · omega
  · exact h.gap (by omega) h2⟩
theorem Neat.same {l l' : LK} (h : l.Neat) (h1 : l'.last = l.last) (h2 : l'.told = l.told) (h3 : l'.out = l.out) (h4 : l'.came = l.came) (h5 : l'.taken = l.taken) (h6 : l'.slots = l.slots) : l'.Neat :=
  ⟨by rw [h1, h2, h3]; exact h.out, by rw [h4, h5, h6]; exact h.gap⟩
theorem st_same {l l' : LK} (h2 : l'.told = l.told) (h3 : l'.out = l.out) (h4 : l'.came = l.came) (h5 : l'.taken = l.taken) (h6 : l'.slots = l.slots) : l'.st = l.st := by
  unfold st Has
  rw [h2, h3, h4, h5, h6]
theorem onF_exact : ∀ (f : Nat) (l : LK), l.out ≤ l.told + 8 → l.out ≤ l.last → l.told + 8 - l.out ≤ f → (onF f l).out = min l.last (l.told + 8) ∧ (l.goes.length + (l.told + 8 - l.out) ≤ 64 → (onF f l).goes = l.goes ++ (List.range' (l.out + 1) (min l.last (l.told + 8) - l.out)).map l.pk)
  | 0, l, h1, h2, h3 => by
    have h4 : min l.last (l.told + 8) = l.out := by omega
    rw [h4, Nat.sub_self]
    exact ⟨rfl, fun _ => by simp [onF]⟩
  | f + 1, l, h1, h2, h3 => by
    unfold onF
    split
    · rename_i hc
      obtain ⟨i1, i2⟩ := onF_exact f (({ l with out := l.out + 1 } : LK).load (l.out + 1)) (show l.out + 1 ≤ l.told + 8 by omega) (show l.out + 1 ≤ l.last by omega) (show l.told + 8 - (l.out + 1) ≤ f by omega)
      refine ⟨i1, fun hg => ?_⟩
      have hg' : (({ l with out := l.out + 1 } : LK).load (l.out + 1)).goes = l.goes ++ [l.pk (l.out + 1)] := by
        show (if l.goes.length = 64 then l.goes else l.goes ++ [_]) = _
        rw [if_neg (by omega)]
        rfl
      rw [i2 (by rw [hg', List.length_append]; show _ + 1 + (l.told + 8 - (l.out + 1)) ≤ 64; omega), hg', List.append_assoc]
      congr 1
      show [l.pk (l.out + 1)] ++ (List.range' (l.out + 1 + 1) (min l.last (l.told + 8) - (l.out + 1))).map l.pk = _
      obtain ⟨d, hd⟩ : ∃ d, min l.last (l.told + 8) - l.out = d + 1 := ⟨min l.last (l.told + 8) - l.out - 1, by omega⟩
      rw [show min l.last (l.told + 8) - (l.out + 1) = d by omega, hd, List.range'_succ, List.map_cons]
      rfl
    · rename_i hc
      have h4 : min l.last (l.told + 8) = l.out := by omega
      rw [h4, Nat.sub_self]
      exact ⟨rfl, fun _ => by simp⟩
theorem on_exact {l : LK} (h1 : l.out ≤ l.told + 8) (h2 : l.out ≤ l.last) : l.on.out = min l.last (l.told + 8) ∧ (l.goes.length + (l.told + 8 - l.out) ≤ 64 → l.on.goes = l.goes ++ (List.range' (l.out + 1) (min l.last (l.told + 8) - l.out)).map l.pk) := onF_exact _ l h1 h2 (Nat.le_refl _)
theorem on_neat {l : LK} (h1 : l.out ≤ l.told + 8) (h2 : l.out ≤ l.last) (hg : l.came < l.taken + 8 → ¬ (l.slots[(l.came + 1) % 8]?.getD none).isSome = true) : l.on.Neat := by
  have hk := on_keep l
  refine ⟨?_, ?_⟩
  · rw [hk.1, hk.2.1]
    exact (on_exact h1 h2).1
  · rw [hk.2.2.1, hk.2.2.2.1, hk.2.2.2.2.2]
    exact hg
theorem send_neat {l : LK} (ok : l.Ok) (h : l.Neat) (x : ByteArray) : (l.send x).1.Neat := by
  unfold send
  split
  · exact h
  split
  · exact h
  · exact on_neat (l := { l with last := l.last + 1, loads := l.loads ++ [x] }) ok.ahead (Nat.le_succ_of_le ok.out) h.gap
theorem comeF_st : ∀ (f : Nat) (l : LK), l.came ≤ l.taken + 8 → l.taken + 8 - l.came ≤ f → (∀ k, (comeF f l).Has k ↔ l.Has k) ∧ ((comeF f l).came < l.taken + 8 → ¬ (l.slots[((comeF f l).came + 1) % 8]?.getD none).isSome = true)
  | 0, l, h1, h2 => ⟨fun _ => Iff.rfl, fun h => by have h' : l.came < l.taken + 8 := h; omega⟩
  | f + 1, l, h1, h2 => by
    unfold comeF
    split
    · rename_i hc
      obtain ⟨i1, i2⟩ := comeF_st f { l with came := l.came + 1 } hc.1 (show l.taken + 8 - (l.came + 1) ≤ f by omega)
      refine ⟨fun k => (i1 k).trans ?_, i2⟩
      show (k ≤ l.came + 1 ∨ (k ≤ l.taken + 8 ∧ (l.slots[k % 8]?.getD none).isSome = true)) ↔ (k ≤ l.came ∨ (k ≤ l.taken + 8 ∧ (l.slots[k % 8]?.getD none).isSome = true))
      constructor
      · rintro (h3 | h3)
        · by_cases h4 : k ≤ l.came
          · exact .inl h4
          · obtain rfl : k = l.came + 1 := by omega
            exact .inr ⟨hc.1, hc.2⟩
        · exact .inr h3
      · rintro (h3 | h3)
        · exact .inl (by omega)
        · exact .inr h3
    · rename_i hc
      exact ⟨fun _ => Iff.rfl, fun h h3 => hc ⟨h, h3⟩⟩
theorem slotIn_has {l : LK} (ok : l.Ok) (n : Nat) (y : ByteArray) (h1 : l.came < n) (h2 : n ≤ l.taken + 8) (k : Nat) : (l.slotIn n y).Has k ↔ l.Has k ∨ k = n := by
  have ht := ok.taken
  have hs := ok.slots
  unfold slotIn
  split
  · rename_i hc
    constructor
    · exact .inl
    · rintro (h | rfl)
      · exact h
      · exact .inr ⟨h2, hc⟩
  · show (k ≤ l.came ∨ (k ≤ l.taken + 8 ∧ ((l.slots.set (n % 8) (some y))[k % 8]?.getD none).isSome = true)) ↔ (k ≤ l.came ∨ (k ≤ l.taken + 8 ∧ (l.slots[k % 8]?.getD none).isSome = true)) ∨ k = n
    by_cases hk : k ≤ l.came
    · simp [hk]
    by_cases hk8 : k ≤ l.taken + 8
    · by_cases hm : n % 8 = k % 8
      · obtain rfl : k = n := by omega
        rw [List.getElem?_set, if_pos rfl, if_pos (by omega)]
        simp [hk8]
      · rw [List.getElem?_set, if_neg hm]
        have : k ≠ n := fun h => hm (by rw [h])
        simp [this]
    · have : k ≠ n := by omega
      simp [hk, hk8, this]
theorem arrive_st {l : LK} (ok : l.Ok) (h : l.Neat) (n : Nat) (y : ByteArray) : (∀ k, (l.arrive n y).Has k ↔ l.Has k ∨ (k = n ∧ n ≤ l.taken + 8)) ∧ (l.arrive n y).Neat ∧ (l.arrive n y).last = l.last ∧ (l.arrive n y).told = l.told ∧ (l.arrive n y).out = l.out ∧ l.came ≤ (l.arrive n y).came ∧ (l.arrive n y).taken = l.taken ∧ (l.arrive n y).goes = l.goes := by
  have hsl : (l.slotIn n y).last = l.last ∧ (l.slotIn n y).told = l.told ∧ (l.slotIn n y).out = l.out ∧ (l.slotIn n y).came = l.came ∧ (l.slotIn n y).taken = l.taken ∧ (l.slotIn n y).goes = l.goes := by
    unfold LK.slotIn
    split <;> exact ⟨rfl, rfl, rfl, rfl, rfl, rfl⟩
  unfold arrive
  split
  · rename_i hc
    have hs := slotIn_has ok n y hc.1 hc.2
    obtain ⟨z, hz⟩ : ∃ z, l.slotIn n y = z := ⟨_, rfl⟩
    have okz : z.Ok := by rw [← hz]; exact slotIn_ok ok n y
    rw [hz] at hs hsl ⊢
    obtain ⟨j1, j2⟩ := comeF_st (z.taken + 8 - z.came) z okz.came (Nat.le_refl _)
    have hk := comeF_keep (z.taken + 8 - z.came) z
    have hcm := comeF_came (z.taken + 8 - z.came) z
    unfold come
    refine ⟨fun k => (j1 k).trans ((hs k).trans ?_), ⟨?_, ?_⟩, hk.1.trans hsl.1, hk.2.1.trans hsl.2.1, hk.2.2.1.trans hsl.2.2.1, by rw [← hsl.2.2.2.1]; exact hcm, hk.2.2.2.1.trans hsl.2.2.2.2.1, hk.2.2.2.2.2.2.trans hsl.2.2.2.2.2⟩
    · constructor
      · rintro (h3 | h3)
        · exact .inl h3
        · exact .inr ⟨h3, hc.2⟩
      · rintro (h3 | h3)
        · exact .inl h3
        · exact .inr h3.1
    · rw [hk.1, hk.2.1, hk.2.2.1, hsl.1, hsl.2.1, hsl.2.2.1]
      exact h.out
    · rw [hk.2.2.2.1, hk.2.2.2.2.2.1]
      exact j2
  · rename_i hc
    refine ⟨fun k => ⟨.inl, ?_⟩, h, rfl, rfl, rfl, Nat.le_refl _, rfl, rfl⟩
    rintro (h3 | ⟨rfl, h3⟩)
    · exact h3
    · exact .inl (by omega)
theorem arrived_neat {l : LK} (ok : l.Ok) (h : l.Neat) (n : Nat) (y : ByteArray) : (l.arrived n y).Neat := (arrive_st ok h n y).2.1.same rfl rfl rfl rfl rfl rfl
theorem get_neat {l : LK} (ok : l.Ok) (h : l.Neat) (x : ByteArray) : (l.get x).1.Neat := by
  unfold get
  split
  · exact h
  split
  · exact arrived_neat ok h _ _
  split
  · exact h
  split
  · rename_i h1 h2
    exact on_neat (l := { l with loads := l.loads.drop ((unpackRes x).2.1 - l.told), told := (unpackRes x).2.1 }) (by show l.out ≤ (unpackRes x).2.1 + 8; have := ok.ahead; omega) ok.out h.gap
  · exact h
theorem recv_st {l : LK} (ok : l.Ok) (h : l.Neat) : l.recv.1.Neat ∧ l.recv.1.st = l.st ∧ l.recv.1.last = l.last ∧ l.recv.1.goes = l.goes ∧ l.recv.1.told = l.told ∧ l.recv.1.out = l.out ∧ l.recv.1.came = l.came ∧ l.recv.1.loads = l.loads ∧ l.recv.1.taken = min l.came (l.taken + 1) := by
  have ht := ok.taken
  have hs := ok.slots
  unfold recv
  split
  · rename_i hc
    exact ⟨h, rfl, rfl, rfl, rfl, rfl, rfl, rfl, by show l.taken = min l.came (l.taken + 1); omega⟩
  · rename_i hc
    refine ⟨⟨h.out, fun h1 => ?_⟩, ?_, rfl, rfl, rfl, rfl, rfl, rfl, by show l.taken + 1 = _; omega⟩
    · have h1' : l.came < l.taken + 1 + 8 := h1
      show ¬ ((l.slots.set ((l.taken + 1) % 8) none)[(l.came + 1) % 8]?.getD none).isSome = true
      rw [List.getElem?_set]
      split
      · split <;> simp
      · rename_i hne
        exact h.gap (by omega)
    · unfold st
      congr 1
      funext k
      apply propext
      show (k ≤ l.came ∨ (k ≤ l.taken + 1 + 8 ∧ ((l.slots.set ((l.taken + 1) % 8) none)[k % 8]?.getD none).isSome = true)) ↔ (k ≤ l.came ∨ (k ≤ l.taken + 8 ∧ (l.slots[k % 8]?.getD none).isSome = true))
      by_cases hk : k ≤ l.came
      · simp [hk]
      by_cases hm : (l.taken + 1) % 8 = k % 8
      · have hk8 : ¬ k ≤ l.taken + 8 := by omega
        rw [List.getElem?_set, if_pos hm]
        simp only [hk, hk8, false_and, or_false, false_or, iff_false]
        rintro ⟨-, h2⟩
        split at h2 <;> simp at h2
      · rw [List.getElem?_set, if_neg hm]
        have : k ≤ l.taken + 1 + 8 ↔ k ≤ l.taken + 8 := by omega
        rw [this]
def recvs (l : LK) : Nat → LK
  | 0 => l
  | k + 1 => (recvs l k).recv.1
theorem recvs_st {l : LK} (ok : l.Ok) (h : l.Neat) : ∀ k, (l.recvs k).Ok ∧ (l.recvs k).Neat ∧ (l.recvs k).st = l.st ∧ (l.recvs k).last = l.last ∧ (l.recvs k).goes = l.goes ∧ (l.recvs k).told = l.told ∧ (l.recvs k).out = l.out ∧ (l.recvs k).came = l.came ∧ (l.recvs k).loads = l.loads ∧ (l.recvs k).taken = min l.came (l.taken + k)
  | 0 => ⟨ok, h, rfl, rfl, rfl, rfl, rfl, rfl, rfl, by have := ok.taken; show l.taken = _; omega⟩
  | k + 1 => by
    obtain ⟨i0, i1, i2, i3, i4, i5, i6, i7, i8, i9⟩ := recvs_st ok h k
    obtain ⟨j1, j2, j3, j4, j5, j6, j7, j8, j9⟩ := recv_st i0 i1
    refine ⟨recv_ok i0, j1, j2.trans i2, j3.trans i3, j4.trans i4, j5.trans i5, j6.trans i6, j7.trans i7, j8.trans i8, ?_⟩
    show (l.recvs k).recv.1.taken = _
    rw [j9, i7, i9]
    omega
theorem tickTo_exact (l : LK) : ∀ k, l.goes.length + k ≤ 64 → (tickTo l k).goes = l.goes ++ (List.range' (l.told + 1) k).map l.pk
  | 0, h => by simp [tickTo]
  | k + 1, h => by
    have i := tickTo_exact l k (by omega)
    have hk := tickTo_keep l k
    have hp : (packRes 1 (l.told + 1 + k) ((tickTo l k).loads[l.told + 1 + k - (tickTo l k).told - 1]?.getD ByteArray.empty)).1 = l.pk (l.told + 1 + k) := by
      unfold pk
      rw [hk.2.1, hk.2.2.2.2.2.1]
      rfl
    show (if (tickTo l k).goes.length = 64 then (tickTo l k).goes else (tickTo l k).goes ++ [(packRes 1 (l.told + 1 + k) ((tickTo l k).loads[l.told + 1 + k - (tickTo l k).told - 1]?.getD ByteArray.empty)).1]) = _
    rw [hp, i, if_neg (by rw [List.length_append, List.length_map, List.length_range']; omega), List.append_assoc]
    congr 1
    rw [List.range'_concat, List.map_append]
    simp
theorem tick_neat {l : LK} (h : l.Neat) : l.tick.Neat := by
  have hk := tickTo_keep l (l.out - l.told)
  exact h.same hk.1 hk.2.1 hk.2.2.1 hk.2.2.2.1 hk.2.2.2.2.1 hk.2.2.2.2.2.2
/-- A load that is packed says its number. -/
theorem dg_pk {l : LK} (hlen : l.loads.length = l.last - l.told) (hshort : ∀ s ∈ l.loads, s.size ≤ 800) {n : Nat} (h1 : l.told < n) (h2 : n ≤ l.last) (hn : n < 1000000) : dg (l.pk n) = .load n := by
  have hl : l.loads[n - l.told - 1]? = some (l.loads[n - l.told - 1]'(by omega)) := List.getElem?_eq_getElem (by omega)
  have hy := hshort _ (List.mem_of_getElem? hl)
  unfold pk
  rw [hl, Option.getD_some]
  have hp := packRes_ok 1 n _ (.inl rfl) hy
  have hp' : packRes ((1 : Nat) : Int) n (l.loads[n - l.told - 1]'(by omega)) = (packB 1 n _, 0) := hp
  rw [hp']
  exact dg_load hn hy
theorem dg_range {l : LK} (hlen : l.loads.length = l.last - l.told) (hshort : ∀ s ∈ l.loads, s.size ≤ 800) (hn : l.last < 1000000) (a b : Nat) (ha : l.told ≤ a) (hb : b ≤ l.last) : ((List.range' (a + 1) (b - a)).map l.pk).map dg = Live.seg a b := by
  unfold Live.seg
  rw [List.map_map]
  refine List.map_congr_left fun k hk => ?_
  obtain ⟨i, hi, rfl⟩ := List.mem_range'.1 hk
  exact dg_pk hlen hshort (by omega) (by omega) (by omega)
/-- A datagram comes to an end. -/
theorem get_run {l : LK} (ok : l.Ok) (h : l.Neat) (hl : l.last < 1000000) (ht : l.taken < 100000) (x : ByteArray) (b : Nat) (hd : ∀ n, dg x = .ack n → n ≤ l.out ∧ n ≤ b) (hg : l.goes.length + 1 + (b + 8 - l.out) ≤ 24) :
    ∃ g, (l.get x).1.goes = l.goes ++ g ∧ (l.get x).1.last = l.last ∧ (l.get x).1.taken = l.taken ∧ l.out ≤ (l.get x).1.out ∧ (l.get x).1.goes.length + (b + 8 - (l.get x).1.out) ≤ 24 ∧
      ∀ L M e', Live.Run l.last l.taken (l.get x).1.st L M e' → Live.Run l.last l.taken l.st (dg x :: L) (g.map dg ++ M) e' := by
  have stay : ∀ n, n ≤ l.told → ∀ L M e', Live.Run l.last l.taken l.st L M e' → Live.Run l.last l.taken l.st (.ack n :: L) M e' := fun n hn L M e' r => by
    have h1 := Live.Run.ack (e := l.st) (n := n) (by show l.told = max l.told n; omega) (by have := h.out; show l.out = min l.last (max l.told n + 8); rw [this]; congr 1; omega) rfl rfl r
    have h2 : Live.seg l.st.o l.st.o = [] := by unfold Live.seg; rw [Nat.sub_self]; rfl
    rw [h2] at h1
    exact h1
  unfold get
  by_cases he : (unpackRes x).2.2.2 ≠ 0
  · have hdx : dg x = .ack 0 := by unfold dg; rw [if_pos he]
    rw [if_pos he, hdx]
    exact ⟨[], (List.append_nil _).symm, rfl, rfl, Nat.le_refl _, by show l.goes.length + (b + 8 - l.out) ≤ 24; omega, fun L M e' r => stay 0 (Nat.zero_le _) L M e' r⟩
  rw [if_neg he]
  by_cases hk : (unpackRes x).1 = 1
  · have hdx : dg x = .load (unpackRes x).2.1 := by unfold dg; rw [if_neg he, if_pos hk]
    rw [if_pos hk, hdx]
    obtain ⟨n, hn⟩ : ∃ n, (unpackRes x).2.1 = n := ⟨_, rfl⟩
    obtain ⟨y, hy⟩ : ∃ y, (unpackRes x).2.2.1 = y := ⟨_, rfl⟩
    rw [hn, hy]
    have hneat := arrived_neat ok h n y
    obtain ⟨i1, i2, i3, i4, i5, i6, i7, i8⟩ := arrive_st ok h n y
    have ha : (l.arrived n y).goes = l.goes ++ [packB 2 (l.arrive n y).came ByteArray.empty] := by
      show (if (l.arrive n y).goes.length = 64 then (l.arrive n y).goes else (l.arrive n y).goes ++ [(packRes 2 (l.arrive n y).came ByteArray.empty).1]) = _
      rw [i8, if_neg (by omega)]
      have hp := packRes_ok 2 (l.arrive n y).came ByteArray.empty (.inr ⟨rfl, rfl⟩) (by decide)
      have hp' : packRes 2 (l.arrive n y).came ByteArray.empty = (packB 2 (l.arrive n y).came ByteArray.empty, 0) := hp
      rw [hp']
    have hc := (arrive_ok ok n y).came
    refine ⟨[packB 2 (l.arrive n y).came ByteArray.empty], ha, i3, i7, Nat.le_of_eq i5.symm, ?_, fun L M e' r => ?_⟩
    · show (l.arrived n y).goes.length + (b + 8 - (l.arrive n y).out) ≤ 24
      rw [ha, List.length_append, i5]
      show l.goes.length + 1 + _ ≤ 24
      omega
    · have hdc : [packB 2 (l.arrive n y).came ByteArray.empty].map dg = [.ack (l.arrived n y).st.c] := by
        rw [List.map_cons, dg_ack (by omega)]
        rfl
      rw [hdc]
      exact Live.Run.load ⟨i4, i5, i6, i1, st_tight hneat⟩ r
  have hdx : dg x = .ack (unpackRes x).2.1 := by unfold dg; rw [if_neg he, if_neg hk]
  obtain ⟨hn1, hn2⟩ := hd _ hdx
  rw [if_neg hk, if_neg (by omega), hdx]
  by_cases htn : l.told < (unpackRes x).2.1
  · rw [if_pos htn]
    obtain ⟨n, hn⟩ : ∃ n, (unpackRes x).2.1 = n := ⟨_, rfl⟩
    rw [hn] at htn hn1 hn2 ⊢
    have ok1 := tell_ok ok n hn1 htn
    obtain ⟨E, hE⟩ : ∃ E, ({ l with loads := l.loads.drop (n - l.told), told := n } : LK) = E := ⟨_, rfl⟩
    have h5 : E.out = l.out ∧ E.came = l.came ∧ E.taken = l.taken ∧ E.slots = l.slots ∧ E.goes = l.goes ∧ E.told = n ∧ E.last = l.last := by rw [← hE]; exact ⟨rfl, rfl, rfl, rfl, rfl, rfl, rfl⟩
    rw [hE] at ok1 ⊢
    obtain ⟨h51, h52, h53, h54, h55, h56, h57⟩ := h5
    obtain ⟨j1, j2⟩ := on_exact ok1.ahead ok1.out
    have hk := on_keep E
    have hlen := ok1.loads
    have hout := ok.out
    have hoo : l.out ≤ E.on.out := by
      have := ok.ahead
      rw [j1, h57, h56]
      omega
    have hgoes := j2 (by rw [h55, h56, h51]; omega)
    rw [h55, h51] at hgoes
    refine ⟨(List.range' (l.out + 1) (min E.last (E.told + 8) - l.out)).map E.pk, hgoes, hk.1.trans h57, hk.2.2.2.1.trans h53, hoo, ?_, fun L M e' r => ?_⟩
    · show E.on.goes.length + (b + 8 - E.on.out) ≤ 24
      rw [hgoes, List.length_append, List.length_map, List.length_range', j1, h57, h56]
      omega
    · have hdr : ((List.range' (l.out + 1) (min E.last (E.told + 8) - l.out)).map E.pk).map dg = Live.seg l.st.o E.on.st.o := by
        rw [dg_range hlen ok1.short (by omega) l.out (min E.last (E.told + 8)) (by omega) (Nat.min_le_left _ _), ← j1]
        rfl
      rw [hdr]
      refine Live.Run.ack (e := l.st) (n := n) ?_ ?_ ?_ ?_ r
      · show E.on.told = max l.told n
        rw [hk.2.1, h56]
        omega
      · show E.on.out = min l.last (max l.told n + 8)
        rw [j1, h57, h56]
        congr 2
        omega
      · exact hk.2.2.1.trans h52
      · show E.on.Has = l.Has
        unfold Has
        rw [hk.2.2.1, hk.2.2.2.1, hk.2.2.2.2.2, h52, h53, h54]
  · rw [if_neg htn]
    exact ⟨[], (List.append_nil _).symm, rfl, rfl, Nat.le_refl _, by show l.goes.length + (b + 8 - l.out) ≤ 24; omega, fun L M e' r => stay _ (by omega) L M e' r⟩
def getAll (l : LK) (xs : List ByteArray) : LK := xs.foldl (fun l x => (l.get x).1) l
theorem getAll_run (b : Nat) : ∀ (xs : List ByteArray) (l : LK), l.Ok → l.Neat → l.last < 1000000 → l.taken < 100000 → (∀ n, (.ack n : Live.Dg) ∈ xs.map dg → n ≤ l.out ∧ n ≤ b) → l.goes.length + xs.length + (b + 8 - l.out) ≤ 24 →
    ∃ g, (l.getAll xs).goes = l.goes ++ g ∧ (l.getAll xs).Ok ∧ (l.getAll xs).Neat ∧ (l.getAll xs).last = l.last ∧ (l.getAll xs).taken = l.taken ∧ (l.getAll xs).goes.length ≤ 24 ∧ Live.Run l.last l.taken l.st (xs.map dg) (g.map dg) (l.getAll xs).st
  | [], l, ok, h, _, _, _, hg => ⟨[], (List.append_nil _).symm, ok, h, rfl, rfl, by show l.goes.length ≤ 24; omega, .nil _⟩
  | x :: xs, l, ok, h, hl, ht, hd, hg => by
    rw [List.length_cons] at hg
    obtain ⟨g1, i1, i2, i3, i4, i5, i6⟩ := get_run ok h hl ht x b (fun n hn => hd n (by rw [List.map_cons, hn]; exact .head _)) (by omega)
    have hlen : (l.get x).1.goes.length + xs.length + (b + 8 - (l.get x).1.out) ≤ 24 ∨ True := .inr trivial
    have hgl : g1.length ≤ 1 + ((l.get x).1.out - l.out) := by
      have hr := i6 [] [] _ (.nil _)
      have := (hr.length h.out).1
      rw [List.append_nil, List.length_map] at this
      have h2 := Live.loads_le [dg x]
      have h3 : (l.get x).1.st.o = (l.get x).1.out := rfl
      have h4 : l.st.o = l.out := rfl
      rw [h3, h4] at this
      simp only [List.length_singleton] at h2
      omega
    obtain ⟨g2, j1, j2, j3, j4, j5, j6, j7⟩ := getAll_run b xs (l.get x).1 (get_ok ok x) (get_neat ok h x) (by omega) (by omega) (fun n hn => by
      have := hd n (.tail _ hn)
      omega) (by
      have hout := (get_neat ok h x).out
      have hb : (l.get x).1.out ≤ max l.out (b + 8) := by
        have hr := i6 [] [] _ (.nil _)
        have ht1 : (l.get x).1.st.t ≤ max l.told b := hr.toldLe _ (Nat.le_max_left _ _) (fun m hm => by
          have := hd m (by rw [List.map_cons]; rw [List.mem_singleton.1 hm]; exact .head _)
          omega)
        have ht2 : (l.get x).1.told ≤ max l.told b := ht1
        have := h.out
        omega
      rw [i1, List.length_append]
      omega)
    refine ⟨g1 ++ g2, ?_, j2, j3, j4.trans i2, j5.trans i3, j6, ?_⟩
    · show ((l.get x).1.getAll xs).goes = _
      rw [j1, i1, List.append_assoc]
    · rw [List.map_append]
      rw [i2, i3] at j7
      exact i6 _ _ _ j7
end LK
end Go.Proofs.Ytgacphicgglogaa

/-! ## Calm rounds of the pair: what each leaves, and that in the end all is read and told. -/
namespace Go.Proofs.Ytgacphicgglogaa
open Go.RowKit Crc
set_option linter.unusedVariables false

theorem upd_other {α : Type} {f : Nat → α} {i j : Nat} {a : α} (h : j ≠ i) : upd f i a j = f j := by unfold upd; rw [if_neg h]
theorem PS.drain_at (s : PS) (v : Nat) (hv : v < 2) : ∀ k, k ≤ (s.bags v).length → (s.drain v k).bags v = (s.bags v).drop k ∧ (s.drain v k).bags (1 - v) = s.bags (1 - v) ∧ (s.drain v k).ends v = s.ends v ∧ (s.drain v k).ends (1 - v) = (s.ends (1 - v)).getAll (((s.bags v).take k).map (·.1))
  | 0, _ => ⟨rfl, rfl, rfl, rfl⟩
  | k + 1, hk => by
    obtain ⟨i1, i2, i3, i4⟩ := PS.drain_at s v hv k (by omega)
    have hlt : k < (s.bags v).length := by omega
    have hx : (s.drain v k).bags v = (s.bags v)[k] :: (s.bags v).drop (k + 1) := by rw [i1]; exact List.drop_eq_getElem_cons hlt
    have h1 := Bag.take0 (s.bags v)[k] ((s.bags v).drop (k + 1))
    have hne : 1 - v ≠ v := by omega
    refine ⟨?_, ?_, ?_, ?_⟩
    · show upd (s.drain v k).bags v (Bag.takeL ((s.drain v k).bags v) 0) v = _
      rw [upd_same, hx, h1.1]
    · show upd (s.drain v k).bags v _ (1 - v) = _
      rw [upd_other hne]
      exact i2
    · show upd (s.drain v k).ends (1 - v) _ v = _
      rw [upd_other (Ne.symm hne)]
      exact i3
    · show upd (s.drain v k).ends (1 - v) (((s.drain v k).ends (1 - v)).get (Bag.takeR ((s.drain v k).bags v) 0).1).1 (1 - v) = _
      rw [upd_same, hx, h1.2, i4, List.take_succ_eq_append_getElem hlt, List.map_append]
      unfold LK.getAll
      rw [List.foldl_append]
      rfl
theorem PS.recvS_at (s : PS) (u : Nat) : (s.recvS u).bags = s.bags ∧ (s.recvS u).ends = upd s.ends u (s.ends u).recv.1 := by
  unfold PS.recvS
  split
  · rw [(addRow_ends _ _ _).1, (addRow_ends _ _ _).2]
    exact ⟨rfl, rfl⟩
  · exact ⟨rfl, rfl⟩
theorem PS.recvN_at (s : PS) (u : Nat) (hu : u < 2) : ∀ k, (s.recvN u k).bags = s.bags ∧ (s.recvN u k).ends u = (s.ends u).recvs k ∧ (s.recvN u k).ends (1 - u) = s.ends (1 - u)
  | 0 => ⟨rfl, rfl, rfl⟩
  | k + 1 => by
    obtain ⟨i1, i2, i3⟩ := PS.recvN_at s u hu k
    obtain ⟨j1, j2⟩ := PS.recvS_at (s.recvN u k) u
    refine ⟨?_, ?_, ?_⟩
    · show ((s.recvN u k).recvS u).bags = _
      rw [j1, i1]
    · show ((s.recvN u k).recvS u).ends u = _
      rw [j2, upd_same, i2]
      rfl
    · show ((s.recvN u k).recvS u).ends (1 - u) = _
      rw [j2, upd_other (by omega), i3]
theorem PS.calmW_at {k : Nat} (hk : 64 = k) (s : PS) (v : Nat) (hv : v < 2) : (s.calmW v).bags v = [] ∧ (s.calmW v).bags (1 - v) = s.bags (1 - v) ∧ (s.calmW v).ends v = s.ends v ∧ (s.calmW v).ends (1 - v) = ((s.ends (1 - v)).getAll ((s.bags v).map (·.1))).recvs k := by
  unfold PS.calmW
  rw [hk]
  clear hk
  obtain ⟨i1, i2, i3, i4⟩ := PS.drain_at s v hv _ (Nat.le_refl _)
  obtain ⟨j1, j2, j3⟩ := PS.recvN_at (s.drain v (s.bags v).length) (1 - v) (by omega) k
  rw [show 1 - (1 - v) = v by omega] at j3
  rw [j1, j2, j3, i1, i2, i3, i4, List.drop_length, List.take_length]
  exact ⟨rfl, rfl, rfl, rfl⟩
theorem flushK_bagAt (s : PS) : ∀ k j, (s.flushK k).bags j = if j < k then (s.ends j).goes.foldl Bag.putL (s.bags j) else s.bags j
  | 0, j => by rw [if_neg (by omega)]; rfl
  | k + 1, j => by
    show upd (s.flushK k).bags k (((s.flushK k).ends k).goes.foldl Bag.putL ((s.flushK k).bags k)) j = _
    by_cases h : j = k
    · subst h
      rw [upd_same, flushK_ends, if_neg (by omega), flushK_bagAt s j j, if_neg (by omega), if_pos (by omega)]
    · rw [upd_other h, flushK_bagAt s k j]
      by_cases h2 : j < k
      · rw [if_pos h2, if_pos (by omega)]
      · rw [if_neg h2, if_neg (by omega)]
theorem foldPut_at : ∀ (g : List ByteArray) (l : List Bag.Item), l.length ≤ 16 → (g.foldl Bag.putL l).map (·.1) = (l.map (·.1) ++ g).take 16
  | [], l, h => by
    rw [List.append_nil, List.take_of_length_le (by rw [List.length_map]; exact h)]
    rfl
  | x :: g, l, h => by
    have i := foldPut_at g (Bag.putL l x) (Bag.putL_le l x h)
    show (g.foldl Bag.putL (Bag.putL l x)).map (·.1) = _
    rw [i]
    unfold Bag.putL
    split
    · rw [List.map_append, List.append_assoc]
      rfl
    · rw [List.take_append_of_le_length (by rw [List.length_map]; omega), List.take_append_of_le_length (by rw [List.length_map]; omega)]

/-- What an end made of all that came to it. -/
def PS.got (s : PS) (v : Nat) : LK := (s.ends v).getAll ((s.bags (1 - v)).map (·.1))
def PS.bagD (s : PS) (v : Nat) : List Live.Dg := ((s.bags v).map (·.1)).map dg
theorem PS.calmS_at {k : Nat} (hk : 64 = k) (s : PS) (v : Nat) (hv : v < 2) : s.calmS.ends v = { ((s.got v).recvs k).tick with goes := [] } ∧ (s.calmS.bags v).map (·.1) = ((s.got v).recvs k).tick.goes.take 16 := by
  unfold PS.got
  obtain ⟨a1, a2, a3, a4⟩ := PS.calmW_at hk s 0 (by omega)
  have hkk : s.calmK 2 = (s.calmW 0).calmW 1 := rfl
  obtain ⟨y0, hy0⟩ : ∃ y0, s.calmW 0 = y0 := ⟨_, rfl⟩
  rw [hy0] at a1 a2 a3 a4 hkk
  obtain ⟨b1, b2, b3, b4⟩ := PS.calmW_at hk y0 1 (by omega)
  obtain ⟨x, hx⟩ : ∃ x, y0.calmW 1 = x := ⟨_, rfl⟩
  have hkx : s.calmK 2 = x := by rw [hkk, hx]
  rw [hx] at b1 b2 b3 b4
  have e0 : x.ends v = ((s.ends v).getAll ((s.bags (1 - v)).map (·.1))).recvs k ∧ x.bags v = [] := by
    have hv' : v = 0 ∨ v = 1 := by omega
    rcases hv' with rfl | rfl
    · rw [show (1 : Nat) - 1 = 0 from rfl] at b2 b4
      rw [show (1 : Nat) - 0 = 1 from rfl] at a2 a4 ⊢
      exact ⟨by rw [b4, a3, a2], by rw [b2, a1]⟩
    · rw [show (1 : Nat) - 0 = 1 from rfl] at a4
      rw [show (1 : Nat) - 1 = 0 from rfl]
      exact ⟨by rw [b3, a4], b1⟩
  obtain ⟨y, hy⟩ : ∃ y, ((s.ends v).getAll ((s.bags (1 - v)).map (·.1))).recvs k = y := ⟨_, rfl⟩
  rw [hy] at e0 ⊢
  have e1 : ((x.tickW 0).tickW 1).ends v = y.tick ∧ ((x.tickW 0).tickW 1).bags v = [] := by
    refine ⟨?_, e0.2⟩
    show upd (upd x.ends 0 (x.ends 0).tick) 1 (upd x.ends 0 (x.ends 0).tick 1).tick v = _
    have hv' : v = 0 ∨ v = 1 := by omega
    rcases hv' with rfl | rfl
    · rw [upd_other (by omega), upd_same, e0.1]
    · rw [upd_same, upd_other (by omega), e0.1]
  unfold PS.calmS
  rw [hkx]
  obtain ⟨z, hz⟩ : ∃ z, (x.tickW 0).tickW 1 = z := ⟨_, rfl⟩
  rw [hz] at e1 ⊢
  unfold PS.flushS
  rw [flushK_ends, if_pos hv, flushK_bagAt, if_pos hv, e1.1, e1.2, foldPut_at _ _ (Nat.zero_le _)]
  exact ⟨rfl, rfl⟩

/-- What every act leaves of an end. -/
def NeatP (s : PS) : Prop := ∀ v, v < 2 → (s.ends v).Neat ∧ (s.ends v).goes = []
theorem LK.new_neat : LK.new.Neat := ⟨rfl, fun _ h => by revert h; decide⟩
theorem NeatP.new : NeatP PS.new := fun v _ => ⟨LK.new_neat, rfl⟩
theorem LK.flush_neat {l : LK} (h : l.Neat) : ({ l with goes := [] } : LK).Neat := h.same rfl rfl rfl rfl rfl rfl
theorem upd_neat {f : Nat → LK} {i : Nat} {a : LK} (h : ∀ v, v < 2 → (f v).Neat) (ha : a.Neat) : ∀ v, v < 2 → (upd f i a v).Neat := fun v hv => by
  unfold upd
  split
  · exact ha
  · exact h v hv
theorem act_neat {s : PS} (ok : ∀ v, v < 2 → (s.ends v).Ok) (h : ∀ v, v < 2 → (s.ends v).Neat) (t : StepL) : ∀ v, v < 2 → ((s.act t).ends v).Neat := by
  have hw := (who_val t.who).1
  unfold PS.act
  split
  · split
    · rw [(addRow_ends _ _ _).1]
      exact upd_neat h (LK.send_neat (ok _ hw) (h _ hw) _)
    · exact upd_neat h (LK.send_neat (ok _ hw) (h _ hw) _)
  split
  · split
    · exact upd_neat h (LK.get_neat (ok _ (by omega)) (h _ (by omega)) _)
    · exact h
  split
  · exact h
  split
  · exact h
  split
  · exact h
  split
  · exact upd_neat h (LK.tick_neat (h _ hw))
  · rw [(PS.recvS_at _ _).2]
    exact upd_neat h (LK.recv_st (ok _ hw) (h _ hw)).1
theorem NeatP.doS {s : PS} (ok : ∀ v, v < 2 → (s.ends v).Ok) (h : NeatP s) (t : StepL) : NeatP (s.doS t) := fun v hv => by
  have h1 := act_neat ok (fun v hv => (h v hv).1) t v hv
  unfold PS.doS PS.flushS
  rw [flushK_ends, if_pos hv]
  exact ⟨LK.flush_neat h1, rfl⟩

theorem PS.bag_says {s : PS} {N v : Nat} (h : InvP s N) (hN : N < 100000) (hv : v < 2) {d : Live.Dg} (hd : d ∈ s.bagD v) : (∀ n, d = .load n → n ≤ (s.ends v).out) ∧ ∀ n, d = .ack n → n ≤ (s.ends v).came := by
  unfold PS.bagD at hd
  rw [List.map_map] at hd
  obtain ⟨x, hx, rfl⟩ := List.mem_map.1 hd
  have hsm := h.small v hv
  show (∀ n, dg x.1 = .load n → _) ∧ ∀ n, dg x.1 = .ack n → _
  rcases (h.items v hv x hx).unpack (by omega) (by omega) with h1 | ⟨n, y, h1, h2, h3, h4⟩ | ⟨n, h1, h2⟩
  · have e : dg x.1 = .ack 0 := by unfold dg; rw [if_pos h1]
    rw [e]
    exact ⟨fun n hn => (by cases hn), fun n hn => by injection hn with hn; omega⟩
  · have e : dg x.1 = .load n := by unfold dg; rw [h4]; rfl
    rw [e]
    exact ⟨fun n hn => by injection hn with hn; omega, fun n hn => (by cases hn)⟩
  · have e : dg x.1 = .ack n := by unfold dg; rw [h2]; rfl
    rw [e]
    exact ⟨fun n hn => (by cases hn), fun n hn => by injection hn with hn; omega⟩

/-- A calm round. -/
theorem calm_round {s : PS} {N v : Nat} (h : InvP s N) (hN : N < 100000) (hn : NeatP s) (hv : v < 2) :
    (s.calmS.ends v).Neat ∧ (s.calmS.ends v).goes = [] ∧ (s.calmS.ends v).last = (s.ends v).last ∧ (s.calmS.ends v).taken = (s.calmS.ends v).came ∧
    Live.Run (s.ends v).last (s.ends v).taken (s.ends v).st (s.bagD (1 - v)) ((s.got v).goes.map dg) (s.calmS.ends v).st ∧ s.calmS.bagD v = ((s.got v).goes.map dg ++ Live.seg (s.calmS.ends v).told (s.calmS.ends v).out).take 16 := by
  have hu : 1 - v < 2 := by omega
  have hsm := h.small v hv
  have hd := h.dir v hv
  have hcame := hd.came
  have hbl := h.bags (1 - v) hu
  obtain ⟨hne, hgo⟩ := hn v hv
  have hfew := h.few v hv
  obtain ⟨g, g1, g2, g3, g4, g5, g6, g7⟩ := LK.getAll_run (s.ends (1 - v)).came ((s.bags (1 - v)).map (·.1)) (s.ends v) (h.ok v hv) hne (by omega) (by omega) (fun n hn => by
    have := (PS.bag_says h hN hu hn).2 n rfl
    omega) (by rw [hgo, List.length_map]; show 0 + _ + _ ≤ 24; omega)
  rw [hgo, List.nil_append] at g1
  obtain ⟨k, hk⟩ : ∃ k, 64 = k := ⟨_, rfl⟩
  obtain ⟨e1, e2⟩ := PS.calmS_at hk s v hv
  have hgot : s.got v = (s.ends v).getAll ((s.bags (1 - v)).map (·.1)) := rfl
  rw [← hgot] at g1 g2 g3 g4 g5 g6 g7
  rw [← g1] at g7
  obtain ⟨y, hy⟩ : ∃ y, s.got v = y := ⟨_, rfl⟩
  rw [hy] at g2 g3 g4 g5 g6 g7 e1 e2 ⊢
  obtain ⟨r0, r1, r2, r3, r4, r5, r6, r7, r8, r9⟩ := LK.recvs_st g2 g3 k
  obtain ⟨z, hz⟩ : ∃ z, y.recvs k = z := ⟨_, rfl⟩
  rw [hz] at e1 e2 r0 r1 r2 r3 r4 r5 r6 r7 r8 r9
  have ht := LK.tickTo_keep z (z.out - z.told)
  have hte := LK.tickTo_exact z (z.out - z.told) (by rw [r4]; have := r0.ahead; omega)
  have htn := LK.tick_neat r1
  have f1 : (s.calmS.ends v).told = z.told := by rw [e1]; exact ht.2.1
  have f2 : (s.calmS.ends v).out = z.out := by rw [e1]; exact ht.2.2.1
  have f3 : (s.calmS.ends v).came = z.came := by rw [e1]; exact ht.2.2.2.1
  have f4 : (s.calmS.ends v).taken = z.taken := by rw [e1]; exact ht.2.2.2.2.1
  have f5 : (s.calmS.ends v).slots = z.slots := by rw [e1]; exact ht.2.2.2.2.2.2
  have f6 : (s.calmS.ends v).last = z.last := by rw [e1]; exact ht.1
  refine ⟨by rw [e1]; exact LK.flush_neat htn, by rw [e1], by rw [f6, r3, g4], ?_, ?_, ?_⟩
  · have := g2.came
    rw [f3, f4, r9, r7]
    omega
  · have e : (s.calmS.ends v).st = y.st := (LK.st_same f1 f2 f3 f4 f5).trans r2
    rw [e]
    exact g7
  · unfold PS.bagD
    rw [e2, f1, f2]
    have hte' : z.tick.goes = z.goes ++ (List.range' (z.told + 1) (z.out - z.told)).map z.pk := hte
    rw [hte', r4, List.map_take, List.map_append, LK.dg_range r0.loads r0.short (by rw [r3, g4]; omega) z.told z.out (Nat.le_refl _) r0.out]

def PS.calmN (s : PS) : Nat → PS
  | 0 => s
  | r + 1 => (s.calmN r).calmS
theorem calmN_keep {s : PS} {N : Nat} (h : InvP s N) (hN : N < 100000) (hn : NeatP s) : ∀ r, InvP (s.calmN r) N ∧ NeatP (s.calmN r) ∧ ∀ v, v < 2 → ((s.calmN r).ends v).last = (s.ends v).last
  | 0 => ⟨h, hn, fun _ _ => rfl⟩
  | r + 1 => by
    obtain ⟨i1, i2, i3⟩ := calmN_keep h hN hn r
    refine ⟨i1.calmS hN, fun v hv => ?_, fun v hv => ?_⟩
    · have := calm_round i1 hN i2 hv
      exact ⟨this.1, this.2.1⟩
    · have := calm_round i1 hN i2 hv
      exact this.2.2.1.trans (i3 v hv)
theorem calm_sim {s : PS} {N : Nat} (h : InvP s N) (hN : N < 100000) (hn : NeatP s) :
    Live.Sim (fun v => (s.ends v).last) (fun v r => ((s.calmN r).ends v).st) (fun v r => (s.calmN r).bagD v) (fun v r => ((s.calmN r).got v).goes.map dg) (fun v r => ((s.calmN r).ends v).taken) := by
  have K := calmN_keep h hN hn
  have R := fun r v (hv : v < 2) => calm_round (K r).1 hN (K r).2.1 hv
  refine ⟨fun v r hv => ?_, fun v r hv => ((K r).1.dir v hv).told, fun v r hv => ((K r).1.dir v hv).came, fun v r k hv hk => ?_, fun v r hv => LK.st_tight ((K r).2.1 v hv).1, fun v r hv => ?_, fun v r n hv hd => (PS.bag_says (K r).1 hN hv hd).1 n rfl, fun v r n hv hd => (PS.bag_says (K r).1 hN hv hd).2 n rfl, fun v r hv => ?_, fun v r hv => (R r v hv).2.2.2.2.2, fun v r hv => (R r v hv).2.2.2.1⟩
  · have := ((K r).2.1 v hv).1.out
    rw [(K r).2.2 v hv] at this
    exact this
  · have d := (K r).1.dir v hv
    have ok := (K r).1.ok (1 - v) (by omega)
    have hk' : ((s.calmN r).ends (1 - v)).Has k := hk
    show k ≤ ((s.calmN r).ends v).out
    have hc := d.came
    by_cases hkc : k ≤ ((s.calmN r).ends (1 - v)).came
    · omega
    · rcases hk' with h1 | ⟨h1, h2⟩
      · omega
      · have ht := ok.taken
        cases hs : ((s.calmN r).ends (1 - v)).slots[k % 8]? with
        | none => rw [hs] at h2; cases h2
        | some o =>
          cases o with
          | none => rw [hs] at h2; cases h2
          | some x => exact (d.slots k x (by omega) h1 hs).1
  · show ((s.calmN r).bagD v).length ≤ 16
    unfold PS.bagD
    rw [List.length_map, List.length_map]
    exact (K r).1.bags v hv
  · have := (R r v hv).2.2.2.2.1
    rw [(K r).2.2 v hv] at this
    exact this

/-- In the end all is read and told. -/
theorem live_ps {s : PS} {N q r : Nat} (h : InvP s N) (hN : N < 100000) (hn : NeatP s) (hq : ∀ v, v < 2 → (s.sent v).length ≤ (s.read (1 - v)).length + 8 * q) (hr : 9 + 2 * q ≤ r) (v : Nat) (hv : v < 2) :
    ((s.calmN r).ends v).last = ((s.calmN r).ends v).told ∧ (s.calmN r).sent v = (s.calmN r).read (1 - v) := by
  have S := calm_sim h hN hn
  have K := calmN_keep h hN hn
  have h1 := S.live v hv q
  have h2 := (S.monos v 0 1 hv).1
  have h3 := (S.monos v (9 + 2 * q) (r - (9 + 2 * q)) hv).1
  rw [show 9 + 2 * q + (r - (9 + 2 * q)) = r by omega] at h3
  have h1' : min (s.ends v).last (((s.calmN 1).ends v).told + 8 + 8 * q) ≤ ((s.calmN (9 + 2 * q)).ends v).told := h1
  have h2' : (s.ends v).told ≤ ((s.calmN 1).ends v).told := h2
  have h3' : ((s.calmN (9 + 2 * q)).ends v).told ≤ ((s.calmN r).ends v).told := h3
  have d := h.dir v hv
  have ok1 := h.ok (1 - v) (by omega)
  have ok0 := h.ok v hv
  have hrl : (s.read (1 - v)).length ≤ (s.ends (1 - v)).taken := by rw [d.read, List.length_take]; omega
  have h4 := hq v hv
  have h5 := d.last
  have h6 := d.came
  have h7 := ok1.taken
  have h8 := ok0.ahead
  have dr := (K r).1.dir v hv
  have okr := (K r).1.ok v hv
  have hlast := (K r).2.2 v hv
  have h9 := okr.told
  have h10 := okr.out
  have hrd : ((s.calmN r).ends (1 - v)).taken = ((s.calmN r).ends (1 - v)).came := by
    have := S.read (1 - v) (r - 1) (by omega)
    rw [show r - 1 + 1 = r by omega] at this
    exact this
  have htold : ((s.calmN r).ends v).last = ((s.calmN r).ends v).told := by omega
  refine ⟨htold, ?_⟩
  have h11 := dr.told
  have h12 := dr.last
  rw [dr.read, List.take_of_length_le (by omega)]
end Go.Proofs.Ytgacphicgglogaa
