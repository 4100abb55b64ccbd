/- The document's wire: 'Decode': the law of its stages. -/
import Derived.Test.YtgacphicgglogaaWireRL
import Derived.Test.YtgacphicgglogaaWireR
namespace Go.Proofs.Ytgacphicgglogaa
open Go.RowKit Crc
set_option linter.unusedVariables false

def m00 (kind : Nat) : MsgL := ⟨(kind : Int), 0, ⟨#[]⟩, [], [], [], [], [], []⟩
theorem readR_eq (s : ByteArray) : readR s = (smallR s 9).bind fun q => if q.1 = 0 then none else rdStep (m00 q.1) q.2 := by
  unfold readR
  cases smallR s 9 <;> rfl
theorem rdStep_eq (m : MsgL) (s : ByteArray) : rdStep m s = (greatR s).bind fun q => rdEvent { m with step := q.1 } q.2 := by
  unfold rdStep
  cases greatR s <;> rfl
theorem rdEvent_eq (m : MsgL) (s : ByteArray) : rdEvent m s = (smallR s 20).bind fun q => (bytesR q.2 q.1).bind fun r => rdTrans { m with event := r.1 } r.2 := by
  unfold rdEvent
  cases smallR s 20 with
  | none => rfl
  | some q =>
    obtain ⟨n, t⟩ := q
    show (bytesR t n).bind _ = (bytesR t n).bind _
    cases bytesR t n <;> rfl
theorem rdTrans_eq (m : MsgL) (s : ByteArray) : rdTrans m s = (listR s).bind fun q => rdStates { m with trans := q.1 } q.2 := by
  unfold rdTrans
  cases listR s <;> rfl
theorem rdStates_eq (m : MsgL) (s : ByteArray) : rdStates m s = (listR s).bind fun q => rdEnter { m with states := q.1 } q.2 := by
  unfold rdStates
  cases listR s <;> rfl
theorem rdEnter_eq (m : MsgL) (s : ByteArray) : rdEnter m s = (listR s).bind fun q => rdVars { m with enter := q.1 } q.2 := by
  unfold rdEnter
  cases listR s <;> rfl
theorem rdVars_eq (m : MsgL) (s : ByteArray) : rdVars m s = (listR s).bind fun q => rdSets { m with vars := q.1 } q.2 := by
  unfold rdVars
  cases listR s <;> rfl
theorem rdSets_eq (m : MsgL) (s : ByteArray) : rdSets m s = (smallR s 8).bind fun q => (setsR q.1 q.2 []).bind fun r => rdPasts { m with sets := r.1 } r.2 := by
  unfold rdSets
  cases smallR s 8 with
  | none => rfl
  | some q =>
    obtain ⟨n, t⟩ := q
    show (setsR n t []).bind _ = (setsR n t []).bind _
    cases setsR n t [] <;> rfl
theorem rdPasts_eq (m : MsgL) (s : ByteArray) : rdPasts m s = (smallR s 40).bind fun q => (pastsR q.1 q.2 []).bind fun r => rdEnd { m with pasts := r.1 } r.2 := by
  unfold rdPasts
  cases smallR s 40 with
  | none => rfl
  | some q =>
    obtain ⟨n, t⟩ := q
    show (pastsR n t []).bind _ = (pastsR n t []).bind _
    cases pastsR n t [] <;> rfl

theorem st_kind {s : ByteArray} {kind : Nat} {o : Option ByteArray} (h : SmallO (some s) 9 kind o) : readR s = if kind = 0 then none else o.bind (rdStep (m00 kind)) := by
  have h1 := h.2 MsgL fun k u => if k = 0 then none else rdStep (m00 k) u
  rw [readR_eq]
  rw [show ((some s).bind fun t => (smallR t 9).bind fun q => if q.1 = 0 then none else rdStep (m00 q.1) q.2) = (smallR s 9).bind fun q => if q.1 = 0 then none else rdStep (m00 q.1) q.2 from rfl] at h1
  rw [h1]
  by_cases hk : kind = 0
  · simp only [if_pos hk]
    cases o <;> rfl
  · simp only [if_neg hk]
theorem st_step {o o' : Option ByteArray} {x : ByteArray} (m : MsgL) (h : TakeO o 8 x o') : o'.bind (rdEvent { m with step := numL x.data.toList }) = o.bind (rdStep m) := by
  rw [← h.great MsgL fun n u => rdEvent { m with step := n } u]
  congr 1
theorem st_event {o o1 o2 : Option ByteArray} {n : Nat} {x : ByteArray} (m : MsgL) (h : SmallO o 20 n o1) (h2 : TakeO o1 n x o2) : o2.bind (rdTrans { m with event := x }) = o.bind (rdEvent m) := by
  rw [← h2.2.2 MsgL fun e u => rdTrans { m with event := e } u]
  rw [← h.2 MsgL fun n u => (bytesR u n).bind fun q => rdTrans { m with event := q.1 } q.2]
  congr 1
theorem st_trans {o o' : Option ByteArray} {l : List Int} (m : MsgL) (h : ListO o l o') : o'.bind (rdStates { m with trans := l }) = o.bind (rdTrans m) := by
  rw [← h MsgL fun n u => rdStates { m with trans := n } u]
  congr 1
theorem st_states {o o' : Option ByteArray} {l : List Int} (m : MsgL) (h : ListO o l o') : o'.bind (rdEnter { m with states := l }) = o.bind (rdStates m) := by
  rw [← h MsgL fun n u => rdEnter { m with states := n } u]
  congr 1
theorem st_enter {o o' : Option ByteArray} {l : List Int} (m : MsgL) (h : ListO o l o') : o'.bind (rdVars { m with enter := l }) = o.bind (rdEnter m) := by
  rw [← h MsgL fun n u => rdVars { m with enter := n } u]
  congr 1
theorem st_vars {o o' : Option ByteArray} {l : List Int} (m : MsgL) (h : ListO o l o') : o'.bind (rdSets { m with vars := l }) = o.bind (rdVars m) := by
  rw [← h MsgL fun n u => rdSets { m with vars := n } u]
  congr 1

/-- The sets under way: k of n are read, they are acc; what follows. -/
def SetsO (m : MsgL) (n k : Nat) (acc : List SetL) (o : Option ByteArray) : Option MsgL := o.bind fun t => (setsR (n - k) t acc).bind fun r => rdPasts { m with sets := r.1 } r.2
theorem st_sets {o o' : Option ByteArray} {n : Nat} (m : MsgL) (h : SmallO o 8 n o') : SetsO m n 0 [] o' = o.bind (rdSets m) := by
  unfold SetsO
  rw [show (o'.bind fun t => (setsR (n - 0) t []).bind fun r => rdPasts { m with sets := r.1 } r.2) = o'.bind (fun t => (setsR n t []).bind fun r => rdPasts { m with sets := r.1 } r.2) from rfl]
  rw [← h.2 MsgL fun n u => (setsR n u []).bind fun r => rdPasts { m with sets := r.1 } r.2]
  congr 1
theorem setR_eq (t : ByteArray) : setR t = (smallR t 63).bind fun a => (smallR a.2 3).bind fun b => if b.1 = 0 then none else (greatR b.2).bind fun c => (greatR c.2).bind fun d => some (⟨(a.1 : Int), (b.1 : Int), i64of c.1, i64of d.1⟩, d.2) := by
  unfold setR
  cases smallR t 63 with
  | none => rfl
  | some a =>
    obtain ⟨v, s1⟩ := a
    show (smallR s1 3).bind _ = (smallR s1 3).bind _
    cases smallR s1 3 with
    | none => rfl
    | some b =>
      obtain ⟨k, s2⟩ := b
      show (if k = 0 then none else (greatR s2).bind _) = (if k = 0 then none else (greatR s2).bind _)
      cases greatR s2 with
      | none => rfl
      | some c =>
        obtain ⟨a, s3⟩ := c
        show (if k = 0 then none else (greatR s3).bind _) = (if k = 0 then none else (greatR s3).bind _)
        cases greatR s3 <;> rfl
theorem if_bind {α β : Type} (c : Prop) [Decidable c] (o : Option α) (f : α → Option β) : (if c then none else o).bind f = if c then none else o.bind f := by split <;> rfl
theorem st_set {o oa ob oc od : Option ByteArray} {n k v kk : Nat} {xa xb : ByteArray} {acc : List SetL} (m : MsgL) (hk : k < n) (ha : SmallO o 63 v oa) (hb : SmallO oa 3 kk ob) (hc : TakeO (if kk = 0 then none else ob) 8 xa oc) (hd : TakeO oc 8 xb od) :
    SetsO m n (k + 1) (acc ++ [⟨(v : Int), (kk : Int), i64of (numL xa.data.toList), i64of (numL xb.data.toList)⟩]) od = SetsO m n k acc o := by
  unfold SetsO
  have f1 := hd.great MsgL fun b u => (setsR (n - (k + 1)) u (acc ++ [⟨(v : Int), (kk : Int), i64of (numL xa.data.toList), i64of b⟩])).bind fun r => rdPasts { m with sets := r.1 } r.2
  have f2 := hc.great MsgL fun a t => (greatR t).bind fun q => (setsR (n - (k + 1)) q.2 (acc ++ [⟨(v : Int), (kk : Int), i64of a, i64of q.1⟩])).bind fun r => rdPasts { m with sets := r.1 } r.2
  rw [if_bind] at f2
  have g1 := hb.2 MsgL fun j u => if j = 0 then none else (greatR u).bind fun p => (greatR p.2).bind fun q => (setsR (n - (k + 1)) q.2 (acc ++ [⟨(v : Int), (j : Int), i64of p.1, i64of q.1⟩])).bind fun r => rdPasts { m with sets := r.1 } r.2
  have g2 : (if kk = 0 then none else ob.bind fun t => (greatR t).bind fun p => (greatR p.2).bind fun q => (setsR (n - (k + 1)) q.2 (acc ++ [⟨(v : Int), (kk : Int), i64of p.1, i64of q.1⟩])).bind fun r => rdPasts { m with sets := r.1 } r.2) = ob.bind ((fun j u => if j = 0 then none else (greatR u).bind fun p => (greatR p.2).bind fun q => (setsR (n - (k + 1)) q.2 (acc ++ [⟨(v : Int), (j : Int), i64of p.1, i64of q.1⟩])).bind fun r => rdPasts { m with sets := r.1 } r.2) kk) := by
    by_cases h0 : kk = 0
    · simp only [if_pos h0]
      cases ob <;> rfl
    · simp only [if_neg h0]
  have g3 := ha.2 MsgL fun i t => (smallR t 3).bind fun b => if b.1 = 0 then none else (greatR b.2).bind fun p => (greatR p.2).bind fun q => (setsR (n - (k + 1)) q.2 (acc ++ [⟨(i : Int), (b.1 : Int), i64of p.1, i64of q.1⟩])).bind fun r => rdPasts { m with sets := r.1 } r.2
  refine f1.symm.trans (f2.symm.trans (g2.trans (g1.symm.trans (g3.symm.trans ?_))))
  congr 1
  funext t
  rw [show n - k = (n - (k + 1)) + 1 by omega, setsR, setR_eq]
  cases smallR t 63 with
  | none => rfl
  | some a =>
    show (smallR a.2 3).bind _ = (((smallR a.2 3).bind _).bind _).bind _
    cases smallR a.2 3 with
    | none => rfl
    | some b =>
      show (if b.1 = 0 then none else _) = (((if b.1 = 0 then none else _ : Option (SetL × ByteArray))).bind _).bind _
      by_cases h0 : b.1 = 0
      · rw [if_pos h0, if_pos h0]; rfl
      · rw [if_neg h0, if_neg h0]
        cases greatR b.2 with
        | none => rfl
        | some c =>
          show (greatR c.2).bind _ = (((greatR c.2).bind _).bind _).bind _
          cases greatR c.2 <;> rfl
theorem st_setsEnd {o : Option ByteArray} {n : Nat} {acc : List SetL} (m : MsgL) : o.bind (rdPasts { m with sets := acc }) = SetsO m n n acc o := by
  unfold SetsO
  rw [Nat.sub_self]
  rfl
theorem st_setsBad {n k : Nat} {acc : List SetL} (m : MsgL) : (none : Option ByteArray).bind (rdPasts { m with sets := acc }) = SetsO m n k acc none := rfl

def PastsO (m : MsgL) (n k : Nat) (acc : List PastL) (o : Option ByteArray) : Option MsgL := o.bind fun t => (pastsR (n - k) t acc).bind fun r => rdEnd { m with pasts := r.1 } r.2
theorem st_pasts {o o' : Option ByteArray} {n : Nat} (m : MsgL) (h : SmallO o 40 n o') : PastsO m n 0 [] o' = o.bind (rdPasts m) := by
  unfold PastsO
  rw [show (o'.bind fun t => (pastsR (n - 0) t []).bind fun r => rdEnd { m with pasts := r.1 } r.2) = o'.bind (fun t => (pastsR n t []).bind fun r => rdEnd { m with pasts := r.1 } r.2) from rfl]
  rw [← h.2 MsgL fun n u => (pastsR n u []).bind fun r => rdEnd { m with pasts := r.1 } r.2]
  congr 1
theorem st_past {o oa ob : Option ByteArray} {n k v : Nat} {l : List Int} {acc : List PastL} (m : MsgL) (hk : k < n) (ha : SmallO o 63 v oa) (hb : ListO oa l ob) :
    PastsO m n (k + 1) (acc ++ [⟨(v : Int), l⟩]) ob = PastsO m n k acc o := by
  unfold PastsO
  have g1 := hb MsgL fun l u => (pastsR (n - (k + 1)) u (acc ++ [⟨(v : Int), l⟩])).bind fun r => rdEnd { m with pasts := r.1 } r.2
  have g2 := ha.2 MsgL fun i t => (listR t).bind fun q => (pastsR (n - (k + 1)) q.2 (acc ++ [⟨(i : Int), q.1⟩])).bind fun r => rdEnd { m with pasts := r.1 } r.2
  refine g1.symm.trans (g2.symm.trans ?_)
  congr 1
  funext t
  rw [show n - k = (n - (k + 1)) + 1 by omega, pastsR]
  unfold pastR
  cases smallR t 63 with
  | none => rfl
  | some a =>
    obtain ⟨v, u⟩ := a
    show (listR u).bind _ = (((listR u).bind _).bind _).bind _
    cases listR u <;> rfl
theorem st_pastsEnd {o : Option ByteArray} {n : Nat} {acc : List PastL} (m : MsgL) : o.bind (rdEnd { m with pasts := acc }) = PastsO m n n acc o := by
  unfold PastsO
  rw [Nat.sub_self]
  rfl
theorem st_pastsBad {n k : Nat} {acc : List PastL} (m : MsgL) : (none : Option ByteArray).bind (rdEnd { m with pasts := acc }) = PastsO m n k acc none := rfl
end Go.Proofs.Ytgacphicgglogaa
