/- Steps of a chain over rows; a made slice as a row. -/
import Derived.Test.YtgacphicgglogaaRegB
import Derived.Test.YtgacphicgglogaaWords
namespace Go.Proofs.Ytgacphicgglogaa
open Go.RowKit
namespace Reg
section
variable {P : Program} {ops : Array Oper} {Inv : World → Prop} {Step : World → World → Prop} {R : Nat → Option (Value → World → Prop)} {C : Nat → Option Value} {Fin : Act → World → Prop}

/-- 'string(b)' in a chain, b's bytes known in every world that it may come to. -/
theorem chain_unbytes {o : Oper} {rest : List Oper} {i : Nat} {F : List (Nat × (World → Prop))} {a : Act} (hR : R i = none) (hg : o.guard = none) (x : Operand) (src dst e : TypeId)
    (ho : o.op = .convert src dst x) (hs : P.underlying src = some (.slice e)) (he : P.underlying e = some (.int .u8)) (hd : P.underlying dst = some .string) (g n cap : Nat) (l : List UInt8) (hx : a.eval x = .slice (some ⟨g, 0, none⟩) n cap) (hn : l.length = n)
    (hrow : ∀ w, Inv w → Row w g e (byteVals l)) (hc : Chain P ops Inv Step R C Fin rest (i + 1) F (a.put o.dst (.string ⟨l.toArray⟩))) : Chain P ops Inv Step R C Fin (o :: rest) i F a := by
  refine chain_plain hR hg _ (fun w hI _ => ?_) hc
  subst hn
  have hadd : ∀ j, (⟨g, 0, none⟩ : Addr).add j = ⟨g, j, none⟩ := by intro j; unfold Addr.add; split <;> simp_all
  have hr := run_convert_bytes_back (P := P) w src dst e ⟨g, 0, none⟩ cap l hs he hd (fun j hj => by
    rw [hadd]
    exact (hrow w hI).cell (by simp [byteVals, hj]))
  unfold execOp
  simp only [ho, hx, Sem.run_bind, hr, Result.andThen_ok, Sem.run_pure]
end
end Reg

theorem madeCells_one (z : Value) (n : Nat) : (madeCells #[z] n).toList = List.replicate n z := by
  apply List.ext_getElem?
  intro j
  by_cases h : j < n
  · simp [madeCells, h, Nat.mod_one]
  · simp [madeCells, h]

/-- A made slice is a row. -/
theorem Row.of_own {w : World} {base e n g c : Nat} {xs : List Value} (h : w.ownsRow base e 1 (.slice (some ⟨g, 0, none⟩) n c) n xs) : Row w g e xs := by
  rcases h.2 with ⟨hv, _⟩ | ⟨g', cap, cur, hv, _, hh, _, _, _, htake⟩
  · cases hv
  · injection hv with e1 _ _
    injection e1 with e1
    injection e1 with e1
    subst e1
    refine ⟨cur, 0, 0, hh, fun j _ => by simp, fun j u hu => ?_⟩
    rw [← htake, List.getElem?_take] at hu
    split at hu
    · simpa using hu
    · cases hu

end Go.Proofs.Ytgacphicgglogaa
