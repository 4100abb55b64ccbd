/- The evaluator's operations, all of them. -/
import Derived.Test.YtgmhkjmnfafccaaGreatDoorEvL
namespace Go.Proofs.YtgmhkjmnfafccaaGreatDoor
open Go.RowKit
namespace Ev
set_option linter.unusedVariables false
section
variable {P : Program} {T : Tb} {base : Nat} {e : Env} {H H' : AH} {w : World} {x : AV}
theorem map_dr {ev : Operand → AV} {ρ : Operand → Value} (a : Array Operand) (h : ∀ y ∈ a, DR e (ev y) (ρ y)) : DRL e (a.toList.map ev) (a.map ρ).toList := by
  rw [Array.toList_map]
  exact DRL.map _ fun y hy => h y (Array.mem_toList_iff.1 hy)
theorem opt_or {ev : Operand → AV} {ρ : Operand → Value} (r : Option Operand) (h : ∀ y, r = some y → DR e (ev y) (ρ y)) : OR e (opt ev r) (r.map ρ) := by
  cases r with
  | none => exact .none
  | some y => exact .some (h y rfl)
theorem opSlice_ok (hT : TbOk P T) {ev : Operand → AV} {op : Oper} {ρ : Operand → Value} {t : TypeId} {a : Operand} {lo hi mx : Option Operand} (ho : op.op = .slice t a lo hi mx) (hr : HRel base e H w) (hop : ∀ y ∈ op.op.operands, DR e (ev y) (ρ y))
    (ha : DR e (ev a) (ρ a)) (hlo : OR e (opt ev lo) (lo.map ρ)) (hhi : OR e (opt ev hi) (hi.map ρ)) (hmx : OR e (opt ev mx) (mx.map ρ))
    (h : opSlice P T ev op t (ev a) (opt ev lo) (opt ev hi) (opt ev mx) H = some (.val x H')) : Does P base e w (execOp ρ op) x H' := by
  have hex : execOp ρ op = (do pure (.value (← Instr.sliceAt t (ρ a) (lo.map ρ) (hi.map ρ) (mx.map ρ)))) := by
    unfold execOp
    rw [ho]
  generalize hl1 : opt ev lo = l1 at h hlo
  generalize hl2 : opt ev hi = l2 at h hhi
  generalize hl3 : opt ev mx = l3 at h hmx
  generalize lo.map ρ = r1 at hlo hex
  generalize hi.map ρ = r2 at hhi hex
  generalize mx.map ρ = r3 at hmx hex
  generalize ha1 : ev a = a1 at h ha
  generalize ρ a = a2 at ha hex
  unfold opSlice at h
  split at h
  · rename_i s
    split at h
    · rename_i hu
      cases ha
      cases hmx
      rw [hex]
      exact strSlice_ok hT hr hu hhi hlo h
    · cases h
  · unfold one at h
    split at h
    · rename_i y hy
      cases h
      rw [hex]
      cases hmx with
      | none => exact evSlice_ok hT hr ha hhi hlo hy
      | some hm => exact evSlice3_ok hT hr ha hhi hlo hm hy
    · cases h
  · exact (flatOp_ok hr hop h).1
theorem opBuiltin_ok (hT : TbOk P T) {ev : Operand → AV} {op : Oper} {ρ : Operand → Value} {c : Call} {b : Builtin} (ho : op.op = .call c) (hc : c.callee = .builtin b) (hr : HRel base e H w) (hop : ∀ y ∈ op.op.operands, DR e (ev y) (ρ y))
    (hargs : DRL e (c.args.toList.map ev) (c.args.map ρ).toList)
    (h : opBuiltin P T ev op b c.argTypes (c.args.toList.map ev) H = some (.val x H')) (hn : H'.next ≤ 2 ^ depth) : Does P base e w (execOp ρ op) x H' := by
  have hex : execOp ρ op = builtin b c.argTypes op.type (c.args.map fun | .const _ => true | _ => false) (c.args.map ρ) := by
    unfold execOp
    rw [ho]
    simp only [resolve, hc]
    rfl
  unfold opBuiltin at h
  split at h
  · rename_i r hr1
    cases h
    rw [hex]
    generalize c.args.toList.map ev = l at hargs hr1
    obtain ⟨ys, hys⟩ : ∃ ys, (c.args.map ρ).toList = ys := ⟨_, rfl⟩
    have hys' : c.args.map ρ = ys.toArray := by rw [← hys]
    rw [hys] at hargs
    rw [hys']
    unfold evBuiltin at hr1
    split at hr1
    · cases hargs with
      | cons h1 h2 => cases h2; exact opLen_ok hT hr h1 hr1
    · cases hargs with
      | cons h1 h2 => cases h2; exact opCap_ok hT hr h1 hr1
    · cases hargs with
      | cons h1 h2 =>
        cases h2 with
        | cons h2 h3 => cases h3; exact opAppend_ok hT hr h1 h2 hr1 hn
    · cases hargs with
      | cons h1 h2 =>
        cases h2 with
        | cons h2 h3 => cases h3; exact opCopy_ok hT hr h1 h2 hr1
    · cases hargs with
      | cons h1 h2 => cases h2; exact opClear_ok hT hr h1 hr1
    · cases hr1
  · exact (flatOp_ok hr hop h).1
theorem flatOp_val {ev : Operand → AV} {o : Oper} {f : FuncId} {args : List AV} (h : flatOp P ev o H = some (.enter f args H')) : False := by
  unfold flatOp at h
  split at h
  · cases h
  · split at h
    · split at h <;> cases h
    · cases h
theorem opCall_val {ev : Operand → AV} {op : Oper} {ρ : Operand → Value} {f : AV} {args : List AV} (hr : HRel base e H w) (hop : ∀ y ∈ op.op.operands, DR e (ev y) (ρ y))
    (h : opCall P T ev op f args H = some (.val x H')) : Does P base e w (execOp ρ op) x H' := by
  unfold opCall at h
  split at h
  · split at h
    · rename_i fn hf
      cases hb : fn.body.isSome with
      | true => rw [hb] at h; cases h
      | false => rw [hb] at h; exact (flatOp_ok hr hop h).1
    · cases h
  · cases h
theorem evOp_val (hT : TbOk P T) {ev : Operand → AV} {o : Oper} {ρ : Operand → Value} (hr : HRel base e H w) (hop : ∀ y ∈ o.op.operands, DR e (ev y) (ρ y))
    (h : evOp P T ev o H = some (.val x H')) (hn : H'.next ≤ 2 ^ depth) : Does P base e w (execOp ρ o) x H' := by
  unfold evOp at h
  split at h
  case h_1 y ho =>
    cases h
    have hex : execOp ρ o = pure (.value (ρ y)) := by unfold execOp; rw [ho]
    rw [hex]
    exact does_pure hr (hop y (by rw [ho]; simp [Op.operands]))
  case h_2 y ho =>
    cases h
    have hex : execOp ρ o = pure (.value (ρ y)) := by unfold execOp; rw [ho]
    rw [hex]
    exact does_pure hr (hop y (by rw [ho]; simp [Op.operands]))
  case h_3 c a b ho =>
    have hex : execOp ρ o = (do pure (.value (if ← asBool (ρ c) then ρ a else ρ b))) := by unfold execOp; rw [ho]
    rw [hex]
    exact pick_ok hr (hop c (by rw [ho]; simp [Op.operands])) (hop a (by rw [ho]; simp [Op.operands])) (hop b (by rw [ho]; simp [Op.operands])) h
  case h_4 t i ho =>
    have hex : execOp ρ o = (do pure (.value (← Instr.extract (ρ t) i))) := by unfold execOp; rw [ho]
    rw [hex]
    exact extract_ok hr (hop t (by rw [ho]; simp [Op.operands])) h
  case h_5 t a ho =>
    have hex : execOp ρ o = (do pure (.value (← Instr.loadAt t (ρ a)))) := by unfold execOp; rw [ho]
    rw [hex]
    exact opLoad_ok hT hr (hop a (by rw [ho]; simp [Op.operands])) h
  case h_6 t a y ho =>
    have hex : execOp ρ o = (do Instr.storeAt t (ρ a) (ρ y); pure .skip) := by unfold execOp; rw [ho]
    rw [hex]
    exact opStore_ok hT hr (hop a (by rw [ho]; simp [Op.operands])) (hop y (by rw [ho]; simp [Op.operands])) h
  case h_7 el ho =>
    have hex : execOp ρ o = (do pure (.value (← Instr.alloc el true (.tuple #[])))) := by unfold execOp; rw [ho]
    rw [hex]
    exact opAlloc_ok hT hr h hn
  case h_8 el y ho =>
    have hex : execOp ρ o = (do pure (.value (← Instr.box el (ρ y)))) := by unfold execOp; rw [ho]
    rw [hex]
    cases hb : (ev y).cells.all oneB with
    | true =>
      rw [hb] at h
      cases h
      exact opBox_ok hr (hop y (by rw [ho]; simp [Op.operands])) hn
    | false => rw [hb] at h; cases h
  case h_9 t parts ho =>
    have hex : execOp ρ o = (do pure (.value (← Instr.build t (parts.map fun (i, x) => (i, ρ x))))) := by unfold execOp; rw [ho]
    rw [hex]
    exact opBuild_ok hT hr (fun p hp => hop p.2 (by rw [ho]; simp only [Op.operands]; exact List.mem_toArray.2 (List.mem_map.2 ⟨p, hp, rfl⟩))) h
  case h_10 t len parts ho =>
    have hex : execOp ρ o = (do pure (.value (← Instr.buildSlice t len (parts.map fun (i, x) => (i, ρ x))))) := by unfold execOp; rw [ho]
    rw [hex]
    exact opBuildSlice_ok hT hr (fun p hp => hop p.2 (by rw [ho]; simp only [Op.operands]; exact List.mem_toArray.2 (List.mem_map.2 ⟨p, hp, rfl⟩))) h hn
  case h_11 y ho => exact opNil_ok ho rfl hr (hop y (by rw [ho]; simp [Op.operands])) h
  case h_12 s y f ho =>
    have hex : execOp ρ o = (do pure (.value (← Instr.fieldAt s (ρ y) f))) := by unfold execOp; rw [ho]
    rw [hex]
    exact opFieldAddr_ok hT hr (hop y (by rw [ho]; simp [Op.operands])) h
  case h_13 t y i ho =>
    have hex : execOp ρ o = (do pure (.value (← Instr.indexAt t (ρ y) (ρ i)))) := by unfold execOp; rw [ho]
    rw [hex]
    exact opIndexAddr_ok hT hr (hop y (by rw [ho]; simp [Op.operands])) (hop i (by rw [ho]; simp [Op.operands])) h
  case h_14 t y f ho => exact opField_ok hT ho hr hop (hop y (by rw [ho]; simp [Op.operands])) h
  case h_15 fn first captured ho =>
    cases h
    have hex : execOp ρ o = (do pure (.value (← Instr.makeFunc fn (first.map ρ) (captured.map ρ)))) := by unfold execOp; rw [ho]
    rw [hex]
    refine does_pure hr (r := .func fn (first.map ρ) (captured.map ρ)) ?_
    have h1 := map_dr (e := e) first fun y hy => hop y (by rw [ho]; simp [Op.operands, hy])
    have h2 := map_dr (e := e) captured fun y hy => hop y (by rw [ho]; simp [Op.operands, hy])
    exact DR.fn h1 h2
  case h_16 t r ho =>
    have hex : execOp ρ o = (do pure (.value (← Instr.makeMap t (r.map ρ)))) := by unfold execOp; rw [ho]
    rw [hex]
    exact opMakeMap_ok hT hr (fun y hy => hop y (by rw [ho, hy]; simp [Op.operands])) h hn
  case h_17 t l c ho =>
    have hex : execOp ρ o = (do pure (.value (← Instr.makeSlice t (ρ l) (ρ c)))) := by unfold execOp; rw [ho]
    rw [hex]
    exact opMakeSlice_ok hT hr (hop l (by rw [ho]; simp [Op.operands])) (hop c (by rw [ho]; simp [Op.operands])) h hn
  case h_18 t m k y ho =>
    have hex : execOp ρ o = (do Instr.mapUpdate t (ρ m) (ρ k) (ρ y); pure .skip) := by unfold execOp; rw [ho]
    rw [hex]
    exact opMapUpdate_ok hT hr (hop m (by rw [ho]; simp [Op.operands])) (hop k (by rw [ho]; simp [Op.operands])) (hop y (by rw [ho]; simp [Op.operands])) h
  case h_19 t m k y ho =>
    have hex : execOp ρ o = (do Instr.mapUpdate t (ρ m) (ρ k) (ρ y); pure .skip) := by unfold execOp; rw [ho]
    rw [hex]
    exact opMapUpdate_ok hT hr (hop m (by rw [ho]; simp [Op.operands])) (hop k (by rw [ho]; simp [Op.operands])) (hop y (by rw [ho]; simp [Op.operands])) h
  case h_20 t m k ok ho =>
    have hex : execOp ρ o = (do pure (.value (← Instr.lookup t (ρ m) (ρ k) ok))) := by unfold execOp; rw [ho]
    rw [hex]
    exact opLookup_ok hT hr (hop m (by rw [ho]; simp [Op.operands])) (hop k (by rw [ho]; simp [Op.operands])) h
  case h_21 t y ho =>
    have hex : execOp ρ o = (do pure (.value (← Instr.range t (ρ y)))) := by unfold execOp; rw [ho]
    rw [hex]
    exact opRange_ok hT hr (hop y (by rw [ho]; simp [Op.operands])) h hn
  case h_22 it s ho =>
    have hex : execOp ρ o = (do pure (.value (← Instr.next (ρ it) s o.type))) := by unfold execOp; rw [ho]
    rw [hex]
    exact opNext_ok hr (hop it (by rw [ho]; simp [Op.operands])) h
  case h_23 it ho =>
    have hex : execOp ρ o = (do pure (.value (← Instr.entry (ρ it)))) := by unfold execOp; rw [ho]
    rw [hex]
    exact opEntry_ok hr (hop it (by rw [ho]; simp [Op.operands])) h
  case h_24 t y i ho => exact opIndex_ok hT ho hr hop (hop y (by rw [ho]; simp [Op.operands])) (hop i (by rw [ho]; simp [Op.operands])) h
  case h_25 t y lo hi mx ho =>
    exact opSlice_ok hT ho hr hop (hop y (by rw [ho]; simp [Op.operands])) (opt_or lo fun z hz => hop z (by rw [ho, hz]; simp [Op.operands])) (opt_or hi fun z hz => hop z (by rw [ho, hz]; simp [Op.operands])) (opt_or mx fun z hz => hop z (by rw [ho, hz]; simp [Op.operands])) h
  case h_26 bop t y z u ho => exact opBin_ok hT ho hr hop (hop y (by rw [ho]; simp [Op.operands])) (hop z (by rw [ho]; simp [Op.operands])) h
  case h_27 uop t y ho => exact opUn_ok ho hr hop (hop y (by rw [ho]; simp [Op.operands])) h
  case h_28 s d y ho => exact opConvert_ok hT ho hr hop (hop y (by rw [ho]; simp [Op.operands])) h hn
  case h_29 c ho =>
    unfold opCall0 at h
    split at h
    · rename_i b hc
      exact opBuiltin_ok hT ho hc hr hop (map_dr c.args fun y hy => hop y (by rw [ho]; simp [Op.operands, Call.operands, hc, hy])) h hn
    · exact opCall_val hr hop h
    · cases h
  case h_30 => exact (flatOp_ok hr hop h).1
def notIn : Option Gives → Prop
  | some (.enter ..) => False
  | _ => True
theorem notIn_no {r : Option Gives} {f : FuncId} {args : List AV} (h : r = some (.enter f args H')) (k : notIn r) : False := by subst h; exact k
theorem ni_one {y : Option AV} : notIn (one y H) := by cases y <;> exact trivial
theorem ni_void {y : Option AH} : notIn (void y) := by cases y <;> exact trivial
theorem ni_flat {ev : Operand → AV} {o : Oper} : notIn (flatOp P ev o H) := by
  unfold flatOp
  repeat' (first | exact trivial | split)
theorem ni_cond {b : Bool} {r r' : Option Gives} (h : notIn r) (h' : notIn r') : notIn (bif b then r else r') := by cases b <;> assumption
theorem ni_append {el : TypeId} {s : AV} {new : List AV} {n size : Nat} : notIn (evAppend H el s new n size) := by
  unfold evAppend
  repeat' (first | exact trivial | apply ni_cond | split)
theorem ni_builtin {b : Builtin} {ts : Array TypeId} {l : List AV} : notIn (evBuiltin T H b ts l) := by
  unfold evBuiltin opLen opCap opAppend opCopy opClear appendMade appendSrc
  repeat' (first | exact trivial | exact ni_append | apply ni_cond | split)
/-- Only calls enter. -/
theorem evOp_calls {ev : Operand → AV} {o : Oper} {f : FuncId} {args : List AV} (h : evOp P T ev o H = some (.enter f args H')) : ∃ c, o.op = .call c := by
  unfold evOp at h
  split at h
  case h_29 c ho => exact ⟨c, ho⟩
  all_goals
    exfalso
    refine notIn_no h ?_
    first
      | exact trivial
      | exact ni_flat
      | (apply ni_cond <;> exact trivial)
      | (simp only [opPick, opExtract, opLoad, opStore, opAlloc, opBuild, opBuildSlice, opEmptySlice, opFullSlice, opNil, opFieldAddr, opIndexAddr, opField, opMakeMap, opMakeSlice, opMapUpdate, opLookup, opRange, opNext, nextOf, opEntry, opConvert, opIndex, opSlice, strSlice, opBin, opEql, opUn]; repeat' (first | exact trivial | exact ni_flat | exact ni_one | exact ni_void | apply ni_cond | split))
/-- What a call enters. -/
theorem evOp_enter (hT : TbOk P T) {ev : Operand → AV} {o : Oper} {ρ : Operand → Value} {f : FuncId} {args : List AV} (hop : ∀ y ∈ o.op.operands, DR e (ev y) (ρ y))
    (h : evOp P T ev o H = some (.enter f args H')) : H' = H ∧ ∃ ys, DRL e args ys ∧ ∀ w, (execOp ρ o).run P w = .ok (.enter f ys.toArray) w := by
  obtain ⟨c, ho⟩ := evOp_calls h
  have h1 : evOp P T ev o H = opCall0 P T ev o c H := by
    unfold evOp
    rw [ho]
  rw [h1] at h
  unfold opCall0 at h
  split at h
  · refine (notIn_no h ?_).elim
    unfold opBuiltin
    split
    · rename_i r hr
      rw [← hr]
      exact ni_builtin
    · exact ni_flat
  · rename_i fo hc
    unfold opCall at h
    split at h
    · rename_i g first captured hev
      split at h
      · rename_i fn hf
        cases hb : fn.body.isSome with
        | false => rw [hb] at h; exact (flatOp_val h).elim
        | true =>
          rw [hb] at h
          cases h
          have hfo := hop fo (by rw [ho]; simp [Op.operands, Call.operands, hc])
          rw [hev] at hfo
          obtain ⟨xs, ys, hρ, h1, h2⟩ : ∃ xs ys, ρ fo = .func (.func f) xs ys ∧ DRL e first xs.toList ∧ DRL e captured ys.toList := by
            generalize ρ fo = r at hfo
            cases hfo with
            | fn h1 h2 => exact ⟨_, _, rfl, h1, h2⟩
          have h3 := map_dr (e := e) c.args fun y hy => hop y (by rw [ho]; simp [Op.operands, Call.operands, hc, hy])
          refine ⟨rfl, _, h1.append (h3.append h2), fun w => ?_⟩
          have hfun := hT.func _ _ hf
          have hng := hT.ng _ _ hf
          have hng' : ¬ fn.name = "runtime.NumGoroutine" := by simpa using hng
          obtain ⟨bd, hbd⟩ := Option.isSome_iff_exists.1 hb
          unfold execOp
          rw [ho]
          simp only [resolve, hc, hρ, Deferred.ofValue, invoke]
          simp [Sem.run_bind, callFunc, program, Sem.run, hfun, hng', hbd]
      · cases h
    · cases h
  · cases h
end
end Ev
end Go.Proofs.YtgmhkjmnfafccaaGreatDoor
