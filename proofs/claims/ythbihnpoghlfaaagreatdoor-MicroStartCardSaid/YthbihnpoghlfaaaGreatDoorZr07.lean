import Derived.ScopeJumps
import Derived.OrdersIn
import Derived.TacticsIn
import Derived.RangeFuncCalls
import Derived.RangeFuncLeaves
import Derived.Test.YthbihnpoghlfaaaGreatDoorZr06
set_option linter.unusedVariables false
set_option linter.unusedSimpArgs false
set_option maxHeartbeats 8000000
set_option maxRecDepth 100000
namespace Go.Proofs.YthbihnpoghlfaaaGreatDoor
section
open Go.RowKit
namespace Ev
section
variable {P:Program} {T:Tb} {base:CJ} {e:Env} {H H':AH} {w:World} {x:AV}
theorem M9 {ev:Operand->AV} {ρ:Operand->Value} (a:Array Operand) (h:∀y∈a,DR e (ev y) (ρ y)):BP e (a.toList.map ev) (a.map ρ).toList:=by
 rw[jH];exact BP.map _ fun y j=>h y (Array.mem_toList_iff.1 j)
theorem UF {ev:Operand->AV} {ρ:Operand->Value} (r:Option Operand) (h:∀y,r=some y->DR e (ev y) (ρ y)):OR e (XN ev r) (r.map ρ):=by
 cases r with
 |none=>exact .none
 |some y=>exact .some (h y rfl)
theorem Tn (J:B3 P T) {ev:Operand->AV} {op:Oper} {ρ:Operand->Value} {t:TypeId} {a:Operand} {lo hi mx:Option Operand} (ho:op.op=.slice t a lo hi mx) (I:AO base e H w) (R:∀y∈op.op.operands,DR e (ev y) (ρ y))
  (ha:DR e (ev a) (ρ a)) (j:OR e (XN ev lo) (lo.map ρ)) (o:OR e (XN ev hi) (hi.map ρ)) (p:OR e (XN ev mx) (mx.map ρ))
  (h:IA P T ev op t (ev a) (XN ev lo) (XN ev hi) (XN ev mx) H=some (.val x H')):Cl P base e w (execOp ρ op) x H':=by
 have hex:execOp ρ op=(do pure (.value (<-Instr.sliceAt t (ρ a) (lo.map ρ) (hi.map ρ) (mx.map ρ)))):=by
  unfold execOp;rw[ho]
 generalize a7:XN ev lo=l1 at h j;generalize a8:XN ev hi=l2 at h o;generalize b0:XN ev mx=l3 at h p;generalize lo.map ρ=r1 at j hex;generalize hi.map ρ=r2 at o hex;generalize mx.map ρ=r3 at p hex;generalize b1:ev a=a1 at h ha;generalize ρ a=a2 at ha hex;unfold IA at h;split at h
 ·rename_i s;split at h
  ·rename_i hu;cases ha;cases p;rw[hex];exact Rc J I hu o j h
  ·cases h
 ·unfold one at h;split at h
  ·rename_i y U;cases h;rw[hex];cases p with
   |none=>exact Uk J I ha o j U
   |some hm=>exact RC J I ha o j hm U
  ·cases h
 ·exact(CM I R h).1
theorem QB (R:B3 P T) {ev:Operand->AV} {op:Oper} {ρ:Operand->Value} {c:Call} {b:Builtin} (ho:op.op=.call c) (hc:c.callee=.builtin b) (J:AO base e H w) (a6:∀y∈op.op.operands,DR e (ev y) (ρ y))
  (j:BP e (c.args.toList.map ev) (c.args.map ρ).toList)
  (h:EI P T ev op b c.argTypes (c.args.toList.map ev) H=some (.val x H')) (hn:H'.next<=2^depth):Cl P base e w (execOp ρ op) x H':=by
 have hex:execOp ρ op=builtin b c.argTypes op.type (c.args.map fun|.const _=>true|_=>false) (c.args.map ρ):=by
  unfold execOp;rw[ho];simp only[resolve,hc];rfl
 unfold EI at h;split at h
 ·rename_i r o;cases h;rw[hex];generalize c.args.toList.map ev=l at j o;obtain⟨ys,U⟩:∃ys,(c.args.map ρ).toList=ys:=⟨_,rfl⟩;have a1:c.args.map ρ=ys.toArray:=by rw[<-U]
  rw[U]at j;rw[a1];unfold Ex at o;split at o
  ·cases j with
   |cons I p=>cases p;exact Zp R J I o
  ·cases j with
   |cons I p=>cases p;exact Zc R J I o
  ·cases j with
   |cons I p=>
    cases p with
    |cons p h3=>cases h3;exact S4 R J I p o hn
  ·cases j with
   |cons I p=>
    cases p with
    |cons p h3=>cases h3;exact WD R J I p o
  ·cases j with
   |cons I p=>cases p;exact Va R J I o
  ·cases o
 ·exact(CM J a6 h).1
theorem Tz {ev:Operand->AV} {o:Oper} {f:FuncId} {args:List AV} (h:CI P ev o H=some (.enter f args H')):False:=by
 unfold CI at h;split at h
 ·cases h
 ·cases h
 ·split at h
  ·split at h<;>cases h
  ·cases h
theorem Ul {ev:Operand->AV} {op:Oper} {ρ:Operand->Value} {f:AV} {args:List AV} (p:AO base e H w) (j:∀y∈op.op.operands,DR e (ev y) (ρ y))
  (h:Nl P T ev op f args H=some (.val x H')):Cl P base e w (execOp ρ op) x H':=by
 unfold Nl at h;split at h
 ·split at h
  ·rename_i fn I;cases o:fn.body.isSome with
   |true=>rw[o]at h;cases h
   |false=>rw[o]at h;exact(CM p j h).1
  ·cases h
 ·cases h
 ·cases h
theorem Rq (R:B3 P T) {ev:Operand->AV} {o:Oper} {ρ:Operand->Value} (J:AO base e H w) (j:∀y∈o.op.operands,DR e (ev y) (ρ y))
  (h:E6 P T ev o H=some (.val x H')) (U:H'.next<=2^depth):Cl P base e w (execOp ρ o) x H':=by
 unfold E6 at h;split at h
 case h_1 y I=>
  cases h;have hex:execOp ρ o=pure (.value (ρ y)):=by unfold execOp;rw[I]
  rw[hex];exact EH J (j y (by rw[I];simp[Op.operands]))
 case h_2 y I=>
  cases h;have hex:execOp ρ o=pure (.value (ρ y)):=by unfold execOp;rw[I]
  rw[hex];exact EH J (j y (by rw[I];simp[Op.operands]))
 case h_3 c a b I=>
  have hex:execOp ρ o=(do pure (.value (if <-asBool (ρ c)then ρ a else ρ b))):=by unfold execOp;rw[I]
  rw[hex];exact ZaV J (j c (by rw[I];simp[Op.operands])) (j a (by rw[I];simp[Op.operands])) (j b (by rw[I];simp[Op.operands])) h
 case h_4 t i I=>
  have hex:execOp ρ o=(do pure (.value (<-Instr.extract (ρ t) i))):=by unfold execOp;rw[I]
  rw[hex];exact Tm J (j t (by rw[I];simp[Op.operands])) h
 case h_5 t a I=>
  have hex:execOp ρ o=(do pure (.value (<-Instr.loadAt t (ρ a)))):=by unfold execOp;rw[I]
  rw[hex];exact XT R J (j a (by rw[I];simp[Op.operands])) h
 case h_6 t a y I=>
  have hex:execOp ρ o=(do Instr.storeAt t (ρ a) (ρ y);pure .skip):=by unfold execOp;rw[I]
  rw[hex];exact T0 R J (j a (by rw[I];simp[Op.operands])) (j y (by rw[I];simp[Op.operands])) h
 case h_7 el I=>
  have hex:execOp ρ o=(do pure (.value (<-Instr.alloc el true (.tuple #[])))):=by unfold execOp;rw[I]
  rw[hex];exact Ta R J h U
 case h_8 el y I=>
  have hex:execOp ρ o=(do pure (.value (<-Instr.box el (ρ y)))):=by unfold execOp;rw[I]
  rw[hex];cases hb:(ev y).cells.all K4 with
  |true=>
   rw[hb]at h;cases h;exact Yo J (j y (by rw[I];simp[Op.operands])) U
  |false=>rw[hb]at h;cases h
 case h_9 t parts I=>
  have hex:execOp ρ o=(do pure (.value (<-Instr.build t (parts.map fun(i,x)=>(i,ρ x))))):=by unfold execOp;rw[I]
  rw[hex];exact Te R J (fun p hp=>j p.2 (by rw[I];simp only[Op.operands];exact List.mem_toArray.2 (dF.2 ⟨p,hp,rfl⟩))) h
 case h_10 t len parts I=>
  have hex:execOp ρ o=(do pure (.value (<-Instr.buildSlice t len (parts.map fun(i,x)=>(i,ρ x))))):=by unfold execOp;rw[I]
  rw[hex];exact LR R J (fun p hp=>j p.2 (by rw[I];simp only[Op.operands];exact List.mem_toArray.2 (dF.2 ⟨p,hp,rfl⟩))) h U
 case h_11 y I=>exact ZQ I rfl J (j y (by rw[I];simp[Op.operands])) h
 case h_12 s y f I=>
  have hex:execOp ρ o=(do pure (.value (<-Instr.fieldAt s (ρ y) f))):=by unfold execOp;rw[I]
  rw[hex];exact NH R J (j y (by rw[I];simp[Op.operands])) h
 case h_13 t y i I=>
  have hex:execOp ρ o=(do pure (.value (<-Instr.indexAt t (ρ y) (ρ i)))):=by unfold execOp;rw[I]
  rw[hex];exact Nc R J (j y (by rw[I];simp[Op.operands])) (j i (by rw[I];simp[Op.operands])) h
 case h_14 t y f I=>exact Up R I J j (j y (by rw[I];simp[Op.operands])) h
 case h_15 fn first captured I=>
  cases h;have hex:execOp ρ o=(do pure (.value (<-Instr.makeFunc fn (first.map ρ) (captured.map ρ)))):=by unfold execOp;rw[I]
  rw[hex];refine EH J (r:=.func fn (first.map ρ) (captured.map ρ)) ?_;have h1:=M9 (e:=e) first fun y hy=>j y (by rw[I];simp[Op.operands,hy])
  have h2:=M9 (e:=e) captured fun y hy=>j y (by rw[I];simp[Op.operands,hy])
  exact DR.fn h1 h2
 case h_16 t r I=>
  have hex:execOp ρ o=(do pure (.value (<-Instr.makeMap t (r.map ρ)))):=by unfold execOp;rw[I]
  rw[hex];exact QI R J (fun y hy=>j y (by rw[I,hy];simp[Op.operands])) h U
 case h_17 t l c I=>
  have hex:execOp ρ o=(do pure (.value (<-Instr.makeSlice t (ρ l) (ρ c)))):=by unfold execOp;rw[I]
  rw[hex];exact Nh R J (j l (by rw[I];simp[Op.operands])) (j c (by rw[I];simp[Op.operands])) h U
 case h_18 t m k y I=>
  have hex:execOp ρ o=(do Instr.mapUpdate t (ρ m) (ρ k) (ρ y);pure .skip):=by unfold execOp;rw[I]
  rw[hex];exact Iw R J (j m (by rw[I];simp[Op.operands])) (j k (by rw[I];simp[Op.operands])) (j y (by rw[I];simp[Op.operands])) h
 case h_19 t m k y I=>
  have hex:execOp ρ o=(do Instr.mapUpdate t (ρ m) (ρ k) (ρ y);pure .skip):=by unfold execOp;rw[I]
  rw[hex];exact Iw R J (j m (by rw[I];simp[Op.operands])) (j k (by rw[I];simp[Op.operands])) (j y (by rw[I];simp[Op.operands])) h
 case h_20 t m k ok I=>
  have hex:execOp ρ o=(do pure (.value (<-Instr.lookup t (ρ m) (ρ k) ok))):=by unfold execOp;rw[I]
  rw[hex];exact Sm R J (j m (by rw[I];simp[Op.operands])) (j k (by rw[I];simp[Op.operands])) h
 case h_21 t y I=>
  have hex:execOp ρ o=(do pure (.value (<-Instr.range t (ρ y)))):=by unfold execOp;rw[I]
  rw[hex];exact Tx R J (j y (by rw[I];simp[Op.operands])) h U
 case h_22 it s I=>
  have hex:execOp ρ o=(do pure (.value (<-Instr.next (ρ it) s o.type))):=by unfold execOp;rw[I]
  rw[hex];exact XS J (j it (by rw[I];simp[Op.operands])) h
 case h_23 it I=>
  have hex:execOp ρ o=(do pure (.value (<-Instr.entry (ρ it)))):=by unfold execOp;rw[I]
  rw[hex];exact To J (j it (by rw[I];simp[Op.operands])) h
 case h_24 t y i I=>exact Uq R I J j (j y (by rw[I];simp[Op.operands])) (j i (by rw[I];simp[Op.operands])) h
 case h_25 t y lo hi mx I=>
  exact Tn R I J j (j y (by rw[I];simp[Op.operands])) (UF lo fun z hz=>j z (by rw[I,hz];simp[Op.operands])) (UF hi fun z hz=>j z (by rw[I,hz];simp[Op.operands])) (UF mx fun z hz=>j z (by rw[I,hz];simp[Op.operands])) h
 case h_26 b3 t y z u I=>exact ZS R I J j (j y (by rw[I];simp[Op.operands])) (j z (by rw[I];simp[Op.operands])) h
 case h_27 b4 t y I=>exact Za7 I J j (j y (by rw[I];simp[Op.operands])) h
 case h_28 s d y I=>exact PN R I J j (j y (by rw[I];simp[Op.operands])) h U
 case h_29 c I=>
  unfold GP at h;split at h
  ·rename_i b hc;exact QB R I hc J j (M9 c.args fun y hy=>j y (by rw[I];simp[Op.operands,Call.operands,hc,hy])) h U
  ·exact Ul J j h
  ·cases h
 case h_30=>exact(CM J j h).1
def Jd:Option Bs->Prop
 |some (.enter ..)=>False
 |some (.round ..)=>False
 |_=>True
theorem Rg {r:Option Bs} {f:FuncId} {args:List AV} (h:r=some (.enter f args H')) (k:Jd r):False:=by subst h;exact k
theorem ZA {y:Option AV}:Jd (one y H):=by cases y<;>exact trivial
theorem VI {y:Option AH}:Jd (Zb1 y):=by cases y<;>exact trivial
theorem GR {ev:Operand->AV} {o:Oper}:Jd (CI P ev o H):=by
 unfold CI
 repeat' (first|exact trivial|split)
theorem II {b:Bool} {r j:Option Bs} (h:Jd r) (o:Jd j):Jd (bif b then r else j):=by cases b<;>assumption
theorem WN {j:TypeId} {s:AV} {new:List AV} {n size:Nat}:Jd (Eu H j s new n size):=by
 unfold Eu
 repeat' (first|exact trivial|apply II|split)
theorem NS {b:Builtin} {ts:Array TypeId} {l:List AV}:Jd (Ex T H b ts l):=by
 unfold Ex RT RG KM Qw L2 GW Gi
 repeat' (first|exact trivial|exact WN|apply II|split)
theorem UZ {ev:Operand->AV} {o:Oper} {f:FuncId} {args:List AV} (h:E6 P T ev o H=some (.enter f args H')):∃c,o.op=.call c:=by
 unfold E6 at h;split at h
 case h_29 c j=>exact⟨c,j⟩
 all_goals
  exfalso;refine Rg h ?_
  first
   |exact trivial
   |exact GR
   |(apply II<;>exact trivial)
   |(simp only[Lk,Fh,Ln,Ko,JS,IX,Er,Fb,FW,Pb,DZ,D3,IE,Gj,E2,D6,Gs,JZ,Nd,GO,Kr,EJ,IU,IA,Gk,Pg,Ng,Xc];repeat' (first|exact trivial|exact GR|exact ZA|exact VI|apply II|split))
theorem UB (hT:B3 P T) {ev:Operand->AV} {o:Oper} {ρ:Operand->Value} {f:FuncId} {args:List AV} (p:∀y∈o.op.operands,DR e (ev y) (ρ y))
  (h:E6 P T ev o H=some (.enter f args H')):H'=H/\∃ys,BP e args ys/\∀w,(execOp ρ o).run P w=.ok (.enter f ys.toArray) w:=by
 obtain⟨c,U⟩:=UZ h;have I:E6 P T ev o H=GP P T ev o c H:=by
  unfold E6;rw[U]
 rw[I]at h;unfold GP at h;split at h
 ·refine(Rg h ?_).elim;unfold EI;split
  ·rename_i r hr;rw[<-hr];exact NS
  ·exact GR
 ·rename_i fo hc;unfold Nl at h;split at h
  ·rename_i g first captured a7
   split at h
   ·rename_i fn hf;cases hb:fn.body.isSome with
    |false=>rw[hb]at h;exact(Tz h).elim
    |true=>
     rw[hb]at h;cases h;have j:=p fo (by rw[U];simp[Op.operands,Call.operands,hc]);rw[a7]at j;obtain⟨xs,ys,b0,I,h2⟩:∃xs ys,ρ fo=.func (.func f) xs ys/\BP e first xs.toList/\BP e captured ys.toList:=by
      generalize ρ fo=r at j;cases j with
      |fn I h2=>exact⟨_,_,rfl,I,h2⟩
     have h3:=M9 (e:=e) c.args fun y hy=>p y (by rw[U];simp[Op.operands,Call.operands,hc,hy])
     refine⟨rfl,_,I.append (h3.append h2),fun w=>?_⟩;have J:=hT.func _ _ hf;have b2:=hT.ng _ _ hf;have R : ¬fn.name = "runtime.NumGoroutine" := by simpa using b2
     obtain⟨bd,b3⟩:=iY.1 hb;unfold execOp;rw[U];simp only[resolve,hc,b0,Deferred.ofValue,invoke];simp[aX,callFunc,program,Sem.run,J,R,b3]
   ·cases h
  ·cases h
  ·cases h
 ·cases h
theorem NE {r:Option Bs} {b:Nat} {args:List AV} (h:r=some (.round b args H')) (k:Jd r):False:=by subst h;exact k
theorem Xp {ev:Operand->AV} {o:Oper} {b:Nat} {args:List AV} (h:CI P ev o H=some (.round b args H')):False:=NE h GR
theorem U3 (hT:B3 P T) {ev:Operand->AV} {o:Oper} {ρ:Operand->Value} {b:Nat} {args:List AV} (I:∀y∈o.op.operands,DR e (ev y) (ρ y))
  (h:E6 P T ev o H=some (.round b args H')):H'=H/\∃g J z ys,e b=some (g,J,z)/\BP e args ys/\∀w,(execOp ρ o).run P w=(Instr.yield g ys.toArray).run P w:=by
 have R:∃c,o.op=.call c:=by
  unfold E6 at h;split at h
  case h_29 c p=>exact⟨c,p⟩
  all_goals
   exfalso;refine NE h ?_
   first
    |exact trivial
    |exact GR
    |(apply II<;>exact trivial)
    |(simp only[Lk,Fh,Ln,Ko,JS,IX,Er,Fb,FW,Pb,DZ,D3,IE,Gj,E2,D6,Gs,JZ,Nd,GO,Kr,EJ,IU,IA,Gk,Pg,Ng,Xc];repeat' (first|exact trivial|exact GR|exact ZA|exact VI|apply II|split))
 obtain⟨c,p⟩:=R;have U:E6 P T ev o H=GP P T ev o c H:=by
  unfold E6;rw[p]
 rw[U]at h;unfold GP at h;split at h
 ·refine(NE h ?_).elim;unfold EI;split
  ·rename_i r hr;rw[<-hr];exact NS
  ·exact GR
 ·rename_i fo R;unfold Nl at h;split at h
  ·split at h
   ·rename_i fn hf;cases hb:fn.body.isSome with
    |false=>rw[hb]at h;exact(Xp h).elim
    |true=>rw[hb]at h;cases h
   ·cases h
  ·rename_i b' a6;cases h;have j:=I fo (by rw[p];simp[Op.operands,Call.operands,R]);rw[a6]at j;obtain⟨g,J,z,a7,U⟩:∃g J z,ρ fo=.func (.yield g) #[] #[]/\e b=some (g,J,z):=by
    generalize ρ fo=r at j;cases j with
    |S9 U=>exact⟨_,_,_,rfl,U⟩
   have h3:=M9 (e:=e) c.args fun y hy=>I y (by rw[p];simp[Op.operands,Call.operands,R,hy])
   refine⟨rfl,g,J,z,_,U,h3,fun w=>?_⟩;unfold execOp;rw[p];simp only[resolve,R,a7,Deferred.ofValue,invoke,fY];simp
  ·cases h
 ·cases h
end
end Ev
end
section
open Go.RowKit
namespace Ev
inductive MR (e:Env):List Nat->List Deferred->Prop where
 |nil:MR e [] []
 |cons {b g o z:Nat} {m:List Nat} {ds:List Deferred}:e b=some (g,o,z)->MR e m ds->MR e (b::m) ({target:=.collected g,args:=#[]}::ds)
theorem MR.mono {e e':Env} (he:Fp e e') {m:List Nat} {ds:List Deferred} (h:MR e m ds):MR e' m ds:=by
 induction h with
 |nil=>exact .nil
 |cons j _ ih=>exact .cons (he _ _ j) ih
structure FR (e:Env) (F:Fr) (a:Act):Prop where
 size:a.tmps.size=F.n
 le:F.n<=1024
 get:∀i,DR e (F.get i) (a.tmps[i]?.getD undef)
 defers:MR e F.m a.defers
theorem FR.tr {e:Env} {F:Fr} {a:Act} (h:FR e F a):TR e F a.tmps:=⟨h.size,h.le,h.get⟩
section
variable {P:Program} {T:Tb} {base:CJ} {e e':Env} {H H':AH} {w w':World} {x:AV} {F F':Fr} {a:Act}
theorem FR.mono (h:FR e F a) (he:Fp e e'):FR e' F a:=⟨h.size,h.le,fun i=>(h.get i).mono he,h.defers.mono he⟩
theorem Fr.DG (F:Fr) (d i:Nat) (x:AV) (j:d<F.n) (p:F.n<=1024):(F.put (some d) x).get i=if i=d then x else F.get i:=by
 unfold Fr.put;have o:Nat.blt d F.n=true:=by rw[dP];exact j
 simp only[o,cX];unfold Fr.get;simp only;rw[Tr.IY 10 F.t d i (some x) (by omega)];by_cases hi:i=d
 ·rw[if_pos hi,if_pos hi]
 ·rw[if_neg hi,if_neg hi]
theorem Fr.YB (F:Fr) (d:Option Tmp) (x:AV):(F.put d x).n=F.n:=by
 unfold Fr.put;cases d with
 |none=>rfl
 |some d=>simp only;cases Nat.blt d F.n<;>rfl
theorem Fr.ZbD (F:Fr) (d:Option Tmp) (x:AV):(F.put d x).m=F.m:=by
 unfold Fr.put;cases d with
 |none=>rfl
 |some d=>simp only;cases Nat.blt d F.n<;>rfl
theorem FR.put (h:FR e F a) (d:Option Tmp) {y:Value} (p:DR e x y):FR e (F.put d x) (a.put d y):=by
 cases d with
 |none=>exact h
 |some d=>
  by_cases j:d<F.n
  ·refine⟨by rw[Fr.YB];simp[Act.put,h.size],by rw[Fr.YB];exact h.le,fun i=>?_,by rw[Fr.ZbD];exact h.defers⟩;rw[Fr.DG F d i x j h.le];by_cases hi:i=d
   ·subst hi;rw[if_pos rfl];simp[Act.put,h.size,j];exact p
   ·rw[if_neg hi];simp only[Act.put,cK (fun e=>hi e.symm)];exact h.get i
  ·have I:F.put (some d) x=F:=by
    unfold Fr.put;have J:Nat.blt d F.n=false:=by
     cases o:Nat.blt d F.n with
     |false=>rfl
     |true=>rw[dP]at o;exact absurd o j
    simp only[J,eJ]
   have R:a.put (some d) y=a:=by
    have:a.tmps.size<=d:=by rw[h.size];exact jF j
    simp[Act.put,Array.setIfInBounds_eq_of_size_le this]
   rw[I,R];exact h
theorem FR.eval (h:FR e F a) (y:Operand):DR e (E9 F y) (a.eval y):=by
 cases y with
 |tmp t=>
  show DR e (F.get t) (a.tmps.getD t undef);rw[eP];exact h.get t
 |const v=>exact .v v
 |global g=>exact .v _
 |func f=>exact .fn .nil .nil
theorem VS {y:Value} (h:DR e x y) (b:Bool):x=.v (.bool b)↔y=.bool b:=by
 cases h with
 |v z=>exact⟨fun h=>by cases h;rfl,fun h=>by rw[h]⟩
 |_=>exact⟨fun h=>(by cases h),fun h=>(by cases h)⟩
def Zb:AV->Option Bool
 |.v (.bool b)=>some b
 |_=>none
def Zbr:Value->Option Bool
 |.bool b=>some b
 |_=>none
theorem Xt {y:Value} (h:DR e x y):Zb x=Zbr y:=by
 cases h with
 |v _=>cases y<;>rfl
 |_=>rfl
theorem RU (ops:Array Oper) (F:Fr) (j:Nat):Dz ops F j=match (ops[j]?).bind (·.dst)with|some t=>Zb (F.get t)|none=>none:=by
 unfold Dz;cases (ops[j]?).bind (·.dst)with
 |none=>rfl
 |some t=>rfl
theorem U1 (ops:Array Oper) (tmps:Array Value) (j:Nat):yielded ops tmps j=match (ops[j]?).bind (·.dst)with|some t=>Zbr (tmps[t]?.getD undef)|none=>none:=by
 unfold yielded;cases (ops[j]?).bind (·.dst)with
 |none=>rfl
 |some t=>
  simp only[fK];cases tmps[t]? with
  |none=>rfl
  |some v=>cases v<;>rfl
theorem OM {ops:Array Oper} {o:Oper} (h:∀t,∀g b,o.guard=some (g,b)->(ops[g]?).bind (·.dst)=some t->DR e (F.get t) (a.tmps[t]?.getD undef)):Region.wanted o (Dz ops F)=Region.wanted o (yielded ops a.tmps):=by
 unfold Region.wanted;cases j:o.guard with
 |none=>rfl
 |some p=>
  obtain⟨g,want⟩:=p;simp only;rw[RU,U1];cases I:(ops[g]?).bind (·.dst)with
  |none=>rfl
  |some t=>
   simp only;rw[Xt (h t g want j I)]
def X0 (base:CJ) (e:Env) (w:World) (x:AV) (H':AH):Ending->World->Prop
 |.returned r,w'=>∃e',Fp e e'/\DR e' x r/\AO base e' H' w'/\B8 base.S w w'
 |_,_=>False
def Hv (P:Program) (base:CJ) (call:FuncId->List AV->AH->Option (AV×AH)):Prop:=
 ∀f args H x H',call f args H=some (x,H')->∀e w ys,AO base e H w->BP e args ys->Calls P f ys.toArray w (X0 base e w x H')
def fz (ro:Option Nat):Fence:={Fence.wide with round:=ro}
theorem MJ {ro:Option Nat} {n:Nat} {f:FuncId} {args:Array Value} {R:Ending->World->Prop} (h:Calls P f args w R):CallsIn (fz ro) n P f args w R:=by
 cases ro with
 |none=>exact dZ.2 h
 |some l=>exact CallsIn.inRound l (dZ.2 h)
theorem OC {ro:Option Nat} {m:Machine}:m.fenced P (fz ro):=fun g j=>⟨fun h=>(by cases h),.inl trivial,fun _ _=>trivial,fun _ h=>(by cases h)⟩
def Mc (P:Program) (base:CJ) (QK:Nat->List AV->AH->Option (AV×AH)):Prop:=
 ∀b args H x H',QK b args H=some (x,H')->∀(ro:Option Nat) e w g o z ys,e b=some (g,o,z)->AO base e H w->BP e args ys->
  ∃f tmps assign body,(Instr.yield g ys.toArray).run P w=.ok (.round g f tmps assign body) w/\RoundIn (fz ro) 0 P g f tmps assign body w (X0 base e w x H')
def Lt:EX->Exit
 |.normal=>.normal
 |.exit id=>.exit id
 |.goto l=>.goto l
 |.ret=>.ret
def Ks (base:CJ) (e:Env) (w:World) (X:EX) (F':Fr) (H':AH) (Q:Exit->Act->World->Prop):Prop:=
 ∀e' a' w',Fp e e'->FR e' F' a'->AO base e' H' w'->B8 base.S w w'->Q (Lt X) a' w'
theorem Ks.trans {X:EX} {Q:Exit->Act->World->Prop} (h:Ks base e w X F' H' Q) (he:Fp e e') (hw:B8 base.S w w'):Ks base e' w' X F' H' Q:=
 fun j a2 o p I J R=>h j a2 o (he.trans p) I J (hw.trans R)
def Ht (ro:Option Nat) (P:Program) (c:Code) (Q:Exit->Act->World->Prop) (a:Act) (w:World):Prop:=
 ∀(b:Frame) (k:List Item) (j:List Frame),b.roundOf=ro->∃e a' w',Q e a' w'/\ArrivesIn (Machine.fenced P (fz ro)) P (lone (b.atR a (.code c::.inLoop c::k)) j w) b k j e a' w'
theorem Ht.of {ro:Option Nat} {c:Code} {Q:Exit->Act->World->Prop} (h:c.wpIn (fz ro) 0 P (Exit.then (Ht ro P c Q) Q) a w):Ht ro P c Q a w:=by
 intro b k cs U;obtain⟨e,o,p,R,j⟩:=h b (.inLoop c::k) cs U trivial (fun _ h=>(by cases h));cases e with
 |normal=>
  obtain⟨a1,a6,a7,J,I⟩:=R b k cs U;exact⟨a1,a6,a7,J,.of_steps (StepsIn.trans j (.one OC stepR_inLoop)) I⟩
 |exit id=>exact⟨_,o,p,R,.pass (x:=.inLoop c) rfl (fun _ _=>.inl (by simp)) j⟩
 |goto l=>exact⟨_,o,p,R,.pass (x:=.inLoop c) rfl (fun _ _=>.inl (by simp)) j⟩
 |ret=>exact⟨_,o,p,R,.pass (x:=.inLoop c) rfl (fun _ _=>.inl (by simp)) j⟩
 |panic ch=>exact⟨_,o,p,R,.pass (x:=.inLoop c) rfl (fun _ _=>.inl (by simp)) j⟩
 |outgrown=>exact⟨_,o,p,R,.pass (x:=.inLoop c) rfl (fun _ _=>.inl (by simp)) j⟩
theorem Ht.wp {ro:Option Nat} {c:Code} {Q:Exit->Act->World->Prop} (h:Ht ro P c Q a w):(Code.loop c).wpIn (fz ro) 0 P Q a w:=fun b k p o _ _=>by
 obtain⟨e,a',w',I,j⟩:=h b k p o;exact⟨e,a',w',I,.of_steps (.one OC stepR_loop) j⟩
def Wp (ro:Option Nat) (P:Program) (c:Code) (Q:Exit->Act->World->Prop) (a:Act) (w:World):Prop:=match c with
 |.loop b=>Ht ro P b Q a w
 |c=>c.wpIn (fz ro) 0 P Q a w
theorem Wp.wp {ro:Option Nat} {c:Code} {Q:Exit->Act->World->Prop} (h:Wp ro P c Q a w):c.wpIn (fz ro) 0 P Q a w:=by
 unfold Wp at h;split at h
 ·exact h.wp
 ·exact h
theorem Wp.wide {c:Code} {Q:Exit->Act->World->Prop} (h:Wp none P c Q a w):c.wp P Q a w:=(wpIn_wide (n:=0)).1 h.wp
def Ga (P:Program) (base:CJ) (ro:Option Nat) (code:Code->Fr->AH->FK):Prop:=
 ∀c F H X F' H',code c F H=some (X,F',H')->∀e a w Q,FR e F a->AO base e H w->Ks base e w X F' H' Q->Wp ro P c Q a w
def ML (P:Program) (b:Code) (l:Nat) (Q:Exit->Act->World->Prop) (a:Act) (w:World):Prop:=match findLabel b l with
 |some rest=>∀(j:Frame) (k:List Item) (o:List Frame),∃e a' w',Q e a' w'/\Arrives P (lone (j.at a (.code rest::.inScope b::k)) o w) j k o e a' w'
 |none=>Q (.goto l) a w
def Mo (P:Program) (base:CJ) (jump:Code->Nat->Fr->AH->FK):Prop:=
 ∀b l F H X F' H',jump b l F H=some (X,F',H')->∀e a w Q,FR e F a->AO base e H w->Ks base e w X F' H' Q->ML P b l Q a w
def Ms (P:Program) (b:Code) (Q:Exit->Act->World->Prop):Exit->Act->World->Prop
 |.goto l,a,w=>ML P b l Q a w
 |e,a,w=>Q e a w
theorem MY {b c:Code} {Q:Exit->Act->World->Prop} (h:c.wp P (Ms P b Q) a w) (fr:Frame) (k:List Item) (cs:List Frame) :
  ∃e a' w',Q e a' w'/\Arrives P (lone (fr.at a (.code c::.inScope b::k)) cs w) fr k cs e a' w':=by
 obtain⟨e,j,o,U,p⟩:=h fr (.inScope b::k) cs;cases e with
 |normal=>exact⟨.normal,j,o,U,Steps.trans p (.one step_inScope)⟩
 |exit id=>exact⟨.exit id,j,o,U,fun k' hk=>p k' (by simp[exitTo,hk])⟩
 |goto l=>
  have J:ML P b l Q j o:=U;unfold ML at J;split at J
  ·rename_i rest hf;obtain⟨a1,a6,a7,R,I⟩:=J fr k cs;exact⟨a1,a6,a7,R,.of_steps (p _ (by simp[gotoIn,hf])) I⟩
  ·rename_i hf;exact⟨.goto l,j,o,J,fun k' hk=>p k' (by simp[gotoIn,hf,hk])⟩
 |ret=>exact⟨_,j,o,U,p⟩
 |panic ch=>exact⟨_,j,o,U,p⟩
 |outgrown=>exact⟨_,j,o,U,p⟩
theorem Zo {b:Code} {Q:Exit->Act->World->Prop} (h:b.wp P (Ms P b Q) a w):(Code.scope b).wp P Q a w:=fun o k p=>by
 obtain⟨e,a',w',I,j⟩:=MY h o k p;exact⟨e,a',w',I,.of_steps (.one step_scope) j⟩
theorem VL {ro:Option Nat} {o:Oper} {K:Act->World->Prop} {Q:Exit->Act->World->Prop} (j:∀c,o.op≠.defer c) (h:Cl P base e w (execOp a.eval o) x H')
  (p:∀e' w' r,Fp e e'->DR e' x r->AO base e' H' w'->B8 base.S w w'->K (a.put o.dst r) w'):o.wpIn (fz ro) 0 P a w K Q:=by
 obtain⟨e',w',n,r,I,h2,h3,J,R,U⟩:=h;refine⟨fun _ _=>trivial,?_⟩;rw[Oper.semAt_eq _ _ _ j,h2];rcases h3 with rfl|⟨rfl,rfl⟩
 ·exact p e' w' r I J R U
 ·exact p e' w' _ I J R U
theorem Za6 {ro:Option Nat} {o:Oper} {f:FuncId} {ys:Array Value} {K:Act->World->Prop} {Q:Exit->Act->World->Prop} (p:∀c,o.op≠.defer c) (h:(execOp a.eval o).run P w=.ok (.enter f ys) w) (I:Calls P f ys w (X0 base e w x H'))
  (J:∀e' w' r,Fp e e'->DR e' x r->AO base e' H' w'->B8 base.S w w'->K (a.put o.dst r) w'):o.wpIn (fz ro) 0 P a w K Q:=by
 refine⟨fun _ _=>trivial,?_⟩;rw[Oper.semAt_eq _ _ _ p,h];refine⟨fun h=>(by cases h),CallsIn.mono (MJ I) fun R w' j=>?_⟩;cases R with
 |returned r=>
  obtain⟨e',U,h2,h3,h4⟩:=j;exact J e' w' r U h2 h3 h4
 |panicked c=>exact j.elim
 |outgrown=>exact j.elim
theorem Me {ev:Operand->AV} {o:Oper} {r:Bs} (h:E6 P T ev o H=some r):∀c,o.op≠.defer c:=fun c j=>by
 have p:E6 P T ev o H=none:=by
  unfold E6;rw[j];dsimp only;unfold CI;rw[j]
 rw[p]at h;cases h
theorem Qx (U:B3 P T) {ro:Option Nat} {call:FuncId->List AV->AH->Option (AV×AH)} (j:Hv P base call) {o:Oper} {ev:Operand->AV} {K:Act->World->Prop} {Q:Exit->Act->World->Prop} (hr:AO base e H w)
  (p:∀y∈o.op.operands,DR e (ev y) (a.eval y))
  (h:E6 P T ev o H=some (.val x H')/\H'.next<=2^depth\/∃f args J,E6 P T ev o H=some (.enter f args J)/\call f args J=some (x,H'))
  (hK:∀e' w' r,Fp e e'->DR e' x r->AO base e' H' w'->B8 base.S w w'->K (a.put o.dst r) w'):o.wpIn (fz ro) 0 P a w K Q:=by
 rcases h with⟨h,hn⟩|⟨f,args,J,h,hc⟩
 ·exact VL (Me h) (Rq U hr p h hn) hK
 ·obtain⟨rfl,ys,R,I⟩:=UB U p h;exact Za6 (Me h) (I w) (j f args _ _ _ hc e w ys hr R) hK
theorem Ic (R:B3 P T) {ro:Option Nat} {call:FuncId->List AV->AH->Option (AV×AH)} {QK:Nat->List AV->AH->Option (AV×AH)} (j:Hv P base call) (p:Mc P base QK) {all:Array Oper} {Q:Exit->Act->World->Prop}:∀(l:List Oper) (F:Fr) (H:AH) (e:Env) (a:Act) (w:World),
  Ny P T call QK all l F H=some (F',H')->FR e F a->AO base e H w->Ks base e w .normal F' H' Q->wpListIn (fz ro) 0 P all Q l a w
 | [],F,H,e,a,w,h,J,hr,hQ=>by
  cases h;exact hQ e a w (Fp.refl e) J hr (B8.refl _ _)
 |o::rest,F,H,e,a,w,h,J,hr,hQ=>by
  unfold Ny at h;unfold wpListIn;rw[OM (a:=a) fun t g b _ _=>J.get t]at h;cases hw:Region.wanted o (yielded all a.tmps)with
  |false=>
   rw[hw]at h;rw[if_neg (by simp)];exact⟨fun _ _=>trivial,Ic R j p rest _ _ e _ w h (J.put _ (.v _)) hr hQ⟩
  |true=>
   rw[hw]at h;rw[if_pos rfl];simp only[cX]at h;split at h
   ·rename_i y H1 I;cases hb:H1.next.ble 16384 with
    |false=>rw[hb]at h;cases h
    |true=>
     rw[hb]at h;refine Qx R j hr (fun y _=>J.eval y) (.inl ⟨I,bQ hb⟩) fun e1 w1 r U h2 h3 h4=>?_
     exact Ic R j p rest _ _ e1 _ w1 h ((J.mono U).put _ h2) h3 (hQ.trans U h4)
   ·rename_i f args H1 I;split at h
    ·rename_i y H2 hc;refine Qx R j hr (fun y _=>J.eval y) (.inr ⟨f,args,H1,I,hc⟩) fun e1 w1 r U h2 h3 h4=>?_
     exact Ic R j p rest _ _ e1 _ w1 h ((J.mono U).put _ h2) h3 (hQ.trans U h4)
    ·cases h
   ·rename_i b args H1 I;split at h
    ·rename_i y H2 hc;obtain⟨rfl,g,o',z,ys,U,h2,h3⟩:=U3 R (fun y _=>J.eval y) I;obtain⟨f,tmps,b8,bd,h4,h5⟩:=p b args _ _ _ hc ro e w g o' z ys U hr h2;refine⟨fun _ _=>trivial,?_⟩;rw[Oper.semAt_eq _ _ _ (Me I),h3 w,h4];refine⟨fun h=>(by cases h),RoundIn.mono h5 fun en w' a1=>?_⟩;cases en with
     |returned r=>
      obtain⟨e1,g1,g2,g3,g4⟩:=a1;exact Ic R j p rest _ _ e1 _ w' h ((J.mono g1).put _ g2) g3 (hQ.trans g1 g4)
     |panicked c=>exact a1.elim
     |outgrown=>exact a1.elim
    ·cases h
   ·cases h
end
end Ev
end
section
open Go.RowKit
namespace Ev
theorem Dp {a b:Nat} (h:Nat.beq a b=true):a=b:=bY h
theorem Cz {α:Type} {p:α×α->Bool} (hp:∀x,p x=true->x.1=x.2):∀(a b:List α),(a.length==b.length&&(a.zip b).all p)=true->a=b
 | [],[],_=>rfl
 |x::a,y::b,h=>by
  rw[aG]at h;obtain⟨o,j⟩:=h;rw[List.zip_cons_cons,jE,aG]at j;have I:x=y:=hp (x,y) j.1;have J:a=b:=Cz hp a b (by rw[aG];exact⟨by simpa using o,j.2⟩);rw[I,J]
 | [],_::_,h=>by simp at h
 |_::_,[],h=>by simp at h
theorem Zcg:∀(n:Nat) (a b:Value),eqV n a b=true->a=b:=by
 intro n
 induction n with
 |zero=>intro a b h;unfold eqV at h;cases h
 |succ n ih=>
  intro a b h;unfold eqV at h;split at h
  all_goals first
   |rfl
   |(cases h;done)
   |skip
  ·rename_i j;cases j;have:=eq_of_beq h;rw[this]
  ·rename_i j;cases j;rw[aG]at h;have o:=FZ h.1;have I:=eq_of_beq h.2;rw[o,I]
  ·rename_i j;cases j;have o:=eq_of_beq h;congr 1;rename_i x y;cases x;cases y;congr 1;exact gG.1 o
  ·rename_i j;cases j;rw[aG]at h;rw[Dp h.1,Dp h.2]
  ·rename_i j;cases j;rw[aG]at h;rw[Dp h.1,Dp h.2]
  ·rename_i j;cases j;congr 1;exact gG.1 (Cz (fun x p=>ih _ _ p) _ _ h)
  ·rename_i j;cases j;congr 1;exact gG.1 (Cz (fun x p=>ih _ _ p) _ _ h)
theorem ZaW {a b:Cp} (h:Zc7 a b=true):a=b:=by
 cases a<;>cases b<;>first|(cases h;done)|rw[Dp h]
theorem IW:∀(n:Nat) (a b:AV),Lq n a b=true->a=b:=by
 intro n
 induction n with
 |zero=>intro a b h;unfold Lq at h;cases h
 |succ n ih=>
  intro a b h;unfold Lq at h;split at h
  all_goals first
   |(cases h;done)
   |skip
  ·rename_i j;cases j;rw[Zcg _ _ _ h]
  ·rename_i j;cases j;rw[aG]at h;rw[Dp h.1,Dp h.2]
  ·rename_i j;cases j;rw[aG,aG,aG]at h;rw[Dp h.1.1.1,Dp h.1.1.2,Dp h.1.2,ZaW h.2]
  ·rename_i j;cases j;rw[Dp h]
  ·rename_i j;cases j;rw[aG,aG,aG]at h;rw[Dp h.1.1.1,Dp h.1.1.2,Dp h.1.2,Dp h.2]
  ·rename_i j;cases j;rw[Cz (fun x o=>ih _ _ o) _ _ h]
  ·rename_i j;cases j;rw[Cz (fun x o=>ih _ _ o) _ _ h]
  ·rename_i j;cases j;rw[aG,aG]at h;rw[Dp h.1.1,Cz (fun x o=>ih _ _ o) _ _ h.1.2,Cz (fun x o=>ih _ _ o) _ _ h.2]
section
variable {P:Program} {T:Tb} {base:CJ} {e e':Env} {H H':AH} {w w':World} {x:AV} {F F':Fr} {a:Act}
def Kh (H:AH):Option Bs->Prop
 |some (.val _ H')=>H'=H
 |_=>True
theorem WS {r:Option Bs} (h:r=some (.val x H')) (k:Kh H r):H'=H:=by subst h;exact k
theorem ZbR {y:Option AV}:Kh H (one y H):=by cases y<;>first|exact trivial|rfl
theorem LW {ev:Operand->AV} {o:Oper}:Kh H (CI P ev o H):=by
 unfold CI
 repeat' (first|exact trivial|rfl|split)
theorem Za9 {b:Bool} {r j:Option Bs} (h:Kh H r) (o:Kh H j):Kh H (bif b then r else j):=by cases b<;>assumption
theorem Zc8 {b:Builtin} {ts:Array TypeId} {args:List AV} (j:b=.len\/b=.cap\/b=.min\/b=.max):Kh H (Ex T H b ts args):=by
 unfold Ex;split
 ·unfold RT;repeat' (first|exact trivial|rfl|split)
 ·unfold RG;repeat' (first|exact trivial|rfl|split)
 ·rcases j with h|h|h|h<;>cases h
 ·rcases j with h|h|h|h<;>cases h
 ·rcases j with h|h|h|h<;>cases h
 ·exact trivial
theorem Us {ev:Operand->AV} {o:Oper} {b:Builtin} {ts:Array TypeId} {args:List AV} (j:b=.len\/b=.cap\/b=.min\/b=.max):Kh H (EI P T ev o b ts args H):=by
 unfold EI;have h:=Zc8 (H:=H) (T:=T) (ts:=ts) (args:=args) j;generalize Ex T H b ts args=r at h;cases r with
 |none=>exact LW
 |some r=>exact h
theorem TY {ev:Operand->AV} {o:Oper} {s d:TypeId} {y:Operand} (p:G6 ev (.convert s d y)=true):Kh H (EJ P T ev o s d (ev y) H):=by
 unfold EJ;split
 ·rename_i I _;have j:(!Fs (ev y))=true:=p;rw[I]at j;cases j
 ·exact LW
theorem Np {ev:Operand->AV} {o:Oper} (j:G6 ev o.op=true) (h:E6 P T ev o H=some (.val x H')):H'=H:=by
 refine WS h ?_;unfold E6;split
 case h_29 c p=>
  rw[p]at j;unfold G6 at j;simp only at j;unfold GP;split at j
  all_goals first
   |(cases j;done)
   |skip
  all_goals
   rename_i I;rw[I];exact Us (by simp)
 all_goals first
  |(rename_i p;rw[p]at j;cases j;done)
  |(rename_i p _;rw[p]at j;cases j;done)
  |exact trivial
  |rfl
  |exact LW
  |(rename_i p;rw[p]at j;exact TY j)
  |(simp only[IX,Lk,Fh,Ln,Pb,DZ,D3,IE,Gs,IU,IA,Gk,Pg,Ng,Xc];repeat' (first|exact trivial|exact LW|exact ZbR|rfl|apply Za9|split))
end
end Ev
end
end Go.Proofs.YthbihnpoghlfaaaGreatDoor
