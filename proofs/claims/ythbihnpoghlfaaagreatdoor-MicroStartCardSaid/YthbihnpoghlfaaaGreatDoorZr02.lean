import Derived.Test.YthbihnpoghlfaaaGreatDoorZr01
set_option linter.unusedVariables false
set_option linter.unusedSimpArgs false
set_option maxHeartbeats 8000000
set_option maxRecDepth 100000
namespace Go.Proofs.YthbihnpoghlfaaaGreatDoor
section
namespace Aj
def P6 (j:List Nat) (o:Oper):Nat:=
 o.after.toList.foldl (fun m e=>if Region.binds .any e then(m||| 2^e.on)|||(j[e.on]?.getD 0)else m) 0
def BH:List Oper->List Nat->List Nat
 | [],acc=>acc
 |o::r,acc=>BH r (acc++[P6 acc o])
def bit (o:List Nat) (j i:Nat):Bool:=(o[i]?.getD 0).testBit j
def FJ (ops:Array Oper) (j i:Nat):Bool:=bit (BH ops.toList []) j i
theorem Ws (J:List Nat) (j:Nat):∀(es:List Edge) (m:Nat),
  (es.foldl (fun m e=>if Region.binds .any e then(m||| 2^e.on)|||(J[e.on]?.getD 0)else m) m).testBit j=true->
  m.testBit j=true\/∃e∈es,Region.binds .any e=true/\(e.on=j\/bit J j e.on=true):=by
 intro es
 induction es with
 |nil=>intro m h;exact .inl h
 |cons e es ih=>
  intro m h;rw[List.foldl_cons]at h;rcases ih _ h with o|⟨U,I,hb,h2⟩
  ·split at o
   ·rename_i p;rw[Nat.testBit_or,Nat.testBit_or,bV,bV]at o;rcases o with(o|o)|o
    ·exact .inl o
    ·refine .inr ⟨e,by simp,p,.inl ?_⟩;rw[Nat.testBit_two_pow]at o;exact cV o
    ·exact .inr ⟨e,by simp,p,.inr o⟩
   ·exact .inl o
  ·exact .inr ⟨U,by simp[I],hb,h2⟩
theorem Tq:∀(l:List Oper) (acc:List Nat),(∃s,BH l acc=acc++s)/\
  ∀i o,l[i]?=some o->∃pre s,BH l acc=pre++P6 pre o::s/\pre.length=acc.length+i:=by
 intro l
 induction l with
 |nil=>intro acc;exact⟨⟨[],by simp[BH]⟩,by simp⟩
 |cons o l ih=>
  intro acc;obtain⟨⟨s,j⟩,p⟩:=ih (acc++[P6 acc o]);refine⟨⟨P6 acc o::s,by rw[BH,j];simp⟩,fun i I hi=>?_⟩;cases i with
  |zero=>
   simp at hi;subst hi;exact⟨acc,s,by rw[BH,j];simp,by simp⟩
  |succ i=>
   obtain⟨pre,J,U,h4⟩:=p i I (by simpa using hi);exact⟨pre,J,by rw[BH,U],by rw[h4];simp;omega⟩
theorem NR:∀(l:List Oper) (acc:List Nat),(BH l acc).length=acc.length+l.length:=by
 intro l
 induction l with
 |nil=>intro acc;simp[BH]
 |cons o l ih=>intro acc;rw[BH,ih];simp;omega
theorem Gl {ops:Array Oper} {j i:Nat} (h:FJ ops j i=true):∃o,ops[i]?=some o/\∃e∈o.after,Region.binds .any e=true/\(e.on=j\/FJ ops j e.on=true):=by
 rcases bH i ops.size with hi|hi
 ·have ho:ops.toList[i]?=some ops[i]:=by simp[hi]
  obtain⟨pre,s,J,U⟩:=(Tq ops.toList []).2 i _ ho;refine⟨ops[i],by simp[hi],?_⟩;unfold FJ bit at h;rw[J]at h;simp only[dX,bO]at U;rw[bX (by omega),U,Nat.sub_self]at h;simp only[cF,Option.getD_some]at h;rcases Ws pre j _ _ h with p|⟨e,he,hb,p⟩
  ·simp at p
  ·refine⟨e,by simpa using he,hb,?_⟩;rcases p with p|p
   ·exact .inl p
   ·right;unfold FJ bit;unfold bit at p;rw[J];rcases bH e.on pre.length with I|I
    ·rw[bZ I];exact p
    ·rw[gX I]at p;simp at p
 ·unfold FJ bit at h;rw[gX (by rw[NR];simpa using hi)]at h;simp at h
def J2:Op->Bool
 |.select .. |.defer _|.go _=>false
 |_=>true
def NA (x y:Option Tmp):Bool:=match x,y with|some d,some d'=>d != d'|_,_=>true
def ZX (ops:Array Oper) (j:List Nat) (n i:Nat) (o:Oper):Bool:=
 o.after.all (fun e=>!Region.binds .any e||decide (e.on<i))&&J2 o.op &&
 (List.range n).all fun k=>match ops[k]? with
  |none=>true
  |some ok=>k==i||(NA o.dst ok.dst&&match ok.dst with
   |none=>true
   |some d=>!(o.looksAt ops).contains d||bit j k i||bit j i k)
def BY (ops:Array Oper) (j:Nat):Bool:=
 match ops[j]? with
 |none=>false
 |some o=>(match o.op with|.move _=>true|_=>false)&&o.guard.isNone&&(List.range ops.size).all fun k=>k==j||match ops[k]? with
  |none=>true
  |some ok=>ok.after.any (fun e=>Region.binds .any e&&e.on==j)||o.apart ops ok
def Zck (ops:Array Oper) (o:List Nat) (n m:Nat):Bool:=(List.range n).all fun k=>decide (k<m)||((k==0||bit o (k-1) k)&&(k != m||(List.range m).all fun j=>bit o j k||BY ops j))
def ok (ops:Array Oper) (m:Nat):Bool:=
 let j:=BH ops.toList []
 decide (m<=ops.size)&&Zck ops j ops.size m&&(List.range ops.size).all fun i=>match ops[i]? with|none=>true|some o=>ZX ops j ops.size i o
structure Ok (ops:Array Oper) (m:Nat):Prop where
 le:m<=ops.size
 Yp:∀(i:Nat) (o:Oper),ops[i]?=some o->∀e∈o.after,Region.binds .any e=true->e.on<i
 plain:∀(i:Nat) (o:Oper),ops[i]?=some o->J2 o.op=true
 apart:∀(i:Nat) (o:Oper) (k:Nat) (o':Oper),ops[i]?=some o->ops[k]?=some o'->k≠i->∀d,o.dst=some d->o'.dst≠some d
 look:∀(i:Nat) (o:Oper) (k:Nat) (o':Oper) (d:Tmp),ops[i]?=some o->ops[k]?=some o'->k≠i->o'.dst=some d->d∈o.looksAt ops->FJ ops k i=true\/FJ ops i k=true
 VF:∀k,m<=k->k<ops.size->0<k->FJ ops (k-1) k=true
 Yy:∀j,j<m->m<ops.size->FJ ops j m=true\/BY ops j=true
theorem Ok.of {ops:Array Oper} {m:Nat} (h:ok ops m=true):Ok ops m:=by
 unfold ok at h;simp only[aG,aP]at h;obtain⟨⟨hle,ht⟩,ha⟩:=h;have hi:∀(i:Nat) (o:Oper),ops[i]?=some o->ZX ops (BH ops.toList []) ops.size i o=true:=fun i o U=>by
  have a7:i<ops.size:=(aU.1 U).1;have:=aY.1 ha i (cQ.2 a7);simpa[U]using this
 have hk:∀(i:Nat) (o:Oper) (k:Nat) (o':Oper),ops[i]?=some o->ops[k]?=some o'->k≠i->(NA o.dst o'.dst&&match o'.dst with
   |none=>true
   |some d=>!(o.looksAt ops).contains d||bit (BH ops.toList []) k i||bit (BH ops.toList []) i k)=true:=fun i o k o' U J a1=>by
  have p:=hi i o U;unfold ZX at p;rw[aG]at p;have a7:k<ops.size:=(aU.1 J).1;have I:=aY.1 p.2 k (cQ.2 a7);simp only[J]at I;rw[bV]at I;rcases I with I|I
  ·exact absurd (by simpa using I) a1
  ·exact I
 refine⟨hle,fun i o U e he hb=>?_,fun i o U=>?_,fun i o k o' U J a1 d hd b0=>?_,fun i o k o' d U J a1 hd hl=>?_,fun k b7 b1 b8=>?_,fun j hj b2=>?_⟩
 ·have p:=hi i o U;unfold ZX at p;rw[aG,aG]at p;have I:=Array.all_eq_true_iff_forall_mem.1 p.1.1 e he;simpa[hb]using I
 ·have p:=hi i o U;unfold ZX at p;rw[aG,aG]at p;exact p.1.2
 ·have p:=hk i o k o' U J a1;rw[aG]at p;have:=p.1;simp[NA,hd,b0]at this
 ·have p:=hk i o k o' U J a1;rw[aG]at p;have I:=p.2;simp only[hd]at I;rw[bV,bV]at I;rcases I with(I|I)|I
  ·simp[hl]at I
  ·exact .inl I
  ·exact .inr I
 ·have p:=aY.1 ht k (cQ.2 b1);simp only[bV,aG,aP,dI]at p;rcases p with p|⟨p|p,_⟩
  ·omega
  ·omega
  ·exact p
 ·have p:=aY.1 ht m (cQ.2 b2);simp only[bV,aG,aP,bne_self_eq_false,dY,false_or]at p;rcases p with p|⟨_,p⟩
  ·omega
  ·have:=aY.1 p j (cQ.2 hj)
   rwa[bV]at this
theorem Hk {ops:Array Oper} {j:Nat} (h:BY ops j=true):∃o x,ops[j]?=some o/\o.op=.move x/\o.guard=none/\
  ∀k ok,ops[k]?=some ok->k≠j->(∀e∈ok.after,Region.binds .any e=true->e.on≠j)->o.apart ops ok=true:=by
 unfold BY at h;split at h
 ·cases h
 ·rename_i o ho;rw[aG,aG]at h;obtain⟨⟨h1,h2⟩,h3⟩:=h;split at h1
  ·rename_i x hx;refine⟨o,x,ho,hx,by simpa using h2,fun k ok hk I J=>?_⟩;have p:=aY.1 h3 k (cQ.2 (aU.1 hk).1);simp only[hk,bV,dI]at p;rcases p with p|p|p
   ·exact absurd p I
   ·obtain⟨e,he,U⟩:=Array.any_eq_true'.1 p;simp only[aG,dI]at U;exact absurd U.2 (J e he U.1)
   ·exact p
  ·cases h1
section
variable (P:Program) (ops:Array Oper) (Inv:World->Prop) (Step:World->World->Prop) (R:Nat->Option (Value->World->Prop)) (C:Nat->Option Value) (Fin:Act->World->Prop)
def B1 (F:List (Nat×(World->Prop))) (i:Nat) (w:World):Prop:=∀f∈F,FJ ops f.1 i=true->f.2 w
def Hb (F:List (Nat×(World->Prop))) (o:Oper) (i:Nat) (a:Act) (c:Value):Prop:=
 ∀w,Inv w->B1 ops F i w->if Region.wanted o (yielded ops a.tmps)=true then(execOp a.eval o).run P w=.ok (.value c) w else c=undef
def K5 (F:List (Nat×(World->Prop))) (o:Oper) (i:Nat) (a:Act) (p:Value->World->Prop):Prop:=
 Region.wanted o (yielded ops a.tmps)=true/\(∀v w j,Step w j->p v w->p v j)/\
 ∀w,Inv w->B1 ops F i w->o.wp P a w (fun a' j=>∃v,a'=a.put o.dst v/\(∀c,C i=some c->v=c)/\p v j/\Inv j/\Step w j) (fun _ _ _=>False)
def Ba:List Oper->Nat->List (Nat×(World->Prop))->Act->Prop
 | [],_,F,a=>∀w,Inv w->(∀f∈F,f.2 w)->Fin a w
 |o::rest,i,F,a=>
  match R i with
  |none=>∃c,Hb P ops Inv F o i a c/\Ba rest (i+1) F (a.put o.dst c)
  |some j=>K5 P ops Inv Step C F o i a j/\∀v,(∀c,C i=some c->v=c)->Ba rest (i+1) ((i,j v)::F) (a.put o.dst v)
def Good (ev Ac:Nat->Value):List Oper->Nat->List (Nat×(World->Prop))->Act->Prop
 | [],_,F,a=>∀w,Inv w->(∀f∈F,f.2 w)->Fin a w
 |o::rest,i,F,a=>
  match R i with
  |none=>Hb P ops Inv F o i a (Ac i)/\Good ev Ac rest (i+1) F (a.put o.dst (Ac i))
  |some j=>K5 P ops Inv Step C F o i a j/\Ac i=(C i).getD (ev i)/\Good ev Ac rest (i+1) ((i,j (Ac i))::F) (a.put o.dst (Ac i))
variable {P ops Inv Step R C Fin}
theorem Good.congr {ev Ac vals':Nat->Value}:∀(l:List Oper) (i:Nat) (F:List (Nat×(World->Prop))) (a:Act),(∀k,i<=k->vals' k=Ac k)->
  Good P ops Inv Step R C Fin ev Ac l i F a->Good P ops Inv Step R C Fin ev vals' l i F a:=by
 intro l
 induction l with
 |nil=>intro i F a _ h;exact h
 |cons o l ih=>
  intro i F a he h;unfold Good at h⊢;cases j:R i with
  |none=>
   simp only[j]at h⊢;rw[he i (aL _)];exact⟨h.1,ih _ _ _ (fun k p=>he k (by omega)) h.2⟩
  |some I=>
   simp only[j]at h⊢;rw[he i (aL _)];exact⟨h.1,h.2.1,ih _ _ _ (fun k p=>he k (by omega)) h.2.2⟩
theorem Ba.Oc:∀(l:List Oper) (i:Nat) (F:List (Nat×(World->Prop))) (a:Act),Ba P ops Inv Step R C Fin l i F a->∀ev,∃Ac,Good P ops Inv Step R C Fin ev Ac l i F a:=by
 intro l
 induction l with
 |nil=>intro i F a h ev;exact⟨ev,h⟩
 |cons o l ih=>
  intro i F a h ev;unfold Ba at h;cases j:R i with
  |none=>
   simp only[j]at h;obtain⟨c,hp,p⟩:=h;obtain⟨Ac,I⟩:=ih _ _ _ p ev;refine⟨fun k=>if k=i then c else Ac k,?_⟩;unfold Good;simp only[j,if_true];exact⟨hp,Good.congr _ _ _ _ (fun k J=>by rw[if_neg (by omega)]) I⟩
  |some U=>
   simp only[j]at h;obtain⟨Ac,I⟩:=ih _ _ _ (h.2 ((C i).getD (ev i)) (fun c p=>by rw[p];rfl)) ev;refine⟨fun k=>if k=i then(C i).getD (ev i)else Ac k,?_⟩;unfold Good;simp only[j,if_true];exact⟨h.1,trivial,Good.congr _ _ _ _ (fun k J=>by rw[if_neg (by omega)]) I⟩
structure Cd (ops:Array Oper) (a0 a:Act) (L:Nat->Prop) (Ac:Nat->Value):Prop where
 defers:a.defers=a0.defers
 size:a.tmps.size=a0.tmps.size
 hit:∀t j o,L j->ops[j]?=some o->o.dst=some t->t<a0.tmps.size->a.tmps[t]?=some (Ac j)
 Hh:∀t,(∀j o,L j->ops[j]?=some o->o.dst≠some t)->a.tmps[t]?=a0.tmps[t]?
theorem Cd.put {a0 a:Act} {L L':Nat->Prop} {Ac vals':Nat->Value} {i m:Nat} {o:Oper} (b0:Ok ops m) (h:Cd ops a0 a L Ac) (hi:ops[i]?=some o)
  (hL:∀j,L' j↔L j\/j=i) (hv:∀j,L j->vals' j=Ac j) (hn:¬L i):Cd ops a0 (a.put o.dst (vals' i)) L' vals':=by
 cases hd:o.dst with
 |none=>
  refine⟨h.defers,h.size,fun t j U I p ht J=>?_,fun t hm=>h.Hh t fun j U I p=>hm j U ((hL j).2 (.inl I)) p⟩;rcases(hL j).1 I with I|rfl
  ·rw[hv j I];exact h.hit t j U I p ht J
  ·rw[hi]at p;cases p;rw[hd]at ht;cases ht
 |some d=>
  refine⟨h.defers,by simp[Act.put,h.size],fun t j U I p ht J=>?_,fun t hm=>?_⟩
  ·rcases(hL j).1 I with I|rfl
   ·have b1:j≠i:=fun e=>hn (e▸I)
    have a6:d≠t:=fun e=>b0.apart i o j U hi p b1 d hd (e▸ht)
    simp only[Act.put,cK a6];rw[hv j I];exact h.hit t j U I p ht J
   ·rw[hi]at p;cases p;rw[hd]at ht;cases ht;simp[Act.put,h.size,J]
  ·have a6:d≠t:=fun e=>hm i o ((hL i).2 (.inr rfl)) hi (by rw[hd,e])
   simp only[Act.put,cK a6];exact h.Hh t fun j U I p=>hm j U ((hL j).2 (.inl I)) p
theorem Cd.look {a0 a a':Act} {L L':Nat->Prop} {Ac vals':Nat->Value} {t:Tmp} (h:Cd ops a0 a L Ac) (h':Cd ops a0 a' L' vals')
  (hk:∀k o,ops[k]?=some o->o.dst=some t->(L k↔L' k)/\(L k->Ac k=vals' k)):a.tmps[t]?=a'.tmps[t]?:=by
 rcases bH t a0.tmps.size with J|U
 ·by_cases hx:∃k o,L k/\ops[k]?=some o/\o.dst=some t
  ·obtain⟨k,o,hL,p,I⟩:=hx;obtain⟨h1,h2⟩:=hk k o p I;rw[h.hit t k o hL p I J,h'.hit t k o (h1.1 hL) p I J,h2 hL]
  ·rw[h.Hh t fun j o hj p I=>hx ⟨j,o,hj,p,I⟩,h'.Hh t fun j o hj p I=>hx ⟨j,o,(hk j o p I).1.2 hj,p,I⟩]
 ·rw[dU (by rw[h.size];exact U),dU (by rw[h'.size];exact U)]
theorem Cd.same {a0 a a':Act} {L I:Nat->Prop} {Ac:Nat->Value} (h:Cd ops a0 a L Ac) (J:Cd ops a0 a' I Ac) (U:∀k o,ops[k]?=some o->(L k↔I k)):a=a':=by
 obtain⟨ts,ds⟩:=a;obtain⟨j,p⟩:=a';have e1:ds=p:=h.defers.trans J.defers.symm;have e2:ts=j:=Array.ext_getElem? fun t=>h.look J fun k o ho _=>⟨U k o ho,fun _=>rfl⟩
 rw[e1,e2]
theorem CL {o:Oper} {a a':Act} (hp:J2 o.op=true) (h:∀t∈o.looksAt ops,a.tmps[t]?=a'.tmps[t]?):execOp a.eval o=execOp a'.eval o:=by
 refine execOp_congr o (fun I b e=>by rw[e]at hp;cases hp) fun x j=>?_
 cases x with
 |tmp t=>
  have p:t∈o.looksAt ops:=iA _ (List.mem_filterMap.2 ⟨.tmp t,by simpa using j,rfl⟩);simp only[Act.eval,eP,h t p]
 |const v=>rfl
 |global g=>rfl
 |func f=>rfl
theorem CA {o:Oper} {a a':Act} (h:∀t∈o.looksAt ops,a.tmps[t]?=a'.tmps[t]?):Region.wanted o (yielded ops a.tmps)=Region.wanted o (yielded ops a'.tmps):=by
 unfold Region.wanted;cases j:o.guard with
 |none=>rfl
 |some p=>
  obtain⟨g,want⟩:=p;have I:yielded ops a.tmps g=yielded ops a'.tmps g:=by
   unfold yielded;cases J:(ops[g]?).bind (·.dst)with
   |none=>rfl
   |some t=>
    have U:t∈o.looksAt ops:=by simp[Oper.looksAt,j,J]
    simp only[fK,h t U]
  simp only[I]
theorem QY {a a':Act} {d:Option Tmp} {u v:Value} (J:a.tmps.size=a'.tmps.size) (h:a.put d u=a.put d v):a'.put d u=a'.put d v:=by
 cases d with
 |none=>rfl
 |some d=>
  rcases bH d a.tmps.size with o|I
  ·have p:=congrArg (fun b:Act=>b.tmps[d]?) h;simp[Act.put,o]at p;rw[p]
  ·have j:a'.tmps.size<=d:=by omega
   simp[Act.put,Array.setIfInBounds_eq_of_size_le j]
theorem Vt {o:Oper} {a a':Act} {w:World} {T:Value->World->Prop} (hp:J2 o.op=true) (U:a.tmps.size=a'.tmps.size) (h:∀t∈o.looksAt ops,a.tmps[t]?=a'.tmps[t]?)
  (p:o.wp P a w (fun b j=>∃v,b=a.put o.dst v/\T v j) (fun _ _ _=>False)) {K:Act->World->Prop} {Q:Exit->Act->World->Prop} (hK:∀v j,T v j->K (a'.put o.dst v) j) :
  o.wp P a' w K Q:=by
 unfold Oper.wp at *;rw[<-CL hp h];have key:∀u j,(∃v,a.put o.dst u=a.put o.dst v/\T v j)->K (a'.put o.dst u) j:=fun u j ⟨v,I,ht⟩=>by rw[QY U I];exact hK v j ht
 generalize (execOp a.eval o).run P w=r at *;cases r with
 |ok n j=>
  cases n<;>simp only[Oper.upon]at p⊢
  case value u=>exact key _ _ p
  case skip=>exact key _ _ p
  case defer d=>
   obtain⟨v,I,_⟩:=p;have:=congrArg (fun b:Act=>b.defers.length) I;cases hd:o.dst<;>simp[Act.put,hd]at this
  case enter f args=>
   refine Calls.mono p fun e J he=>?_
   cases e with
   |returned u=>exact key _ _ he
   |panicked c=>exact he.elim
   |outgrown=>obtain⟨_,_,hf⟩:=he;exact hf.elim
  case row row args=>exact Rows.mono p fun u J he=>key _ _ he
 |halt x j=>cases x<;>simp only[Oper.upon]at p⊢
end
end Aj
end
section
namespace Aj
section
variable {P:Program} {ops:Array Oper} {Inv:World->Prop} {Step:World->World->Prop} {R:Nat->Option (Value->World->Prop)} {C:Nat->Option Value} {Fin:Act->World->Prop} {m:Nat} {a0:Act}
def N5 (R:Nat->Option (Value->World->Prop)) (Ac:Nat->Value) (F:List (Nat×(World->Prop))) (i:Nat):Prop:=
 ∀f∈F,∃j,R f.1=some j/\f.1<i/\f.2=j (Ac f.1)
def Dg (P:Program) (ops:Array Oper) (Inv:World->Prop) (Step:World->World->Prop) (R:Nat->Option (Value->World->Prop)) (C:Nat->Option Value) (a0:Act) (ev Ac:Nat->Value) (k:Nat) (o:Oper):Prop:=
 ∃j p,N5 R Ac j k/\Cd ops a0 p (·<k) Ac/\
  (R k=none->Hb P ops Inv j o k p (Ac k))/\(∀I,R k=some I->K5 P ops Inv Step C j o k p I/\Ac k=(C k).getD (ev k))
theorem Good.at_ (b5:Ok ops m) {ev Ac:Nat->Value}:∀(l:List Oper) (i:Nat) (F:List (Nat×(World->Prop))) (a:Act),Good P ops Inv Step R C Fin ev Ac l i F a->
  (∀k o,l[k]?=some o->ops[i+k]?=some o)->Cd ops a0 a (·<i) Ac->N5 R Ac F i->
  (∀k o,l[k]?=some o->Dg P ops Inv Step R C a0 ev Ac (i+k) o)/\
  (∃Fn an,N5 R Ac Fn (i+l.length)/\Cd ops a0 an (·<i+l.length) Ac/\∀w,Inv w->(∀f∈Fn,f.2 w)->Fin an w):=by
 intro l
 induction l with
 |nil=>intro i F a h _ hs hF;exact⟨by simp,F,a,hF,hs,h⟩
 |cons o l ih=>
  intro i F a h hl hs hF;have b6:ops[i]?=some o:=by simpa using hl 0 o (by simp)
  have a8:∀k I,l[k]?=some I->ops[i+1+k]?=some I:=fun k I p=>by
   have:=hl (k+1) I (by simpa using p);rw[show i+1+k=i+(k+1)from by omega];exact this
  have b0:Cd ops a0 (a.put o.dst (Ac i)) (·<i+1) Ac:=hs.put b5 b6 (fun j=>by omega) (fun _ _=>rfl) (by omega);have shift:∀(k:Nat),i+1+k=i+(k+1):=by intro k;omega
  unfold Good at h;cases hR:R i with
  |none=>
   simp only[hR]at h;have J:N5 R Ac F (i+1):=fun f hf=>by obtain⟨Rj,U,h2,h3⟩:=hF f hf;exact⟨Rj,U,by omega,h3⟩
   obtain⟨U,h2⟩:=ih (i+1) F _ h.2 a8 b0 J;refine⟨fun k I p=>?_,?_⟩
   ·cases k with
    |zero=>
     simp at p;subst p;exact⟨F,a,hF,hs,fun _=>h.1,fun Ri b3=>by rw[dD,hR]at b3;cases b3⟩
    |succ k=>rw[<-shift];exact U k I (by simpa using p)
   ·rw[bP,<-shift];exact h2
  |some Ri=>
   simp only[hR]at h;have J:N5 R Ac ((i,Ri (Ac i))::F) (i+1):=fun f hf=>by
    rcases bJ.1 hf with rfl|hf
    ·exact⟨Ri,hR,eB _,rfl⟩
    ·obtain⟨Rj,U,h2,h3⟩:=hF f hf;exact⟨Rj,U,by omega,h3⟩
   obtain⟨U,h2⟩:=ih (i+1) _ _ h.2.2 a8 b0 J;refine⟨fun k I p=>?_,?_⟩
   ·cases k with
    |zero=>
     simp at p;subst p;exact⟨F,a,hF,hs,(fun hn=>by rw[dD,hR]at hn;cases hn),fun Rk b4=>by rw[dD,hR]at b4;cases b4;exact⟨h.1,h.2.1⟩⟩
    |succ k=>rw[<-shift];exact U k I (by simpa using p)
   ·rw[bP,<-shift];exact h2
theorem CQ (I:Ok ops m):∀k j,FJ ops j k=true->j<k:=by
 intro k
 induction k using Nat.strongRecOn with
 |_ k ih=>
  intro j h;obtain⟨o,U,e,he,hb,p⟩:=Gl h;have J:=I.Yp k o U e he hb;rcases p with p|p
  ·omega
  ·have:=ih e.on J j p;omega
def On (listed:Array Bool) (k:Nat):Prop:=listed.getD k false=true
theorem On.not {listed:Array Bool} {k:Nat} (h:¬On listed k):listed.getD k false=false:=by
 unfold On at h;revert h;cases listed.getD k false<;>simp
structure St (P:Program) (ops:Array Oper) (Inv:World->Prop) (Step:World->World->Prop) (R:Nat->Option (Value->World->Prop)) (m:Nat) (a0:Act) (V:(Nat->Value)->Nat->Value) (listed:Array Bool) (a:Act) (w:World) (ev:Nat->Value):Prop where
 sz:listed.size=ops.size
 closed:∀k,On listed k->∀j,FJ ops j k=true->On listed j
 head:∀k,On listed k->k<m
 inv:Inv w
 Cs:Cd ops a0 a (On listed) (V ev)
 facts:∀i Ri,On listed i->R i=some Ri->Ri (V ev i) w
theorem N3 (p:Ok ops m) {V:(Nat->Value)->Nat->Value} (hV:∀ev k o,k<m->ops[k]?=some o->Dg P ops Inv Step R C a0 ev (V ev) k o) {listed:Array Bool} {w:World} {ev J:Nat->Value}
  (hc:∀k,On listed k->∀j,FJ ops j k=true->On listed j) (hh:∀k,On listed k->k<m) (hI:Inv w) (hf:∀i Ri,On listed i->R i=some Ri->Ri (V ev i) w)
  (he:∀j,On listed j->ev j=J j):∀j,On listed j->V J j=V ev j:=by
 intro j
 induction j using Nat.strongRecOn with
 |_ j ih=>
  intro hj;have U:=hh j hj;have b2:j<ops.size:=aK U p.le;have I:ops[j]?=some ops[j]:=by simp[b2]
  obtain⟨F1,a1,b3,b4,b5,b6⟩:=hV ev j _ U I;obtain⟨F2,a2,b7,b8,b9,c0⟩:=hV J j _ U I;cases hR:R j with
  |some Ri=>rw[(b6 Ri hR).2,(c0 Ri hR).2,he j hj]
  |none=>
   have look:∀t∈(ops[j]).looksAt ops,a1.tmps[t]?=a2.tmps[t]?:=fun t ht=>b4.look b8 fun k o hk hd=>⟨Iff.rfl,fun c1=>by
    rcases p.look j _ k o t I hk (by omega) hd ht with h|h
    ·exact(ih k c1 (hc j hj k h)).symm
    ·have:=CQ p _ _ h;omega⟩
   have c2:B1 ops F1 j w:=fun f a6 ha=>by
    obtain⟨Rj,h1,h2,h3⟩:=b3 f a6;rw[h3];exact hf _ _ (hc j hj _ ha) h1
   have c5:B1 ops F2 j w:=fun f a6 ha=>by
    obtain⟨Rj,h1,h2,h3⟩:=b7 f a6;rw[h3,ih f.1 h2 (hc j hj _ ha)];exact hf _ _ (hc j hj _ ha) h1
   have g1:=b5 hR w hI c2;have g2:=b9 hR w hI c5;rw[CA look,CL (p.plain j _ I) look]at g1;split at g1
   ·rename_i hw;rw[if_pos hw]at g2;rw[g2]at g1;injection g1 with g1
    injection g1
   ·rename_i hw;rw[if_neg hw]at g2;rw[g1,g2]
theorem Xb {p q:Nat->Bool} (h:∀x,q x=true->p x=true) {i:Nat} (hp:p i=true) (j:q i=false):∀(l:List Nat),i∈l->l.countP q<l.countP p:=by
 have le:∀(l:List Nat),l.countP q<=l.countP p:=fun l=>List.countP_mono_left fun x _=>h x
 intro l
 induction l with
 |nil=>intro hi;cases hi
 |cons x l ih=>
  intro hi;rw[List.countP_cons,List.countP_cons];rcases bJ.1 hi with rfl|hi
  ·have:=le l;simp[hp,j];omega
  ·have J:=ih hi;have U:=h x;cases o:q x<;>cases I:p x<;>simp_all<;>omega
def left (ops:Array Oper) (listed:Array Bool):Nat:=(List.range ops.size).countP fun k=>!listed.getD k false
theorem Cn {listed:Array Bool} {i:Nat} (p:listed.size=ops.size) (hi:i<ops.size) (hu:¬On listed i):left ops (listed.setIfInBounds i true)<left ops listed:=by
 refine Xb (fun x o=>?_) (i:=i) ?_ ?_ _ (cQ.2 hi)
 ·by_cases j:i=x
  ·subst j;simp[p,hi]at o
  ·rw[getD_set_ne false j]at o;exact o
 ·rw[On.not hu];rfl
 ·simp[p,hi]
theorem Hj {listed:Array Bool} (hs:listed.size=ops.size) (p:Ok ops m) {i:Nat} (hi:i<ops.size) (hu:¬On listed i):∃k,k∈Region.ready .any ops listed:=by
 induction i using Nat.strongRecOn with
 |_ i ih=>
  have o:ops[i]?=some ops[i]:=by simp[hi]
  by_cases j:∀e∈(ops[i]).after,Region.binds .any e=true->listed.getD e.on false=true
  ·refine⟨i,gK.2 ⟨getD_in (by omega) (On.not hu),_,o,j⟩⟩
  ·have⟨e,he⟩:=dK.1 j;have⟨I,J⟩:=dQ.1 he;have⟨hb,U⟩:=dQ.1 J;have a1:=p.Yp i _ o e I hb;exact ih e.on a1 (by omega) U
theorem GC {Q:Exit->Act->World->Prop} (J:Ok ops m):∀(n Bf t:Nat) (listed:Array Bool) (a:Act) (w:World),ops.size-t=n->m<=t->t<=ops.size->left ops listed<=Bf->listed.size=ops.size->
  (∀k,On listed k↔k<t)->wpList P ops Q (ops.toList.drop t) a w->wpAny P .any ops Q Bf listed a w:=by
 intro n
 induction n with
 |zero=>
  intro Bf t listed a w hn _ ht _ hs hL h;have b5:t=ops.size:=by omega
  subst b5;have hr:Region.ready .any ops listed=[]:=by
   refine List.eq_nil_iff_forall_not_mem.2 fun k I=>?_
   obtain⟨h0,o,ho,_⟩:=gK.1 I;have U:k<ops.size:=(aU.1 ho).1;have:=(hL k).2 U;unfold On at this;rw[getD_both h0]at this;cases this
  rw[List.drop_eq_nil_of_le (by simp)]at h;exact wpAny_done hr h _
 |succ n ih=>
  intro Bf t listed a w hn c1 ht hf hs hL h;have j:t<ops.size:=by omega
  have b7:ops[t]?=some ops[t]:=by simp[j]
  have b0:¬On listed t:=fun h=>by have:=(hL t).1 h;omega
  have hr:∀k,k∈Region.ready .any ops listed->k=t:=by
   intro k I;obtain⟨h0,o,ho,b1⟩:=gK.1 I;have b8:k<ops.size:=(aU.1 ho).1;have a1:¬k<t:=fun U=>by have:=(hL k).2 U;unfold On at this;rw[getD_both h0]at this;cases this
   rcases bH t k with h1|h1
   ·have h2:=J.VF k (by omega) b8 (by omega);obtain⟨o',b2,e,he,hb,h3⟩:=Gl h2;rw[ho]at b2;cases b2;have h4:e.on<t:=(hL e.on).1 (b1 e he hb);rcases h3 with h3|h3
    ·omega
    ·have:=CQ J _ _ h3;omega
   ·omega
  have c5:left ops (listed.setIfInBounds t true)<left ops listed:=Cn hs j b0;cases Bf with
  |zero=>omega
  |succ Bf=>
   refine⟨fun h0=>?_,fun k I=>?_⟩
   ·obtain⟨k,I⟩:=Hj hs J j b0;rw[h0]at I;cases I
   ·rw[hr k I];have hd:ops.toList.drop t=ops[t]::ops.toList.drop (t+1):=by
     rw[dV (by simpa using j)];simp
    rw[hd]at h;have p:∀a w,wpList P ops Q (ops.toList.drop (t+1)) a w->wpAny P .any ops Q Bf (listed.setIfInBounds t true) a w:=fun a w h=>by
     refine ih Bf (t+1) _ a w (by omega) (by omega) j (by omega) (by simp[hs]) (fun k=>?_) h;by_cases a1:t=k
     ·subst a1;simp[On,hs,j]
     ·unfold On;rw[getD_set_ne false a1];have:=hL k;unfold On at this;rw[this];omega
    unfold wpOp;simp only[b7];simp only[wpList]at h;split
    ·rename_i hw;simp only[hw,if_true]at h;exact h.imp (Oper.wp_mono p) id
    ·rename_i hw;simp only[hw]at h;exact p _ _ h
theorem On.set {listed:Array Bool} {i:Nat} (hi:i<listed.size) (j:Nat):On (listed.setIfInBounds i true) j↔On listed j\/j=i:=by
 by_cases o:i=j
 ·subst o;simp[On,hi]
 ·unfold On;rw[getD_set_ne false o];simp[show j≠i from fun e=>o e.symm]
theorem St.found (I:Ok ops m) {V:(Nat->Value)->Nat->Value} (hV:∀ev k o,k<m->ops[k]?=some o->Dg P ops Inv Step R C a0 ev (V ev) k o) {listed:Array Bool} {a:Act} {w:World} {ev:Nat->Value}
  (st:St P ops Inv Step R m a0 V listed a w ev) {i:Nat} {o:Oper} (U:ops[i]?=some o) (b0:i<m) (a1:¬On listed i) (p:∀j,FJ ops j i=true->On listed j) :
  ∃Fi J,B1 ops Fi i w/\(∀t∈o.looksAt ops,J.tmps[t]?=a.tmps[t]?)/\J.tmps.size=a.tmps.size/\
   (R i=none->Hb P ops Inv Fi o i J (V ev i))/\(∀Ri,R i=some Ri->K5 P ops Inv Step C Fi o i J Ri/\V ev i=(C i).getD (ev i)):=by
 obtain⟨Fi,J,b1,a7,b2,b3⟩:=hV ev i o b0 U;refine⟨Fi,J,fun f b4 ha=>?_,fun t ht=>a7.look st.Cs fun k o' hk hd=>?_,a7.size.trans st.Cs.size.symm,b2,b3⟩
 ·obtain⟨Rj,g1,_,g3⟩:=b1 f b4;rw[g3];exact st.facts _ _ (p _ ha) g1
 ·by_cases a8:k=i
  ·subst a8;exact⟨⟨fun h=>absurd h (eM _),fun h=>absurd h a1⟩,fun _=>rfl⟩
  ·rcases I.look i o k o' t U hk a8 hd ht with h|h
   ·exact⟨⟨fun _=>p k h,fun _=>CQ I _ _ h⟩,fun _=>rfl⟩
   ·have c2:=CQ I _ _ h;exact⟨⟨fun h'=>by omega,fun h'=>absurd (st.closed k h' i h) a1⟩,fun _=>rfl⟩
theorem St.pure (a7:Ok ops m) {V:(Nat->Value)->Nat->Value} {listed:Array Bool} {a:Act} {w:World} {ev:Nat->Value}
  (st:St P ops Inv Step R m a0 V listed a w ev) {i:Nat} {o:Oper} (a1:ops[i]?=some o) (a8:i<m) (b0:¬On listed i) (a6:∀j,FJ ops j i=true->On listed j) (hR:R i=none) :
  St P ops Inv Step R m a0 V (listed.setIfInBounds i true) (a.put o.dst (V ev i)) w ev:=by
 have p:=On.set (listed:=listed) (i:=i) (by rw[st.sz];exact(aU.1 a1).1);refine⟨by simp[st.sz],fun k I j U=>?_,fun k I=>?_,st.inv,st.Cs.put a7 a1 p (fun _ _=>rfl) b0,fun j Rj U J=>?_⟩
 ·rcases(p k).1 I with I|rfl
  ·exact(p j).2 (.inl (st.closed k I j U))
  ·exact(p j).2 (.inl (a6 j U))
 ·rcases(p k).1 I with I|rfl
  ·exact st.head k I
  ·exact a8
 ·rcases(p j).1 U with U|rfl
  ·exact st.facts j Rj U J
  ·rw[hR]at J;cases J
theorem D2 {Q:Exit->Act->World->Prop} (p:Ok ops m) (c4:Region.noSelect ops=true) (hQ:∀c a d v w,Q (.panic c) (a.put d v) w->Q (.panic c) a w) {V:(Nat->Value)->Nat->Value} (hV:∀ev k o,k<m->ops[k]?=some o->Dg P ops Inv Step R C a0 ev (V ev) k o)
  (c5:∀i,BY ops i=true->R i=none)
  (a6:∀ev,∃Fn an,N5 R (V ev) Fn m/\Cd ops a0 an (·<m) (V ev)/\∀w,Inv w->(∀f∈Fn,f.2 w)->wpList P ops Q (ops.toList.drop m) an w) :
  ∀(n Bf:Nat) (listed:Array Bool) (a:Act) (w:World) (ev:Nat->Value),left ops listed<=n->left ops listed<=Bf->(∀k,k<m->On listed k\/BY ops k=true)->St P ops Inv Step R m a0 V listed a w ev->wpAny P .any ops Q Bf listed a w:=by
 intro n
 induction n with
 |zero=>
  intro Bf listed a w ev hn hf _ st;have J:∀k,k<ops.size->On listed k:=fun k hk=>bU fun hx=>by
   have:=Cn st.sz hk hx;omega
  obtain⟨Fn,an,h1,h2,h3⟩:=a6 ev;have hm:∀k,On listed k↔k<m:=fun k=>⟨st.head k,fun hk=>J k (aK hk p.le)⟩
  have ha:an=a:=h2.same st.Cs fun k o _=>(hm k).symm
  subst ha;refine GC p _ Bf m listed an w rfl (aL _) p.le hf st.sz hm (h3 w st.inv fun f b2=>?_);obtain⟨Rj,g1,g2,g3⟩:=h1 f b2;rw[g3];exact st.facts _ _ ((hm _).2 g2) g1
 |succ n ih=>
  intro Bf listed a w ev hn hf b8 st;by_cases J:∀k,k<m->On listed k
  ·obtain⟨Fn,an,h1,h2,h3⟩:=a6 ev;have hm:∀k,On listed k↔k<m:=fun k=>⟨st.head k,J k⟩
   have ha:an=a:=h2.same st.Cs fun k o _=>(hm k).symm
   subst ha;refine GC p _ Bf m listed an w rfl (aL _) p.le hf st.sz hm (h3 w st.inv fun f b2=>?_);obtain⟨Rj,g1,g2,g3⟩:=h1 f b2;rw[g3];exact st.facts _ _ ((hm _).2 g2) g1
  ·
   have⟨u,hu⟩:=dK.1 J;have⟨b3,b4⟩:=dQ.1 hu;have first:∀u,u<m->¬On listed u->∃i,i<m/\¬On listed i/\∀j,j<i->On listed j:=by
    intro u
    induction u using Nat.strongRecOn with
    |_ u ih=>
     intro b3 b4;by_cases hx:∀j,j<u->On listed j
     ·exact⟨u,b3,b4,hx⟩
     ·have⟨j,hj⟩:=dK.1 hx;have⟨e1,e2⟩:=dQ.1 hj;exact ih j e1 (by omega) e2
   obtain⟨i,b5,U,b9⟩:=first u b3 b4
   have c0:BY ops i=true:=(b8 i b5).resolve_left U;obtain⟨o,x,I,e3,e4,b6⟩:=Hk c0;have b7:i<ops.size:=(aU.1 I).1;have h7:=Cn st.sz b7 U;have a8:∀j,FJ ops j i=true->On listed j:=fun j hj=>b9 j (CQ p _ _ hj)
   have hR:=c5 i c0;obtain⟨Fi,ai,fa,look,i1,e5,_⟩:=st.found p hV I b5 U a8;have a1:i∈Region.ready .any ops listed:=gK.2 ⟨getD_in (by rw[st.sz];exact b7) (On.not U),o,I,fun e he hb=>b9 e.on (p.Yp i o I e he hb)⟩;have hw:∀b:Act,Region.wanted o (yielded ops b.tmps)=true:=fun b=>by simp[Region.wanted,e4]
   have b0:∀w',(execOp a.eval o).run P w'=.ok (.value (a.eval x)) w':=fun w'=>by simp[execOp,e3,eU]
   have c1:V ev i=a.eval x:=by
    have g:=e5 hR w st.inv fa;rw[if_pos (hw ai),CL (p.plain i _ I) look,b0 w]at g;injection g with g
    injection g with g
    exact g.symm
   cases Bf with
   |zero=>omega
   |succ Bf=>
    have c2:=st.pure p I b5 U a8 hR;rw[c1]at c2;refine wpAny_first I (Region.noSelect_spec c4) (fun c a w=>hQ c a _ _ w) Bf listed a w (fun k ok hk e7 _ e8=>b6 k ok hk e7 e8) a1 (.inl ⟨hw a,b0⟩) (ih Bf _ _ w ev (by omega) (by omega) (fun k hk=>?_) c2);rcases b8 k hk with h|h
    ·exact .inl ((On.set (by rw[st.sz];exact b7) k).2 (.inl h))
    ·exact .inr h
theorem Hy {Q:Exit->Act->World->Prop} (p:Ok ops m) (b8:Region.noSelect ops=true) (hQ:∀c a d v w,Q (.panic c) (a.put d v) w->Q (.panic c) a w) {V:(Nat->Value)->Nat->Value} (hV:∀ev k o,k<m->ops[k]?=some o->Dg P ops Inv Step R C a0 ev (V ev) k o)
  (b9:∀i,BY ops i=true->R i=none)
  (b5:∀ev,∃Fn an,N5 R (V ev) Fn m/\Cd ops a0 an (·<m) (V ev)/\∀w,Inv w->(∀f∈Fn,f.2 w)->wpList P ops Q (ops.toList.drop m) an w) :
  ∀(Bf:Nat) (listed:Array Bool) (a:Act) (w:World) (ev:Nat->Value),left ops listed<=Bf->St P ops Inv Step R m a0 V listed a w ev->wpAny P .any ops Q Bf listed a w:=by
 intro Bf
 induction Bf with
 |zero=>
  intro listed a w ev hf st;have a1:∀k,k<ops.size->On listed k:=fun k U=>bU fun hn=>by
   have:=Cn st.sz U hn;omega
  exact D2 p b8 hQ hV b9 b5 0 0 listed a w ev hf hf (fun k U=>.inl (a1 k (aK U p.le))) st
 |succ Bf ih=>
  intro listed a w ev hf st;by_cases a1:∀k,k<m->On listed k\/(m<ops.size/\BY ops k=true)
  ·exact D2 p b8 hQ hV b9 b5 _ (Bf+1) listed a w ev (aL _) hf (fun k U=>(a1 k U).imp id And.right) st
  ·have⟨u,hu⟩:=dK.1 a1;have⟨c0,b6⟩:=dQ.1 hu;have c1:¬On listed u:=fun h=>b6 (.inl h)
   have e3:u<ops.size:=aK c0 p.le;refine⟨fun h0=>?_,fun i hi=>?_⟩
   ·obtain⟨k,U⟩:=Hj st.sz p e3 c1;rw[h0]at U;cases U
   ·obtain⟨h0,o,I,b2⟩:=gK.1 hi;have a8:i<ops.size:=(aU.1 I).1;have b0:¬On listed i:=fun h=>by unfold On at h;rw[getD_both h0]at h;cases h
    have J:∀j,FJ ops j i=true->On listed j:=fun j hj=>by
     obtain⟨o',c2,e,he,hb,h3⟩:=Gl hj;rw[I]at c2;cases c2;have c4:=b2 e he hb;rcases h3 with h3|h3
     ·rw[<-h3];exact c4
     ·exact st.closed e.on c4 j h3
    have b3:i<m:=by
     rcases bH i m with h|h
     ·exact h
     ·exfalso;rcases bH m i with h1|h1
      ·have:=st.head _ (J _ (p.VF i h a8 (by omega)));omega
      ·have e5:i=m:=by omega
       subst e5;rcases p.Yy u c0 a8 with h2|h2
       ·exact c1 (J u h2)
       ·exact b6 (.inr ⟨a8,h2⟩)
    obtain⟨Fi,ai,fa,look,e7,e8,e9⟩:=st.found p hV I b3 b0 J;have b1:left ops (listed.setIfInBounds i true)<=Bf:=by have:=Cn st.sz a8 b0;omega
    have a6:=On.set (listed:=listed) (i:=i) (by rw[st.sz];exact a8);unfold wpOp;simp only[I];cases hR:R i with
    |none=>
     have g:=e8 hR w st.inv fa;rw[CA look,CL (p.plain i _ I) look]at g;have fin:=ih _ _ _ ev b1 (st.pure p I b3 b0 J hR);split
     ·rename_i hw;rw[if_pos hw]at g;refine .inl ?_;unfold Oper.wp;rw[g];exact fin
     ·rename_i hw;rw[if_neg hw]at g;rw[g]at fin;exact fin
    |some Ri=>
     obtain⟨⟨hw,h4,c6⟩,_⟩:=e9 Ri hR;have g:=c6 w st.inv fa;rw[CA look]at hw;rw[if_pos hw];refine .inl (Vt (p.plain i _ I) e7 look g fun v w' ⟨r0,r1,r2,r3⟩=>?_);have h5:∀j,On listed j->ev j=(fun k=>if k=i then v else ev k) j:=fun j hj=>by
      have:j≠i:=fun e=>b0 (e▸hj)
      simp[this]
     have c7:=N3 p hV st.closed st.head st.inv st.facts h5;obtain⟨_,_,_,_,_,c8⟩:=hV (fun k=>if k=i then v else ev k) i o b3 I;have c9:V (fun k=>if k=i then v else ev k) i=v:=by
      rw[(c8 Ri hR).2];cases hC:C i with
      |none=>simp
      |some c=>rw[r0 c hC];rfl
     have e0:=st.Cs.put (vals':=V (fun k=>if k=i then v else ev k)) p I a6 c7 b0;rw[c9]at e0;refine ih _ _ _ (fun k=>if k=i then v else ev k) b1 ⟨by simp[st.sz],fun k U j hj=>?_,fun k U=>?_,r2,e0,fun j Rj hj b4=>?_⟩
     ·rcases(a6 k).1 U with U|rfl
      ·exact(a6 j).2 (.inl (st.closed k U j hj))
      ·exact(a6 j).2 (.inl (J j hj))
     ·rcases(a6 k).1 U with U|rfl
      ·exact st.head k U
      ·exact b3
     rcases(a6 j).1 hj with hj|rfl
     ·rw[c7 j hj];have e1:=st.head j hj;have h6:j<ops.size:=aK e1 p.le;obtain⟨_,_,_,_,_,h7⟩:=hV ev j ops[j] e1 (by simp[h6]);exact(h7 Rj b4).1.2.1 _ _ _ r3 (st.facts j Rj hj b4)
     ·rw[c9];rw[hR]at b4;cases b4;exact r1
theorem CX {id:Nat} {Q:Exit->Act->World->Prop} {w:World} (m:Nat) (Inv:World->Prop) (Step:World->World->Prop) (R:Nat->Option (Value->World->Prop)) (C:Nat->Option Value)
  (hm:P.follows .mixedOrders=true) (p:ok ops m=true) (a7:Region.noSelect ops=true) (hQ:∀c a d v w,Q (.panic c) (a.put d v) w->Q (.panic c) a w) (a8:∀i,BY ops i=true->R i=none) (h0:Inv w.drew)
  (hc:Ba P ops Inv Step R C (wpList P ops Q (ops.toList.drop m)) (ops.toList.take m) 0 [] a0):(Code.region id ops true).wp P Q a0 w:=by
 have p:=Ok.of p;have I:=Ba.Oc _ _ _ _ hc;have hlen:(ops.toList.take m).length=m:=by rw[bF,bS];exact fF p.le
 have U:∀k o,(ops.toList.take m)[k]?=some o->ops[0+k]?=some o:=fun k o h=>by
  rw[cE]at h;split at h
  ·simpa using h
  ·cases h
 have b0:∀Ac,Cd ops a0 a0 (·<0) Ac:=fun Ac=>⟨rfl,rfl,fun t j o hj=>absurd hj (by omega),fun t _=>rfl⟩
 let V:(Nat->Value)->Nat->Value:=fun ev=>(I ev).choose
 have b1:∀ev,Good P ops Inv Step R C (wpList P ops Q (ops.toList.drop m)) ev (V ev) (ops.toList.take m) 0 [] a0:=fun ev=>(I ev).choose_spec
 have a6:=fun ev=>Good.at_ (a0:=a0) p _ _ _ _ (b1 ev) U (b0 _) (fun f hf=>by cases hf)
 refine wp_region_any hm ?_;refine Hy (Inv:=Inv) (Step:=Step) (R:=R) (C:=C) (a0:=a0) (V:=V) p a7 hQ (fun ev k o J ho=>?_) a8 (fun ev=>?_) ops.size (Array.replicate ops.size false) a0 w.drew (fun _=>undef) ?_ ⟨by simp,fun k J=>?_,fun k J=>?_,h0,?_,fun i Ri hi=>?_⟩
 ·have:=(a6 ev).1 k o (by rw[cE,if_pos J];simpa using ho);simpa using this
 ·have:=(a6 ev).2;rw[hlen,bO]at this;exact this
 ·unfold left;exact aV gY (by simp)
 ·unfold On at J;rw[cL]at J;cases J
 ·unfold On at J;rw[cL]at J;cases J
 ·refine⟨rfl,rfl,fun t j o hj=>?_,fun t _=>rfl⟩;unfold On at hj;rw[cL]at hj;cases hj
 ·unfold On at hi;rw[cL]at hi;cases hi
def KE (l:List (Nat×(Value->World->Prop))) (i:Nat):Option (Value->World->Prop):=match l with
 | []=>none
 |x::r=>if x.1=i then some x.2 else KE r i
theorem Ie {l:List (Nat×(Value->World->Prop))} {i:Nat} {T:Value->World->Prop} (h:KE l i=some T):∃x∈l,x.1=i:=by
 induction l with
 |nil=>cases h
 |cons x l ih=>
  unfold KE at h;split at h
  ·rename_i j;exact⟨x,by simp,j⟩
  ·obtain⟨y,o,e⟩:=ih h;exact⟨y,by simp[o],e⟩
theorem LG {id:Nat} {Q:Exit->Act->World->Prop} {w:World} (m:Nat) (l:List (Nat×(Value->World->Prop))) (Inv:World->Prop) (Step:World->World->Prop)
  (hm:P.follows .mixedOrders=true) (j:ok ops m=true) (o:Region.noSelect ops=true) (p:(l.map (·.1)).all (fun i=>!BY ops i)=true)
  (I:∀c a d v w,Q (.panic c) (a.put d v) w->Q (.panic c) a w) (J:Inv w.drew)
  (U:Ba P ops Inv Step (KE l) C (wpList P ops Q (ops.toList.drop m)) (ops.toList.take m) 0 [] a0):(Code.region id ops true).wp P Q a0 w:=by
 refine CX m Inv Step (KE l) C hm j o I (fun i hi=>?_) J U;cases hR:KE l i with
 |none=>rfl
 |some T=>
  obtain⟨x,hx,e⟩:=Ie hR;have:=aY.1 p i (dF.2 ⟨x,hx,e⟩);rw[hi]at this;cases this
theorem AM {id:Nat} {Q:Exit->Act->World->Prop} {w:World} (m:Nat) (l:List (Nat×(Value->World->Prop))) (Inv:World->Prop) (Step:World->World->Prop)
  (hm:P.follows .mixedOrders=true) (j:ok ops m=true) (o:Region.noSelect ops=true) (p:(l.map (·.1)).all (fun i=>!BY ops i)=true)
  (I:∀c a d v w,Q (.panic c) (a.put d v) w->Q (.panic c) a w) (J:Inv w.drew)
  (U:Ba P ops Inv Step (KE l) (fun _=>none) (wpList P ops Q (ops.toList.drop m)) (ops.toList.take m) 0 [] a0):(Code.region id ops true).wp P Q a0 w:=
 LG m l Inv Step hm j o p I J U
def Cof (l:List (Nat×Value)) (i:Nat):Option Value:=match l with
 | []=>none
 |x::r=>if x.1=i then some x.2 else Cof r i
theorem AF {id:Nat} {Q:Exit->Act->World->Prop} {w:World} (m:Nat) (p:List (Nat×Value)) (l:List (Nat×(Value->World->Prop))) (Inv:World->Prop) (Step:World->World->Prop)
  (hm:P.follows .mixedOrders=true) (j:ok ops m=true) (o:Region.noSelect ops=true) (I:(l.map (·.1)).all (fun i=>!BY ops i)=true)
  (J:∀c a d v w,Q (.panic c) (a.put d v) w->Q (.panic c) a w) (U:Inv w.drew)
  (hc:Ba P ops Inv Step (KE l) (Cof p) (wpList P ops Q (ops.toList.drop m)) (ops.toList.take m) 0 [] a0):(Code.region id ops true).wp P Q a0 w:=
 LG m l Inv Step hm j o I J U hc
theorem Ad {o:Oper} {rest:List Oper} {i:Nat} {F:List (Nat×(World->Prop))} {a:Act} (j:R i=none) (p:o.guard=none) (c:Value)
  (h:∀w,Inv w->B1 ops F i w->(execOp a.eval o).run P w=.ok (.value c) w) (I:Ba P ops Inv Step R C Fin rest (i+1) F (a.put o.dst c)):Ba P ops Inv Step R C Fin (o::rest) i F a:=by
 unfold Ba;simp only[j];refine⟨c,fun w hI J=>?_,I⟩;have hw:Region.wanted o (yielded ops a.tmps)=true:=by simp[Region.wanted,p]
 rw[if_pos hw];exact h w hI J
theorem Aq {o:Oper} {rest:List Oper} {i:Nat} {F:List (Nat×(World->Prop))} {a:Act} (j:R i=none) (hw:Region.wanted o (yielded ops a.tmps)=true) (c:Value)
  (h:∀w,Inv w->B1 ops F i w->(execOp a.eval o).run P w=.ok (.value c) w) (p:Ba P ops Inv Step R C Fin rest (i+1) F (a.put o.dst c)):Ba P ops Inv Step R C Fin (o::rest) i F a:=by
 unfold Ba;simp only[j];refine⟨c,fun w hI I=>?_,p⟩;rw[if_pos hw];exact h w hI I
theorem Bb {o:Oper} {rest:List Oper} {i:Nat} {F:List (Nat×(World->Prop))} {a:Act} (j:R i=none) (hw:Region.wanted o (yielded ops a.tmps)=false)
  (p:Ba P ops Inv Step R C Fin rest (i+1) F (a.put o.dst undef)):Ba P ops Inv Step R C Fin (o::rest) i F a:=by
 unfold Ba;simp only[j];refine⟨undef,fun w hI I=>?_,p⟩;rw[if_neg (by rw[hw];exact dT)]
theorem Bh {o:Oper} {rest:List Oper} {i:Nat} {F:List (Nat×(World->Prop))} {a:Act} {p:Value->World->Prop} (J:R i=some p) (hw:Region.wanted o (yielded ops a.tmps)=true) (hm:∀v w j,Step w j->p v w->p v j)
  (h:∀w,Inv w->B1 ops F i w->∀K:Act->World->Prop,(∀v j a',a.put o.dst v=a'->p v j->Inv j->Step w j->K a' j)->o.wp P a w K (fun _ _ _=>False))
  (I:∀v,Ba P ops Inv Step R C Fin rest (i+1) ((i,p v)::F) (a.put o.dst v)) (hC:C i=none:=by rfl):Ba P ops Inv Step R C Fin (o::rest) i F a:=by
 unfold Ba;simp only[J];exact⟨⟨hw,hm,fun w hI U=>h w hI U _ fun v j a' h0 h1 h2 h3=>⟨v,h0.symm,(fun c I=>by rw[hC]at I;cases I),h1,h2,h3⟩⟩,fun v _=>I v⟩
theorem AC {o:Oper} {rest:List Oper} {i:Nat} {F:List (Nat×(World->Prop))} {a:Act} {p:Value->World->Prop} (c:Value) (hC:C i=some c) (J:R i=some p) (hw:Region.wanted o (yielded ops a.tmps)=true) (hm:∀v w j,Step w j->p v w->p v j)
  (h:∀w,Inv w->B1 ops F i w->∀K:Act->World->Prop,(∀j a',a.put o.dst c=a'->p c j->Inv j->Step w j->K a' j)->o.wp P a w K (fun _ _ _=>False))
  (U:Ba P ops Inv Step R C Fin rest (i+1) ((i,p c)::F) (a.put o.dst c)):Ba P ops Inv Step R C Fin (o::rest) i F a:=by
 unfold Ba;simp only[J];exact⟨⟨hw,hm,fun w hI hF=>h w hI hF _ fun j a' h0 h1 h2 h3=>⟨c,h0.symm,(fun c' I=>by rw[hC]at I;injection I),h1,h2,h3⟩⟩,fun v hv=>by rw[hv c hC];exact U⟩
theorem Ak {i:Nat} {F:List (Nat×(World->Prop))} {a:Act} (h:∀w,Inv w->(∀f∈F,f.2 w)->Fin a w):Ba P ops Inv Step R C Fin [] i F a:=h
end
end Aj
end
section
open Go.RowKit
namespace Aj
section
variable {P:Program} {ops:Array Oper} {Inv:World->Prop} {Step:World->World->Prop} {R:Nat->Option (Value->World->Prop)} {C:Nat->Option Value} {Fin:Act->World->Prop}
end
end Aj
theorem Row.BL {w:World} {base e n g c:Nat} {xs:List Value} (h:w.ownsRow base e 1 (.slice (some ⟨g,0,none⟩) n c) n xs):Row w g e xs:=by
 rcases h.2 with⟨I,_⟩|⟨g',cap,J,I,_,U,_,_,_,o⟩
 ·cases I
 ·injection I with p _ _
  injection p with p
  injection p with p
  subst p;refine⟨J,0,0,U,fun j _=>by simp,fun j u hu=>?_⟩;rw[<-o,cE]at hu;split at hu
  ·simpa using hu
  ·cases hu
end
section
theorem J0 {α:Type} {k:Nat} (f:α->List Value) (j:∀a,(f a).length=k) (l:List α):(l.flatMap f).length=l.length*k:=by
 induction l with
 |nil=>simp
 |cons a l ih=>rw[eE,aO,ih,j,bP,Nat.succ_mul,Nat.add_comm]
theorem IT {α:Type} {k:Nat} (f:α->List Value) (o:∀a,(f a).length=k) (l:List α) (i j:Nat) (hi:i<l.length) (p:j<k):(l.flatMap f)[i*k+j]?=(f l[i])[j]?:=by
 induction l generalizing i with
 |nil=>simp at hi
 |cons a l ih=>
  rw[eE];cases i with
  |zero=>rw[gU,bO,bZ (by rw[o];exact p)];rfl
  |succ i=>
   have e:(i+1)*k+j=k+(i*k+j):=by rw[Nat.succ_mul];omega
   rw[e,bX (by rw[o];omega),o,Nat.add_sub_cancel_left];exact ih i (by simpa using hi)
theorem Fm {w:World} {B R e p k U n n':Nat} {u v:Value} {xs ys:List Value} (h:w.ownsRow B e k u n xs) (g:w.ownsRow R p U v n' ys) (o:e≠p):u.ownBlock=none\/u.ownBlock≠v.ownBlock:=by
 rcases h.2 with⟨rfl,_⟩|⟨b,cap,a6,rfl,_,hb,_⟩
 ·exact .inl rfl
 ·refine .inr fun e=>?_
  rcases g.2 with⟨rfl,_⟩|⟨b',I,J,rfl,_,j,_⟩
  ·cases e
  ·simp only[Value.ownBlock,Option.some.injEq]at e;subst e;rw[hb]at j;injection j with j
   injection j with _ h2
   exact o h2
theorem Bd {w:World} {B e k n:Nat} {u:Value} {xs:List Value} (h:w.ownsRow B e k u n xs) {g:Nat} (j:u.ownBlock=some g):g<w.heap.size/\B<=g:=by
 rcases h.2 with⟨rfl,_⟩|⟨b,cap,J,rfl,R,I,_⟩
 ·cases j
 ·simp only[Value.ownBlock,Option.some.injEq]at j;subst j;refine⟨?_,R⟩;rcases bH b w.heap.size with o|p
  ·exact o
  ·rw[dU p]at I;cases I
theorem En {P:Program} {fn:Func} {t u v x:Tmp} (h:fn.results=#[.tmp t,.tmp u,.tmp v,.tmp x]) (tmps:Array Value) (w:World) :
  (results fn tmps).run P w=.ok (.tuple #[tmps.getD t undef,tmps.getD u undef,tmps.getD v undef,tmps.getD x undef]) w:=by
 simp[results,h]
theorem Bt (w:World) (u:Value) (e H:Nat) (o:w.heap.size=H):Reads (w.alloc (.cells #[u] e)) (H+1) 1 (some ⟨H,0,none⟩) 1 [u]:=
 ⟨rfl,fun _=>⟨_,rfl,by show H<H+1;omega,fun j v p=>Dm w H o [u] e j v p⟩⟩
theorem Aj.Ah {P:Program} {ops:Array Oper} {Inv:World->Prop} {Step:World->World->Prop} {R:Nat->Option (Value->World->Prop)} {C:Nat->Option Value} {Fin:Act->World->Prop} {rest:List Oper} {i:Nat} {F:List (Nat×(World->Prop))} {a a':Act} (h:a=a')
  (j:Aj.Ba P ops Inv Step R C Fin rest i F a'):Aj.Ba P ops Inv Step R C Fin rest i F a:=h▸j
end
end Go.Proofs.YthbihnpoghlfaaaGreatDoor
