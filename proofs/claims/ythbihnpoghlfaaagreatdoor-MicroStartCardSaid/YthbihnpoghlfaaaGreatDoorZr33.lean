import Derived.Test.YthbihnpoghlfaaaGreatDoorZr02
set_option linter.unusedVariables false
set_option linter.unusedSimpArgs false
set_option maxHeartbeats 8000000
set_option maxRecDepth 100000
namespace Go.Proofs.YthbihnpoghlfaaaGreatDoor
section
namespace RegP
open Aj
theorem Yh {P:Program} {ops:Array Oper} {o:Oper} {a a':Act} {w:World} {T:Value->World->Prop} {Pan:List PanicEntry->World->Prop} (hp:J2 o.op=true) (hs:a.tmps.size=a'.tmps.size) (h:∀t∈o.looksAt ops,a.tmps[t]?=a'.tmps[t]?)
  (p:o.wp P a w (fun b j=>∃v,b=a.put o.dst v/\T v j) (fun ex _ j=>∃c,ex=.panic c/\Pan c j)) {K:Act->World->Prop} {Q:Exit->Act->World->Prop} (hK:∀v j,T v j->K (a'.put o.dst v) j) (hP:∀c j,Pan c j->Q (.panic c) a' j) :
  o.wp P a' w K Q:=by
 unfold Oper.wp at *;rw[<-CL hp h];have key:∀u j,(∃v,a.put o.dst u=a.put o.dst v/\T v j)->K (a'.put o.dst u) j:=fun u j ⟨v,J,ht⟩=>by rw[QY hs J];exact hK v j ht
 have I:∀c j,(∃U,Exit.panic c=.panic U/\Pan U j)->Q (.panic c) a' j:=fun c j ⟨U,e,hc⟩=>by injection e with e;subst e;exact hP c j hc
 generalize (execOp a.eval o).run P w=r at *;cases r with
 |ok n j=>
  cases n<;>simp only[Oper.upon]at p⊢
  case value u=>exact key _ _ p
  case skip=>exact key _ _ p
  case defer d=>
   obtain⟨v,J,_⟩:=p;have:=congrArg (fun b:Act=>b.defers.length) J;cases hd:o.dst<;>simp[Act.put,hd]at this
  case enter f args=>
   refine Calls.mono p fun e a1 he=>?_
   cases e with
   |returned u=>exact key _ _ he
   |panicked c=>exact I _ _ he
   |outgrown=>obtain⟨_,_,c,hf,_⟩:=he;cases hf
  case row row args=>exact Rows.mono p fun u a1 he=>key _ _ he
 |halt x j=>
  cases x<;>simp only[Oper.upon]at p⊢;exact I _ _ p
section
variable (P:Program) (ops:Array Oper) (Inv:World->Prop) (Pre:Nat->World->Prop) (next:Nat->Nat) (Pan:List PanicEntry->World->Prop) (Step:Nat->World->World->Prop) (R:Nat->Option (Value->World->Prop)) (C:Nat->Option Value) (Fin:Act->World->Prop)
def K5 (F:List (Nat×(World->Prop))) (o:Oper) (i:Nat) (a:Act) (I:Value->World->Prop):Prop:=
 Region.wanted o (yielded ops a.tmps)=true/\(∀j v w p,i<j->R j≠none->Step j w p->I v w->I v p)/\
 ∀w,Inv w->Pre i w->B1 ops F i w->o.wp P a w (fun a' p=>∃v,a'=a.put o.dst v/\(∀c,C i=some c->v=c)/\I v p/\Inv p/\Step i w p/\Pre (next i) p) (fun ex _ p=>∃c,ex=.panic c/\Pan c p)
def Ba:List Oper->Nat->List (Nat×(World->Prop))->Act->Prop
 | [],_,F,a=>∀w,Inv w->(∀f∈F,f.2 w)->Fin a w
 |o::rest,i,F,a=>
  match R i with
  |none=>∃c,Hb P ops Inv F o i a c/\Ba rest (i+1) F (a.put o.dst c)
  |some j=>K5 P ops Inv Pre next Pan Step R C F o i a j/\∀v,(∀c,C i=some c->v=c)->Ba rest (i+1) ((i,j v)::F) (a.put o.dst v)
def Good (ev Ac:Nat->Value):List Oper->Nat->List (Nat×(World->Prop))->Act->Prop
 | [],_,F,a=>∀w,Inv w->(∀f∈F,f.2 w)->Fin a w
 |o::rest,i,F,a=>
  match R i with
  |none=>Hb P ops Inv F o i a (Ac i)/\Good ev Ac rest (i+1) F (a.put o.dst (Ac i))
  |some j=>K5 P ops Inv Pre next Pan Step R C F o i a j/\Ac i=(C i).getD (ev i)/\Good ev Ac rest (i+1) ((i,j (Ac i))::F) (a.put o.dst (Ac i))
variable {P ops Inv Pre next Pan Step R C Fin}
theorem Good.congr {ev Ac vals':Nat->Value}:∀(l:List Oper) (i:Nat) (F:List (Nat×(World->Prop))) (a:Act),(∀k,i<=k->vals' k=Ac k)->
  Good P ops Inv Pre next Pan Step R C Fin ev Ac l i F a->Good P ops Inv Pre next Pan Step R C Fin ev vals' l i F a:=by
 intro l
 induction l with
 |nil=>intro i F a _ h;exact h
 |cons o l ih=>
  intro i F a he h;unfold Good at h⊢;cases j:R i with
  |none=>
   simp only[j]at h⊢;rw[he i (aL _)];exact⟨h.1,ih _ _ _ (fun k p=>he k (by omega)) h.2⟩
  |some I=>
   simp only[j]at h⊢;rw[he i (aL _)];exact⟨h.1,h.2.1,ih _ _ _ (fun k p=>he k (by omega)) h.2.2⟩
theorem Ba.Oc:∀(l:List Oper) (i:Nat) (F:List (Nat×(World->Prop))) (a:Act),Ba P ops Inv Pre next Pan Step R C Fin l i F a->∀ev,∃Ac,Good P ops Inv Pre next Pan Step R C Fin ev Ac l i F a:=by
 intro l
 induction l with
 |nil=>intro i F a h ev;exact⟨ev,h⟩
 |cons o l ih=>
  intro i F a h ev;unfold Ba at h;cases j:R i with
  |none=>
   simp only[j]at h;obtain⟨c,hp,p⟩:=h;obtain⟨Ac,I⟩:=ih _ _ _ p ev;refine⟨fun k=>if k=i then c else Ac k,?_⟩;unfold Good;simp only[j,if_true];exact⟨hp,Good.congr _ _ _ _ (fun k J=>by rw[if_neg (by omega)]) I⟩
  |some U=>
   simp only[j]at h;obtain⟨Ac,I⟩:=ih _ _ _ (h.2 ((C i).getD (ev i)) (fun c p=>by rw[p];rfl)) ev;refine⟨fun k=>if k=i then(C i).getD (ev i)else Ac k,?_⟩;unfold Good;simp only[j,if_true];exact⟨h.1,trivial,Good.congr _ _ _ _ (fun k J=>by rw[if_neg (by omega)]) I⟩
end
section
variable {P:Program} {ops:Array Oper} {Inv:World->Prop} {Pre:Nat->World->Prop} {next:Nat->Nat} {Pan:List PanicEntry->World->Prop} {Step:Nat->World->World->Prop} {R:Nat->Option (Value->World->Prop)} {C:Nat->Option Value} {Fin:Act->World->Prop} {m:Nat} {a0:Act}
def Dg (P:Program) (ops:Array Oper) (Inv:World->Prop) (Pre:Nat->World->Prop) (next:Nat->Nat) (Pan:List PanicEntry->World->Prop) (Step:Nat->World->World->Prop) (R:Nat->Option (Value->World->Prop)) (C:Nat->Option Value) (a0:Act) (ev Ac:Nat->Value) (k:Nat) (o:Oper):Prop:=
 ∃j p,N5 R Ac j k/\Cd ops a0 p (·<k) Ac/\
  (R k=none->Hb P ops Inv j o k p (Ac k))/\(∀I,R k=some I->K5 P ops Inv Pre next Pan Step R C j o k p I/\Ac k=(C k).getD (ev k))
theorem Good.at_ (b5:Ok ops m) {ev Ac:Nat->Value}:∀(l:List Oper) (i:Nat) (F:List (Nat×(World->Prop))) (a:Act),Good P ops Inv Pre next Pan Step R C Fin ev Ac l i F a->
  (∀k o,l[k]?=some o->ops[i+k]?=some o)->Cd ops a0 a (·<i) Ac->N5 R Ac F i->
  (∀k o,l[k]?=some o->Dg P ops Inv Pre next Pan Step R C a0 ev Ac (i+k) o)/\
  (∃Fn an,N5 R Ac Fn (i+l.length)/\Cd ops a0 an (·<i+l.length) Ac/\∀w,Inv w->(∀f∈Fn,f.2 w)->Fin an w):=by
 intro l
 induction l with
 |nil=>intro i F a h _ hs hF;exact⟨by simp,F,a,hF,hs,h⟩
 |cons o l ih=>
  intro i F a h hl hs hF;have b6:ops[i]?=some o:=by simpa using hl 0 o (by simp)
  have a8:∀k I,l[k]?=some I->ops[i+1+k]?=some I:=fun k I p=>by
   have:=hl (k+1) I (by simpa using p);rw[show i+1+k=i+(k+1)from by omega];exact this
  have b0:Cd ops a0 (a.put o.dst (Ac i)) (·<i+1) Ac:=hs.put b5 b6 (fun j=>by omega) (fun _ _=>rfl) (by omega);have shift:∀(k:Nat),i+1+k=i+(k+1):=by intro k;omega
  unfold Good at h;cases hR:R i with
  |none=>
   simp only[hR]at h;have J:N5 R Ac F (i+1):=fun f hf=>by obtain⟨Rj,U,h2,h3⟩:=hF f hf;exact⟨Rj,U,by omega,h3⟩
   obtain⟨U,h2⟩:=ih (i+1) F _ h.2 a8 b0 J;refine⟨fun k I p=>?_,?_⟩
   ·cases k with
    |zero=>
     simp at p;subst p;exact⟨F,a,hF,hs,fun _=>h.1,fun Ri b3=>by rw[dD,hR]at b3;cases b3⟩
    |succ k=>rw[<-shift];exact U k I (by simpa using p)
   ·rw[bP,<-shift];exact h2
  |some Ri=>
   simp only[hR]at h;have J:N5 R Ac ((i,Ri (Ac i))::F) (i+1):=fun f hf=>by
    rcases bJ.1 hf with rfl|hf
    ·exact⟨Ri,hR,eB _,rfl⟩
    ·obtain⟨Rj,U,h2,h3⟩:=hF f hf;exact⟨Rj,U,by omega,h3⟩
   obtain⟨U,h2⟩:=ih (i+1) _ _ h.2.2 a8 b0 J;refine⟨fun k I p=>?_,?_⟩
   ·cases k with
    |zero=>
     simp at p;subst p;exact⟨F,a,hF,hs,(fun hn=>by rw[dD,hR]at hn;cases hn),fun Rk b4=>by rw[dD,hR]at b4;cases b4;exact⟨h.1,h.2.1⟩⟩
    |succ k=>rw[<-shift];exact U k I (by simpa using p)
   ·rw[bP,<-shift];exact h2
structure St (P:Program) (ops:Array Oper) (Inv:World->Prop) (Pre:Nat->World->Prop) (next:Nat->Nat) (Pan:List PanicEntry->World->Prop) (Step:Nat->World->World->Prop) (R:Nat->Option (Value->World->Prop)) (m:Nat) (a0:Act) (V:(Nat->Value)->Nat->Value) (listed:Array Bool) (a:Act) (w:World) (ev:Nat->Value):Prop where
 sz:listed.size=ops.size
 closed:∀k,On listed k->∀j,FJ ops j k=true->On listed j
 head:∀k,On listed k->k<m
 inv:Inv w
 Cs:Cd ops a0 a (On listed) (V ev)
 facts:∀i Ri,On listed i->R i=some Ri->Ri (V ev i) w
 pre:∀i,R i≠none->¬On listed i->(∀j,R j≠none->j<i->On listed j)->Pre i w
theorem N3 (p:Ok ops m) {V:(Nat->Value)->Nat->Value} (hV:∀ev k o,k<m->ops[k]?=some o->Dg P ops Inv Pre next Pan Step R C a0 ev (V ev) k o) {listed:Array Bool} {w:World} {ev J:Nat->Value}
  (hc:∀k,On listed k->∀j,FJ ops j k=true->On listed j) (hh:∀k,On listed k->k<m) (hI:Inv w) (hf:∀i Ri,On listed i->R i=some Ri->Ri (V ev i) w)
  (he:∀j,On listed j->ev j=J j):∀j,On listed j->V J j=V ev j:=by
 intro j
 induction j using Nat.strongRecOn with
 |_ j ih=>
  intro hj;have U:=hh j hj;have b2:j<ops.size:=aK U p.le;have I:ops[j]?=some ops[j]:=by simp[b2]
  obtain⟨F1,a1,b3,b4,b5,b6⟩:=hV ev j _ U I;obtain⟨F2,a2,b7,b8,b9,c0⟩:=hV J j _ U I;cases hR:R j with
  |some Ri=>rw[(b6 Ri hR).2,(c0 Ri hR).2,he j hj]
  |none=>
   have look:∀t∈(ops[j]).looksAt ops,a1.tmps[t]?=a2.tmps[t]?:=fun t ht=>b4.look b8 fun k o hk hd=>⟨Iff.rfl,fun c1=>by
    rcases p.look j _ k o t I hk (by omega) hd ht with h|h
    ·exact(ih k c1 (hc j hj k h)).symm
    ·have:=CQ p _ _ h;omega⟩
   have c2:B1 ops F1 j w:=fun f a6 ha=>by
    obtain⟨Rj,h1,h2,h3⟩:=b3 f a6;rw[h3];exact hf _ _ (hc j hj _ ha) h1
   have c5:B1 ops F2 j w:=fun f a6 ha=>by
    obtain⟨Rj,h1,h2,h3⟩:=b7 f a6;rw[h3,ih f.1 h2 (hc j hj _ ha)];exact hf _ _ (hc j hj _ ha) h1
   have g1:=b5 hR w hI c2;have g2:=b9 hR w hI c5;rw[CA look,CL (p.plain j _ I) look]at g1;split at g1
   ·rename_i hw;rw[if_pos hw]at g2;rw[g2]at g1;injection g1 with g1
    injection g1
   ·rename_i hw;rw[if_neg hw]at g2;rw[g1,g2]
theorem St.found (I:Ok ops m) {V:(Nat->Value)->Nat->Value} (hV:∀ev k o,k<m->ops[k]?=some o->Dg P ops Inv Pre next Pan Step R C a0 ev (V ev) k o) {listed:Array Bool} {a:Act} {w:World} {ev:Nat->Value}
  (st:St P ops Inv Pre next Pan Step R m a0 V listed a w ev) {i:Nat} {o:Oper} (U:ops[i]?=some o) (b0:i<m) (a1:¬On listed i) (p:∀j,FJ ops j i=true->On listed j) :
  ∃Fi J,B1 ops Fi i w/\(∀t∈o.looksAt ops,J.tmps[t]?=a.tmps[t]?)/\J.tmps.size=a.tmps.size/\
   (R i=none->Hb P ops Inv Fi o i J (V ev i))/\(∀Ri,R i=some Ri->K5 P ops Inv Pre next Pan Step R C Fi o i J Ri/\V ev i=(C i).getD (ev i)):=by
 obtain⟨Fi,J,b1,a7,b2,b3⟩:=hV ev i o b0 U;refine⟨Fi,J,fun f b4 ha=>?_,fun t ht=>a7.look st.Cs fun k o' hk hd=>?_,a7.size.trans st.Cs.size.symm,b2,b3⟩
 ·obtain⟨Rj,g1,_,g3⟩:=b1 f b4;rw[g3];exact st.facts _ _ (p _ ha) g1
 ·by_cases a8:k=i
  ·subst a8;exact⟨⟨fun h=>absurd h (eM _),fun h=>absurd h a1⟩,fun _=>rfl⟩
  ·rcases I.look i o k o' t U hk a8 hd ht with h|h
   ·exact⟨⟨fun _=>p k h,fun _=>CQ I _ _ h⟩,fun _=>rfl⟩
   ·have c2:=CQ I _ _ h;exact⟨⟨fun h'=>by omega,fun h'=>absurd (st.closed k h' i h) a1⟩,fun _=>rfl⟩
theorem St.pure (a7:Ok ops m) {V:(Nat->Value)->Nat->Value} {listed:Array Bool} {a:Act} {w:World} {ev:Nat->Value}
  (st:St P ops Inv Pre next Pan Step R m a0 V listed a w ev) {i:Nat} {o:Oper} (a1:ops[i]?=some o) (a8:i<m) (b0:¬On listed i) (a6:∀j,FJ ops j i=true->On listed j) (hR:R i=none) :
  St P ops Inv Pre next Pan Step R m a0 V (listed.setIfInBounds i true) (a.put o.dst (V ev i)) w ev:=by
 have p:=On.set (listed:=listed) (i:=i) (by rw[st.sz];exact(aU.1 a1).1);refine⟨by simp[st.sz],fun k I j J=>?_,fun k I=>?_,st.inv,st.Cs.put a7 a1 p (fun _ _=>rfl) b0,fun j Rj J U=>?_,fun j J hn hb=>st.pre j J (fun h=>hn ((p j).2 (.inl h))) fun k I b1=>((p k).1 (hb k I b1)).resolve_right fun e=>I (e▸hR)⟩
 ·rcases(p k).1 I with I|rfl
  ·exact(p j).2 (.inl (st.closed k I j J))
  ·exact(p j).2 (.inl (a6 j J))
 ·rcases(p k).1 I with I|rfl
  ·exact st.head k I
  ·exact a8
 ·rcases(p j).1 J with J|rfl
  ·exact st.facts j Rj J U
  ·rw[hR]at U;cases U
theorem D2 {Q:Exit->Act->World->Prop} (p:Ok ops m) (c4:Region.noSelect ops=true) (hQ:∀(c:List PanicEntry) (a:Act) (i:Nat) (o:Oper) (v:Value) (w:World),ops[i]?=some o->Q (.panic c) (a.put o.dst v) w->Q (.panic c) a w) {V:(Nat->Value)->Nat->Value} (hV:∀ev k o,k<m->ops[k]?=some o->Dg P ops Inv Pre next Pan Step R C a0 ev (V ev) k o)
  (c5:∀i,BY ops i=true->R i=none) (h6:∀j i,R j≠none->R i≠none->j<i->FJ ops j i=true) (h7:∀i j,R i≠none->R j≠none->i<j->(∀k,R k≠none->i<k->j<=k)->next i=j) (e9:∀(c:List PanicEntry) (a:Act) (w:World),a.defers=a0.defers->(∀t:Tmp,(∀(j:Nat) (o:Oper),ops[j]?=some o->o.dst≠some t)->a.tmps[t]?=a0.tmps[t]?)->Pan c w->Q (.panic c) a w)
  (a6:∀ev,∃Fn an,N5 R (V ev) Fn m/\Cd ops a0 an (·<m) (V ev)/\∀w,Inv w->(∀f∈Fn,f.2 w)->wpList P ops Q (ops.toList.drop m) an w) :
  ∀(n Bf:Nat) (listed:Array Bool) (a:Act) (w:World) (ev:Nat->Value),left ops listed<=n->left ops listed<=Bf->(∀k,k<m->On listed k\/BY ops k=true)->St P ops Inv Pre next Pan Step R m a0 V listed a w ev->wpAny P .any ops Q Bf listed a w:=by
 intro n
 induction n with
 |zero=>
  intro Bf listed a w ev hn hf _ st;have J:∀k,k<ops.size->On listed k:=fun k hk=>bU fun hx=>by
   have:=Cn st.sz hk hx;omega
  obtain⟨Fn,an,h1,h2,h3⟩:=a6 ev;have hm:∀k,On listed k↔k<m:=fun k=>⟨st.head k,fun hk=>J k (aK hk p.le)⟩
  have ha:an=a:=h2.same st.Cs fun k o _=>(hm k).symm
  subst ha;refine GC p _ Bf m listed an w rfl (aL _) p.le hf st.sz hm (h3 w st.inv fun f b2=>?_);obtain⟨Rj,g1,g2,g3⟩:=h1 f b2;rw[g3];exact st.facts _ _ ((hm _).2 g2) g1
 |succ n ih=>
  intro Bf listed a w ev hn hf b8 st;by_cases J:∀k,k<m->On listed k
  ·obtain⟨Fn,an,h1,h2,h3⟩:=a6 ev;have hm:∀k,On listed k↔k<m:=fun k=>⟨st.head k,J k⟩
   have ha:an=a:=h2.same st.Cs fun k o _=>(hm k).symm
   subst ha;refine GC p _ Bf m listed an w rfl (aL _) p.le hf st.sz hm (h3 w st.inv fun f b2=>?_);obtain⟨Rj,g1,g2,g3⟩:=h1 f b2;rw[g3];exact st.facts _ _ ((hm _).2 g2) g1
  ·
   have⟨u,hu⟩:=dK.1 J;have⟨b3,b4⟩:=dQ.1 hu;have first:∀u,u<m->¬On listed u->∃i,i<m/\¬On listed i/\∀j,j<i->On listed j:=by
    intro u
    induction u using Nat.strongRecOn with
    |_ u ih=>
     intro b3 b4;by_cases hx:∀j,j<u->On listed j
     ·exact⟨u,b3,b4,hx⟩
     ·have⟨j,hj⟩:=dK.1 hx;have⟨e1,e2⟩:=dQ.1 hj;exact ih j e1 (by omega) e2
   obtain⟨i,b5,U,b9⟩:=first u b3 b4
   have c0:BY ops i=true:=(b8 i b5).resolve_left U;obtain⟨o,x,I,e3,e4,b6⟩:=Hk c0;have b7:i<ops.size:=(aU.1 I).1;have i1:=Cn st.sz b7 U;have a8:∀j,FJ ops j i=true->On listed j:=fun j hj=>b9 j (CQ p _ _ hj)
   have hR:=c5 i c0;obtain⟨Fi,ai,fa,look,j0,e5,_⟩:=st.found p hV I b5 U a8;have a1:i∈Region.ready .any ops listed:=gK.2 ⟨getD_in (by rw[st.sz];exact b7) (On.not U),o,I,fun e he hb=>b9 e.on (p.Yp i o I e he hb)⟩;have hw:∀b:Act,Region.wanted o (yielded ops b.tmps)=true:=fun b=>by simp[Region.wanted,e4]
   have b0:∀w',(execOp a.eval o).run P w'=.ok (.value (a.eval x)) w':=fun w'=>by simp[execOp,e3,eU]
   have c1:V ev i=a.eval x:=by
    have g:=e5 hR w st.inv fa;rw[if_pos (hw ai),CL (p.plain i _ I) look,b0 w]at g;injection g with g
    injection g with g
    exact g.symm
   cases Bf with
   |zero=>omega
   |succ Bf=>
    have c2:=st.pure p I b5 U a8 hR;rw[c1]at c2;refine wpAny_first I (Region.noSelect_spec c4) (fun c a w=>hQ c a _ _ _ w I) Bf listed a w (fun k ok hk e7 _ e8=>b6 k ok hk e7 e8) a1 (.inl ⟨hw a,b0⟩) (ih Bf _ _ w ev (by omega) (by omega) (fun k hk=>?_) c2);rcases b8 k hk with h|h
    ·exact .inl ((On.set (by rw[st.sz];exact b7) k).2 (.inl h))
    ·exact .inr h
theorem Hy {Q:Exit->Act->World->Prop} (p:Ok ops m) (c4:Region.noSelect ops=true) (hQ:∀(c:List PanicEntry) (a:Act) (i:Nat) (o:Oper) (v:Value) (w:World),ops[i]?=some o->Q (.panic c) (a.put o.dst v) w->Q (.panic c) a w) {V:(Nat->Value)->Nat->Value} (hV:∀ev k o,k<m->ops[k]?=some o->Dg P ops Inv Pre next Pan Step R C a0 ev (V ev) k o)
  (c5:∀i,BY ops i=true->R i=none) (b1:∀j i,R j≠none->R i≠none->j<i->FJ ops j i=true) (c0:∀i j,R i≠none->R j≠none->i<j->(∀k,R k≠none->i<k->j<=k)->next i=j) (b2:∀(c:List PanicEntry) (a:Act) (w:World),a.defers=a0.defers->(∀t:Tmp,(∀(j:Nat) (o:Oper),ops[j]?=some o->o.dst≠some t)->a.tmps[t]?=a0.tmps[t]?)->Pan c w->Q (.panic c) a w)
  (b8:∀ev,∃Fn an,N5 R (V ev) Fn m/\Cd ops a0 an (·<m) (V ev)/\∀w,Inv w->(∀f∈Fn,f.2 w)->wpList P ops Q (ops.toList.drop m) an w) :
  ∀(Bf:Nat) (listed:Array Bool) (a:Act) (w:World) (ev:Nat->Value),left ops listed<=Bf->St P ops Inv Pre next Pan Step R m a0 V listed a w ev->wpAny P .any ops Q Bf listed a w:=by
 intro Bf
 induction Bf with
 |zero=>
  intro listed a w ev hf st;have b0:∀k,k<ops.size->On listed k:=fun k J=>bU fun hn=>by
   have:=Cn st.sz J hn;omega
  exact D2 p c4 hQ hV c5 b1 c0 b2 b8 0 0 listed a w ev hf hf (fun k J=>.inl (b0 k (aK J p.le))) st
 |succ Bf ih=>
  intro listed a w ev hf st;by_cases b0:∀k,k<m->On listed k\/(m<ops.size/\BY ops k=true)
  ·exact D2 p c4 hQ hV c5 b1 c0 b2 b8 _ (Bf+1) listed a w ev (aL _) hf (fun k J=>(b0 k J).imp id And.right) st
  ·have⟨u,hu⟩:=dK.1 b0;have⟨c6,b9⟩:=dQ.1 hu;have c7:¬On listed u:=fun h=>b9 (.inl h)
   have e9:u<ops.size:=aK c6 p.le;refine⟨fun h0=>?_,fun i hi=>?_⟩
   ·obtain⟨k,J⟩:=Hj st.sz p e9 c7;rw[h0]at J;cases J
   ·obtain⟨h0,o,U,b6⟩:=gK.1 hi;have b3:i<ops.size:=(aU.1 U).1;have a1:¬On listed i:=fun h=>by unfold On at h;rw[getD_both h0]at h;cases h
    have I:∀j,FJ ops j i=true->On listed j:=fun j hj=>by
     obtain⟨o',c8,e,he,hb,h3⟩:=Gl hj;rw[U]at c8;cases c8;have e0:=b6 e he hb;rcases h3 with h3|h3
     ·rw[<-h3];exact e0
     ·exact st.closed e.on e0 j h3
    have b7:i<m:=by
     rcases bH i m with h|h
     ·exact h
     ·exfalso;rcases bH m i with h1|h1
      ·have:=st.head _ (I _ (p.VF i h b3 (by omega)));omega
      ·have h6:i=m:=by omega
       subst h6;rcases p.Yy u c6 b3 with h2|h2
       ·exact c7 (I u h2)
       ·exact b9 (.inr ⟨b3,h2⟩)
    obtain⟨Fi,ai,fa,look,h8,h9,i1⟩:=st.found p hV U b7 a1 I;have b4:left ops (listed.setIfInBounds i true)<=Bf:=by have:=Cn st.sz b3 a1;omega
    have a7:=On.set (listed:=listed) (i:=i) (by rw[st.sz];exact b3);unfold wpOp;simp only[U];cases hR:R i with
    |none=>
     have g:=h9 hR w st.inv fa;rw[CA look,CL (p.plain i _ U) look]at g;have fin:=ih _ _ _ ev b4 (st.pure p U b7 a1 I hR);split
     ·rename_i hw;rw[if_pos hw]at g;refine .inl ?_;unfold Oper.wp;rw[g];exact fin
     ·rename_i hw;rw[if_neg hw]at g;rw[g]at fin;exact fin
    |some Ri=>
     obtain⟨⟨hw,i6,e1⟩,_⟩:=i1 Ri hR;have a8:R i≠none:=by rw[hR];simp
     have g:=e1 w st.inv (st.pre i a8 a1 fun j hj i7=>I j (b1 j i hj a8 i7)) fa;rw[CA look]at hw;rw[if_pos hw];refine .inl (Yh (p.plain i _ U) h8 look g (fun v w' ⟨r0,r1,r2,r3,r4⟩=>?_) fun c w' hp=>b2 c a w' st.Cs.defers (fun t ht=>st.Cs.Hh t fun j o _ ho=>ht j o ho) hp);have j0:∀j,On listed j->ev j=(fun k=>if k=i then v else ev k) j:=fun j hj=>by
      have:j≠i:=fun e=>a1 (e▸hj)
      simp[this]
     have e2:=N3 p hV st.closed st.head st.inv st.facts j0;obtain⟨_,_,_,_,_,e3⟩:=hV (fun k=>if k=i then v else ev k) i o b7 U;have e4:V (fun k=>if k=i then v else ev k) i=v:=by
      rw[(e3 Ri hR).2];cases hC:C i with
      |none=>simp
      |some c=>rw[r0 c hC];rfl
     have e5:=st.Cs.put (vals':=V (fun k=>if k=i then v else ev k)) p U a7 e2 a1;rw[e4]at e5;refine ih _ _ _ (fun k=>if k=i then v else ev k) b4 ⟨by simp[st.sz],fun k J j hj=>?_,fun k J=>?_,r2,e5,fun j Rj hj b5=>?_,fun j hj hn hb=>?_⟩
     ·rcases(a7 k).1 J with J|rfl
      ·exact(a7 j).2 (.inl (st.closed k J j hj))
      ·exact(a7 j).2 (.inl (I j hj))
     ·rcases(a7 k).1 J with J|rfl
      ·exact st.head k J
      ·exact b7
     ·rcases(a7 j).1 hj with hj|rfl
      ·rw[e2 j hj];have e6:=st.head j hj;have j1:j<ops.size:=aK e6 p.le;obtain⟨_,_,_,_,_,j2⟩:=hV ev j ops[j] e6 (by simp[j1]);have j3:j<i:=(bH j i).resolve_right fun j4=>by
        rcases bH i j with h1|h1
        ·exact a1 (st.closed j hj i (b1 i j a8 (by rw[b5];simp) h1))
        ·exact a1 ((show j=i by omega)▸hj)
       exact(j2 Rj b5).1.2.1 _ _ _ _ j3 a8 r3 (st.facts j Rj hj b5)
      ·rw[e4];rw[hR]at b5;cases b5;exact r1
     ·have l2:j≠i:=fun e=>hn ((a7 j).2 (.inr e))
      have j5:¬On listed j:=fun h=>hn ((a7 j).2 (.inl h))
      have j6:i<j:=(bH i j).resolve_right fun j4=>j5 (I j (b1 j i hj a8 (by omega)))
      have:=c0 i j a8 hj j6 fun k J j7=>(bH k j).elim (fun j8=>by
       have h1:=((a7 k).1 (hb k J j8)).resolve_right (by omega);exact absurd (st.closed k h1 i (b1 i k a8 J j7)) a1) id
      rw[<-this];exact r4
theorem CX {id:Nat} {Q:Exit->Act->World->Prop} {w:World} (m:Nat) (Inv:World->Prop) (Pre:Nat->World->Prop) (next:Nat->Nat) (Pan:List PanicEntry->World->Prop) (Step:Nat->World->World->Prop) (R:Nat->Option (Value->World->Prop)) (C:Nat->Option Value)
  (hm:P.follows .mixedOrders=true) (p:ok ops m=true) (a8:Region.noSelect ops=true) (hQ:∀(c:List PanicEntry) (a:Act) (i:Nat) (o:Oper) (v:Value) (w:World),ops[i]?=some o->Q (.panic c) (a.put o.dst v) w->Q (.panic c) a w) (b0:∀i,BY ops i=true->R i=none) (b1:∀j i,R j≠none->R i≠none->j<i->FJ ops j i=true) (b2:∀i j,R i≠none->R j≠none->i<j->(∀k,R k≠none->i<k->j<=k)->next i=j) (a1:∀(c:List PanicEntry) (a:Act) (w:World),a.defers=a0.defers->(∀t:Tmp,(∀(j:Nat) (o:Oper),ops[j]?=some o->o.dst≠some t)->a.tmps[t]?=a0.tmps[t]?)->Pan c w->Q (.panic c) a w) (h0:Inv w.drew) (hpre:∀i,R i≠none->(∀j,R j≠none->i<=j)->Pre i w.drew)
  (hc:Ba P ops Inv Pre next Pan Step R C (wpList P ops Q (ops.toList.drop m)) (ops.toList.take m) 0 [] a0):(Code.region id ops true).wp P Q a0 w:=by
 have p:=Ok.of p;have I:=Ba.Oc _ _ _ _ hc;have hlen:(ops.toList.take m).length=m:=by rw[bF,bS];exact fF p.le
 have a6:∀k o,(ops.toList.take m)[k]?=some o->ops[0+k]?=some o:=fun k o h=>by
  rw[cE]at h;split at h
  ·simpa using h
  ·cases h
 have b3:∀Ac,Cd ops a0 a0 (·<0) Ac:=fun Ac=>⟨rfl,rfl,fun t j o U=>absurd U (by omega),fun t _=>rfl⟩
 let V:(Nat->Value)->Nat->Value:=fun ev=>(I ev).choose
 have b4:∀ev,Good P ops Inv Pre next Pan Step R C (wpList P ops Q (ops.toList.drop m)) ev (V ev) (ops.toList.take m) 0 [] a0:=fun ev=>(I ev).choose_spec
 have a7:=fun ev=>Good.at_ (a0:=a0) p _ _ _ _ (b4 ev) a6 (b3 _) (fun f hf=>by cases hf)
 refine wp_region_any hm ?_;refine Hy (Inv:=Inv) (Pre:=Pre) (next:=next) (Pan:=Pan) (Step:=Step) (R:=R) (C:=C) (a0:=a0) (V:=V) p a8 hQ (fun ev k o J ho=>?_) b0 b1 b2 a1 (fun ev=>?_) ops.size (Array.replicate ops.size false) a0 w.drew (fun _=>undef) ?_ ⟨by simp,fun k J=>?_,fun k J=>?_,h0,?_,fun i Ri hi=>?_,fun i hi hn hb=>hpre i hi fun j U=>(bH j i).elim (fun h=>absurd (hb j U h) ?_) (fun h=>h)⟩
 ·have:=(a7 ev).1 k o (by rw[cE,if_pos J];simpa using ho);simpa using this
 ·have:=(a7 ev).2;rw[hlen,bO]at this;exact this
 ·unfold left;exact aV gY (by simp)
 ·unfold On at J;rw[cL]at J;cases J
 ·unfold On at J;rw[cL]at J;cases J
 ·refine⟨rfl,rfl,fun t j o U=>?_,fun t _=>rfl⟩;unfold On at U;rw[cL]at U;cases U
 ·unfold On at hi;rw[cL]at hi;cases hi
 ·intro hx;unfold On at hx;rw[cL]at hx;cases hx
theorem Ad {o:Oper} {rest:List Oper} {i:Nat} {F:List (Nat×(World->Prop))} {a:Act} (j:R i=none) (p:o.guard=none) (c:Value)
  (h:∀w,Inv w->B1 ops F i w->(execOp a.eval o).run P w=.ok (.value c) w) (I:Ba P ops Inv Pre next Pan Step R C Fin rest (i+1) F (a.put o.dst c)):Ba P ops Inv Pre next Pan Step R C Fin (o::rest) i F a:=by
 unfold Ba;simp only[j];refine⟨c,fun w hI J=>?_,I⟩;have hw:Region.wanted o (yielded ops a.tmps)=true:=by simp[Region.wanted,p]
 rw[if_pos hw];exact h w hI J
theorem Aq {o:Oper} {rest:List Oper} {i:Nat} {F:List (Nat×(World->Prop))} {a:Act} (j:R i=none) (hw:Region.wanted o (yielded ops a.tmps)=true) (c:Value)
  (h:∀w,Inv w->B1 ops F i w->(execOp a.eval o).run P w=.ok (.value c) w) (p:Ba P ops Inv Pre next Pan Step R C Fin rest (i+1) F (a.put o.dst c)):Ba P ops Inv Pre next Pan Step R C Fin (o::rest) i F a:=by
 unfold Ba;simp only[j];refine⟨c,fun w hI I=>?_,p⟩;rw[if_pos hw];exact h w hI I
theorem Bb {o:Oper} {rest:List Oper} {i:Nat} {F:List (Nat×(World->Prop))} {a:Act} (j:R i=none) (hw:Region.wanted o (yielded ops a.tmps)=false)
  (p:Ba P ops Inv Pre next Pan Step R C Fin rest (i+1) F (a.put o.dst undef)):Ba P ops Inv Pre next Pan Step R C Fin (o::rest) i F a:=by
 unfold Ba;simp only[j];refine⟨undef,fun w hI I=>?_,p⟩;rw[if_neg (by rw[hw];exact dT)]
theorem Bh {o:Oper} {rest:List Oper} {i:Nat} {F:List (Nat×(World->Prop))} {a:Act} {I:Value->World->Prop} (U:R i=some I) (hw:Region.wanted o (yielded ops a.tmps)=true) (hm:∀j v w p,i<j->R j≠none->Step j w p->I v w->I v p)
  (h:∀w,Inv w->Pre i w->B1 ops F i w->∀K:Act->World->Prop,(∀v p a',a.put o.dst v=a'->I v p->Inv p->Step i w p->Pre (next i) p->K a' p)->o.wp P a w K (fun ex _ p=>∃c,ex=.panic c/\Pan c p))
  (J:∀v,Ba P ops Inv Pre next Pan Step R C Fin rest (i+1) ((i,I v)::F) (a.put o.dst v)) (hC:C i=none:=by rfl):Ba P ops Inv Pre next Pan Step R C Fin (o::rest) i F a:=by
 unfold Ba;simp only[U];exact⟨⟨hw,hm,fun w hI hP hF=>h w hI hP hF _ fun v p a' h0 h1 h2 h3 h4=>⟨v,h0.symm,(fun c J=>by rw[hC]at J;cases J),h1,h2,h3,h4⟩⟩,fun v _=>J v⟩
theorem Ak {i:Nat} {F:List (Nat×(World->Prop))} {a:Act} (h:∀w,Inv w->(∀f∈F,f.2 w)->Fin a w):Ba P ops Inv Pre next Pan Step R C Fin [] i F a:=h
end
def GO:List Nat->Nat->Nat
 |a::b::l,i=>if i=a then b else GO (b::l) i
 |_,_=>0
def ZaI (ops:Array Oper) (l:List Nat):Bool:=l.all fun i=>!BY ops i&&l.all fun j=>!(decide (i<j))||FJ ops i j
def Zcc (l:List Nat) (n:Nat->Nat):Bool:=l.all fun i=>l.all fun j=>!(decide (i<j))||!(l.all fun k=>!(decide (i<k))||decide (j<=k))||n i==j
theorem put_defers (a:Act) (d:Option Tmp) (v:Value):(a.put d v).defers=a.defers:=by cases d<;>rfl
theorem VE:∀(l:List (Nat×(Value->World->Prop))) (x:Nat×(Value->World->Prop)),x∈l->KE l x.1≠none
 | [],x,h=>absurd h (by simp)
 |y::r,x,h=>by
  unfold KE;by_cases e:y.1=x.1
  ·simp[e]
  ·rw[if_neg e];rcases bJ.1 h with h|h
   ·exact absurd (by rw[h]) e
   ·exact VE r x h
def Qg (ops:Array Oper) (a0:Act) (Pan:List PanicEntry->World->Prop) (Q:Exit->Act->World->Prop):Exit->Act->World->Prop
 |.panic c,a,w=>(a.defers=a0.defers/\∀t:Tmp,(∀(j:Nat) (o:Oper),ops[j]?=some o->o.dst≠some t)->a.tmps[t]?=a0.tmps[t]?)/\Pan c w
 |ex,a,w=>Q ex a w
theorem Qg.normal {ops:Array Oper} {a0:Act} {Pan:List PanicEntry->World->Prop} {Q:Exit->Act->World->Prop} {a:Act} {w:World} (h:Q .normal a w):Qg ops a0 Pan Q .normal a w:=h
theorem AM {P:Program} {ops:Array Oper} {a0:Act} {id:Nat} {Q:Exit->Act->World->Prop} {w:World} (m:Nat) (l:List (Nat×(Value->World->Prop))) (p:List Nat) (Inv:World->Prop) (Pre:Nat->World->Prop) (Pan:List PanicEntry->World->Prop) (Step:Nat->World->World->Prop)
  (hm:P.follows .mixedOrders=true) (b4:ok ops m=true) (b5:Region.noSelect ops=true) (hl:l.map (·.1)=p) (b6:ZaI ops p=true) (b7:Zcc p (GO p)=true) (b0:∀(c:List PanicEntry) (a:Act) (w:World),a.defers=a0.defers->(∀t:Tmp,(∀(j:Nat) (o:Oper),ops[j]?=some o->o.dst≠some t)->a.tmps[t]?=a0.tmps[t]?)->Pan c w->Q (.panic c) a w)
  (h0:Inv w.drew) (hpre:∀i,p.head?=some i->Pre i w.drew) (b1:∀i∈p,p.head?.getD 0<=i)
  (hc:Ba P ops Inv Pre (GO p) Pan Step (KE l) (fun _=>none) (wpList P ops (Qg ops a0 Pan Q) (ops.toList.drop m)) (ops.toList.take m) 0 [] a0):(Code.region id ops true).wp P Q a0 w:=by
 have J:∀i,KE l i≠none->i∈p:=fun i hi=>by
  cases h:KE l i with
  |none=>exact absurd h hi
  |some T=>
   obtain⟨x,hx,rfl⟩:=Ie h;rw[<-hl];exact gH hx
 have a1:∀i∈p,KE l i≠none:=fun i hi=>by
  rw[<-hl]at hi;obtain⟨x,hx,rfl⟩:=dF.1 hi;exact VE l x hx
 have b2:∀i∈p,BY ops i=false/\∀j∈p,i<j->FJ ops i j=true:=fun i hi=>by
  have I:=aY.1 b6 i hi;rw[aG]at I;refine⟨by simpa using I.1,fun j hj a7=>?_⟩;have h2:=aY.1 I.2 j hj;simpa[a7]using h2
 refine Code.wp_mono (fun ex a w h=>?_) (CX (Q:=Qg ops a0 Pan Q) m Inv Pre (GO p) Pan Step (KE l) (fun _=>none) hm b4 b5 (fun c a i o v w hi h=>⟨⟨(put_defers a o.dst v).symm.trans h.1.1,fun t ht=>?_⟩,h.2⟩) (fun i hi=>?_) (fun j i hj hi b9=>(b2 j (J j hj)).2 i (J i hi) b9) (fun i j hi hj a7 hk=>?_) (fun c a w I h2 h3=>⟨⟨I,h2⟩,h3⟩) h0 (fun i hi hj=>?_) hc)
 ·cases ex
  case panic c=>exact b0 c a w h.1.1 h.1.2 h.2
  all_goals exact h
 ·have I:=h.1.2 t ht;cases hd:o.dst with
  |none=>rw[hd]at I;exact I
  |some d=>
   rw[hd]at I;simp only[Act.put,cK (show d≠t from fun e=>ht i o hi (by rw[hd,e]))]at I;exact I
 ·cases hR:KE l i with
  |none=>rfl
  |some T=>
   have:=(b2 i (J i (by rw[hR];simp))).1;rw[hi]at this;cases this
 ·have I:=aY.1 (aY.1 b7 i (J i hi)) j (J j hj);have h2:(p.all fun k=>!(decide (i<k))||decide (j<=k))=true:=aY.2 fun k c1=>by
   by_cases b3:i<k
   ·have:=hk k (a1 k c1) b3;simp[this]
   ·simp[b3]
  simpa[a7,h2]using I
 ·cases U:p with
  |nil=>have:=J i hi;rw[U]at this;cases this
  |cons a r=>
   have ha:a∈p:=by rw[U];simp
   have I:=b1 i (J i hi);rw[U]at I;have h2:=hj a (a1 a ha);have h3:a<=i:=I;obtain rfl:i=a:=by omega
   exact hpre i (by rw[U];rfl)
end RegP
end
end Go.Proofs.YthbihnpoghlfaaaGreatDoor
