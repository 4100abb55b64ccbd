import Derived.Test.YthbihnpoghlfaaaGreatDoorZr02
set_option linter.unusedVariables false
set_option linter.unusedSimpArgs false
set_option maxHeartbeats 8000000
set_option maxRecDepth 100000
namespace Go.Proofs.YthbihnpoghlfaaaGreatDoor
section
namespace RegD
open Aj
abbrev FP:=(Nat->Value)->World->Prop
def IG (f:Nat->Value) (i:Nat) (v:Value):Nat->Value:=fun k=>if k=i then v else f k
theorem Ft (f:Nat->Value) (i:Nat) (v:Value):IG f i v i=v:=if_pos rfl
theorem Jq (f:Nat->Value) {i k:Nat} (v:Value) (h:k≠i):IG f i v k=f k:=if_neg h
theorem ZN (f:Nat->Value) (i:Nat):IG f i (f i)=f:=funext fun k=>by
 by_cases h:k=i
 ·subst h;exact Ft ..
 ·exact Jq _ _ h
def Dep (ops:Array Oper) (R:Nat->Option FP):Prop:=∀i j,R i=some j->∀f g:Nat->Value,(∀k,k=i\/FJ ops k i=true->f k=g k)->j f=j g
section
variable (P:Program) (ops:Array Oper) (Inv:World->Prop) (Step:World->World->Prop) (R:Nat->Option FP) (C:Nat->Option Value) (Fin:Act->World->Prop)
def Ba:List Oper->Nat->List (Nat×(World->Prop))->Act->(Nat->Value)->Prop
 | [],_,F,a,_=>∀w,Inv w->(∀f∈F,f.2 w)->Fin a w
 |o::rest,i,F,a,Ac=>
  match R i with
  |none=>∃c,Hb P ops Inv F o i a c/\Ba rest (i+1) F (a.put o.dst c) (IG Ac i c)
  |some j=>K5 P ops Inv Step C F o i a (fun v=>j (IG Ac i v))/\∀v,(∀c,C i=some c->v=c)->Ba rest (i+1) ((i,j (IG Ac i v))::F) (a.put o.dst v) (IG Ac i v)
def Good (ev Ac:Nat->Value):List Oper->Nat->List (Nat×(World->Prop))->Act->Prop
 | [],_,F,a=>∀w,Inv w->(∀f∈F,f.2 w)->Fin a w
 |o::rest,i,F,a=>
  match R i with
  |none=>Hb P ops Inv F o i a (Ac i)/\Good ev Ac rest (i+1) F (a.put o.dst (Ac i))
  |some j=>K5 P ops Inv Step C F o i a (fun v=>j (IG Ac i v))/\Ac i=(C i).getD (ev i)/\Good ev Ac rest (i+1) ((i,j Ac)::F) (a.put o.dst (Ac i))
end
section
variable {P:Program} {ops:Array Oper} {Inv:World->Prop} {Step:World->World->Prop} {R:Nat->Option FP} {C:Nat->Option Value} {Fin:Act->World->Prop} {m:Nat} {a0:Act}
theorem Ba.Oc (a1:Ok ops m) (hD:Dep ops R):∀(l:List Oper) (i:Nat) (F:List (Nat×(World->Prop))) (a:Act) (j:Nat->Value),Ba P ops Inv Step R C Fin l i F a j->∀ev,∃Ac,(∀k,k<i->Ac k=j k)/\Good P ops Inv Step R C Fin ev Ac l i F a:=by
 intro l
 induction l with
 |nil=>intro i F a j h ev;exact⟨j,fun _ _=>rfl,h⟩
 |cons o l ih=>
  intro i F a j h ev;unfold Ba at h;cases U:R i with
  |none=>
   simp only[U]at h;obtain⟨c,hp,hc⟩:=h;obtain⟨Ac,hv,hg⟩:=ih _ _ _ _ hc ev;have hi:Ac i=c:=by rw[hv i (eB _),Ft]
   refine⟨Ac,fun k p=>by rw[hv k (by omega),Jq _ _ (by omega)],?_⟩;unfold Good;simp only[U];rw[hi];exact⟨hp,hg⟩
  |some I=>
   simp only[U]at h;obtain⟨Ac,hv,hg⟩:=ih _ _ _ _ (h.2 ((C i).getD (ev i)) (fun c hc=>by rw[hc];rfl)) ev;have hi:Ac i=(C i).getD (ev i):=by rw[hv i (eB _),Ft]
   have J:∀k,k<i->Ac k=j k:=fun k p=>by rw[hv k (by omega),Jq _ _ (by omega)]
   refine⟨Ac,J,?_⟩;have e1:∀u,I (IG Ac i u)=I (IG j i u):=fun u=>hD i I U _ _ fun k p=>by
    rcases p with rfl|p
    ·rw[Ft,Ft]
    ·have:=CQ a1 _ _ p;rw[Jq _ _ (by omega),Jq _ _ (by omega),J k this]
   have e2:I Ac=I (IG j i ((C i).getD (ev i))):=hD i I U _ _ fun k p=>by
    rcases p with rfl|p
    ·rw[Ft,hi]
    ·have:=CQ a1 _ _ p;rw[Jq _ _ (by omega),J k this]
   unfold Good;simp only[U];refine⟨?_,hi,?_⟩
   ·rw[show(fun v=>I (IG Ac i v))=fun v=>I (IG j i v)from funext e1];exact h.1
   ·rw[e2,hi];exact hg
def N5 (R:Nat->Option FP) (Ac:Nat->Value) (F:List (Nat×(World->Prop))) (i:Nat):Prop:=
 ∀f∈F,∃j,R f.1=some j/\f.1<i/\f.2=j Ac
def Dg (P:Program) (ops:Array Oper) (Inv:World->Prop) (Step:World->World->Prop) (R:Nat->Option FP) (C:Nat->Option Value) (a0:Act) (ev Ac:Nat->Value) (k:Nat) (o:Oper):Prop:=
 ∃j p,N5 R Ac j k/\Cd ops a0 p (·<k) Ac/\
  (R k=none->Hb P ops Inv j o k p (Ac k))/\(∀I,R k=some I->K5 P ops Inv Step C j o k p (fun v=>I (IG Ac k v))/\Ac k=(C k).getD (ev k))
theorem Good.at_ (b5:Ok ops m) {ev Ac:Nat->Value}:∀(l:List Oper) (i:Nat) (F:List (Nat×(World->Prop))) (a:Act),Good P ops Inv Step R C Fin ev Ac l i F a->
  (∀k o,l[k]?=some o->ops[i+k]?=some o)->Cd ops a0 a (·<i) Ac->N5 R Ac F i->
  (∀k o,l[k]?=some o->Dg P ops Inv Step R C a0 ev Ac (i+k) o)/\
  (∃Fn an,N5 R Ac Fn (i+l.length)/\Cd ops a0 an (·<i+l.length) Ac/\∀w,Inv w->(∀f∈Fn,f.2 w)->Fin an w):=by
 intro l
 induction l with
 |nil=>intro i F a h _ hs hF;exact⟨by simp,F,a,hF,hs,h⟩
 |cons o l ih=>
  intro i F a h hl hs hF;have b6:ops[i]?=some o:=by simpa using hl 0 o (by simp)
  have a8:∀k I,l[k]?=some I->ops[i+1+k]?=some I:=fun k I p=>by
   have:=hl (k+1) I (by simpa using p);rw[show i+1+k=i+(k+1)from by omega];exact this
  have b0:Cd ops a0 (a.put o.dst (Ac i)) (·<i+1) Ac:=hs.put b5 b6 (fun j=>by omega) (fun _ _=>rfl) (by omega);have shift:∀(k:Nat),i+1+k=i+(k+1):=by intro k;omega
  unfold Good at h;cases hR:R i with
  |none=>
   simp only[hR]at h;have J:N5 R Ac F (i+1):=fun f hf=>by obtain⟨Rj,U,h2,h3⟩:=hF f hf;exact⟨Rj,U,by omega,h3⟩
   obtain⟨U,h2⟩:=ih (i+1) F _ h.2 a8 b0 J;refine⟨fun k I p=>?_,?_⟩
   ·cases k with
    |zero=>
     simp at p;subst p;exact⟨F,a,hF,hs,fun _=>h.1,fun Ri b3=>by rw[dD,hR]at b3;cases b3⟩
    |succ k=>rw[<-shift];exact U k I (by simpa using p)
   ·rw[bP,<-shift];exact h2
  |some Ri=>
   simp only[hR]at h;have J:N5 R Ac ((i,Ri Ac)::F) (i+1):=fun f hf=>by
    rcases bJ.1 hf with rfl|hf
    ·exact⟨Ri,hR,eB _,rfl⟩
    ·obtain⟨Rj,U,h2,h3⟩:=hF f hf;exact⟨Rj,U,by omega,h3⟩
   obtain⟨U,h2⟩:=ih (i+1) _ _ h.2.2 a8 b0 J;refine⟨fun k I p=>?_,?_⟩
   ·cases k with
    |zero=>
     simp at p;subst p;exact⟨F,a,hF,hs,(fun hn=>by rw[dD,hR]at hn;cases hn),fun Rk b4=>by rw[dD,hR]at b4;cases b4;exact⟨h.1,h.2.1⟩⟩
    |succ k=>rw[<-shift];exact U k I (by simpa using p)
   ·rw[bP,<-shift];exact h2
structure St (P:Program) (ops:Array Oper) (Inv:World->Prop) (Step:World->World->Prop) (R:Nat->Option FP) (m:Nat) (a0:Act) (V:(Nat->Value)->Nat->Value) (listed:Array Bool) (a:Act) (w:World) (ev:Nat->Value):Prop where
 sz:listed.size=ops.size
 closed:∀k,On listed k->∀j,FJ ops j k=true->On listed j
 head:∀k,On listed k->k<m
 inv:Inv w
 Cs:Cd ops a0 a (On listed) (V ev)
 facts:∀i Ri,On listed i->R i=some Ri->Ri (V ev) w
theorem N3 (p:Ok ops m) (hD:Dep ops R) {V:(Nat->Value)->Nat->Value} (hV:∀ev k o,k<m->ops[k]?=some o->Dg P ops Inv Step R C a0 ev (V ev) k o) {listed:Array Bool} {w:World} {ev I:Nat->Value}
  (hc:∀k,On listed k->∀j,FJ ops j k=true->On listed j) (hh:∀k,On listed k->k<m) (hI:Inv w) (hf:∀i Ri,On listed i->R i=some Ri->Ri (V ev) w)
  (he:∀j,On listed j->ev j=I j):∀j,On listed j->V I j=V ev j:=by
 intro j
 induction j using Nat.strongRecOn with
 |_ j ih=>
  intro U;have a6:=hh j U;have b4:j<ops.size:=aK a6 p.le;have J:ops[j]?=some ops[j]:=by simp[b4]
  obtain⟨F1,a1,b5,b6,b7,b8⟩:=hV ev j _ a6 J;obtain⟨F2,a2,b9,c0,c1,c2⟩:=hV I j _ a6 J;cases hR:R j with
  |some Ri=>rw[(b8 Ri hR).2,(c2 Ri hR).2,he j U]
  |none=>
   have look:∀t∈(ops[j]).looksAt ops,a1.tmps[t]?=a2.tmps[t]?:=fun t ht=>b6.look c0 fun k o hk hd=>⟨Iff.rfl,fun c3=>by
    rcases p.look j _ k o t J hk (by omega) hd ht with h|h
    ·exact(ih k c3 (hc j U k h)).symm
    ·have:=CQ p _ _ h;omega⟩
   have c4:B1 ops F1 j w:=fun f a7 ha=>by
    obtain⟨Rj,h1,h2,h3⟩:=b5 f a7;rw[h3];exact hf _ _ (hc j U _ ha) h1
   have c6:B1 ops F2 j w:=fun f a7 ha=>by
    obtain⟨Rj,h1,h2,h3⟩:=b9 f a7;rw[h3,hD f.1 Rj h1 (V I) (V ev) (fun k hk=>by
     rcases hk with rfl|hk
     ·exact ih f.1 h2 (hc j U _ ha)
     ·have:=CQ p _ _ hk;exact ih k (by omega) (hc _ (hc j U _ ha) k hk))]
    exact hf _ _ (hc j U _ ha) h1
   have g1:=b7 hR w hI c4;have g2:=c1 hR w hI c6;rw[CA look,CL (p.plain j _ J) look]at g1;split at g1
   ·rename_i hw;rw[if_pos hw]at g2;rw[g2]at g1;injection g1 with g1
    injection g1
   ·rename_i hw;rw[if_neg hw]at g2;rw[g1,g2]
theorem St.found (I:Ok ops m) {V:(Nat->Value)->Nat->Value} (hV:∀ev k o,k<m->ops[k]?=some o->Dg P ops Inv Step R C a0 ev (V ev) k o) {listed:Array Bool} {a:Act} {w:World} {ev:Nat->Value}
  (st:St P ops Inv Step R m a0 V listed a w ev) {i:Nat} {o:Oper} (U:ops[i]?=some o) (b0:i<m) (a1:¬On listed i) (p:∀j,FJ ops j i=true->On listed j) :
  ∃Fi J,B1 ops Fi i w/\(∀t∈o.looksAt ops,J.tmps[t]?=a.tmps[t]?)/\J.tmps.size=a.tmps.size/\
   (R i=none->Hb P ops Inv Fi o i J (V ev i))/\(∀Ri,R i=some Ri->K5 P ops Inv Step C Fi o i J (fun v=>Ri (IG (V ev) i v))/\V ev i=(C i).getD (ev i)):=by
 obtain⟨Fi,J,b1,a7,b2,b3⟩:=hV ev i o b0 U;refine⟨Fi,J,fun f b4 ha=>?_,fun t ht=>a7.look st.Cs fun k o' hk hd=>?_,a7.size.trans st.Cs.size.symm,b2,b3⟩
 ·obtain⟨Rj,g1,_,g3⟩:=b1 f b4;rw[g3];exact st.facts _ _ (p _ ha) g1
 ·by_cases a8:k=i
  ·subst a8;exact⟨⟨fun h=>absurd h (eM _),fun h=>absurd h a1⟩,fun _=>rfl⟩
  ·rcases I.look i o k o' t U hk a8 hd ht with h|h
   ·exact⟨⟨fun _=>p k h,fun _=>CQ I _ _ h⟩,fun _=>rfl⟩
   ·have c2:=CQ I _ _ h;exact⟨⟨fun h'=>by omega,fun h'=>absurd (st.closed k h' i h) a1⟩,fun _=>rfl⟩
theorem St.pure (a7:Ok ops m) {V:(Nat->Value)->Nat->Value} {listed:Array Bool} {a:Act} {w:World} {ev:Nat->Value}
  (st:St P ops Inv Step R m a0 V listed a w ev) {i:Nat} {o:Oper} (a1:ops[i]?=some o) (a8:i<m) (b0:¬On listed i) (a6:∀j,FJ ops j i=true->On listed j) (hR:R i=none) :
  St P ops Inv Step R m a0 V (listed.setIfInBounds i true) (a.put o.dst (V ev i)) w ev:=by
 have p:=On.set (listed:=listed) (i:=i) (by rw[st.sz];exact(aU.1 a1).1);refine⟨by simp[st.sz],fun k I j U=>?_,fun k I=>?_,st.inv,st.Cs.put a7 a1 p (fun _ _=>rfl) b0,fun j Rj U J=>?_⟩
 ·rcases(p k).1 I with I|rfl
  ·exact(p j).2 (.inl (st.closed k I j U))
  ·exact(p j).2 (.inl (a6 j U))
 ·rcases(p k).1 I with I|rfl
  ·exact st.head k I
  ·exact a8
 ·rcases(p j).1 U with U|rfl
  ·exact st.facts j Rj U J
  ·rw[hR]at J;cases J
theorem D2 {Q:Exit->Act->World->Prop} (p:Ok ops m) (c4:Region.noSelect ops=true) (hQ:∀c a d v w,Q (.panic c) (a.put d v) w->Q (.panic c) a w) {V:(Nat->Value)->Nat->Value} (hV:∀ev k o,k<m->ops[k]?=some o->Dg P ops Inv Step R C a0 ev (V ev) k o)
  (c5:∀i,BY ops i=true->R i=none)
  (a6:∀ev,∃Fn an,N5 R (V ev) Fn m/\Cd ops a0 an (·<m) (V ev)/\∀w,Inv w->(∀f∈Fn,f.2 w)->wpList P ops Q (ops.toList.drop m) an w) :
  ∀(n Bf:Nat) (listed:Array Bool) (a:Act) (w:World) (ev:Nat->Value),left ops listed<=n->left ops listed<=Bf->(∀k,k<m->On listed k\/BY ops k=true)->St P ops Inv Step R m a0 V listed a w ev->wpAny P .any ops Q Bf listed a w:=by
 intro n
 induction n with
 |zero=>
  intro Bf listed a w ev hn hf _ st;have J:∀k,k<ops.size->On listed k:=fun k hk=>bU fun hx=>by
   have:=Cn st.sz hk hx;omega
  obtain⟨Fn,an,h1,h2,h3⟩:=a6 ev;have hm:∀k,On listed k↔k<m:=fun k=>⟨st.head k,fun hk=>J k (aK hk p.le)⟩
  have ha:an=a:=h2.same st.Cs fun k o _=>(hm k).symm
  subst ha;refine GC p _ Bf m listed an w rfl (aL _) p.le hf st.sz hm (h3 w st.inv fun f b2=>?_);obtain⟨Rj,g1,g2,g3⟩:=h1 f b2;rw[g3];exact st.facts _ _ ((hm _).2 g2) g1
 |succ n ih=>
  intro Bf listed a w ev hn hf b8 st;by_cases J:∀k,k<m->On listed k
  ·obtain⟨Fn,an,h1,h2,h3⟩:=a6 ev;have hm:∀k,On listed k↔k<m:=fun k=>⟨st.head k,J k⟩
   have ha:an=a:=h2.same st.Cs fun k o _=>(hm k).symm
   subst ha;refine GC p _ Bf m listed an w rfl (aL _) p.le hf st.sz hm (h3 w st.inv fun f b2=>?_);obtain⟨Rj,g1,g2,g3⟩:=h1 f b2;rw[g3];exact st.facts _ _ ((hm _).2 g2) g1
  ·
   have⟨u,hu⟩:=dK.1 J;have⟨b3,b4⟩:=dQ.1 hu;have first:∀u,u<m->¬On listed u->∃i,i<m/\¬On listed i/\∀j,j<i->On listed j:=by
    intro u
    induction u using Nat.strongRecOn with
    |_ u ih=>
     intro b3 b4;by_cases hx:∀j,j<u->On listed j
     ·exact⟨u,b3,b4,hx⟩
     ·have⟨j,hj⟩:=dK.1 hx;have⟨e1,e2⟩:=dQ.1 hj;exact ih j e1 (by omega) e2
   obtain⟨i,b5,U,b9⟩:=first u b3 b4
   have c0:BY ops i=true:=(b8 i b5).resolve_left U;obtain⟨o,x,I,e3,e4,b6⟩:=Hk c0;have b7:i<ops.size:=(aU.1 I).1;have h7:=Cn st.sz b7 U;have a8:∀j,FJ ops j i=true->On listed j:=fun j hj=>b9 j (CQ p _ _ hj)
   have hR:=c5 i c0;obtain⟨Fi,ai,fa,look,i1,e5,_⟩:=st.found p hV I b5 U a8;have a1:i∈Region.ready .any ops listed:=gK.2 ⟨getD_in (by rw[st.sz];exact b7) (On.not U),o,I,fun e he hb=>b9 e.on (p.Yp i o I e he hb)⟩;have hw:∀b:Act,Region.wanted o (yielded ops b.tmps)=true:=fun b=>by simp[Region.wanted,e4]
   have b0:∀w',(execOp a.eval o).run P w'=.ok (.value (a.eval x)) w':=fun w'=>by simp[execOp,e3,eU]
   have c1:V ev i=a.eval x:=by
    have g:=e5 hR w st.inv fa;rw[if_pos (hw ai),CL (p.plain i _ I) look,b0 w]at g;injection g with g
    injection g with g
    exact g.symm
   cases Bf with
   |zero=>omega
   |succ Bf=>
    have c2:=st.pure p I b5 U a8 hR;rw[c1]at c2;refine wpAny_first I (Region.noSelect_spec c4) (fun c a w=>hQ c a _ _ w) Bf listed a w (fun k ok hk e7 _ e8=>b6 k ok hk e7 e8) a1 (.inl ⟨hw a,b0⟩) (ih Bf _ _ w ev (by omega) (by omega) (fun k hk=>?_) c2);rcases b8 k hk with h|h
    ·exact .inl ((On.set (by rw[st.sz];exact b7) k).2 (.inl h))
    ·exact .inr h
theorem Hy (hD:Dep ops R) {Q:Exit->Act->World->Prop} (p:Ok ops m) (c0:Region.noSelect ops=true) (hQ:∀c a d v w,Q (.panic c) (a.put d v) w->Q (.panic c) a w) {V:(Nat->Value)->Nat->Value} (hV:∀ev k o,k<m->ops[k]?=some o->Dg P ops Inv Step R C a0 ev (V ev) k o)
  (c1:∀i,BY ops i=true->R i=none)
  (b6:∀ev,∃Fn an,N5 R (V ev) Fn m/\Cd ops a0 an (·<m) (V ev)/\∀w,Inv w->(∀f∈Fn,f.2 w)->wpList P ops Q (ops.toList.drop m) an w) :
  ∀(Bf:Nat) (listed:Array Bool) (a:Act) (w:World) (ev:Nat->Value),left ops listed<=Bf->St P ops Inv Step R m a0 V listed a w ev->wpAny P .any ops Q Bf listed a w:=by
 intro Bf
 induction Bf with
 |zero=>
  intro listed a w ev hf st;have a1:∀k,k<ops.size->On listed k:=fun k I=>bU fun hn=>by
   have:=Cn st.sz I hn;omega
  exact D2 p c0 hQ hV c1 b6 0 0 listed a w ev hf hf (fun k I=>.inl (a1 k (aK I p.le))) st
 |succ Bf ih=>
  intro listed a w ev hf st;by_cases a1:∀k,k<m->On listed k\/(m<ops.size/\BY ops k=true)
  ·exact D2 p c0 hQ hV c1 b6 _ (Bf+1) listed a w ev (aL _) hf (fun k I=>(a1 k I).imp id And.right) st
  ·have⟨u,hu⟩:=dK.1 a1;have⟨c2,b7⟩:=dQ.1 hu;have c3:¬On listed u:=fun h=>b7 (.inl h)
   have e6:u<ops.size:=aK c2 p.le;refine⟨fun h0=>?_,fun i hi=>?_⟩
   ·obtain⟨k,I⟩:=Hj st.sz p e6 c3;rw[h0]at I;cases I
   ·obtain⟨h0,o,U,b3⟩:=gK.1 hi;have a8:i<ops.size:=(aU.1 U).1;have b0:¬On listed i:=fun h=>by unfold On at h;rw[getD_both h0]at h;cases h
    have J:∀j,FJ ops j i=true->On listed j:=fun j hj=>by
     obtain⟨o',c4,e,he,hb,h3⟩:=Gl hj;rw[U]at c4;cases c4;have c6:=b3 e he hb;rcases h3 with h3|h3
     ·rw[<-h3];exact c6
     ·exact st.closed e.on c6 j h3
    have b4:i<m:=by
     rcases bH i m with h|h
     ·exact h
     ·exfalso;rcases bH m i with h1|h1
      ·have:=st.head _ (J _ (p.VF i h a8 (by omega)));omega
      ·have e8:i=m:=by omega
       subst e8;rcases p.Yy u c2 a8 with h2|h2
       ·exact c3 (J u h2)
       ·exact b7 (.inr ⟨a8,h2⟩)
    obtain⟨Fi,ai,fa,look,h4,h5,h6⟩:=st.found p hV U b4 b0 J;have b1:left ops (listed.setIfInBounds i true)<=Bf:=by have:=Cn st.sz a8 b0;omega
    have a7:=On.set (listed:=listed) (i:=i) (by rw[st.sz];exact a8);unfold wpOp;simp only[U];cases hR:R i with
    |none=>
     have g:=h5 hR w st.inv fa;rw[CA look,CL (p.plain i _ U) look]at g;have fin:=ih _ _ _ ev b1 (st.pure p U b4 b0 J hR);split
     ·rename_i hw;rw[if_pos hw]at g;refine .inl ?_;unfold Oper.wp;rw[g];exact fin
     ·rename_i hw;rw[if_neg hw]at g;rw[g]at fin;exact fin
    |some Ri=>
     obtain⟨⟨hw,h8,c7⟩,_⟩:=h6 Ri hR;have g:=c7 w st.inv fa;rw[CA look]at hw;rw[if_pos hw];refine .inl (Vt (p.plain i _ U) h4 look g fun v w' ⟨r0,r1,r2,r3⟩=>?_);have i1:∀j,On listed j->ev j=(fun k=>if k=i then v else ev k) j:=fun j hj=>by
      have:j≠i:=fun e=>b0 (e▸hj)
      simp[this]
     have b5:=N3 p hD hV st.closed st.head st.inv st.facts i1;obtain⟨_,_,_,_,_,c8⟩:=hV (fun k=>if k=i then v else ev k) i o b4 U;have c9:V (fun k=>if k=i then v else ev k) i=v:=by
      rw[(c8 Ri hR).2];cases hC:C i with
      |none=>simp
      |some c=>rw[r0 c hC];rfl
     have e0:=st.Cs.put (vals':=V (fun k=>if k=i then v else ev k)) p U a7 b5 b0;rw[c9]at e0;refine ih _ _ _ (fun k=>if k=i then v else ev k) b1 ⟨by simp[st.sz],fun k I j hj=>?_,fun k I=>?_,r2,e0,fun j Rj hj b2=>?_⟩
     ·rcases(a7 k).1 I with I|rfl
      ·exact(a7 j).2 (.inl (st.closed k I j hj))
      ·exact(a7 j).2 (.inl (J j hj))
     ·rcases(a7 k).1 I with I|rfl
      ·exact st.head k I
      ·exact b4
     rcases(a7 j).1 hj with hj|rfl
     ·have e2:=st.head j hj;have i6:j<ops.size:=aK e2 p.le;obtain⟨_,_,_,_,_,i7⟩:=hV ev j ops[j] e2 (by simp[i6]);have h9:=(i7 Rj b2).1.2.1 (V ev j) _ _ r3 (by show Rj (IG (V ev) j (V ev j)) _;rw[ZN];exact st.facts j Rj hj b2);replace h9:Rj (IG (V ev) j (V ev j)) _:=h9;rw[ZN]at h9;rw[hD j Rj b2 _ (V ev) (fun k I=>by
       rcases I with rfl|I
       ·exact b5 k hj
       ·exact b5 k (st.closed j hj k I))]
      exact h9
     ·rw[hR]at b2;cases b2;rw[hD j Ri hR _ (IG (V ev) j v) (fun k I=>by
       rcases I with rfl|I
       ·rw[Ft];exact c9
       ·have:=CQ p _ _ I;rw[Jq _ _ (by omega)];exact b5 k (J k I))]
      exact r1
theorem CX {id:Nat} {Q:Exit->Act->World->Prop} {w:World} (m:Nat) (Inv:World->Prop) (Step:World->World->Prop) (R:Nat->Option FP) (C:Nat->Option Value)
  (hm:P.follows .mixedOrders=true) (p:ok ops m=true) (a7:Region.noSelect ops=true) (hQ:∀c a d v w,Q (.panic c) (a.put d v) w->Q (.panic c) a w) (a8:∀i,BY ops i=true->R i=none) (hD:Dep ops R) (h0:Inv w.drew)
  (hc:Ba P ops Inv Step R C (wpList P ops Q (ops.toList.drop m)) (ops.toList.take m) 0 [] a0 (fun _=>undef)):(Code.region id ops true).wp P Q a0 w:=by
 have p:=Ok.of p;have I:=fun ev=>(Ba.Oc p hD _ _ _ _ _ hc ev).imp fun _ h=>h.2
 have hlen:(ops.toList.take m).length=m:=by rw[bF,bS];exact fF p.le
 have U:∀k o,(ops.toList.take m)[k]?=some o->ops[0+k]?=some o:=fun k o h=>by
  rw[cE]at h;split at h
  ·simpa using h
  ·cases h
 have b0:∀Ac,Cd ops a0 a0 (·<0) Ac:=fun Ac=>⟨rfl,rfl,fun t j o hj=>absurd hj (by omega),fun t _=>rfl⟩
 let V:(Nat->Value)->Nat->Value:=fun ev=>(I ev).choose
 have b1:∀ev,Good P ops Inv Step R C (wpList P ops Q (ops.toList.drop m)) ev (V ev) (ops.toList.take m) 0 [] a0:=fun ev=>(I ev).choose_spec
 have a6:=fun ev=>Good.at_ (a0:=a0) p _ _ _ _ (b1 ev) U (b0 _) (fun f hf=>by cases hf)
 refine wp_region_any hm ?_;refine Hy hD (Inv:=Inv) (Step:=Step) (R:=R) (C:=C) (a0:=a0) (V:=V) p a7 hQ (fun ev k o J ho=>?_) a8 (fun ev=>?_) ops.size (Array.replicate ops.size false) a0 w.drew (fun _=>undef) ?_ ⟨by simp,fun k J=>?_,fun k J=>?_,h0,?_,fun i Ri hi=>?_⟩
 ·have:=(a6 ev).1 k o (by rw[cE,if_pos J];simpa using ho);simpa using this
 ·have:=(a6 ev).2;rw[hlen,bO]at this;exact this
 ·unfold left;exact aV gY (by simp)
 ·unfold On at J;rw[cL]at J;cases J
 ·unfold On at J;rw[cL]at J;cases J
 ·refine⟨rfl,rfl,fun t j o hj=>?_,fun t _=>rfl⟩;unfold On at hj;rw[cL]at hj;cases hj
 ·unfold On at hi;rw[cL]at hi;cases hi
structure It where
 i:Nat
 ds:List Nat
 T:List Value->World->Prop
def KE (l:List It) (i:Nat):Option FP:=match l with
 | []=>none
 |x::r=>if x.i=i then some (fun f w=>x.T (x.ds.map f) w)else KE r i
theorem Ie {l:List It} {i:Nat} {T:FP} (h:KE l i=some T):∃x∈l,x.i=i/\T=fun f w=>x.T (x.ds.map f) w:=by
 induction l with
 |nil=>cases h
 |cons x l ih=>
  unfold KE at h;split at h
  ·rename_i j;injection h with h
   exact⟨x,by simp,j,h.symm⟩
  ·obtain⟨y,o,e⟩:=ih h;exact⟨y,by simp[o],e⟩
def ZbJ (ops:Array Oper) (l:List It):Bool:=l.all fun x=>!BY ops x.i&&x.ds.all fun k=>k==x.i||FJ ops k x.i
theorem Zb2 {l:List It} (h:ZbJ ops l=true):Dep ops (KE l):=by
 intro i Ri I f g j;obtain⟨x,J,rfl,rfl⟩:=Ie I;have o:=aY.1 h x J;rw[aG]at o;have e:x.ds.map f=x.ds.map g:=List.map_congr_left fun k U=>by
  have p:=aY.1 o.2 k U;rw[bV,dI]at p;exact j k p
 funext w;show x.T (x.ds.map f) w=x.T (x.ds.map g) w;rw[e]
theorem AM {id:Nat} {Q:Exit->Act->World->Prop} {w:World} (m:Nat) (p:List (Nat×Value)) (l:List It) (Inv:World->Prop) (Step:World->World->Prop)
  (hm:P.follows .mixedOrders=true) (j:ok ops m=true) (o:Region.noSelect ops=true) (I:ZbJ ops l=true)
  (U:∀c a d v w,Q (.panic c) (a.put d v) w->Q (.panic c) a w) (h0:Inv w.drew)
  (hc:Ba P ops Inv Step (KE l) (Cof p) (wpList P ops Q (ops.toList.drop m)) (ops.toList.take m) 0 [] a0 (fun _=>undef)):(Code.region id ops true).wp P Q a0 w:=by
 refine CX m Inv Step (KE l) (Cof p) hm j o U (fun i hi=>?_) (Zb2 I) h0 hc;cases hR:KE l i with
 |none=>rfl
 |some T=>
  obtain⟨x,hx,rfl,_⟩:=Ie hR;have J:=aY.1 I x hx;rw[aG,hi]at J;exact absurd J.1 (by decide)
theorem Ad {o:Oper} {rest:List Oper} {i:Nat} {F:List (Nat×(World->Prop))} {a:Act} {Ac:Nat->Value} (j:R i=none) (p:o.guard=none) (c:Value)
  (h:∀w,Inv w->B1 ops F i w->(execOp a.eval o).run P w=.ok (.value c) w) (I:Ba P ops Inv Step R C Fin rest (i+1) F (a.put o.dst c) (IG Ac i c)):Ba P ops Inv Step R C Fin (o::rest) i F a Ac:=by
 unfold Ba;simp only[j];refine⟨c,fun w hI J=>?_,I⟩;have hw:Region.wanted o (yielded ops a.tmps)=true:=by simp[Region.wanted,p]
 rw[if_pos hw];exact h w hI J
theorem Ah {rest:List Oper} {i:Nat} {F:List (Nat×(World->Prop))} {a a':Act} {Ac:Nat->Value} (h:a=a') (j:Ba P ops Inv Step R C Fin rest i F a' Ac):Ba P ops Inv Step R C Fin rest i F a Ac:=h▸j
theorem AC {o:Oper} {rest:List Oper} {i:Nat} {F:List (Nat×(World->Prop))} {a:Act} {Ac:Nat->Value} {p:FP} (c:Value) (hC:C i=some c) (J:R i=some p) (hw:Region.wanted o (yielded ops a.tmps)=true) (hm:∀v w j,Step w j->p (IG Ac i v) w->p (IG Ac i v) j)
  (h:∀w,Inv w->B1 ops F i w->∀K:Act->World->Prop,(∀j a',a.put o.dst c=a'->p (IG Ac i c) j->Inv j->Step w j->K a' j)->o.wp P a w K (fun _ _ _=>False))
  (U:Ba P ops Inv Step R C Fin rest (i+1) ((i,p (IG Ac i c))::F) (a.put o.dst c) (IG Ac i c)):Ba P ops Inv Step R C Fin (o::rest) i F a Ac:=by
 unfold Ba;simp only[J];exact⟨⟨hw,hm,fun w hI hF=>h w hI hF _ fun j a' h0 h1 h2 h3=>⟨c,h0.symm,(fun c' I=>by rw[hC]at I;injection I),h1,h2,h3⟩⟩,fun v hv=>by rw[hv c hC];exact U⟩
theorem Bh {o:Oper} {rest:List Oper} {i:Nat} {F:List (Nat×(World->Prop))} {a:Act} {Ac:Nat->Value} {p:FP} (J:R i=some p) (hw:Region.wanted o (yielded ops a.tmps)=true) (hm:∀v w j,Step w j->p (IG Ac i v) w->p (IG Ac i v) j)
  (h:∀w,Inv w->B1 ops F i w->∀K:Act->World->Prop,(∀v j a',a.put o.dst v=a'->p (IG Ac i v) j->Inv j->Step w j->K a' j)->o.wp P a w K (fun _ _ _=>False))
  (I:∀v,Ba P ops Inv Step R C Fin rest (i+1) ((i,p (IG Ac i v))::F) (a.put o.dst v) (IG Ac i v)) (hC:C i=none:=by rfl):Ba P ops Inv Step R C Fin (o::rest) i F a Ac:=by
 unfold Ba;simp only[J];exact⟨⟨hw,hm,fun w hI U=>h w hI U _ fun v j a' h0 h1 h2 h3=>⟨v,h0.symm,(fun c I=>by rw[hC]at I;cases I),h1,h2,h3⟩⟩,fun v _=>I v⟩
theorem Ak {i:Nat} {F:List (Nat×(World->Prop))} {a:Act} {Ac:Nat->Value} (h:∀w,Inv w->(∀f∈F,f.2 w)->Fin a w):Ba P ops Inv Step R C Fin [] i F a Ac:=h
end
end RegD
end
end Go.Proofs.YthbihnpoghlfaaaGreatDoor
