import Derived.Test.YthbihnpoghlfaaaGreatDoorZr07
set_option linter.unusedVariables false
set_option linter.unusedSimpArgs false
set_option maxHeartbeats 8000000
set_option maxRecDepth 100000
namespace Go.Proofs.YthbihnpoghlfaaaGreatDoor
section
open Go.RowKit
namespace Ev
open Aj (On FJ Ok)
def Ji:AH->List (Nat×AH)->Nat->AH
 |H,[],_=>H
 |H,_::_,0=>H
 |_,e::l,p+1=>Ji e.2 l p
def SV (H:AH):List Rec->AH
 | []=>H
 |r::l=>SV r.H' l
def Qs:AH->List Rec->Prop
 |_,[]=>True
 |H,r::l=>r.H=H/\(isE r.k=false->r.H'=r.H)/\Qs r.H' l
theorem OV:∀(l:List Rec) (i:Nat) (H:AH),Qs H l->Ji H (BO l i) (BO l i).length=SV H l/\
  (∀(p I:Nat) (h:AH),(BO l i)[p]?=some (I,h)->∃(k:Nat) (r:Rec),I=i+k/\l[k]?=some r/\isE r.k=true/\r.H'=h/\r.H=Ji H (BO l i) p/\h=Ji H (BO l i) (p+1))/\
  (∀(k:Nat) (r:Rec),l[k]?=some r->isE r.k=true->∃p:Nat,(BO l i)[p]?=some (i+k,r.H'))
 | [],i,H,_=>⟨rfl,fun p I h hp=>by simp[BO]at hp,fun k r J=>by simp at J⟩
 |r::l,i,H,⟨h1,U,h3⟩=>by
  obtain⟨g1,g2,g3⟩:=OV l (i+1) r.H' h3;cases J:isE r.k with
  |true=>
   have he:BO (r::l) i=(i,r.H')::BO l (i+1):=by simp only[BO,J,cX]
   rw[he];refine⟨g1,fun p I h hp=>?_,fun k R j o=>?_⟩
   ·cases p with
    |zero=>
     simp at hp;obtain⟨rfl,rfl⟩:=hp;refine⟨0,r,rfl,rfl,J,rfl,h1,?_⟩;show r.H'=Ji r.H' (BO l (i+1)) 0;cases BO l (i+1)<;>rfl
    |succ p=>
     simp at hp;obtain⟨k,R,e1,e2,e3,e4,e5,e6⟩:=g2 p I h hp;exact⟨k+1,R,by omega,by simpa using e2,e3,e4,e5,e6⟩
   ·cases k with
    |zero=>simp at j;subst j;exact⟨0,rfl⟩
    |succ k=>
     obtain⟨p,hp⟩:=g3 k R (by simpa using j) o;exact⟨p+1,by rw[cG,hp];congr 2;omega⟩
  |false=>
   have he:BO (r::l) i=BO l (i+1):=by simp only[BO,J,eJ]
   have U:r.H'=H:=(U J).trans h1;rw[he];rw[U]at g1 g2;refine⟨by rw[g1];show _=SV r.H' l;rw[U],fun p I h hp=>?_,fun k R j o=>?_⟩
   ·obtain⟨k,R,e1,e2,e3⟩:=g2 p I h hp;exact⟨k+1,R,by omega,by simpa using e2,e3⟩
   ·cases k with
    |zero=>simp at j;subst j;rw[J]at o;cases o
    |succ k=>
     obtain⟨p,hp⟩:=g3 k R (by simpa using j) o;exact⟨p,by rw[hp];congr 2;omega⟩
theorem Un:∀(l:List Rec) (i p q:Nat) (y z:Nat×AH),p<q->(BO l i)[p]?=some y->(BO l i)[q]?=some z->y.1<z.1
 | [],i,p,q,y,z,_,o,_=>by simp[BO]at o
 |r::l,i,p,q,y,z,J,o,j=>by
  cases I:isE r.k with
  |false=>
   have he:BO (r::l) i=BO l (i+1):=by simp only[BO,I,eJ]
   rw[he]at o j;exact Un l (i+1) p q y z J o j
  |true=>
   have he:BO (r::l) i=(i,r.H')::BO l (i+1):=by simp only[BO,I,cX]
   rw[he]at o j;cases q with
   |zero=>omega
   |succ q=>
    simp at j;cases p with
    |zero=>
     simp at o;subst o;have:∀(l:List Rec) (i q:Nat) (z:Nat×AH),(BO l i)[q]?=some z->i<=z.1:=fun l=>by
      induction l with
      |nil=>intro i q z j;simp[BO]at j
      |cons r l ih=>
       intro i q z j;cases I:isE r.k with
       |false=>
        have he:BO (r::l) i=BO l (i+1):=by simp only[BO,I,eJ]
        rw[he]at j;have:=ih (i+1) q z j;omega
       |true=>
        have he:BO (r::l) i=(i,r.H')::BO l (i+1):=by simp only[BO,I,cX]
        rw[he]at j;cases q with
        |zero=>simp at j;subst j;exact aL _
        |succ q=>
         simp at j;have:=ih (i+1) q z j;omega
     have R:=this l (i+1) q z j;show i<z.1;omega
    |succ p=>
     simp at o;exact Un l (i+1) p q y z (by omega) o j
theorem UQ {fl:Option (Nat×Nat)} {i n:Nat} (h:Jf fl i=some n):fl=some (i,n):=by
 unfold Jf at h;split at h
 ·rename_i k m;cases j:Nat.beq k i with
  |false=>rw[j]at h;cases h
  |true=>rw[j]at h;cases h;rw[bY j]
 ·cases h
theorem Fx (f n:Nat):Jf (some (f,n)) f=some n:=by
 unfold Jf;simp only[Nat.beq_refl,cX]
section
variable {P:Program} {T:Tb} {base:CJ} {e e':Env} {H H':AH} {w w':World} {x:AV} {F F':Fr} {a:Act}
def Po (P:Program) (T:Tb) (call:FuncId->List AV->AH->Option (AV×AH)) (fl:Option (Nat×Nat)) (all:Array Oper) (i:Nat) (o:Oper) (r:Rec):Prop:=match r.k with
 |.flt=>∃n,Jf fl i=some n/\LY T o n r.H=some (r.x,r.H')
 |.skip=>Jf fl i=none/\Region.wanted o (Dz all r.F)=false/\r.x=.undef
 |.quiet=>Jf fl i=none/\Region.wanted o (Dz all r.F)=true/\G6 (E9 r.F) o.op=true
 |.eff=>Jf fl i=none/\Region.wanted o (Dz all r.F)=true/\(E6 P T (E9 r.F) o r.H=some (.val r.x r.H')/\r.H'.next<=2^depth\/∃f args j,E6 P T (E9 r.F) o r.H=some (.enter f args j)/\call f args j=some (r.x,r.H'))
def Qo:Fr->List Oper->List Rec->Fr->Prop
 |F,[],[],F'=>F'=F
 |F,o::l,r::j,F'=>r.F=F/\Qo (F.put o.dst r.x) l j F'
 |_,_,_,_=>False
theorem Fy {r:Rec} {x:Option (List Rec×Fr×AH)} {l:List Rec} {F:Fr} {H:AH} (h:O3 r x=some (l,F,H)):∃j,l=r::j/\x=some (j,F,H):=by
 unfold O3 at h;split at h
 ·cases h;exact⟨_,rfl,rfl⟩
 ·cases h
theorem U7 {call:FuncId->List AV->AH->Option (AV×AH)} {fl:Option (Nat×Nat)} {all:Array Oper}:∀(l:List Oper) (i:Nat) (F:Fr) (H:AH) (recs:List Rec) (F':Fr) (H':AH),EP P T call fl all l i F H=some (recs,F',H')->
  Qo F l recs F'/\Qs H recs/\SV H recs=H'/\∀(k:Nat) (o:Oper) (r:Rec),l[k]?=some o->recs[k]?=some r->Po P T call fl all (i+k) o r:=by
 intro l
 induction l with
 |nil=>
  intro i F H recs F' H' h;unfold EP at h;cases h;exact⟨rfl,trivial,rfl,fun i o r U=>by simp at U⟩
 |cons o l ih=>
  intro i F H recs F' H' h;have build:∀(r:Rec) (j:List Rec),recs=r::j->r.F=F->r.H=H->(isE r.k=false->r.H'=r.H)->Po P T call fl all i o r->
    EP P T call fl all l (i+1) (F.put o.dst r.x) r.H'=some (j,F',H')->Qo F (o::l) recs F'/\Qs H recs/\SV H recs=H'/\∀(k:Nat) (o':Oper) (r:Rec),(o::l)[k]?=some o'->recs[k]?=some r->Po P T call fl all (i+k) o' r:=by
   intro r j hl hF hH hk h1 p;subst hl;obtain⟨g1,g2,g3,g4⟩:=ih _ _ _ _ _ _ p;refine⟨⟨hF,g1⟩,⟨hH,hk,g2⟩,g3,fun k o' r' U hr=>?_⟩;cases k with
   |zero=>simp at U hr;subst U;subst hr;exact h1
   |succ k=>rw[show i+(k+1)=i+1+k from by omega];exact g4 k o' r' (by simpa using U) (by simpa using hr)
  unfold EP at h;split at h
  ·rename_i n R;split at h
   ·rename_i x H1 b0;obtain⟨j,rfl,p⟩:=Fy h;exact build _ j rfl rfl rfl (fun J=>by cases J) ⟨n,R,b0⟩ p
   ·cases h
  rename_i R;cases hw:Region.wanted o (Dz all F)with
  |false=>
   rw[hw]at h;simp only[eJ]at h;obtain⟨j,rfl,p⟩:=Fy h;exact build _ j rfl rfl rfl (fun _=>rfl) ⟨R,hw,rfl⟩ p
  |true=>
   rw[hw]at h;simp only[cX]at h;split at h
   ·rename_i y H1 I;cases hb:H1.next.ble 16384 with
    |false=>rw[hb]at h;cases h
    |true=>
     rw[hb]at h;simp only[cX]at h;cases hq:G6 (E9 F) o.op with
     |true=>
      have hH:H1=H:=Np hq I;rw[hq]at h;obtain⟨j,rfl,p⟩:=Fy h;exact build _ j rfl rfl rfl (fun _=>hH) ⟨R,hw,hq⟩ p
     |false=>
      rw[hq]at h;obtain⟨j,rfl,p⟩:=Fy h;exact build _ j rfl rfl rfl (fun J=>by cases J) ⟨R,hw,.inl ⟨I,bQ hb⟩⟩ p
   ·rename_i f args H1 I;split at h
    ·rename_i y H2 J;obtain⟨j,rfl,p⟩:=Fy h;exact build _ j rfl rfl rfl (fun J=>by cases J) ⟨R,hw,.inr ⟨f,args,H1,I,J⟩⟩ p
    ·cases h
   ·cases h
structure TS (F0:Fr) (all:Array Oper) (recs:List Rec) (L:Nat->Prop) (F:Fr):Prop where
 n:F.n=F0.n
 m:F.m=F0.m
 hit:∀t k o r,L k->all[k]?=some o->recs[k]?=some r->o.dst=some t->t<F0.n->F.get t=r.x
 Hh:∀t,(F0.n<=t\/∀k o,L k->all[k]?=some o->o.dst≠some t)->F.get t=F0.get t
structure AS (e:Env) (F0:Fr) (all:Array Oper) (recs:List Rec) (L:Nat->Prop) (a:Act):Prop where
 defers:MR e F0.m a.defers
 size:a.tmps.size=F0.n
 hit:∀t k o r,L k->all[k]?=some o->recs[k]?=some r->o.dst=some t->t<F0.n->DR e r.x (a.tmps[t]?.getD undef)
 Hh:∀t,(F0.n<=t\/∀k o,L k->all[k]?=some o->o.dst≠some t)->DR e (F0.get t) (a.tmps[t]?.getD undef)
theorem Fr.Ry (F:Fr) (d t:Nat) (x:AV) (h:F.n<=t):(F.put (some d) x).get t=F.get t\/d<F.n/\t≠d:=by
 by_cases j:d<F.n
 ·exact .inr ⟨j,by omega⟩
 ·left;unfold Fr.put;have p:Nat.blt d F.n=false:=by
   cases o:Nat.blt d F.n with
   |false=>rfl
   |true=>rw[dP]at o;exact absurd o j
  simp only[p,eJ]
theorem Fr.Jr (F:Fr) (d t:Nat) (x:AV) (p:F.n<=1024) (h:t≠d):(F.put (some d) x).get t=F.get t:=by
 by_cases j:d<F.n
 ·rw[Fr.DG F d t x j p,if_neg h]
 ·unfold Fr.put;have I:Nat.blt d F.n=false:=by
   cases o:Nat.blt d F.n with
   |false=>rfl
   |true=>rw[dP]at o;exact absurd o j
  simp only[I,eJ]
theorem Fr.Sk (F:Fr) (d t:Nat) (x:AV) (j:F.n<=1024) (h:F.n<=t):(F.put (some d) x).get t=F.get t:=by
 rcases Fr.Ry F d t x h with h|⟨_,h⟩
 ·exact h
 ·exact Fr.Jr F d t x j h
theorem TS.put {F0:Fr} {all:Array Oper} {recs:List Rec} {L L':Nat->Prop} {F:Fr} {i m:Nat} {o:Oper} {r:Rec} (b1:Ok all m) (hn:F0.n<=1024) (h:TS F0 all recs L F) (hi:all[i]?=some o) (hr:recs[i]?=some r)
  (hL:∀j,L' j↔L j\/j=i) (b2:¬L i):TS F0 all recs L' (F.put o.dst r.x):=by
 have R:F.n<=1024:=by rw[h.n];exact hn
 cases hd:o.dst with
 |none=>
  refine⟨h.n,h.m,fun t k ok rk p I J ht U=>?_,fun t hm=>h.Hh t (hm.imp id fun hm k ok p I=>hm k ok ((hL k).2 (.inl p)) I)⟩;rcases(hL k).1 p with p|rfl
  ·exact h.hit t k ok rk p I J ht U
  ·rw[hi]at I;cases I;rw[hd]at ht;cases ht
 |some d=>
  refine⟨by rw[Fr.YB,h.n],by rw[Fr.ZbD,h.m],fun t k ok rk p I J ht U=>?_,fun t hm=>?_⟩
  ·rcases(hL k).1 p with p|rfl
   ·have b4:k≠i:=fun e=>b2 (e▸p)
    have a6:t≠d:=fun e=>b1.apart i o k ok hi I b4 d hd (e▸ht)
    rw[Fr.Jr F d t _ R a6];exact h.hit t k ok rk p I J ht U
   ·rw[hi]at I;cases I;rw[hd]at ht;cases ht;rw[hr]at J;cases J;rw[Fr.DG F d d _ (by rw[h.n];exact U) R,if_pos rfl]
  ·rcases hm with hm|hm
   ·rw[Fr.Sk F d t _ R (by rw[h.n];exact hm)];exact h.Hh t (.inl hm)
   ·have a6:t≠d:=fun e=>hm i o ((hL i).2 (.inr rfl)) hi (by rw[hd,e])
    rw[Fr.Jr F d t _ R a6];exact h.Hh t (.inr fun k ok p I=>hm k ok ((hL k).2 (.inl p)) I)
theorem AS.put {F0:Fr} {all:Array Oper} {recs:List Rec} {L L':Nat->Prop} {i m:Nat} {o:Oper} {r:Rec} {y:Value} (a8:Ok all m) (h:AS e F0 all recs L a) (he:Fp e e') (hi:all[i]?=some o) (hr:recs[i]?=some r)
  (hL:∀j,L' j↔L j\/j=i) (b0:¬L i) (hy:DR e' r.x y):AS e' F0 all recs L' (a.put o.dst y):=by
 cases hd:o.dst with
 |none=>
  refine⟨h.defers.mono he,h.size,fun t k ok rk p I J U R=>?_,fun t hm=>(h.Hh t (hm.imp id fun hm k ok p I=>hm k ok ((hL k).2 (.inl p)) I)).mono he⟩;rcases(hL k).1 p with p|rfl
  ·exact(h.hit t k ok rk p I J U R).mono he
  ·rw[hi]at I;cases I;rw[hd]at U;cases U
 |some d=>
  refine⟨h.defers.mono he,by simp[Act.put,h.size],fun t k ok rk p I J U R=>?_,fun t hm=>?_⟩
  ·rcases(hL k).1 p with p|rfl
   ·have b2:k≠i:=fun e=>b0 (e▸p)
    have a1:d≠t:=fun e=>a8.apart i o k ok hi I b2 d hd (e▸U)
    simp only[Act.put,cK a1];exact(h.hit t k ok rk p I J U R).mono he
   ·rw[hi]at I;cases I;rw[hd]at U;cases U;rw[hr]at J;cases J;simp[Act.put,h.size,R];exact hy
  ·rcases hm with hm|hm
   ·have h1:(a.put (some d) y).tmps[t]?=a.tmps[t]?:=by
     rw[dU (xs:=a.tmps) (by rw[h.size];exact hm),dU (by simpa[Act.put,h.size]using hm)]
    rw[h1];exact(h.Hh t (.inl hm)).mono he
   ·have a1:d≠t:=fun e=>hm i o ((hL i).2 (.inr rfl)) hi (by rw[hd,e])
    simp only[Act.put,cK a1];exact(h.Hh t (.inr fun k ok p I=>hm k ok ((hL k).2 (.inl p)) I)).mono he
theorem AS.mono {j:Fr} {all:Array Oper} {recs:List Rec} {L:Nat->Prop} (h:AS e j all recs L a) (he:Fp e e'):AS e' j all recs L a:=
 ⟨h.defers.mono he,h.size,fun t k o r p I J R U=>(h.hit t k o r p I J R U).mono he,fun t hm=>(h.Hh t hm).mono he⟩
theorem AS.look {U:Fr} {all:Array Oper} {recs:List Rec} {L L':Nat->Prop} {t:Nat} (hlen:recs.length=all.size) (h:AS e U all recs L a) (h':TS U all recs L' F)
  (hk:∀k o,all[k]?=some o->o.dst=some t->(L k↔L' k)):DR e (F.get t) (a.tmps[t]?.getD undef):=by
 rcases bH t U.n with J|R
 ·by_cases hx:∃k o,L k/\all[k]?=some o/\o.dst=some t
  ·obtain⟨k,o,I,j,p⟩:=hx;have a6:k<all.size:=(aU.1 j).1;have hr:recs[k]?=some recs[k]:=by simp[hlen,a6]
   rw[h'.hit t k o _ ((hk k o j p).1 I) j hr p J];exact h.hit t k o _ I j hr p J
  ·have h1:∀k o,L k->all[k]?=some o->o.dst≠some t:=fun k o I j p=>hx ⟨k,o,I,j,p⟩
   rw[h'.Hh t (.inr fun k o I j p=>h1 k o ((hk k o j p).2 I) j p)];exact h.Hh t (.inr h1)
 ·rw[h'.Hh t (.inl R)];exact h.Hh t (.inl R)
theorem O2 {R:Fr} {all:Array Oper} {recs:List Rec} {m:Nat} (J:Ok all m) (hn:R.n<=1024):∀(l:List Oper) (I:List Rec) (F F':Fr) (i:Nat),Qo F l I F'->
  (∀k o,l[k]?=some o->all[i+k]?=some o)->(∀k r,I[k]?=some r->recs[i+k]?=some r)->TS R all recs (·<i) F->
  I.length=l.length/\TS R all recs (·<i+l.length) F'/\∀k r,I[k]?=some r->TS R all recs (·<i+k) r.F
 | [],[],F,F',i,h,_,_,U=>by
  have h:F'=F:=h;subst h;exact⟨rfl,U,fun k r p=>by simp at p⟩
 |o::l,r::I,F,F',i,h,hl,hr,U=>by
  obtain⟨h1,h2⟩:=h;have a1:all[i]?=some o:=by simpa using hl 0 o (by simp)
  have a6:recs[i]?=some r:=by simpa using hr 0 r (by simp)
  obtain⟨g1,g2,g3⟩:=O2 J hn l I _ F' (i+1) h2 (fun k o' p=>by
   have:=hl (k+1) o' (by simpa using p);rw[show i+1+k=i+(k+1)from by omega];exact this) (fun k r' p=>by
   have:=hr (k+1) r' (by simpa using p);rw[show i+1+k=i+(k+1)from by omega];exact this) (U.put J hn a1 a6 (fun j=>by omega) (by omega))
  refine⟨by simp[g1],by rw[bP,show i+(l.length+1)=i+1+l.length from by omega];exact g2,fun k r' p=>?_⟩;cases k with
  |zero=>simp at p;subst p;rw[h1];exact U
  |succ k=>rw[show i+(k+1)=i+1+k from by omega];exact g3 k r' (by simpa using p)
 | [],_::_,_,_,_,h,_,_,_=>h.elim
 |_::_,[],_,_,_,h,_,_,_=>h.elim
theorem LC {I:List Nat}:∀(E:List (Nat×AH)),Gz I E=true->∀p x y,E[p]?=some x->E[p+1]?=some y->Aj.bit I x.1 y.1=true
 | [],_,p,x,y,j,_=>by simp at j
 | [_],_,p,x,y,_,o=>by simp at o
 |a::b::l,h,p,x,y,j,o=>by
  unfold Gz at h;rw[aG]at h;cases p with
  |zero=>simp at j o;rw[<-j,<-o];exact h.1
  |succ p=>exact LC (b::l) h.2 p x y (by simpa using j) (by simpa using o)
theorem SS {p:List Nat} {L:List (Nat×AH)} (h:Gz p L=true) {On:Nat->Prop} (j:∀a b,Aj.bit p a b=true->On b->On a):∀(q:Nat) (i:Nat×AH),L[q]?=some i->(∀a,Aj.bit p a i.1=true->On a)->∀r y,r<q->L[r]?=some y->On y.1
 | 0,_,_,_,r,y,U,_=>absurd U (Nat.not_lt_zero r)
 |q+1,i,hi,hA,r,y,U,I=>by
  have J:q<L.length:=by have:=(bC.1 hi).1;omega
  have R:L[q]?=some L[q]:=by simp[J]
  have hb:=LC L h q L[q] i R hi;have o:=hA _ hb;rcases bH r q with h1|h1
  ·exact SS h j q L[q] R (fun a ha=>j a _ ha o) r y h1 I
  ·have:r=q:=by omega
   subst this;rw[R]at I;cases I;exact o
theorem PT {J:List Nat} {E:List (Nat×AH)} {p:Nat×AH->Bool} (h:Gz J (E.filter p)=true) {On:Nat->Prop} (R:∀a b,Aj.bit J a b=true->On b->On a) {q:Nat} {i:Nat×AH} (hi:E[q]?=some i) (U:p i=true) (hA:∀a,Aj.bit J a i.1=true->On a)
  {r:Nat} {y:Nat×AH} (hr:r<q) (hy:E[r]?=some y) (a1:p y=true):On y.1:=by
 have a6:E=E.take q++i::E.drop (q+1):=by
  obtain⟨a7,he⟩:=bC.1 hi;rw[<-he,<-dV a7,fN]
 have hf:E.filter p=(E.take q).filter p++i::(E.drop (q+1)).filter p:=by
  conv=>lhs;rw[a6]
  rw[dL,gD,if_pos U]
 have j:y∈(E.take q).filter p:=fO.2 ⟨bR (i:=r) (by rw[List.getElem?_take_of_lt hr];exact hy),a1⟩;obtain⟨r',o⟩:=eV.1 j;have I:=(bC.1 o).1;refine SS h R ((E.take q).filter p).length i (by rw[hf];simp) hA r' y I ?_;rw[hf,bZ I];exact o
theorem Oy {r:Option Bs} (h:PO r x=true):∃H',r=some (.val x H'):=by
 unfold PO at h;split at h
 ·rename_i y H1;rw[IW _ _ _ h];exact⟨H1,rfl⟩
 ·cases h
theorem LK {j:List Nat} {o:Oper} {i:Nat}:∀(E:List (Nat×AH)) (H:AH),Ih P T j o i F x H E=true->∀p,p<=E.length->(∀q y,p<=q->E[q]?=some y->Aj.bit j y.1 i=false)->(∀q y,q<p->E[q]?=some y->Aj.bit j i y.1=false)->
  ∃H',E6 P T (E9 F) o (Ji H E p)=some (.val x H')
 | [],H,h,p,_,_,_=>Oy h
 |y::l,H,h,p,hp,R,U=>by
  unfold Ih at h;rw[aG]at h;cases p with
  |zero=>
   have:(y::l).all (fun e=>!Aj.bit j e.1 i)=true:=aY.2 fun z I=>by
    obtain⟨q,J⟩:=eV.1 I;rw[R q z (eN _) J];rfl
   rw[this]at h;exact Oy h.1
  |succ p=>
   have:Aj.bit j i y.1=false:=U 0 y (by omega) (by simp);rw[this]at h;exact LK l y.2 h.2 p (by simpa using hp) (fun q z J I=>R (q+1) z (by omega) (by simpa using I)) (fun q z J I=>U (q+1) z (by omega) (by simpa using I))
theorem LH {J:List Nat} {H:AH} {E:List (Nat×AH)}:∀(l:List Oper) (I:List Rec) (i:Nat),Kb P T J H E l I i=true->∀k o r,l[k]?=some o->I[k]?=some r->r.k=.quiet->Ih P T J o (i+k) r.F r.x H E=true
 | [],_,_,_,k,o,r,j,_,_=>by simp at j
 |_::_,[],_,_,k,o,r,_,p,_=>by simp at p
 |U::l,r'::I,i,h,k,o,r,j,p,R=>by
  unfold Kb at h;rw[aG]at h;cases k with
  |zero=>
   simp at j p;subst j;subst p;rw[R]at h;exact h.1
  |succ k=>rw[show i+(k+1)=i+1+k from by omega];exact LH l I (i+1) h.2 k o r (by simpa using j) (by simpa using p) R
end
end Ev
end
section
open Go.RowKit
namespace Ev
open Aj (On FJ Ok)
section
variable {P:Program} {T:Tb} {base pr:CJ} {e e' e0:Env} {H H' H0:AH} {w w' w0:World} {x:AV} {F F' F0:Fr} {a:Act}
def CJ.hold (p:CJ) (n:Nat):CJ:=⟨p.S,fun b=>p.R b\/b=n⟩
def CJ.ZaS (p:CJ) (g:Nat):CJ:=⟨fun k=>p.S k\/k=g,p.R⟩
theorem ZaA (h:AO base e H w) (o:H.next+1<=2^depth):AO (base.hold H.next) e ⟨H.next+1,H.t⟩ w:=
 ⟨h.size,fun b j=>j.elim (fun j=>⟨iZ (h.KN b j).1,(h.KN b j).2⟩) fun j=>by subst j;exact⟨eB _,h.fresh _ (aL _)⟩,o,fun b j=>h.fresh b (Nat.le_of_succ_le j),h.Bq,h.inj⟩
theorem V8 {n:Nat} (h:AO (base.hold n) e H w) (p:Nat×Nat×Nat):Fp e (Env.new e n p):=fun b q o=>by
 unfold Env.new;by_cases j:b=n
 ·subst j;rw[(h.KN b (.inr rfl)).2]at o;cases o
 ·rw[if_neg j];exact o
theorem XH {n:Nat} (h:AO (base.hold n) e H w) {x:AB}:H.get n≠some x:=fun I=>by
 have j:=h.KN n (.inr rfl);obtain⟨g,o,z,p,_⟩:=h.Bq n x (aK j.1 h.next) I;rw[j.2]at p;cases p
theorem Zax {n:Nat} (h:AO (base.hold n) e H w) (b4:¬base.R n) (obj:Obj) (z:Nat):AO (base.ZaS w.heap.size) (Env.new e n (w.heap.size,0,z)) H (w.alloc obj):=by
 have hle:=V8 h (w.heap.size,0,z);have b5:(w.alloc obj).heap.size=w.heap.size+1:=aW _ _;have hn:=h.KN n (.inr rfl);have J:∀b x p,b<2^depth->H.get b=some x->Env.new e n (w.heap.size,0,z) b=some p->e b=some p/\p.1<w.heap.size:=fun b x p j hx hp=>by
  obtain⟨g,o,z',h1,_,U⟩:=h.Bq b x j hx;have:=hle _ _ h1;rw[this]at hp;cases hp;exact⟨h1,U.lt⟩
 refine⟨fun g I=>?_,fun b j=>⟨(h.KN b (.inl j)).1,?_⟩,h.next,fun b j=>?_,fun b x j hx=>?_,fun b1 b2 x1 x2 p1 p2 a1 a6 a7 a8 b7 b8 b9=>?_⟩
 ·rw[b5];rcases I with I|I
  ·have:=h.size g I;omega
  ·omega
 ·unfold Env.new;by_cases b0:b=n
  ·exact absurd (b0▸j) b4
  ·rw[if_neg b0];exact(h.KN b (.inl j)).2
 ·unfold Env.new;rw[if_neg (by omega)];exact h.fresh b j
 ·obtain⟨g,o,z',h1,h2,U⟩:=h.Bq b x j hx;refine⟨g,o,z',hle _ _ h1,fun I=>?_,(U.mono hle).heap (fL w obj g U.lt)⟩;rcases I with I|I
  ·exact h2 I
  ·have:=U.lt;omega
 ·exact h.inj b1 b2 x1 x2 p1 p2 a1 a6 a7 a8 (J b1 x1 p1 a1 a7 b7).1 (J b2 x2 p2 a6 a8 b8).1 b9
theorem Wo {n g len:Nat} {x:AB} (h:AO (base.ZaS g) e H w) (he:e n=some (g,0,len)) (hd:H.get n=none) (hg:¬base.S g) (hx:I3 e w g 0 len x):AO base e (H.put n (some x)) w:=by
 have b8:=h.Vc he;have I:∀b y,b<2^depth->(H.put n (some x)).get b=some y->(b=n/\y=x)\/(b≠n/\H.get b=some y):=fun b y hb j=>by
  rw[AH.DG _ _ _ _ b8 hb]at j;by_cases J:b=n
  ·rw[if_pos J]at j;cases j;exact .inl ⟨J,rfl⟩
  ·rw[if_neg J]at j;exact .inr ⟨J,j⟩
 have Nf:∀b y p,b<2^depth->H.get b=some y->e b=some p->p.1≠g:=fun b y p hb j hp b9=>by
  obtain⟨g',o,z,h1,h2,_⟩:=h.Bq b y hb j;rw[hp]at h1;cases h1;exact h2 (.inr b9)
 refine⟨fun k hk=>h.size k (.inl hk),h.KN,h.next,h.fresh,fun b y hb j=>?_,fun b1 b2 x1 x2 p1 p2 a6 R c5 b0 U a1 b3=>?_⟩
 ·rcases I b y hb j with⟨rfl,rfl⟩|⟨_,j⟩
  ·exact⟨g,0,len,he,hg,hx⟩
  ·obtain⟨g',o,z,h1,h2,h3⟩:=h.Bq b y hb j;exact⟨g',o,z,h1,fun hk=>h2 (.inl hk),h3⟩
 ·rcases I b1 x1 a6 c5 with⟨rfl,rfl⟩|⟨c1,b4⟩
  ·rcases I b2 x2 R b0 with⟨rfl,rfl⟩|⟨c2,a7⟩
   ·exact absurd rfl b3
   ·rw[he]at U;cases U;exact(Nf b2 x2 p2 R a7 a1).symm
  ·rcases I b2 x2 R b0 with⟨rfl,rfl⟩|⟨c2,a7⟩
   ·rw[he]at a1;cases a1;exact Nf b1 x1 p1 a6 b4 U
   ·exact h.inj b1 b2 x1 x2 p1 p2 a6 R b4 a7 U a1 b3
theorem get_none {H:AH} {b:Nat} (h:∀x,H.get b≠some x):H.get b=none:=by
 cases j:H.get b with
 |none=>rfl
 |some x=>exact absurd j (h x)
theorem Ue (o:B3 P T) {t:TypeId} {l:List AV} (p:CG T t=some l):∃j:Array Value,l=j.toList.map .v/\∀w,(do pure (Next.value (<-Instr.alloc t true (.tuple #[]))):Sem Next).run P w=.ok (.value (.pointer (some ⟨w.heap.size,0,none⟩))) (w.alloc (.cells j t)):=by
 obtain⟨z,I,rfl⟩:=Gx o p;exact⟨z.cells,rfl,fun w=>by simp[Instr.alloc,aX,I,newVar,newRow]⟩
theorem Wi {o:Oper} {n:Nat} (h:LY T o n H=some (x,H')):∃t l,o.op=.alloc t/\o.guard=none/\H.get n=none/\CG T t=some l/\x=.ptr n 0/\H'=H.put n (some (.cells l t)):=by
 unfold LY at h;split at h
 ·rename_i t j p I;split at h
  ·rename_i l J;cases h;exact⟨t,l,j,p,I,J,rfl,rfl⟩
  ·cases h
 ·cases h
theorem Rh {g:Nat} {l:List AV} {j:Array Value} {t:TypeId} (o:l=j.toList.map .v) (hw:w.heap[g]?=some (.cells j t (0,0))):I3 e w g 0 l.length (.cells l t):=by
 refine⟨j,hw,by rw[o];simp,by omega,?_⟩;show BP e l ((j.toList.drop 0).take l.length);rw[aS,gP (by rw[o];simp),o];exact BP.flat _
inductive FlS (T:Tb) (all:Array Oper) (fl:Option (Nat×Nat)) (E:List (Nat×AH)) (base pr:CJ) (listed:Array Bool) (e:Env) (w:World) (j:Nat):Prop where
 |off:fl=none->pr=base->FlS T all fl E base pr listed e w j
 |wait {f n:Nat}:fl=some (f,n)->¬On listed f->(∀p h,E[p]?=some (f,h)->j<=p)->¬base.R n->pr=base.hold n->FlS T all fl E base pr listed e w j
 |LU {f n g:Nat} {t:TypeId} {l:List AV} {cs:Array Value}:fl=some (f,n)->On listed f->(∀p h,E[p]?=some (f,h)->j<p)->¬base.S g->pr=base.ZaS g->(∀o,all[f]?=some o->o.op=.alloc t)->CG T t=some l->l=cs.toList.map .v->e n=some (g,0,l.length)->w.heap[g]?=some (.cells cs t (0,0))->FlS T all fl E base pr listed e w j
 |done {f n:Nat}:fl=some (f,n)->On listed f->(∀p h,E[p]?=some (f,h)->p<j)->pr=base->FlS T all fl E base pr listed e w j
theorem FlS.sub {all:Array Oper} {fl:Option (Nat×Nat)} {E:List (Nat×AH)} {listed:Array Bool} {j:Nat} (h:FlS T all fl E base pr listed e w j):∀k,base.S k->pr.S k:=by
 cases h with
 |off _ hp=>subst hp;exact fun _ h=>h
 |wait _ _ _ _ hp=>subst hp;exact fun _ h=>h
 |LU _ _ _ _ hp _ _ _ _ _=>subst hp;exact fun _ h=>.inl h
 |done _ _ _ hp=>subst hp;exact fun _ h=>h
theorem FlS.step {all:Array Oper} {fl:Option (Nat×Nat)} {E:List (Nat×AH)} {listed:Array Bool} {i j:Nat} (h:FlS T all fl E base pr listed e w j) (hi:i<listed.size) (a1:∀n,fl≠some (i,n)) (he:Fp e e') (hk:B8 pr.S w w'):FlS T all fl E base pr (listed.setIfInBounds i true) e' w' j:=by
 have p:=On.set (listed:=listed) (i:=i) hi;cases h with
 |off o I=>exact .off o I
 |wait o I J R U=>exact .wait o (fun h=>((p _).1 h).elim I fun h=>a1 _ (h▸o)) J R U
 |LU o I J R U h6 h7 h8 h9 a6=>exact .LU o ((p _).2 (.inl I)) J R U h6 h7 h8 (he _ _ h9) ((hk.block _ (by rw[U];exact .inr rfl)).trans a6)
 |done o I J R=>exact .done o ((p _).2 (.inl I)) J R
structure DS (T:Tb) (fl:Option (Nat×Nat)) (base pr:CJ) (all:Array Oper) (recs:List Rec) (F0:Fr) (H0:AH) (E:List (Nat×AH)) (e0:Env) (w0:World) (listed:Array Bool) (e:Env) (a:Act) (w:World) (j:Nat):Prop where
 sz:listed.size=all.size
 closed:∀k,On listed k->∀i,FJ all i k=true->On listed i
 pos:∀p i h,E[p]?=some (i,h)->(∀n,fl≠some (i,n))->(On listed i↔p<j)
 le:j<=E.length
 heap:AO pr e (Ji H0 E j) w
 fls:FlS T all fl E base pr listed e w j
 env:Fp e0 e
 below:B8 base.S w0 w
 Cs:AS e F0 all recs (On listed) a
theorem Uz {all:Array Oper} {listed:Array Bool} (j:∀k,k<all.size->On listed k):Region.ready .any all listed=[]:=by
 refine List.eq_nil_iff_forall_not_mem.2 fun k I=>?_
 obtain⟨J,o,R,_⟩:=gK.1 I;have p:k<all.size:=(aU.1 R).1;have:=j k p;unfold On at this;rw[getD_both J]at this;cases this
theorem Td {all:Array Oper} {listed:Array Bool} {i:Nat} (hi:i<listed.size) (J:∀k,On listed k->∀j,FJ all j k=true->On listed j) (ha:∀j,FJ all j i=true->On listed j) :
  ∀k,On (listed.setIfInBounds i true) k->∀j,FJ all j k=true->On (listed.setIfInBounds i true) j:=fun k p j I=>by
 have o:=On.set (listed:=listed) (i:=i) hi;rcases(o k).1 p with p|rfl
 ·exact(o j).2 (.inl (J k p j I))
 ·exact(o j).2 (.inl (ha j I))
theorem Vh {fl:Option (Nat×Nat)} {y:Nat×AH} (h:∀n,fl≠some (y.1,n)):ZcE fl y=true:=by
 unfold ZcE;split
 ·rfl
 ·rename_i f n;cases j:Nat.beq y.1 f with
  |false=>rfl
  |true=>exact absurd (by rw[<-bY j]) (h n)
theorem Xy (hT:B3 P T) {ro:Option Nat} {call:FuncId->List AV->AH->Option (AV×AH)} (o2:∀base,Hv P base call) {fl:Option (Nat×Nat)} {all:Array Oper} {recs:List Rec} (hn:F0.n<=1024) (o3:∀f n,fl=some (f,n)->f<all.size)
  (s7:EP P T call fl all all.toList 0 F0 H0=some (recs,F',H')) (c2:Ok all all.size) (hd:Kf P T (Aj.BH all.toList []) fl all recs H0=true) {Q:Exit->Act->World->Prop} (hQ:Ks base e0 w0 .normal F' H' Q) :
  ∀(Bf:Nat) (listed:Array Bool) (pr:CJ) (a:Act) (w:World) (e:Env) (j:Nat),Aj.left all listed<=Bf->DS T fl base pr all recs F0 H0 (BO recs 0) e0 w0 listed e a w j->wpAnyIn (fz ro) 0 P .any all Q Bf listed a w:=by
 obtain⟨s9,u0,o4,l0⟩:=U7 _ _ _ _ _ _ _ s7;obtain⟨hlen,j7,u1⟩:=O2 (recs:=recs) c2 hn all.toList recs F0 F' 0 s9 (fun k o hk=>by simpa using hk) (fun k r hk=>by simpa using hk)
  ⟨rfl,rfl,fun t k o r hk=>absurd hk (Nat.not_lt_zero k),fun t _=>rfl⟩
 obtain⟨p0,l1,p1⟩:=OV recs 0 H0 u0;have j8:∀(p q:Nat) (y z:Nat×AH),p<q->(BO recs 0)[p]?=some y->(BO recs 0)[q]?=some z->y.1<z.1:=Un recs 0;unfold Kf at hd;rw[aG]at hd;obtain⟨c8,u2⟩:=hd;have b3:recs.length=all.size:=by rw[hlen,bS]
 rw[o4]at p0;generalize hE:BO recs 0=E at *;unfold Wj at c8;rw[aG]at c8;obtain⟨c8,c0⟩:=c8;have c9:∀(p q:Nat) (i:Nat) (h h':AH),E[p]?=some (i,h)->E[q]?=some (i,h')->p=q:=fun p q i h h' hp U=>by
  rcases Nat.lt_trichotomy p q with R|R|R
  ·exact absurd (j8 p q _ _ R hp U) (eM _)
  ·exact R
  ·exact absurd (j8 q p _ _ R U hp) (eM _)
 have c3:∀f n,fl=some (f,n)->∃p r,E[p]?=some (f,r.H')/\recs[f]?=some r/\r.k=.flt:=fun f n I=>by
  have a7:=o3 f n I;have b1:all.toList[f]?=some all[f]:=by simp[a7]
  have a1:recs[f]?=some recs[f]:=by simp[b3,a7]
  have R:=l0 f _ _ b1 a1;rw[bO]at R;have hk:recs[f].k=.flt:=by
   unfold Po at R;split at R
   ·rename_i hk;exact hk
   ·rw[I,Fx]at R;exact absurd R.1 nofun
   ·rw[I,Fx]at R;exact absurd R.1 nofun
   ·rw[I,Fx]at R;exact absurd R.1 nofun
  obtain⟨p,hp⟩:=p1 f _ a1 (by rw[hk];rfl);rw[bO]at hp;exact⟨p,_,hp,a1,hk⟩
 have done:∀(listed:Array Bool) (pr:CJ) (a:Act) (w:World) (e:Env) (j:Nat),DS T fl base pr all recs F0 H0 E e0 w0 listed e a w j->(∀k,k<all.size->On listed k)->Q .normal a w:=by
  intro listed pr a w e j st b4;have j1:∀(p:Nat) (y:Nat×AH),E[p]?=some y->y.1<all.size:=fun p y hp=>by
   obtain⟨k,r,R,h2,_⟩:=l1 p y.1 y.2 hp;rw[R,bO,<-b3];exact(bC.1 h2).1
  have hj:j=E.length:=by
   refine Nat.le_antisymm st.le (jF fun a7=>?_);have hp:E[j]?=some E[j]:=by simp[a7]
   by_cases I:∃n,fl=some (E[j].1,n)
   ·obtain⟨n,I⟩:=I;cases st.fls with
    |off R _=>rw[R]at I;cases I
    |wait R h2 _ _ _=>rw[R]at I;cases I;exact h2 (b4 _ (j1 j _ hp))
    |LU R _ h3 _ _ _ _ _ _ _=>rw[R]at I;cases I;exact absurd (h3 j _ hp) (eM _)
    |done R _ h3 _=>rw[R]at I;cases I;exact absurd (h3 j _ hp) (eM _)
   ·have:=(st.pos j E[j].1 E[j].2 hp fun n hn=>I ⟨n,hn⟩).1 (b4 _ (j1 j _ hp));omega
  have u3:pr=base:=by
   cases st.fls with
   |off _ h2=>exact h2
   |wait R h2 _ _ _=>exact absurd (b4 _ (o3 _ _ R)) h2
   |LU R _ h3 _ _ _ _ _ _ _=>
    obtain⟨p,r,h4,_,_⟩:=c3 _ _ R;have:=h3 p _ h4;have:=(bC.1 h4).1;omega
   |done _ _ _ h4=>exact h4
  have hh:=st.heap;rw[hj,p0,u3]at hh;refine hQ e a w st.env ⟨by rw[st.Cs.size,j7.n],by rw[j7.n];exact hn,fun t=>?_,by rw[j7.m];exact st.Cs.defers⟩ hh st.below;exact st.Cs.look b3 j7 fun k o ho _=>⟨fun _=>by have:=(aU.1 ho).1;simpa using this,fun _=>b4 k (aU.1 ho).1⟩
 intro Bf
 induction Bf with
 |zero=>
  intro listed pr a w e j I st;have b4:∀k,k<all.size->On listed k:=fun k hk=>bU fun hn=>by
   have:=Aj.Cn st.sz hk hn;omega
  exact⟨Uz b4,done listed pr a w e j st b4⟩
 |succ Bf ih=>
  intro listed pr a w e j I st;refine⟨fun h0=>done listed pr a w e j st fun k hk=>bU fun hn=>?_,fun i hi=>?_⟩
  ·obtain⟨q,U⟩:=Aj.Hj st.sz c2 hk hn;rw[h0]at U;cases U
  ·obtain⟨h0,o,b1,n0⟩:=gK.1 hi;have n1:i<all.size:=(aU.1 b1).1;have b5:¬On listed i:=fun h=>by unfold On at h;rw[getD_both h0]at h;cases h
   have b6:∀q,FJ all q i=true->On listed q:=fun q U=>by
    obtain⟨o',l2,ed,he,hb,h3⟩:=Aj.Gl U;rw[b1]at l2;cases l2;have b2:=n0 ed he hb;rcases h3 with h3|h3
    ·rw[<-h3];exact b2
    ·exact st.closed ed.on b2 q h3
   have a1:recs[i]?=some recs[i]:=by simp[b3,n1]
   generalize hr:recs[i]=r at a1;have b7:=l0 i o r (by simpa using b1) a1;rw[bO]at b7;have hF:=u1 i r a1;rw[bO]at hF;have look:∀t∈o.looksAt all,DR e (r.F.get t) (a.tmps[t]?.getD undef):=fun t ht=>st.Cs.look b3 hF fun k ok hk u6=>by
    by_cases p3:k=i
    ·subst p3;exact⟨fun h=>absurd h b5,fun h=>absurd h (eM _)⟩
    ·rcases c2.look i o k ok t b1 hk p3 u6 ht with h|h
     ·exact⟨fun _=>Aj.CQ c2 _ _ h,fun _=>b6 k h⟩
     ·exact⟨fun b2=>absurd (st.closed k b2 i h) b5,fun a7=>by have:=Aj.CQ c2 _ _ h;omega⟩
   have p4:∀y∈o.op.operands,DR e (E9 r.F y) (a.eval y):=fun y hy=>by
    cases y with
    |tmp t=>
     show DR e (r.F.get t) (a.tmps.getD t undef);rw[eP];exact look t (iA _ (List.mem_filterMap.2 ⟨.tmp t,by simpa using hy,rfl⟩))
    |const v=>exact .v v
    |global g=>exact .v _
    |func f=>exact .fn .nil .nil
   have j3:Region.wanted o (Dz all r.F)=Region.wanted o (yielded all a.tmps):=OM fun t g b hg ht=>look t (gV _ (by rw[hg];simp only;rw[ht];simp))
   have a6:Aj.left all (listed.setIfInBounds i true)<=Bf:=by have:=Aj.Cn st.sz n1 b5;omega
   have j1:i<listed.size:=by rw[st.sz];exact n1
   have c4:=On.set (listed:=listed) (i:=i) j1;have e3:=Td j1 st.closed b6;have still:(∀n,fl≠some (i,n))->(∀(p:Nat) (h:AH),E[p]?≠some (i,h))->∀(e':Env) (w':World) (y:Value),Fp e e'->DR e' r.x y->AO pr e' (Ji H0 E j) w'->B8 pr.S w w'->wpAnyIn (fz ro) 0 P .any all Q Bf (listed.setIfInBounds i true) (a.put o.dst y) w':=by
    intro j4 u7 e' w' y g1 g2 g3 g4;refine ih _ pr _ _ e' j a6 ⟨by simp[st.sz],e3,fun p q h hp U=>?_,st.le,g3,st.fls.step j1 j4 g1 g4,st.env.trans g1,st.below.trans (g4.mono st.fls.sub),st.Cs.put c2 g1 b1 a1 c4 b5 g2⟩;rw[c4 q,st.pos p q h hp U];refine⟨fun R=>R.elim id fun R=>?_,.inl⟩;subst R;exact absurd hp (u7 p h)
   have l3:isE r.k=false->∀(p:Nat) (h:AH),E[p]?≠some (i,h):=fun hk p h hp=>by
    obtain⟨k,r',R,h2,h3,_⟩:=l1 p i h hp;rw[bO]at R;subst R;rw[a1]at h2;cases h2;rw[hk]at h3;cases h3
   have j5:Jf fl i=none->∀n,fl≠some (i,n):=fun h n I=>by
    rw[I,Fx]at h;cases h
   unfold wpOpIn;simp only[b1];unfold Po at b7;split at b7
   ·
    rename_i hk;obtain⟨n,u9,o5⟩:=b7;have e7:=UQ u9;obtain⟨t,l,R,h2,h3,h4,h5,h6⟩:=Wi o5;have hw:Region.wanted o (yielded all a.tmps)=true:=by unfold Region.wanted;rw[h2]
    rw[if_pos hw];obtain⟨cs,p6,p7⟩:=Ue hT h4;have hex:execOp a.eval o=(do pure (.value (<-Instr.alloc t true (.tuple #[])))):=by unfold execOp;rw[R]
    refine⟨fun _ _=>trivial,?_⟩;rw[Oper.semAt_eq _ _ _ (by rw[R];nofun),hex,p7 w];show wpAnyIn (fz ro) 0 P .any all Q Bf (listed.setIfInBounds i true) (a.put o.dst _) _;cases st.fls with
    |off J _=>rw[J]at e7;cases e7
    |LU J k2 _ _ _ _ _ _ _ _=>rw[J]at e7;cases e7;exact absurd k2 b5
    |done J k2 _ _=>rw[J]at e7;cases e7;exact absurd k2 b5
    |wait J k2 k3 k4 k5=>
     rw[J]at e7;cases e7;subst k5;have p8:¬base.S w.heap.size:=fun hs=>eM _ (st.heap.size _ hs)
     have hle:=V8 st.heap (w.heap.size,0,l.length);have p9:=Zax st.heap k4 (.cells cs t) l.length;have o6:Env.new e n (w.heap.size,0,l.length) n=some (w.heap.size,0,l.length):=by unfold Env.new;rw[if_pos rfl]
     have l4:(w.alloc (.cells cs t)).heap[w.heap.size]?=some (.cells cs t (0,0)):=fZ w _;have l5:B8 base.S w (w.alloc (.cells cs t)):=⟨rfl,rfl,rfl,by rw[aW];omega,fun k hk=>fL w _ k (st.heap.size k hk)⟩;have q0:DR (Env.new e n (w.heap.size,0,l.length)) r.x (.pointer (some ⟨w.heap.size,0,none⟩)):=by rw[h5];exact .ptr (off:=0) (o:=0) o6
     obtain⟨p,r',hp,q7,_⟩:=c3 _ _ J;rw[a1]at q7;cases q7;have l6:∀j',(∀p' q h,E[p']?=some (q,h)->(∀n,fl≠some (q,n))->(p'<j↔p'<j'))->∀p' q h,E[p']?=some (q,h)->(∀n,fl≠some (q,n))->(On (listed.setIfInBounds i true) q↔p'<j'):=fun j' hj p' q h c5 U=>by
      rw[c4 q,st.pos p' q h c5 U,<-hj p' q h c5 U];exact⟨fun R=>R.elim id fun R=>absurd (R▸J) (U n),.inl⟩
     rcases bH j p with o8|o8
     ·refine ih _ (base.ZaS w.heap.size) _ _ (Env.new e n (w.heap.size,0,l.length)) j a6 ⟨by simp[st.sz],e3,l6 j (fun _ _ _ _ _=>Iff.rfl),st.le,p9,.LU J ((c4 i).2 (.inr rfl)) (fun p' h c5=>by rw[c9 p' p i h _ c5 hp];exact o8) p8 rfl (fun o' l2=>by rw[b1]at l2;cases l2;exact R) h4 p6 o6 l4,st.env.trans hle,st.below.trans l5,st.Cs.put c2 hle b1 a1 c4 b5 q0⟩
     ·have q8:j=p:=Nat.le_antisymm (k3 p _ hp) o8;subst q8;obtain⟨k,r',e1,e2,_,e4,e5,e6⟩:=l1 j i _ hp;rw[bO]at e1;subst e1;rw[a1]at e2;cases e2;have b8:=Wo p9 o6 (get_none fun x=>XH st.heap) p8 (Rh p6 l4);rw[<-e5,<-h6,e6]at b8;have a7:j<E.length:=(bC.1 hp).1;refine ih _ base _ _ (Env.new e n (w.heap.size,0,l.length)) (j+1) a6 ⟨by simp[st.sz],e3,l6 (j+1) (fun p' q h c5 U=>⟨fun h=>by omega,fun h=>?_⟩),a7,b8,.done J ((c4 i).2 (.inr rfl)) (fun p' h c5=>by rw[c9 p' j i h _ c5 hp];omega) rfl,st.env.trans hle,st.below.trans l5,st.Cs.put c2 hle b1 a1 c4 b5 q0⟩;rcases bH p' j with h7|h7
      ·exact h7
      ·have:p'=j:=by omega
       subst this;rw[hp]at c5;cases c5;exact absurd J (U n)
   ·rename_i hk;obtain⟨j4,hw,hx⟩:=b7;rw[j3]at hw;rw[if_neg (by rw[hw];exact dT)];exact⟨fun _ _=>trivial,still (j5 j4) (l3 (by rw[hk];rfl)) e w _ (Fp.refl e) (by rw[hx];exact .v _) st.heap (B8.refl _ _)⟩
   ·rename_i hk;obtain⟨j4,hw,U⟩:=b7;rw[j3]at hw;rw[if_pos hw];have r1:=LH all.toList recs 0 u2 i o r (by simpa using b1) a1 hk;rw[bO]at r1;have hA:∀q y,j<=q->E[q]?=some y->Aj.bit (Aj.BH all.toList []) y.1 i=false:=fun q y r2 hy=>by
     cases hb:Aj.bit (Aj.BH all.toList []) y.1 i with
     |false=>rfl
     |true=>
      by_cases I:∃n,fl=some (y.1,n)
      ·obtain⟨n,I⟩:=I;cases st.fls with
       |off J _=>rw[J]at I;cases I
       |wait J k2 _ _ _=>rw[J]at I;cases I;exact absurd (b6 _ hb) k2
       |done J _ k3 _=>rw[J]at I;cases I;have:=k3 q _ hy;omega
       |LU J _ k3 _ _ _ _ _ _ _=>
        rw[J]at I;cases I;have r3:=k3 q _ hy;have y7:q<E.length:=(bC.1 hy).1;have c6:E[j]?=some E[j]:=by simp[show j<E.length by omega]
        have o0:=j8 j q _ _ r3 c6 hy;rw[J]at c0;dsimp only at c0;unfold Yr at c0;rw[aG]at c0;have h8:=aY.1 c0.2 i (cQ.2 n1);rw[hb,fA,cZ]at h8;have h9:=aY.1 h8 E[j] (bR c6);rw[bV]at h9;rcases h9 with h9|h9
        ·have:=bQ h9;omega
        ·have b2:=b6 _ h9;have:=(st.pos j E[j].1 E[j].2 c6 fun n' l7=>by rw[J]at l7;have:=(Prod.mk.inj (Option.some.inj l7)).1;omega).1 b2;omega
      ·exact absurd ((st.pos q y.1 y.2 hy fun n hn=>I ⟨n,hn⟩).1 (b6 y.1 hb)) (by omega)
    have hB:∀q y,q<j->E[q]?=some y->Aj.bit (Aj.BH all.toList []) i y.1=false:=fun q y r2 hy=>by
     cases hb:Aj.bit (Aj.BH all.toList []) i y.1 with
     |false=>rfl
     |true=>
      have b2:On listed y.1:=by
       by_cases I:∃n,fl=some (y.1,n)
       ·obtain⟨n,I⟩:=I;cases st.fls with
        |off J _=>rw[J]at I;cases I
        |wait J _ k3 _ _=>rw[J]at I;cases I;have:=k3 q _ hy;omega
        |done J k2 _ _=>rw[J]at I;cases I;exact k2
        |LU J k2 _ _ _ _ _ _ _ _=>rw[J]at I;cases I;exact k2
       ·exact(st.pos q y.1 y.2 hy fun n hn=>I ⟨n,hn⟩).2 r2
      exact absurd (st.closed y.1 b2 i hb) b5
    obtain⟨H2,h2⟩:=LK E H0 r1 j st.le hA hB;have hH:H2=Ji H0 E j:=Np U h2;subst hH;exact VL (Me h2) (Rq hT st.heap p4 h2 st.heap.next) fun e' w' y g1 g2 g3 g4=>still (j5 j4) (l3 (by rw[hk];rfl)) e' w' y g1 g2 g3 g4
   ·rename_i hk;obtain⟨j4,hw,w3⟩:=b7;have j9:=j5 j4;rw[j3]at hw;rw[if_pos hw];obtain⟨p,hp⟩:=p1 i r a1 (by rw[hk];rfl);rw[bO]at hp;have w4:p=j:=by
     have R:¬p<j:=fun h=>b5 ((st.pos p i _ hp j9).2 h)
     refine Nat.le_antisymm (jF fun a7=>?_) (jF R);have z6:p<E.length:=(bC.1 hp).1;have c6:E[j]?=some E[j]:=by simp[show j<E.length by omega]
     by_cases I:∃n,fl=some (E[j].1,n)
     ·obtain⟨n,I⟩:=I;have o0:=j8 j p _ _ a7 c6 hp;have r5:Aj.bit (Aj.BH all.toList []) E[j].1 i=true:=by
       rw[I]at c0;dsimp only at c0;unfold Yr at c0;rw[aG]at c0;have h9:=aY.1 c0.1 (i,r.H') (bR hp);rw[bV]at h9;rcases h9 with h9|h9
       ·have:=bQ h9;dsimp only at o0 this;omega
       ·exact h9
      have b2:=b6 _ r5;cases st.fls with
      |off J _=>rw[J]at I;cases I
      |wait J k2 _ _ _=>rw[J]at I;cases I;exact k2 b2
      |done J _ k3 _=>rw[J]at I;cases I;have:=k3 j _ c6;omega
      |LU J _ k3 _ _ _ _ _ _ _=>rw[J]at I;cases I;have:=k3 j _ c6;omega
     ·have b2:=PT c8 (On:=On listed) (fun a b hb hB=>st.closed b hB a hb) hp (Vh j9) (fun a ha=>b6 a ha) a7 c6 (Vh fun n hn=>I ⟨n,hn⟩);have:=(st.pos j E[j].1 E[j].2 c6 fun n hn=>I ⟨n,hn⟩).1 b2;omega
    subst w4;obtain⟨k,r',R,h2,_,h4,h5,h6⟩:=l1 p i _ hp;rw[bO]at R;subst R;rw[a1]at h2;cases h2;have l8:=st.heap;rw[<-h5]at l8;refine Qx hT (o2 pr) l8 p4 w3 fun e' w' y g1 g2 g3 g4=>?_
    have a7:p<E.length:=(bC.1 hp).1;have r6:=st.fls.step j1 j9 g1 g4;have a8:=st.Cs.put c2 g1 b1 a1 c4 b5 g2;have e9:=st.below.trans (g4.mono st.fls.sub);rw[h6]at g3;have i1:∀j',(∀q q' h,E[q]?=some (q',h)->(∀n,fl≠some (q',n))->(q<=p↔q<j'))->∀q q' h,E[q]?=some (q',h)->(∀n,fl≠some (q',n))->(On (listed.setIfInBounds i true) q'↔q<j'):=fun j' hj q q' h U i6=>by
     rw[c4 q',st.pos q q' h U i6,<-hj q q' h U i6];constructor
     ·rintro(R|rfl)
      ·omega
      ·rw[c9 q p _ _ _ U hp];exact aL _
     ·intro R;rcases bH q p with h2|h2
      ·exact .inl h2
      ·have:q=p:=by omega
       subst this;rw[hp]at U;cases U;exact .inr rfl
    cases r6 with
    |off J k2=>
     exact ih _ pr _ _ e' (p+1) a6 ⟨by simp[st.sz],e3,i1 (p+1) (fun q q' h U i6=>by omega),a7,g3,.off J k2,st.env.trans g1,e9,a8⟩
    |wait J k2 k3 k4 k5=>
     refine ih _ pr _ _ e' (p+1) a6 ⟨by simp[st.sz],e3,i1 (p+1) (fun q q' h U i6=>by omega),a7,g3,.wait J k2 (fun q h U=>?_) k4 k5,st.env.trans g1,e9,a8⟩;have:=k3 q h U;rcases bH p q with h9|h9
     ·exact h9
     ·have:q=p:=by omega
      subst this;rw[hp]at U;cases U;exact absurd J (j9 _)
    |done J k2 k3 k4=>
     exact ih _ pr _ _ e' (p+1) a6 ⟨by simp[st.sz],e3,i1 (p+1) (fun q q' h U i6=>by omega),a7,g3,.done J k2 (fun q h U=>by have:=k3 q h U;omega) k4,st.env.trans g1,e9,a8⟩
    |LU J k2 k3 k4 k5 k6 k7 k8 k9 r7=>
     rename_i f n g t l cs;obtain⟨pf,rf,k0,r8,w5⟩:=c3 _ _ J;rcases bH (p+1) pf with h9|h9
     ·exact ih _ pr _ _ e' (p+1) a6 ⟨by simp[st.sz],e3,i1 (p+1) (fun q q' h U i6=>by omega),a7,g3,.LU J k2 (fun q h U=>by rw[c9 q pf _ _ _ U k0];exact h9) k4 k5 k6 k7 k8 k9 r7,st.env.trans g1,e9,a8⟩
     ·have r9:pf=p+1:=by have:=k3 pf _ k0;omega
      subst r9;obtain⟨kf,r',e1,e2,_,e4,e5,e6⟩:=l1 (p+1) f _ k0;rw[bO]at e1;subst e1;rw[r8]at e2;cases e2;have o1:f<all.size:=o3 f n J;have n3:=l0 f all[f] rf (by simp[o1]) r8;rw[bO]at n3;unfold Po at n3;rw[w5]at n3;obtain⟨n',l7,w6⟩:=n3;rw[J,Fx]at l7;cases l7;obtain⟨t',l',q1,q2,q3,q4,q5,q6⟩:=Wi w6;have w7:t'=t:=by
       have:=k6 all[f] (by simp[o1]);rw[q1]at this;cases this;rfl
      subst w7;rw[k7]at q4;cases q4;subst k5;rw[e5]at q3;have b8:=Wo g3 k9 q3 k4 (Rh k8 r7);rw[<-e5,<-q6,e6]at b8;have s0:p+1<E.length:=(bC.1 k0).1;refine ih _ base _ _ e' (p+1+1) a6 ⟨by simp[st.sz],e3,i1 (p+1+1) (fun q q' h U i6=>⟨fun h=>by omega,fun h=>?_⟩),s0,b8,.done J k2 (fun q h U=>by rw[c9 q (p+1) _ _ _ U k0];omega) rfl,st.env.trans g1,e9,a8⟩;rcases bH p q with h8|h8
      ·have:q=p+1:=by omega
       subst this;rw[k0]at U;cases U;exact absurd J (i6 _)
      ·exact h8
theorem On.none (n k:Nat):¬On (Array.replicate n false) k:=fun h=>by unfold On at h;rw[cL]at h;cases h
theorem R0 {j:List Nat}:∀(l:List Oper) (es:List Nat) (i f:Nat),VR j l es i=some f->f<i+l.length
 | [],_,_,_,h=>by cases h
 |o::l,es,i,f,h=>by
  unfold VR at h;split at h
  all_goals
   generalize ((_:Bool)&&_&&_)=c at h;cases c with
   |true=>cases h;simp
   |false=>
    have:=R0 l _ _ _ h;rw[bP];omega
theorem ZM (hT:B3 P T) {ro:Option Nat} {call:FuncId->List AV->AH->Option (AV×AH)} (I:∀base,Hv P base call) {all:Array Oper} {id:Nat} {Q:Exit->Act->World->Prop}
  (h:Qz P T call all F H=some (F',H')) (hF:FR e F a) (hr:AO base e H w) (hQ:Ks base e w .normal F' H' Q):(Code.region id all true).wpIn (fz ro) 0 P Q a w:=by
 unfold Qz O1 at h;split at h
 ·rename_i recs F1 H1 R;generalize j:VU (Aj.BH all.toList []) all H=fl at h R;have U:(Aj.ok all all.size&&Kf P T (Aj.BH all.toList []) fl all recs (WJ fl H))=true/\F'=F1/\H'=H1:=by
   generalize (Aj.ok all all.size&&Kf P T (Aj.BH all.toList []) fl all recs (WJ fl H))=c at h;cases c with
   |false=>cases h
   |true=>cases h;exact⟨rfl,rfl,rfl⟩
  obtain⟨hc,rfl,rfl⟩:=U;rw[aG]at hc;have a1:∀f n,fl=some (f,n)->f<all.size/\n=H.next/\H.next+1<=2^depth:=fun f n hf=>by
   rw[hf]at j;unfold VU at j;split at j
   ·rename_i f' hg;generalize hb:(H.next+1).ble 16384=c at j;cases c with
    |false=>cases j
    |true=>
     cases j;have:=R0 _ _ _ _ hg;rw[bO,bS]at this;exact⟨this,rfl,bQ hb⟩
   ·cases j
  refine wpIn_region_any hT.mx ?_;have key:∃pr,AO pr e (WJ fl H) w.drew/\FlS T all fl (BO recs 0) base pr (Array.replicate all.size false) e w.drew 0:=by
   cases fl with
   |none=>exact⟨base,hr.drew,.off rfl rfl⟩
   |some p=>
    obtain⟨f,n⟩:=p;obtain⟨h1,rfl,h3⟩:=a1 f n rfl;exact⟨base.hold H.next,ZaA hr.drew h3,.wait rfl (On.none _ _) (fun _ _ _=>eN _) (fun hR=>eM _ (hr.KN _ hR).1) rfl⟩
  obtain⟨pr,b2,a6⟩:=key;refine Xy hT I hF.le (fun f n hf=>(a1 f n hf).1) R (Ok.of hc.1) hc.2 (hQ.trans (Fp.refl e) ((B8.refl _ _).drew)) _ _ pr a w.drew e 0 ?_ ⟨by simp,fun k J=>absurd J (On.none _ _),fun p i h hp _=>⟨fun J=>absurd J (On.none _ _),fun J=>absurd J (Nat.not_lt_zero _)⟩,eN _,?_,a6,Fp.refl e,B8.refl _ _,⟨hF.defers,hF.size,fun t k o r J=>absurd J (On.none _ _),fun t _=>hF.get t⟩⟩
  ·unfold Aj.left;exact aV gY (by simp)
  ·have:Ji (WJ fl H) (BO recs 0) 0=WJ fl H:=by cases BO recs 0<;>rfl
   rw[this];exact b2
 ·cases h
end
end Ev
end
end Go.Proofs.YthbihnpoghlfaaaGreatDoor
