import Derived.Test.YthbihnpoghlfaaaGreatDoorZr11
import Derived.Test.YthbihnpoghlfaaaGreatDoorZr13
set_option linter.unusedVariables false
set_option linter.unusedSimpArgs false
set_option maxHeartbeats 8000000
set_option maxRecDepth 100000
namespace Go.Proofs.YthbihnpoghlfaaaGreatDoor
section
namespace Q
theorem JD {α β:Type} {l:List α} {f g:α->List β} (h:∀a∈l,f a=g a):l.flatMap f=l.flatMap g:=by
 induction l with
 |nil=>rfl
 |cons a l ih=>rw[eE,eE,h a (aR ..),ih fun b j=>h b (bA _ j)]
def Xv (ch:Nat->List Nat):Nat->Nat->List Nat
 | 0,_=>[]
 |f+1,i=>i::(ch i).flatMap (Xv ch f)
structure Ch (st:BQ) (ch:Nat->List Nat):Prop where
 kid:∀i,i<st.length->∀k∈ch i,k<st.length/\Tr.up st k=(i:Int)
 inc:∀i,i<st.length->(ch i).Pairwise (·<·)
theorem Wc (c:Af):∀f i,Z8 c f i=Xv (lead c) f i
 | 0,i=>rfl
 |f+1,i=>by
  unfold Z8 Xv;rw[show Z8 c f=Xv (lead c) f from funext (Wc c f)]
section
variable {st:BQ} {ch:Nat->List Nat}
theorem Ch.gt (h:Ch st ch) {i k:Nat} (hi:i<st.length) (p:k∈ch i):i<k/\k<Tr.fin st i/\k<st.length:=by
 obtain⟨j,o⟩:=h.kid i hi k p;have I:=((Tr.DW st k i).1 o).1;have:=(Tr.Dk st (i:=i) j).2 ⟨i,o,.inl rfl⟩;exact⟨I,this.2,j⟩
theorem Gq (h:Ch st ch):∀f i,i<st.length->∀j∈Xv ch f i,i<=j/\j<Tr.fin st i
 | 0,i,_,j,o=>by cases o
 |f+1,i,hi,j,o=>by
  unfold Xv at o;rcases bJ.1 o with rfl|o
  ·exact⟨aL _,Tr.G8 st j⟩
  ·obtain⟨k,I,o⟩:=eC.1 o;obtain⟨J,R,p⟩:=h.gt hi I;obtain⟨U,h5⟩:=Gq h f k p j o;have:=Tr.RJ st J R p;omega
theorem ZaD {i k l:Nat} (I:Tr.up st k=(i:Int)) (R:Tr.up st l=(i:Int)) (j:l<st.length) (h:k<l):Tr.fin st k<=l:=by
 rcases bH l (Tr.fin st k)with o|o
 ·obtain⟨p,U,h3⟩:=(Tr.Dk st (i:=k) j).1 ⟨h,o⟩;have J:p=i:=by omega
  subst J;have:=((Tr.DW st k p).1 I).1;omega
 ·exact o
theorem Oz (h:Ch st ch):∀f i,i<st.length->(Xv ch f i).Pairwise (·<·)
 | 0,i,_=>.nil
 |f+1,i,hi=>by
  unfold Xv;rw[List.pairwise_cons];refine⟨fun j p=>?_,?_⟩
  ·obtain⟨k,o,p⟩:=eC.1 p;obtain⟨R,U,h3⟩:=h.gt hi o;have:=(Gq h f k h3 j p).1;omega
  ·rw[List.pairwise_flatMap];refine⟨fun k o=>Oz h f k (h.gt hi o).2.2,?_⟩;refine(List.Pairwise.and_mem.1 (h.inc i hi)).imp fun {k l} ⟨o,I,J⟩ x hx y hy=>?_
   have R:=(Gq h f k (h.gt hi o).2.2 x hx).2;have U:=(Gq h f l (h.gt hi I).2.2 y hy).1;have:=ZaD (h.kid i hi k o).2 (h.kid i hi l I).2 (h.kid i hi l I).1 J;omega
theorem Wg (h:Ch st ch):∀f g i,i<st.length->st.length-i<=f->st.length-i<=g->Xv ch f i=Xv ch g i
 | 0,g,i,hi,j,_=>by omega
 |f+1,0,i,hi,_,o=>by omega
 |f+1,g+1,i,hi,j,o=>by
  unfold Xv;congr 1;refine JD fun k p=>?_
  obtain⟨J,R,I⟩:=h.gt hi p;exact Wg h f g k I (by omega) (by omega)
def dn (st:BQ) (ch:Nat->List Nat) (i:Nat):List Nat:=Xv ch (st.length-i) i
theorem QF (h:Ch st ch) {i:Nat} (hi:i<st.length):dn st ch i=i::(ch i).flatMap (dn st ch):=by
 unfold dn;rw[show st.length-i=(st.length-i-1)+1 by omega,Xv];congr 1;refine JD fun k j=>?_
 obtain⟨p,I,o⟩:=h.gt hi j;exact Wg h _ _ k o (by omega) (by omega)
theorem Uy (h:Ch st ch) {i:Nat} (hi:i<st.length) {j:Nat} (hj:j<st.length):j∈dn st ch i↔i=j\/∃p:Nat,Tr.up st j=(p:Int)/\p<st.length/\p∈dn st ch i/\j∈ch p:=by
 obtain⟨n,hn⟩:∃n,st.length-i=n:=⟨_,rfl⟩
 induction n using Nat.strongRecOn generalizing i with
 |ind n ih=>
  rw[QF h hi,bJ,eC];constructor
  ·rintro(rfl|⟨k,o,R⟩)
   ·exact .inl rfl
   ·obtain⟨h1,h2,U⟩:=h.gt hi o;rcases(ih (st.length-k) (by omega) U rfl).1 R with rfl|⟨p,h4,h5,I,J⟩
    ·exact .inr ⟨i,(h.kid i hi k o).2,hi,aR ..,o⟩
    ·exact .inr ⟨p,h4,h5,bA _ (eC.2 ⟨k,o,I⟩),J⟩
  ·rintro(rfl|⟨p,h4,h5,I,J⟩)
   ·exact .inl rfl
   ·rcases bJ.1 I with rfl|I
    ·refine .inr ⟨j,J,?_⟩;rw[QF h hj];exact aR ..
    ·obtain⟨k,o,a7⟩:=eC.1 I;obtain⟨h1,h2,U⟩:=h.gt hi o;exact .inr ⟨k,o,(ih (st.length-k) (by omega) U rfl).2 (.inr ⟨p,h4,h5,a7,J⟩)⟩
end
theorem EQ {l:List Nat} {n:Nat} (h:l.Pairwise (·<·)) (p:∀j∈l,j<n):l=(List.range n).filter fun j=>l.contains j:=by
 refine List.Perm.eq_of_pairwise (le:=(·<·)) (fun a b _ _ I J=>absurd I (by omega)) h (iD _ gQ) ?_;refine(List.perm_ext_iff_of_nodup (h.imp fun h=>by omega) ((List.nodup_range).filter _)).2 fun j=>?_
 simp only[fO,cQ,cS];exact⟨fun o=>⟨p j o,o⟩,fun o=>o.2⟩
end Q
end
section
namespace Q
structure Zcw where
 state:Nat
 set:List Nat
structure ZdA where
 Ag:List Nat
 Fa:List Zcw
 Ac:List BS
 queue:List ByteArray
 steps:Int
 Bf:Int
 status:Int
 lost:Int
def Co (l:List Nat):List Int:=l.map fun(k:Nat)=>(k:Int)
def ZbP (st:BQ) (ts:List Int) (k:Nat):Bool:=ts.any fun t=>decide ((k:Int)<=t)&&decide (t<(Tr.fin st k:Int))
def chT (c:Af) (ts:List Int) (i:Nat):List Nat:=
 if Tr.kd c.Ar i=2 then(match (Tr.kids c.Ar i).find? (ZbP c.Ar ts)with
  |some k=>[k]
  |none=>(match place c (G4 c i)with|some k=>[k]|none=>[]))
 else if Tr.kd c.Ar i=3 then Tr.kids c.Ar i
 else []
def dnT (c:Af) (ts:List Int) (i:Nat):List Nat:=(dn c.Ar (chT c ts) i).tail
def O9 (c:Af) (i:Nat):Bool:=decide (Tr.kd c.Ar i=1)||decide (Tr.kd c.Ar i=4)
def N2 (c:Af) (l:List Nat):List Nat:=l.filter (O9 c)
def within (st:BQ) (i j:Nat):Bool:=decide (i<j)&&decide (j<Tr.fin st i)
def UG (c:Af) (t:Trans):Nat:=match place c t.to with
 |some k=>(Tr.domain c.Ar t.FH.toNat k).toNat
 |none=>0
def Vo (c:Af) (Ag:List Nat) (t:Trans):List Nat:=if t.to.size=0 then []else Ag.filter (within c.Ar (UG c t))
def XV (c:Af) (l:List Nat):List ByteArray:=l.map (Qk c)
def Zdn (c:Af) (Ag:List Nat) (Ac:List BS) (BM:ByteArray) (t:Trans):Bool:=
 decide (t.BM=BM)&&(0<=t.FH&&Ag.contains t.FH.toNat)&&(decide (t.guard.length=0)||(match C4 c.vars Ac (XV c Ag) t.guard with
  |.ok v=>decide (v.kind=2/\v.a=1/\v.b=0)
  |.err _=>false))
def I2 (c:Af) (t:Nat):Trans:=c.trans[t]?.getD ⟨0,⟨#[]⟩,[],⟨#[]⟩,[]⟩
def Zdm (c:Af) (Ag:List Nat) (Ac:List BS) (BM:ByteArray):List Nat:=(List.range c.trans.length).filter fun t=>Zdn c Ag Ac BM (I2 c t)
def X9 (c:Af) (may:List Nat):Nat->Int->Option Nat
 | 0,_=>none
 |f+1,i=>if i<0 then none else match may.find? fun t=>decide ((I2 c t).FH=i)with
  |some t=>some t
  |none=>X9 c may f (Tr.up c.Ar i.toNat)
def first(c:Af) (may:List Nat) (leaf:Nat):Option Nat:=X9 c may (leaf+2) leaf
def ZbI (c:Af) (may:List Nat):List Nat->List Nat->List Nat
 | [],out=>out
 |l::j,out=>ZbI c may j (match first c may l with
  |some t=>if out.contains t=true then out else out++[t]
  |none=>out)
def wanted (c:Af) (Ag may:List Nat):List Nat:=ZbI c may (N2 c Ag) []
def Zdp (a b:List Nat):Bool:=a.any b.contains
def ZH (c:Af) (Ag:List Nat) (t k:Nat):Bool:=Zdp (Vo c Ag (I2 c t)) (Vo c Ag (I2 c k))
def inner (c:Af) (k t:Nat):Bool:=within c.Ar (I2 c k).FH.toNat (I2 c t).FH.toNat
def hold (c:Af) (Ag kept:List Nat) (t:Nat):List Nat:=
 if kept.any (fun k=>ZH c Ag t k&&!inner c k t)=true then kept else kept.filter (fun k=>!ZH c Ag t k)++[t]
def ofL (c:Af) (Ag:List Nat) (Ac:List BS) (BM:ByteArray):List Nat:=
 let kept:=(wanted c Ag (Zdm c Ag Ac BM)).foldl (hold c Ag) []
 (List.range c.trans.length).filter kept.contains
def Wk.Ey (c:Af) (d:Wk) (ts:List Nat):Wk:=ts.foldl (fun d t=>Wk.block c d (I2 c t).Ey) d
end Q
namespace Q
theorem EU {n:Nat} {Ag:List Nat} {i j:Nat}:j∈Ce n Ag i↔j<n/\(j=i\/j∈Ag):=by
 unfold Ce;simp
theorem Il (n:Nat) (Ag:List Nat) (i:Nat):(Ce n Ag i).Pairwise (·<·):=iD _ gQ
theorem Zbd {n:Nat} {Ag:List Nat} {i j:Nat} (h:j∈Ce n Ag i):j<n:=(EU.1 h).1
theorem Dj (a:List Nat):(Co a).length=a.length:=bG _
theorem Tg {a b:List Nat} (h:a.Perm b):(Co a).Perm (Co b):=h.map _
theorem Px {l m:List Nat} (hp:l.Perm m) (hm:m.Pairwise (·<·)):(Co l).mergeSort (fun x y=>decide (x<=y))=Co m:=by
 refine List.Perm.eq_of_pairwise (le:=fun(a b:Int)=>a<=b) (fun a b _ _ j o=>Int.le_antisymm j o) ?_ ?_ ?_
 ·have:=List.pairwise_mergeSort (le:=fun(x y:Int)=>decide (x<=y)) (fun a b c=>by simp only[aP];omega) (fun a b=>by simp only[bV,aP];omega) (Co l);exact this.imp fun h=>cV h
 ·unfold Co;rw[List.pairwise_map];exact hm.imp fun h=>by omega
 ·exact(List.mergeSort_perm _ _).trans (Tg hp)
theorem WU {n:Nat} {Ag:List Nat} {i:Nat} (p:Ag.Pairwise (·<·)) (I:∀j∈Ag,j<n) (hi:i<n) (o:i∉Ag):(Ag++[i]).Perm (Ce n Ag i):=by
 refine(List.perm_ext_iff_of_nodup ?_ ((Il n Ag i).imp fun h=>by omega)).2 fun j=>?_
 ·rw[List.nodup_append];refine⟨p.imp fun h=>by omega,by simp,fun a ha b J e=>?_⟩;rw[dH.1 J]at e;exact o (e▸ha)
 ·rw[fG,dH,EU];constructor
  ·rintro(h|rfl)
   ·exact⟨I j h,.inr h⟩
   ·exact⟨hi,.inl rfl⟩
  ·rintro⟨_,rfl|h⟩
   ·exact .inr rfl
   ·exact .inl h
def Dd (st:BQ) (l:List Nat):Prop:=∀j∈l,j<st.length/\(Tr.up st j=-1\/∃p∈l,Tr.up st j=(p:Int))
theorem K3 {st:BQ} {l:List Nat} (h:Dd st l) {i k:Nat} (j:k∈l) (hu:Tr.up st k=(i:Int)):i∈l:=by
 rcases(h k j).2 with o|⟨p,hp,o⟩
 ·omega
 ·obtain rfl:i=p:=by omega
  exact hp
theorem O5 {st:BQ} (j:Tr.right st) {i:Nat} (hi:i<st.length) (o:Tr.kd st i=3):Tr.kids st i≠[]:=fun e=>by
 have:=(j.2 i hi).2;rw[if_pos (.inr o),e]at this;exact this rfl
theorem VM {st:BQ} (I:Tr.right st) {Ag:List Nat} (h:Dd st Ag):∀f i,i<st.length->He st Ag f i=true->i∈Ag
 | 0,i,hi,j=>by cases j
 |f+1,i,hi,j=>by
  unfold He at j;split at j
  ·obtain⟨k,o,J⟩:=gF.1 j;rw[aG,cS]at J;exact K3 h J.2 ((Tr.B6 st hi).1 o).2
  ·split at j
   ·rename_i U;have p:=O5 I hi U;obtain⟨k,l,e⟩:=List.exists_cons_of_ne_nil p;have o:k∈Tr.kids st i:=by rw[e];exact aR ..
    have R:=(Tr.B6 st hi).1 o;exact K3 h (VM I h f k R.1 (aY.1 j k o)) R.2
   ·cases j
theorem OH {st:BQ} (Ag:List Nat):∀f g i,i<st.length->st.length-i<=f->st.length-i<=g->He st Ag f i=He st Ag g i
 | 0,g,i,hi,p,_=>by omega
 |f+1,0,i,hi,_,I=>by omega
 |f+1,g+1,i,hi,p,I=>by
  unfold He;split
  ·rfl
  ·split
   ·rw[cH,aY,aY];have e:∀k∈Tr.kids st i,He st Ag f k=He st Ag g k:=fun k j=>by
     have o:=(Tr.B6 st hi).1 j;have:=((Tr.DW st k i).1 o.2).1;exact OH Ag f g k o.1 (by omega) (by omega)
    exact⟨fun h k j=>by rw[<-e k j];exact h k j,fun h k j=>by rw[e k j];exact h k j⟩
   ·rfl
theorem Pv {st:BQ} (Ag:List Nat) {i:Nat} (hi:i<st.length):over st Ag i=(if Tr.kd st i=2 then(Tr.kids st i).any fun k=>decide (Tr.kd st k=4)&&Ag.contains k
  else if Tr.kd st i=3 then(Tr.kids st i).all fun k=>over st Ag k else false):=by
 unfold over;rw[show st.length-i=(st.length-i-1)+1 by omega,He];split
 ·rfl
 ·split
  ·rw[cH,aY,aY];have e:∀k∈Tr.kids st i,He st Ag (st.length-i-1) k=He st Ag (st.length-k) k:=fun k j=>by
    have o:=(Tr.B6 st hi).1 j;have:=((Tr.DW st k i).1 o.2).1;exact OH Ag _ _ k o.1 (by omega) (by omega)
   exact⟨fun h k j=>by rw[<-e k j];exact h k j,fun h k j=>by rw[e k j];exact h k j⟩
  ·rfl
theorem GU {b:Bool} {e:Int} (he:e≠0):CN b e=0↔b=true:=by
 unfold CN;split
 ·rename_i h;simp[h]
 ·rename_i h;exact⟨fun x=>absurd x he,fun x=>absurd x h⟩
theorem D0:∀ {l:List Int},Av l=0↔∀e∈l,e=0
 | []=>by simp[Av]
 |a::l=>by
  unfold Av;split
  ·rename_i h;simp[h,D0 (l:=l)]
  ·rename_i h;simp[h]
structure Valid (c:Af):Prop where
 events:c.events.length<=12
 vars:c.vars.length<=8
 Aa:c.Aa.length<=40
 trans:c.trans.length<=48
 names:∀s∈c.name::(c.events++(c.AN++c.An)),Bv s=true
 Zdw:distinct c.events=true
 Zdr:distinct c.AN=true
 ZbL:distinct c.An=true
 tree:Tr.right c.Ar
 init:∀(i:Nat) (h:i<c.Aa.length),Ew c i c.Aa[i]=0
 var:∀v∈c.vars,Gc v=0
 blocks:∀s∈c.Aa,BB c s=0
 tr:∀(i:Nat) (h:i<c.trans.length),CR c i c.trans[i]=0
theorem RO {c:Af} (h:DL c=0):Valid c:=by
 unfold DL at h;have J:=D0.1 h;simp only[bJ,eS,iG,forall_eq_or_imp,forall_eq]at J;obtain⟨o,p,j,I,R,U,e7,e8⟩:=J;rw[GU (by omega)]at o p j I;simp only[aG,aP]at o j I;rw[aY]at p;obtain⟨⟨⟨a1,a2⟩,a3⟩,a4⟩:=o;rw[D0]at R U e7 e8;refine⟨a1,a2,a3,a4,p,j.1.1,j.1.2,j.2,I,fun i hi=>?_,fun v hv=>?_,fun s hs=>?_,fun i hi=>?_⟩
 ·exact R _ (List.mem_mapIdx.2 ⟨i,hi,rfl⟩)
 ·exact U _ (gH hv)
 ·exact e7 _ (gH hs)
 ·exact e8 _ (List.mem_mapIdx.2 ⟨i,hi,rfl⟩)
theorem AI (c:Af):c.Ar.length=c.Aa.length:=by unfold Af.Ar;rw[bG]
theorem Cb (c:Af) {i:Nat} (h:i<c.Aa.length):Tr.kd c.Ar i=c.Aa[i].kind:=by
 unfold Tr.kd Af.Ar;rw[cN,aQ h];rfl
theorem K2 (c:Af) {i:Nat} (h:i<c.Aa.length):Tr.dp c.Ar i=c.Aa[i].depth:=by
 unfold Tr.dp Af.Ar;rw[cN,aQ h];rfl
theorem LX (c:Af) {i:Nat} (h:i<c.Aa.length):Qk c i=c.Aa[i].name:=by
 unfold Qk;rw[aQ h]
theorem K7 (c:Af) {i:Nat} (h:i<c.Aa.length):G4 c i=c.Aa[i].initial:=by
 unfold G4;rw[aQ h]
theorem JC (c:Af) {i:Nat} (h:i<c.Aa.length):CB c i=c.Aa[i].entry:=by
 unfold CB;rw[aQ h]
theorem JF {c:Af} {s:ByteArray} {k:Nat} (h:place c s=some k):∃p:k<c.Aa.length,c.Aa[k].name=s:=by
 unfold place at h;obtain⟨j,o,_⟩:=cY.1 h;exact⟨j,cV o⟩
theorem Nx {c:Af} (I:distinct c.An=true) {s:ByteArray} {j:Nat} (J:j<c.Aa.length) (p:c.Aa[j].name=s):place c s=some j:=by
 unfold place;rw[cY];refine⟨J,aH p,fun i hi=>?_⟩;rw[aP];intro e;have o:=iN.1 ((Eg _).1 I);rw[eG]at o;have:=o i j (by unfold Af.An;rw[bG];omega) (by unfold Af.An;rw[bG];omega) hi;unfold Af.An at this;rw[gC,gC,e,p]at this;exact this rfl
end Q
namespace Q
theorem R6 {st:BQ} {i:Nat} (hi:i<st.length):(Tr.kids st i).Pairwise (·<·):=by
 rw[Tr.P4 st i hi];exact iD _ gQ
theorem Valid.nb {c:Af} (v:Valid c):Tr.NB c.Ar:=Tr.Fq v.tree
theorem Valid.lead {c:Af} (v:Valid c):Ch c.Ar (Q.lead c):=by
 refine⟨fun i hi k o=>?_,fun i hi=>?_⟩
 ·unfold Q.lead at o;split at o
  ·rename_i J;split at o
   ·rename_i j R;obtain rfl:=dH.1 o;obtain⟨U,hn⟩:=JF R;refine⟨by rw[AI];exact U,?_⟩;have I:i<c.Aa.length:=by rw[<-AI];exact hi
    have p:=v.init i I;rw[K7 c I]at R;rw[Cb c I]at J;unfold Ew at p;rw[if_neg (by rintro⟨h1,_⟩;exact h1 J),R]at p;dsimp only at p;rw[if_pos J]at p;split at p
    ·cases p
    ·split at p
     ·assumption
     ·cases p
   ·cases o
  ·split at o
   ·exact(Tr.B6 c.Ar hi).1 o
   ·cases o
 ·unfold Q.lead;split
  ·split
   ·exact List.pairwise_singleton _ _
   ·exact .nil
  ·split
   ·exact R6 hi
   ·exact .nil
theorem Hu (c:Af) (i:Nat):DH c i=dn c.Ar (Q.lead c) i:=by
 unfold DH dn;rw[Wc,AI]
theorem Valid.Q4 {c:Af} (v:Valid c) {p j:Nat} (hp:p<c.Aa.length) (I:j<c.Aa.length) (hu:Tr.up c.Ar j=(p:Int)) :
  j∈Q.lead c p↔Tr.kd c.Ar p=3\/(Tr.kd c.Ar p=2/\G4 c p=Qk c j):=by
 unfold Q.lead;split
 ·rename_i R;split
  ·rename_i k J;obtain⟨U,hn⟩:=JF J;rw[dH,LX c I];constructor
   ·rintro rfl;exact .inr ⟨R,hn.symm⟩
   ·rintro(o|⟨_,o⟩)
    ·omega
    ·have:=Nx v.ZbL I o.symm;rw[J]at this;injection this with this
     exact this.symm
  ·rename_i J;constructor
   ·intro h;cases h
   ·rintro(o|⟨_,o⟩)
    ·omega
    ·rw[LX c I]at o;have:=Nx v.ZbL I o.symm;rw[J]at this;cases this
 ·rename_i R;split
  ·rename_i o;rw[Tr.B6 c.Ar (by rw[AI];exact hp),AI];exact⟨fun _=>.inl o,fun _=>⟨I,hu⟩⟩
  ·rename_i o;constructor
   ·intro h;cases h
   ·rintro(h|⟨h,_⟩)
    ·exact absurd h o
    ·exact absurd h R
def Zav (c:Af) (i:Nat):Nat->Nat->Bool
 | 0,_=>false
 |f+1,j=>decide (i=j)||(decide (0<=Tr.up c.Ar j)&&Zav c i f (Tr.up c.Ar j).toNat&&(decide (Tr.kd c.Ar (Tr.up c.Ar j).toNat=3)||(decide (Tr.kd c.Ar (Tr.up c.Ar j).toNat=2)&&decide (G4 c (Tr.up c.Ar j).toNat=Qk c j))))
theorem Valid.Mh {c:Af} (v:Valid c) {i:Nat} (hi:i<c.Aa.length):∀f j,j<f->j<c.Aa.length->Zav c i f j=(DH c i).contains j
 | 0,j,h,_=>absurd h (by omega)
 |f+1,j,h,R=>by
  have U:i<c.Ar.length:=by rw[AI];exact hi
  have a1:j<c.Ar.length:=by rw[AI];exact R
  have hm:=Uy v.lead U a1;rw[<-Hu]at hm;rw[cH,cS,hm];unfold Zav;rw[bV,aP];refine or_congr Iff.rfl ?_;rw[aG,aG,bV,aG];simp only[aP];constructor
  ·rintro⟨⟨h0,I⟩,J⟩;obtain⟨p,hp⟩:∃p:Nat,Tr.up c.Ar j=(p:Int):=⟨_,(Int.toNat_of_nonneg h0).symm⟩;rw[hp,bI]at I J;have a6:=((Tr.DW c.Ar j p).1 hp).1;have o:p<c.Aa.length:=by omega
   rw[Valid.Mh v hi f p (by omega) o,cS]at I;exact⟨p,hp,by rw[AI];exact o,I,(v.Q4 o R hp).2 J⟩
  ·rintro⟨p,hp,o,I,J⟩;rw[AI]at o;have a6:=((Tr.DW c.Ar j p).1 hp).1;rw[hp,bI];refine⟨⟨by omega,?_⟩,(v.Q4 o R hp).1 J⟩;rw[Valid.Mh v hi f p (by omega) o,cS];exact I
theorem Valid.Jl {c:Af} (v:Valid c) {i:Nat} (hi:i<c.Aa.length):(DH c i).Pairwise (·<·):=by
 rw[Hu];exact Oz v.lead _ i (by rw[AI];exact hi)
theorem Valid.IV {c:Af} (v:Valid c) {i:Nat} (hi:i<c.Aa.length) {j:Nat} (p:j∈DH c i):i<=j/\j<Tr.fin c.Ar i/\j<c.Aa.length:=by
 have o:i<c.Ar.length:=by rw[AI];exact hi
 rw[Hu]at p;obtain⟨I,J⟩:=Gq v.lead _ i o j p;have:=Tr.Ia c.Ar o;rw[AI]at this;exact⟨I,J,by omega⟩
theorem DT {c:Af} {i:Nat}:i∈roots c↔i<c.Aa.length/\Tr.dp c.Ar i=0:=by
 unfold roots;simp
theorem Valid.Y3 {c:Af} (v:Valid c) {i k:Nat} (hi:i<c.Aa.length) (o:k<c.Aa.length) (p:Tr.dp c.Ar k=0) (j:i<k):Tr.fin c.Ar i<=k:=by
 rcases bH k (Tr.fin c.Ar i)with h|h
 ·have I:=Tr.Ik c.Ar i k j h;have:=(v.nb.dp (i:=i) (by rw[AI];exact hi)).1;omega
 ·exact h
theorem Valid.GX {c:Af} (v:Valid c):(CO c).Pairwise (·<·):=by
 unfold CO;rw[List.pairwise_flatMap];refine⟨fun i hi=>v.Jl (DT.1 hi).1,?_⟩;have h:(roots c).Pairwise (·<·):=iD _ gQ;refine(List.Pairwise.and_mem.1 h).imp fun {i k} ⟨hi,j,o⟩ x p y I=>?_
 have J:=v.IV (DT.1 hi).1 p;have R:=v.IV (DT.1 j).1 I;have:=v.Y3 (DT.1 hi).1 (DT.1 j).1 (DT.1 j).2 o;omega
theorem Valid.FA {c:Af} (v:Valid c) {j:Nat} (o:j∈CO c):j<c.Aa.length:=by
 obtain⟨i,hi,o⟩:=eC.1 o;exact(v.IV (DT.1 hi).1 o).2.2
theorem Valid.PJ {c:Af} (v:Valid c):Dd c.Ar (CO c):=fun j J=>by
 refine⟨by rw[AI];exact v.FA J,?_⟩;obtain⟨i,hi,o⟩:=eC.1 J;obtain⟨U,h2⟩:=DT.1 hi;have I:i<c.Ar.length:=by rw[AI];exact U
 have R:j<c.Ar.length:=by rw[AI];exact v.FA J
 rw[Hu]at o;rcases(Uy v.lead I R).1 o with rfl|⟨p,h3,_,h4,_⟩
 ·exact .inl ((v.nb.PY I).2 h2)
 ·refine .inr ⟨p,eC.2 ⟨i,hi,?_⟩,h3⟩;rw[Hu];exact h4
def Dw (c:Af):List Nat->List Nat->Prop
 |_,[]=>True
 |Ag,i::l=>i<c.Aa.length/\i∉Ag/\Dd c.Ar (Ce c.Aa.length Ag i)/\Dw c (Ce c.Aa.length Ag i) l
theorem Uw {c:Af} {Ag:List Nat} (h:Dd c.Ar Ag) {i:Nat} (hi:i<c.Aa.length) (hu:Tr.up c.Ar i=-1\/∃p∈Ag,Tr.up c.Ar i=(p:Int)):Dd c.Ar (Ce c.Aa.length Ag i):=fun j R=>by
 obtain⟨U,I⟩:=EU.1 R;refine⟨by rw[AI];exact U,?_⟩;have J:∀p∈Ag,p∈Ce c.Aa.length Ag i:=fun p hp=>EU.2 ⟨by have:=(h p hp).1;rwa[AI]at this,.inr hp⟩
 have o:Tr.up c.Ar j=-1\/∃p∈Ag,Tr.up c.Ar j=(p:Int):=by
  rcases I with rfl|I
  ·exact hu
  ·exact(h j I).2
 rcases o with o|⟨p,hp,o⟩
 ·exact .inl o
 ·exact .inr ⟨p,J p hp,o⟩
theorem QW {c:Af}:∀(l Ag:List Nat),Dd c.Ar Ag->l.Pairwise (·<·)->(∀j∈l,j<c.Aa.length/\j∉Ag/\(Tr.up c.Ar j=-1\/∃p,(p∈Ag\/p∈l)/\Tr.up c.Ar j=(p:Int)))->Dw c Ag l
 | [],Ag,_,_,_=>trivial
 |i::l,Ag,hc,hs,hl=>by
  obtain⟨h1,h2,J⟩:=hl i (aR ..);obtain⟨U,a6⟩:=List.pairwise_cons.1 hs;have hu:Tr.up c.Ar i=-1\/∃p∈Ag,Tr.up c.Ar i=(p:Int):=by
   rcases J with J|⟨p,o|o,J⟩
   ·exact .inl J
   ·exact .inr ⟨p,o,J⟩
   ·have h5:=((Tr.DW c.Ar i p).1 J).1;rcases bJ.1 o with rfl|o
    ·omega
    ·have:=U p o;omega
  have a1:=Uw hc h1 hu;refine⟨h1,h2,a1,QW l _ a1 a6 fun j hj=>?_⟩;obtain⟨o,h5,R⟩:=hl j (bA _ hj);have b5:=U j hj;refine⟨o,fun h=>?_,?_⟩
  ·rcases(EU.1 h).2 with h|h
   ·omega
   ·exact h5 h
  ·rcases R with R|⟨p,I,R⟩
   ·exact .inl R
   ·refine .inr ⟨p,?_,R⟩;have hp:p<c.Aa.length:=by have:=((Tr.DW c.Ar j p).1 R).1;omega
    rcases I with I|I
    ·exact .inl (EU.2 ⟨hp,.inr I⟩)
    ·rcases bJ.1 I with rfl|I
     ·exact .inl (EU.2 ⟨hp,.inl rfl⟩)
     ·exact .inr I
theorem Valid.OX {c:Af} (v:Valid c):Dw c [] (CO c):=by
 refine QW _ _ (fun j o=>by cases o) v.GX fun j o=>⟨v.FA o,by simp,?_⟩
 rcases(v.PJ j o).2 with h|⟨p,hp,h⟩
 ·exact .inl h
 ·exact .inr ⟨p,.inr hp,h⟩
theorem Valid.KA {c:Af} (v:Valid c) {i:Nat} (hi:i<c.Aa.length) (h:Tr.kd c.Ar i≠2):∃p:Nat,Tr.up c.Ar i=(p:Int)/\p<i:=by
 have j:i<c.Ar.length:=by rw[AI];exact hi
 rcases Tr.Ep c.Ar i with⟨o,_⟩|⟨p,o,I,_⟩
 ·have I:=(v.nb.PY j).1 o;have:=v.nb i j;unfold Tr.bad at this;exact absurd (.inr (.inr (.inr (.inr (.inr ⟨I,h⟩))))) this
 ·exact⟨p,o,I⟩
structure Wk.Ok (c:Af) (m:Nat) (d:Wk):Prop where
 queue:d.queue.length<=16
 lost:0<=d.lost/\d.lost<=1099511627776
 Ac:d.Ac.length=c.vars.length
 vok:∀y∈d.Ac,FL y
 Ao:d.Ao.length<=m
theorem Wk.Ok.more {c:Af} {m n:Nat} {d:Wk} (h:Wk.Ok c m d) (hm:m<=n):Wk.Ok c n d:=⟨h.queue,h.lost,h.Ac,h.vok,aV h.Ao hm⟩
theorem Wk.Ok.raise {c:Af} {m:Nat} {d:Wk} (h:Wk.Ok c m d) (s:ByteArray):Wk.Ok c m (d.raise s):=by
 obtain⟨I,J,j,o,p⟩:=h;unfold Wk.raise;split
 ·refine⟨I,?_,j,o,p⟩;show 0<=(if d.lost<1099511627776 then d.lost+1 else d.lost)/\(if d.lost<1099511627776 then d.lost+1 else d.lost)<=1099511627776;split<;>omega
 ·refine⟨?_,J,j,o,p⟩;show(d.queue++[s]).length<=16;rw[aO,cR];omega
theorem DJ (d:Wk) (s:ByteArray):(d.raise s).Ag=d.Ag/\(d.raise s).Ac=d.Ac/\(d.raise s).status=d.status/\(d.raise s).Ao=d.Ao:=by
 unfold Wk.raise;split<;>exact⟨rfl,rfl,rfl,rfl⟩
theorem Wk.Ok.C1 {c:Af} {m:Nat}:∀(l:List ByteArray) {d:Wk},Wk.Ok c m d->Wk.Ok c m (d.C1 l)
 | [],d,h=>h
 |s::l,d,h=>Wk.Ok.C1 l (h.raise s)
theorem Lv:∀(l:List ByteArray) (d:Wk),(d.C1 l).Ag=d.Ag/\(d.C1 l).Ac=d.Ac/\(d.C1 l).status=d.status/\(d.C1 l).Ao=d.Ao
 | [],d=>⟨rfl,rfl,rfl,rfl⟩
 |s::l,d=>by
  obtain⟨j,a2,a3,a4⟩:=Lv l (d.raise s);obtain⟨o,p,I,J⟩:=DJ d s;exact⟨j.trans o,a2.trans p,a3.trans I,a4.trans J⟩
theorem JI (c:Af) (d:Wk) (l:List Act):(Wk.block c d l).Ag=d.Ag/\(Wk.block c d l).status=d.status:=by
 unfold Wk.block;obtain⟨j,a2,a3,a4⟩:=Lv (I1 c.vars l ⟨d.Ac,[],[],true⟩).raised {d with Ac:=(I1 c.vars l ⟨d.Ac,[],[],true⟩).Ac,Ao:=d.Ao++(I1 c.vars l ⟨d.Ac,[],[],true⟩).Ao};exact⟨j,a3⟩
theorem RW (c:Af):∀(f:Nat) (u:Int) (d:Wk),(N4 c f u d).Ag=d.Ag/\(N4 c f u d).status=d.status/\(N4 c f u d).Ac=d.Ac/\(N4 c f u d).Ao=d.Ao
 | 0,u,d=>⟨rfl,rfl,rfl,rfl⟩
 |f+1,u,d=>by
  unfold N4;split
  ·obtain⟨j,a2,a3,a4⟩:=RW c f (Tr.up c.Ar u.toNat) (d.raise (nm c u.toNat));obtain⟨o,p,I,J⟩:=DJ d (nm c u.toNat);exact⟨j.trans o,a2.trans I,a3.trans p,a4.trans J⟩
  ·exact⟨rfl,rfl,rfl,rfl⟩
theorem Wk.Ok.N4 {c:Af} {m:Nat}:∀(f:Nat) (u:Int) {d:Wk},Wk.Ok c m d->Wk.Ok c m (N4 c f u d)
 | 0,u,d,h=>h
 |f+1,u,d,h=>by
  unfold Q.N4;split
  ·exact Wk.Ok.N4 f _ (h.raise _)
  ·exact h
theorem LJ (c:Af) (d:Wk) (i:Nat):(Wk.C3 c d i).Ag=Ce c.Aa.length d.Ag i/\(Wk.C3 c d i).status=d.status:=by
 unfold Wk.C3;obtain⟨j,a2⟩:=JI c {d with Ag:=Ce c.Aa.length d.Ag i} (CB c i);dsimp only;split
 ·obtain⟨o,p,_⟩:=RW c i (Tr.up c.Ar (Tr.up c.Ar i).toNat) ((Wk.block c {d with Ag:=Ce c.Aa.length d.Ag i} (CB c i)).raise (nm c (Tr.up c.Ar i).toNat));obtain⟨d1,_,d3,_⟩:=DJ (Wk.block c {d with Ag:=Ce c.Aa.length d.Ag i} (CB c i)) (nm c (Tr.up c.Ar i).toNat);exact⟨o.trans (d1.trans j),p.trans (d3.trans a2)⟩
 ·exact⟨j,a2⟩
structure Ke (l:List Act):Prop where
 len:l.length<=8
 expr:∀a∈l,a.kind=1->BC a.expr=true
theorem Ps {c:Af} {l:List Act} (h:Br c l=0):Ke l:=by
 unfold Br at h;split at h
 ·rename_i I;obtain rfl:=aZ I;exact⟨by simp,by simp⟩
 ·split at h
  ·cases h
  ·rename_i J;have j:FE l=true:=by simpa using J
   unfold FE at j;simp only[aG,aP]at j;refine⟨j.2,fun a ha R=>?_⟩;have o:=aY.1 j.1.1 a ha;unfold Hg at o;rw[if_pos R,aG]at o;have p:=o.2;unfold JH at p;rw[aG]at p;exact p.1
theorem Valid.Eh {c:Af} (v:Valid c) {s:State} (o:s∈c.Aa):Ke s.entry/\Ke s.exit:=by
 have h:=v.blocks s o;unfold BB at h;split at h
 ·cases h
 ·have j:=D0.1 h;simp only[bJ,eS,iG,forall_eq_or_imp,forall_eq]at j;exact⟨Ps j.1,Ps j.2⟩
end Q
namespace Q
structure Kd (c:Af) (l:List Nat):Prop where
 Zdi:l.Pairwise (·<·)
 lt:∀i∈l,i<c.Aa.length
 real:∀i∈l,BR (Tr.kd c.Ar i)=false
 root:∀i,i<c.Aa.length->Tr.dp c.Ar i=0->i∈l
 up:∀i∈l,0<Tr.dp c.Ar i->∃p:Nat,Tr.up c.Ar i=(p:Int)/\p∈l
 one:∀i∈l,Tr.kd c.Ar i=2->∃k∈Tr.kids c.Ar i,k∈l/\∀k'∈Tr.kids c.Ar i,k'∈l->k'=k
 both:∀i∈l,Tr.kd c.Ar i=3->∀k∈Tr.kids c.Ar i,k∈l
theorem Kd.closed {c:Af} (v:Valid c) {l:List Nat} (h:Kd c l):Dd c.Ar l:=fun j J=>by
 have o:j<c.Ar.length:=by rw[AI];exact h.lt j J
 refine⟨o,?_⟩;by_cases R:Tr.dp c.Ar j=0
 ·exact .inl ((v.nb.PY o).2 R)
 ·obtain⟨p,hp,I⟩:=h.up j J (by have:=(v.nb.dp o).1;omega);exact .inr ⟨p,I,hp⟩
structure Zdz (c:Af) (ch:Nat->List Nat):Prop where
 ok:Ch c.Ar ch
 one:∀i,i<c.Aa.length->Tr.kd c.Ar i=2->∃k,ch i=[k]/\BR (Tr.kd c.Ar k)=false
 both:∀i,i<c.Aa.length->Tr.kd c.Ar i=3->ch i=Tr.kids c.Ar i
theorem Valid.XX {c:Af} (v:Valid c) {i:Nat} (hi:i<c.Aa.length) (j:Tr.kd c.Ar i=3) {k:Nat} (hm:k∈Tr.kids c.Ar i):BR (Tr.kd c.Ar k)=false/\Tr.kd c.Ar k≠4:=
 (v.tree.2 i (by rw[AI];exact hi)).1 k hm j
end Q
namespace Q
theorem ZaL (c:Af) {t:Nat} (h:t<c.trans.length):I2 c t=c.trans[t]:=by
 unfold I2;rw[aQ h];rfl
structure Zdg (c:Af) (t:Trans):Prop where
 FH:∃i:Nat,t.FH=(i:Int)/\i<c.Aa.length
 dom:t.to.size≠0->∃k d i:Nat,t.FH=(i:Int)/\place c t.to=some k/\Tr.domain c.Ar i k=(d:Int)/\UG c t=d/\Tr.kd c.Ar d=2/\(d=i\/(d<i/\i<Tr.fin c.Ar d))/\d<k/\k<Tr.fin c.Ar d
theorem Valid.ZcX {c:Af} (v:Valid c) {t:Nat} (ht:t<c.trans.length):Zdg c (I2 c t):=by
 have h:=v.tr t ht;rw[ZaL c ht];unfold CR at h;split at h
 ·cases h
 ·rename_i hn;have hf:∃i:Nat,c.trans[t].FH=(i:Int)/\i<c.Aa.length:=⟨c.trans[t].FH.toNat,by omega,by omega⟩;refine⟨hf,fun I=>?_⟩;obtain⟨i,hi,b1⟩:=hf;split at h
  ·cases h
  ·have h2:=D0.1 h;simp only[bJ,eS,iG,forall_eq_or_imp,forall_eq]at h2;have j:=h2.2.1;unfold US at j;rw[if_neg I]at j;cases hp:place c c.trans[t].to with
   |none=>rw[hp]at j;cases j
   |some k=>
    rw[hp]at j;dsimp only at j;rw[hi,bI]at j;have o:(i:Int)<(c.Ar.length:Int):=by rw[AI];omega
    have J:=Tr.RE c.Ar k (i+2) i (by omega) o;unfold Tr.domain at j;rcases J with p|⟨d,p,⟨m,hm,R⟩,U,a1,a6⟩
    ·rw[p]at j;cases j
    ·obtain rfl:m=i:=by omega
     refine⟨k,d,m,hi,rfl,p,?_,U,R,a1,a6⟩;unfold UG;rw[hp,hi,bI];dsimp only;unfold Tr.domain;rw[p,bI]
theorem Kd.FJ {c:Af} (v:Valid c) {Ag:List Nat} (h:Kd c Ag) {d:Nat}:∀n j,j<=n->j∈Ag->d<j->j<Tr.fin c.Ar d->d∈Ag
 | 0,j,U,_,J,_=>by omega
 |n+1,j,U,R,J,hf=>by
  obtain⟨p,hp,I⟩:=(Tr.Dk c.Ar (i:=d) (by rw[AI];exact h.lt j R)).1 ⟨J,hf⟩;have o:p∈Ag:=K3 (h.closed v) R hp;have a6:=((Tr.DW c.Ar j p).1 hp).1;rcases I with rfl|⟨h1,h2⟩
  ·exact o
  ·exact Kd.FJ v h n p (by omega) o h1 h2
def Live (c:Af) (Ag:List Nat) (t:Nat):Prop:=t<c.trans.length/\∃i∈Ag,(I2 c t).FH=((i:Nat):Int)
theorem Live.dom {c:Af} (v:Valid c) {Ag:List Nat} (h:Kd c Ag) {t:Nat} (ht:Live c Ag t) (I:(I2 c t).to.size≠0) :
  UG c (I2 c t)∈Ag/\Tr.kd c.Ar (UG c (I2 c t))=2/\∃j∈Ag,UG c (I2 c t)<j/\j<Tr.fin c.Ar (UG c (I2 c t)):=by
 obtain⟨J,i,hi,a7⟩:=ht;obtain⟨k,d,i',a1,_,_,hd,p,R,_,_⟩:=(v.ZcX J).dom I;obtain rfl:i=i':=by omega
 rw[hd];have o:d∈Ag:=by
  rcases R with rfl|⟨h1,h2⟩
  ·exact hi
  ·exact h.FJ v i i (aL _) hi h1 h2
 obtain⟨k',e1,e2,_⟩:=h.one d o p;have U:d<c.Ar.length:=by rw[AI];exact h.lt d o
 obtain⟨g1,g2⟩:=(Tr.B6 c.Ar U).1 e1;exact⟨o,p,k',e2,(Tr.Dk c.Ar g1).2 ⟨d,g2,.inl rfl⟩⟩
def Zc2 (c:Af) (Ag l:List Nat):Prop:=l.Pairwise fun a b=>ZH c Ag a b=false
structure Zdu (c:Af) (Ag ts:List Nat):Prop where
 live:∀t∈ts,Live c Ag t
 apart:Zc2 c Ag ts
 nodup:ts.Nodup
end Q
namespace Q
theorem SF {c:Af} {ts:List Int} {i:Nat}:chT c ts i=Q.lead c i\/(Tr.kd c.Ar i=2/\∃k∈Tr.kids c.Ar i,ZbP c.Ar ts k=true/\chT c ts i=[k]):=by
 unfold chT Q.lead;split
 ·rename_i j;cases h:(Tr.kids c.Ar i).find? (ZbP c.Ar ts)with
  |none=>exact .inl rfl
  |some k=>exact .inr ⟨j,k,List.mem_of_find?_eq_some h,List.find?_some h,rfl⟩
 ·exact .inl rfl
theorem Valid.ZbW {c:Af} (v:Valid c) (ts:List Int):Ch c.Ar (chT c ts):=by
 refine⟨fun i hi k j=>?_,fun i hi=>?_⟩
 ·rcases SF (c:=c) (ts:=ts) (i:=i)with e|⟨_,p,o,_,e⟩
  ·rw[e]at j;exact v.lead.kid i hi k j
  ·rw[e]at j;rw[dH.1 j];exact(Tr.B6 c.Ar hi).1 o
 ·rcases SF (c:=c) (ts:=ts) (i:=i)with e|⟨_,p,o,_,e⟩
  ·rw[e];exact v.lead.inc i hi
  ·rw[e];exact List.pairwise_singleton _ _
def ZcS (c:Af) (ts:List Nat):Prop:=∀j∈ts,j<c.Aa.length/\BR (Tr.kd c.Ar j)=false
structure Y8 (c:Af) (p:Zcw):Prop where
 lt:p.state<c.Aa.length
 kd:BR (Tr.kd c.Ar p.state)=true
 shallow:Tr.kd c.Ar p.state=5->∃k,p.set=[k]/\k∈Tr.kids c.Ar (Tr.up c.Ar p.state).toNat/\BR (Tr.kd c.Ar k)=false
 deep:Tr.kd c.Ar p.state=6->p.set≠[]/\N2 c (dnT c (Co p.set) (Tr.up c.Ar p.state).toNat)=p.set
theorem Valid.Zal {c:Af} (v:Valid c) {i:Nat} (hi:i<c.Aa.length) (hp:BR (Tr.kd c.Ar i)=true):∃p:Nat,Tr.up c.Ar i=(p:Int)/\p<i/\Tr.kd c.Ar p=2:=by
 have R:Tr.kd c.Ar i≠2:=fun e=>by rw[e]at hp;cases hp
 obtain⟨p,o,U⟩:=v.KA hi R;refine⟨p,o,U,?_⟩;have j:p<c.Ar.length:=by rw[AI];omega
 have hm:=(Tr.B6 c.Ar j).2 ⟨by rw[AI];exact hi,o⟩;have I:=(v.tree.2 p j).2;refine bU fun k2=>?_
 by_cases J:Tr.kd c.Ar p=3
 ·have:=(v.XX (by omega) J hm).1;rw[hp]at this;cases this
 ·rw[if_neg (by rintro(x|x);exact k2 x;exact J x)]at I;rw[aZ I]at hm;cases hm
theorem Um {c:Af} {i:Nat} (h:O9 c i=true):BR (Tr.kd c.Ar i)=false:=by
 unfold O9 at h;unfold BR;rw[bV,aP,aP]at h;rcases h with h|h<;>rw[h]<;>rfl
theorem ZcZ {c:Af} {ch:Nat->List Nat} (h:Ch c.Ar ch) {d:Nat} (p:d<c.Aa.length) {j:Nat} (I:j∈dn c.Ar ch d):d<=j/\j<Tr.fin c.Ar d/\j<c.Aa.length:=by
 have o:d<c.Ar.length:=by rw[AI];exact p
 obtain⟨J,R⟩:=Gq h _ d o j I;have:=Tr.Ia c.Ar o;rw[AI]at this;exact⟨J,R,by omega⟩
theorem Y8.real {c:Af} (v:Valid c) {p:Zcw} (h:Y8 c p):ZcS c p.set:=by
 obtain⟨q,U,a6,_⟩:=v.Zal h.lt h.kd;have J:q<c.Aa.length:=by have:=h.lt;omega
 have o:=h.kd;unfold BR at o;rw[bV,aP,aP]at o;rcases o with h5|h6
 ·obtain⟨k,e,e1,e2⟩:=h.shallow h5;intro j I;rw[e,dH]at I;subst I;rw[U,bI]at e1;have:=((Tr.B6 c.Ar (by rw[AI];exact J)).1 e1).1;rw[AI]at this;exact⟨this,e2⟩
 ·obtain⟨_,e⟩:=h.deep h6;intro j I;rw[<-e]at I;unfold N2 at I;obtain⟨R,h2⟩:=fO.1 I;unfold dnT at R;rw[U,bI]at R;exact⟨(ZcZ (v.ZbW _) J (List.mem_of_mem_tail R)).2.2,Um h2⟩
end Q
namespace Q
theorem Valid.Zq {c:Af} (v:Valid c) {i:Nat} (hi:i<c.Aa.length):1<=Tr.kd c.Ar i/\Tr.kd c.Ar i<=6:=(v.nb.dp (i:=i) (by rw[AI];exact hi)).2.2
theorem Kd.leaf {c:Af} (v:Valid c) {Ag:List Nat} (h:Kd c Ag):∀n j,c.Aa.length-j<=n->j∈Ag->∃t∈Ag,O9 c t=true/\j<=t/\t<Tr.fin c.Ar j
 | 0,j,U,p=>by have:=h.lt j p;omega
 |n+1,j,U,p=>by
  have I:=h.lt j p;have o:j<c.Ar.length:=by rw[AI];exact I
  have hr:=v.Zq I;have hp:=h.real j p;unfold BR at hp;rw[Bool.or_eq_false_iff,bD,bD]at hp;have kid:∀k∈Tr.kids c.Ar j,k∈Ag->∃t∈Ag,O9 c t=true/\j<=t/\t<Tr.fin c.Ar j:=fun k J R=>by
   obtain⟨g1,g2⟩:=(Tr.B6 c.Ar o).1 J;obtain⟨w1,w2⟩:=(Tr.Dk c.Ar (i:=j) g1).2 ⟨j,g2,.inl rfl⟩;obtain⟨t,t1,t2,t3,t4⟩:=Kd.leaf v h n k (by omega) R;have U:=Tr.RJ c.Ar w1 w2 g1;exact⟨t,t1,t2,by omega,by omega⟩
  by_cases k2:Tr.kd c.Ar j=2
  ·obtain⟨k,e1,e2,_⟩:=h.one j p k2;exact kid k e1 e2
  ·by_cases k3:Tr.kd c.Ar j=3
   ·obtain⟨k,l,e⟩:=List.exists_cons_of_ne_nil (O5 v.tree o k3);have J:k∈Tr.kids c.Ar j:=by rw[e];exact aR ..
    exact kid k J (h.both j p k3 k J)
   ·refine⟨j,p,?_,aL _,Tr.G8 c.Ar j⟩;unfold O9;rw[bV,aP,aP];omega
end Q
namespace Q
theorem S2 {n:Nat}:∀(l Ag:List Nat),Ag.Pairwise (·<·)->(∀j∈Ag,j<n)->(∀j∈l,j<n)->(l.foldl (Ce n) Ag).Pairwise (·<·)/\∀j,j∈l.foldl (Ce n) Ag↔j∈Ag\/j∈l
 | [],Ag,h,_,_=>⟨h,fun j=>by simp⟩
 |i::l,Ag,h,J,I=>by
  obtain⟨g1,g2⟩:=S2 l (Ce n Ag i) (Il n Ag i) (fun j p=>Zbd p) (fun j p=>I j (bA _ p));refine⟨g1,fun j=>?_⟩;rw[List.foldl_cons,g2 j,EU,bJ];constructor
  ·rintro(⟨_,o|o⟩|o)
   ·exact .inr (.inl o)
   ·exact .inl o
   ·exact .inr (.inr o)
  ·rintro(o|o|o)
   ·exact .inl ⟨J j o,.inr o⟩
   ·exact .inl ⟨o▸I i (aR ..),.inl o⟩
   ·exact .inr o
theorem DK (c:Af):∀(l:List Nat) (d:Wk),(Wk.enter c d l).Ag=l.foldl (Ce c.Aa.length) d.Ag/\(Wk.enter c d l).status=d.status
 | [],d=>⟨rfl,rfl⟩
 |i::l,d=>by
  obtain⟨j,o⟩:=DK c l (Wk.C3 c d i);obtain⟨g1,g2⟩:=LJ c d i;refine⟨?_,o.trans g2⟩;show(Wk.enter c (Wk.C3 c d i) l).Ag=_;rw[j,g1];rfl
end Q
namespace Q
theorem Valid.Sg {c:Af} (v:Valid c) {i j:Nat} (hi:i<c.Aa.length) (R:j<c.Aa.length) (o:i≠j) :
  (DH c i).contains j=(decide (0<=Tr.up c.Ar j)&&(DH c i).contains (Tr.up c.Ar j).toNat&&(decide (Tr.kd c.Ar (Tr.up c.Ar j).toNat=3)||(decide (Tr.kd c.Ar (Tr.up c.Ar j).toNat=2)&&decide (G4 c (Tr.up c.Ar j).toNat=Qk c j)))):=by
 rw[<-v.Mh hi (j+1) j (by omega) R];unfold Zav;rw[aF o,cZ];by_cases J:0<=Tr.up c.Ar j
 ·obtain⟨p,hp⟩:∃p:Nat,Tr.up c.Ar j=(p:Int):=⟨_,(Int.toNat_of_nonneg J).symm⟩;have I:=((Tr.DW c.Ar j p).1 hp).1;rw[hp,bI,v.Mh hi j p I (by omega)]
 ·rw[aF J,cC,cC,cC,cC]
theorem Valid.QO {c:Af} (v:Valid c) {i:Nat} (hi:i<c.Aa.length):(DH c i).contains i=true:=by
 rw[cS,Hu,Uy v.lead (by rw[AI];exact hi) (by rw[AI];exact hi)];exact .inl rfl
theorem Valid.GB {c:Af} (v:Valid c) {i:Nat} (hi:i<c.Aa.length):(List.range c.Aa.length).filter (fun j=>(DH c i).contains j)=DH c i:=
 (EQ (v.Jl hi) (fun j o=>(v.IV hi o).2.2)).symm
theorem El (q:Nat->Bool) (k:Nat):(List.range (k+1)).filter q=(List.range k).filter q++(if q k=true then [k]else []):=by
 rw[iK,dL];congr 1;by_cases h:q k=true
 ·rw[if_pos h,gN h,List.filter_nil]
 ·rw[if_neg h,jD h,List.filter_nil]
theorem EC (q:Nat->Bool) (k:Nat):((List.range k).filter q).length<=k:=by
 have:=eZ q (List.range k)
 rwa[fP]at this
def Ct (c:Af) (k:Nat):List Nat:=(List.range k).filter fun i=>decide (Tr.dp c.Ar i=0)
theorem LL (c:Af):Ct c c.Aa.length=roots c:=rfl
theorem J7 (c:Af) (k:Nat):(Ct c (k+1)).flatMap (DH c)=(Ct c k).flatMap (DH c)++(if Tr.dp c.Ar k=0 then DH c k else []):=by
 unfold Ct;rw[El,eO];congr 1;by_cases h:Tr.dp c.Ar k=0
 ·rw[if_pos h,if_pos (aH h),eQ]
 ·rw[if_neg h,if_neg (by rw[aF h];exact dT),List.flatMap_nil]
theorem Valid.Md {c:Af} (v:Valid c) {i:Nat} (hi:i<c.Aa.length):(DH c i).length<=40:=by
 rw[<-v.GB hi];have:=EC (fun j=>(DH c i).contains j) c.Aa.length;have:=v.Aa;omega
theorem Valid.IK {c:Af} (v:Valid c):(CO c).length<=40:=by
 rw[EQ v.GX (fun j o=>v.FA o)];have:=EC (fun j=>(CO c).contains j) c.Aa.length;have:=v.Aa;omega
theorem ZaM {α:Type} (l:List Nat) (f:Nat->List α) (m:Nat) (h:∀i∈l,(f i).length<=m):(l.flatMap f).length<=m*l.length:=by
 induction l with
 |nil=>simp
 |cons a l ih=>
  have j:=ih fun i hi=>h i (bA _ hi)
  have o:=h a (aR ..);rw[eE,aO,bP,Nat.mul_add];omega
theorem Valid.Lz {c:Af} (v:Valid c) {k:Nat} (o:k<=c.Aa.length):((Ct c k).flatMap (DH c)).length<=1600:=by
 have p:=ZaM (Ct c k) (DH c) 40 fun i hi=>by
  have:=cQ.1 (fO.1 hi).1;exact v.Md (by omega)
 have j:=EC (fun i=>decide (Tr.dp c.Ar i=0)) k;have I:(Ct c k).length<=k:=j;have:=v.Aa;have:40*(Ct c k).length<=40*40:=Nat.mul_le_mul_left _ (by omega);omega
theorem Dw.QL {c:Af}:∀(a b Ag:List Nat),Dw c Ag (a++b)->Dw c Ag a/\Dw c (a.foldl (Ce c.Aa.length) Ag) b
 | [],b,Ag,h=>⟨trivial,h⟩
 |i::a,b,Ag,⟨j,o,p,I⟩=>by
  obtain⟨g1,g2⟩:=Dw.QL a b _ I;exact⟨⟨j,o,p,g1⟩,g2⟩
theorem O4 (c:Af) (d:Wk) (a b:List Nat):Wk.enter c d (a++b)=Wk.enter c (Wk.enter c d a) b:=List.foldl_append
theorem TO (c:Af) (d:Wk) {l:List Nat} {j:Nat} (o:j<l.length):Wk.C3 c (Wk.enter c d (l.take j)) l[j]=Wk.enter c d (l.take (j+1)):=by
 rw[bM o,O4];rfl
theorem Dw.at_ {c:Af} {Ag l:List Nat} (h:Dw c Ag l) {j:Nat} (o:j<l.length) (d:Wk) (p:d.Ag=Ag) :
  l[j]<c.Aa.length/\l[j]∉(Wk.enter c d (l.take j)).Ag/\Dd c.Ar (Ce c.Aa.length (Wk.enter c d (l.take j)).Ag l[j]):=by
 have e:l=l.take j++(l[j]::l.drop (j+1)):=by
  rw[<-dV o,fN]
 rw[e]at h;obtain⟨g1,g2,g3,g4,g5⟩:=Dw.QL _ _ _ h;rw[(DK c (l.take j) d).1,p];exact⟨g2,g3,g4⟩
theorem Sr {c:Af} {u:Int} {d:Wk} (h:¬(0<=u/\Tr.kd c.Ar u.toNat=3/\over c.Ar d.Ag u.toNat=true)):∀f,N4 c f u d=d
 | 0=>rfl
 |f+1=>by
  unfold N4;exact if_neg h
theorem ZF {c:Af} {p:Nat} {d:Wk} {f:Nat} (j:Tr.kd c.Ar p=3) (o:over c.Ar d.Ag p=true) (I:p<f):∃g,p<=g/\N4 c f (p:Int) d=N4 c g (Tr.up c.Ar p) (d.raise (nm c p)):=by
 obtain⟨g,rfl⟩:∃g,f=g+1:=⟨f-1,by omega⟩;refine⟨g,by omega,?_⟩
 conv=>lhs;unfold N4
 rw[bI];exact if_pos ⟨Int.natCast_nonneg _,j,o⟩
end Q
end
end Go.Proofs.YthbihnpoghlfaaaGreatDoor
