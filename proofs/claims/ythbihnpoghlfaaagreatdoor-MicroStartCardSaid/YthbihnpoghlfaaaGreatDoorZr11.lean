import Derived.RangeFuncBox
import Derived.Deep.CutRange
import Derived.Test.YthbihnpoghlfaaaGreatDoorZr10
set_option linter.unusedVariables false
set_option linter.unusedSimpArgs false
set_option maxHeartbeats 8000000
set_option maxRecDepth 100000
namespace Go.Proofs.YthbihnpoghlfaaaGreatDoor
open Go.Proofs.Tryz
section
namespace Tr
theorem OQ (st:BQ) (d:Int):∀k,(Kq st d k=-1/\∀m,m<k->d<=dp st m)\/∃p:Nat,Kq st d k=(p:Int)/\p<k/\dp st p<d/\∀m,p<m->m<k->d<=dp st m
 | 0=>.inl ⟨rfl,fun m h=>absurd h (by omega)⟩
 |k+1=>by
  unfold Kq;by_cases h:dp st k<d
  ·rw[if_pos h];exact .inr ⟨k,rfl,by omega,h,fun m j o=>absurd j (by omega)⟩
  ·rw[if_neg h];rcases OQ st d k with⟨j,o⟩|⟨p,j,o,J,R⟩
   ·refine .inl ⟨j,fun m hm=>?_⟩;by_cases e:m=k
    ·subst e;omega
    ·exact o m (by omega)
   ·refine .inr ⟨p,j,by omega,J,fun m I U=>?_⟩;by_cases e:m=k
    ·subst e;omega
    ·exact R m I (by omega)
theorem Ep (st:BQ) (i:Nat):(up st i=-1/\∀m,m<i->dp st i<=dp st m)\/∃p:Nat,up st i=(p:Int)/\p<i/\dp st p<dp st i/\∀m,p<m->m<i->dp st i<=dp st m:=OQ st _ i
theorem DW (st:BQ) (i p:Nat):up st i=(p:Int)↔p<i/\dp st p<dp st i/\∀m,p<m->m<i->dp st i<=dp st m:=by
 rcases Ep st i with⟨o,j⟩|⟨q,o,j,R,J⟩
 ·rw[o];constructor
  ·intro h;omega
  ·rintro⟨I,U,_⟩;have:=j p I;omega
 ·rw[o];constructor
  ·intro h;obtain rfl:q=p:=by omega
   exact⟨j,R,J⟩
  ·rintro⟨I,U,h7⟩;congr 1;rcases Nat.lt_trichotomy p q with h|h|h
   ·have:=h7 q h j;omega
   ·exact h.symm
   ·have:=J p h I;omega
theorem G0 (st:BQ) (d:Int):∀f k,(∀m,k<=m->m<CS st d k f->d<dp st m)/\(CS st d k f<k+f->dp st (CS st d k f)<=d)
 | 0,k=>⟨fun m j o=>by unfold CS at o;omega,fun h=>by unfold CS at h;omega⟩
 |f+1,k=>by
  unfold CS;by_cases h:d<dp st k
  ·rw[if_pos h];obtain⟨j,o⟩:=G0 st d f (k+1);refine⟨fun m I p=>?_,fun J=>o (by omega)⟩;by_cases e:m=k
   ·subst e;exact h
   ·exact j m (by omega) p
  ·rw[if_neg h];exact⟨fun m j o=>absurd j (by omega),fun _=>by omega⟩
theorem Ik (st:BQ) (i m:Nat) (j:i<m) (o:m<fin st i):dp st i<dp st m:=(G0 st (dp st i) _ (i+1)).1 m j o
theorem Kg (st:BQ) (i:Nat) (h:fin st i<st.length):dp st (fin st i)<=dp st i:=(G0 st (dp st i) (st.length-(i+1)) (i+1)).2 (by have:=G8 st i;show fin st i<_;omega)
theorem U2 (st:BQ) {i j:Nat} (J:j<st.length):i<j/\j<fin st i↔i<j/\∀m,i<m->m<=j->dp st i<dp st m:=by
 constructor
 ·rintro⟨o,p⟩;exact⟨o,fun m I R=>Ik st i m I (by omega)⟩
 ·rintro⟨o,p⟩;refine⟨o,?_⟩;by_cases h:j<fin st i
  ·exact h
  ·have:=Kg st i (by omega);have:=p (fin st i) (G8 st i) (by omega);omega
theorem Dk (st:BQ) {i j:Nat} (hj:j<st.length):(i<j/\j<fin st i)↔∃p:Nat,up st j=(p:Int)/\(i=p\/(i<p/\p<fin st i)):=by
 rw[U2 st hj];constructor
 ·rintro⟨I,h2⟩;rcases Ep st j with⟨J,R⟩|⟨p,J,R,h5,U⟩
  ·have:=R i I;have:=h2 j I (aL _);omega
  ·refine⟨p,J,?_⟩;rcases Nat.lt_trichotomy i p with h|h|h
   ·exact .inr ((U2 st (by omega)).2 ⟨h,fun m o h8=>h2 m o (by omega)⟩)
   ·exact .inl h
   ·have:=U i h I;have:=h2 j I (aL _);omega
 ·rintro⟨p,J,h⟩;obtain⟨R,h5,U⟩:=(DW st j p).1 J;rcases h with rfl|h
  ·refine⟨R,fun m o h8=>?_⟩;by_cases e:m=j
   ·subst e;exact h5
   ·have:=U m o (by omega);omega
  ·obtain⟨o,h8⟩:=(U2 st (show p<st.length by omega)).1 h;refine⟨by omega,fun m h9 b1=>?_⟩;by_cases hm:m<=p
   ·exact h8 m h9 hm
   ·have b2:=h8 p o (aL _);by_cases e:m=j
    ·subst e;omega
    ·have:=U m (by omega) (by omega);omega
theorem SP (st:BQ) (i:Nat) (hi:i<st.length):∀f k,i<k->fin st i-k<=f->(k<fin st i->∀m,i<m->m<k->dp st k<=dp st m)->
  Cg st (fin st i) f k=(List.range' k (st.length-k)).filter (fun m=>up st m=(i:Int)):=by
 have b3:=Ia st hi;have j:∀k,fin st i<=k->(List.range' k (st.length-k)).filter (fun m=>up st m=(i:Int))=[]:=fun k p=>by
  rw[jI];intro m hm;obtain⟨R,U⟩:=List.mem_range'_1.1 hm;have h1:=Kg st i (by omega);have o:=G8 st i;intro h;obtain⟨h3,J,h5⟩:=(DW st m i).1 (cV h);by_cases e:m=fin st i
  ·rw[e]at J;omega
  ·have:=h5 (fin st i) o (by omega);omega
 intro f
 induction f with
 |zero=>
  intro k p hf _;rw[j k (by omega)];rfl
 |succ f ih=>
  intro k p hf hinv;unfold Cg;by_cases h:k<fin st i
  ·rw[if_pos h];have a7:=Ik st i k p h;have b5:=G8 st k;have b6:=Ia st (show k<st.length by omega);have a8:up st k=(i:Int):=(DW st k i).2 ⟨p,a7,fun m h1 o=>hinv h m h1 o⟩;have b0:fin st k<=fin st i:=by
    by_cases o:fin st k<=fin st i
    ·exact o
    ·have h3:=Kg st i (by omega);have J:=Ik st k (fin st i) (by omega) (by omega);omega
   rw[ih (fin st k) (by omega) (by omega) (fun o m h3 J=>by
    have h5:=Kg st k (by omega);by_cases hm:m<k
    ·have:=hinv h m h3 hm;omega
    ·by_cases e:m=k
     ·subst e;exact h5
     ·have:=Ik st k m (by omega) J;omega)]
   rw[show st.length-k=(fin st k-k)+(st.length-fin st k)by omega,<-List.range'_append_1,dL,show k+(fin st k-k)=fin st k by omega,
    show fin st k-k=(fin st k-k-1)+1 by omega,List.range'_succ,gD,if_pos (by rw[a8];simp)]
   have I:(List.range' (k+1) (fin st k-k-1)).filter (fun m=>up st m=(i:Int))=[]:=by
    rw[jI];intro m hm h7;obtain⟨R,U⟩:=List.mem_range'_1.1 hm;obtain⟨h8,h9,b1⟩:=(DW st m i).1 (cV h7);have b8:=Ik st k m (by omega) (by omega);have:=b1 k p (by omega);omega
   rw[I];rfl
  ·rw[if_neg h,j k (by omega)]
theorem P4 (st:BQ) (i:Nat) (hi:i<st.length):kids st i=(List.range st.length).filter (fun m=>up st m=(i:Int)):=by
 unfold kids;rw[SP st i hi _ (i+1) (by omega) (aL _) (fun _ m j I=>absurd j (by omega)),List.range_eq_range',show st.length=(i+1)+(st.length-(i+1))by omega,<-List.range'_append_1,dL];have:(List.range' 0 (i+1)).filter (fun m=>up st m=(i:Int))=[]:=by
  rw[jI];intro m hm o;have p:=(List.mem_range'_1.1 hm).2;have:=((DW st m i).1 (cV o)).1;omega
 rw[this,eH,bO,show i+1+(st.length-(i+1))-(i+1)=st.length-(i+1)by omega]
theorem B6 (st:BQ) {i k:Nat} (hi:i<st.length):k∈kids st i↔k<st.length/\up st k=(i:Int):=by
 rw[P4 st i hi,fO,cQ,aP]
end Tr
end
section
open Go.RowKit
namespace Tr
def Hq (st:BQ) (d:Int):Nat->Int
 | 0=>-1
 |k+1=>if dp st k=d-1 then(k:Int)else Hq st d k
def par (st:BQ) (i:Nat):Int:=Hq st (dp st i) i
def NB (st:BQ):Prop:=∀i,i<st.length->¬bad st i
theorem NB.dp {st:BQ} (h:NB st) {i:Nat} (hi:i<st.length):0<=dp st i/\dp st i<=5/\1<=kd st i/\kd st i<=6:=by
 have:=h i hi;unfold bad at this;omega
theorem NB.next {st:BQ} (h:NB st) {i:Nat} (hi:i+1<st.length):Tr.dp st (i+1)<=Tr.dp st i+1:=by
 have:=h (i+1) hi;unfold bad ahead at this;rw[if_neg (by omega),iQ]at this;omega
theorem NB.zero {st:BQ} (h:NB st) (hi:0<st.length):Tr.dp st 0=0:=by
 have:=h 0 hi;unfold bad ahead at this;rw[if_pos rfl]at this;omega
theorem Fq {st:BQ} (h:right st):NB st:=h.1.1
theorem Sz (st:BQ) (d:Int) (p:Nat):∀k,p<k->dp st p=d-1->(∀m,p<m->m<k->dp st m≠d-1)->Hq st d k=(p:Int)
 | 0,h,_,_=>absurd h (by omega)
 |k+1,h,j,o=>by
  unfold Hq;by_cases e:k=p
  ·subst e;rw[if_pos j]
  ·rw[if_neg (o k (by omega) (by omega)),Sz st d p k (by omega) j (fun m I J=>o m I (by omega))]
theorem Nn (st:BQ) (d:Int):∀k,(∀m,m<k->dp st m≠d-1)->Hq st d k=-1
 | 0,_=>rfl
 |k+1,h=>by
  unfold Hq;rw[if_neg (h k (by omega)),Nn st d k (fun m hm=>h m (by omega))]
theorem NB.par {st:BQ} (h:NB st) {i:Nat} (hi:i<st.length):par st i=up st i:=by
 unfold Tr.par;rcases Ep st i with⟨j,o⟩|⟨p,j,o,U,R⟩
 ·rw[j];exact Nn st _ i (fun m hm=>by have:=o m hm;omega)
 ·rw[j];have h5:=h.next (i:=p) (by omega);have h6:Tr.dp st i<=Tr.dp st (p+1):=by
   by_cases e:p+1=i
   ·rw[e];omega
   ·exact R (p+1) (by omega) (by omega)
  exact Sz st _ p i o (by omega) (fun m I J=>by have:=R m I J;omega)
theorem NB.PY {st:BQ} (h:NB st) {i:Nat} (hi:i<st.length):up st i=-1↔Tr.dp st i=0:=by
 have I:=h.zero (by omega);rcases Ep st i with⟨j,o⟩|⟨p,j,o,R,U⟩
 ·refine⟨fun _=>?_,fun _=>j⟩;have:=(h.dp hi).1;rcases gM i with rfl|hp
  ·exact I
  ·have:=o 0 hp;omega
 ·refine⟨fun J=>by omega,fun J=>?_⟩;have:=(h.dp (show p<st.length by omega)).1;omega
end Tr
theorem EV (w:World) (k:Int):Calls prog 73 #[.int .i64 k] w fun e p=>e=.returned (.bool (Tr.E8 k))/\p=w:=by
 go_enter func73,ntmps73;unfold Tr.E8;by_cases j:k=5
 ·subst j;go_wp2;go_ret;exact⟨rfl,rfl⟩
 ·by_cases o:k=6
  ·subst o;go_wp2;go_ret;exact⟨rfl,rfl⟩
  ·go_wp2;go_ret;exact⟨by simp[j,o],rfl⟩
theorem Za2 (w:World) (A:Option Addr) (n c:Nat) (st:BQ) (h:Tree w w.heap.size A n st) (hn:n<=maxLen) (i:Nat) (hi:i<n) (hd:0<=Tr.dp st i/\Tr.dp st i<=5) :
  Calls prog 59 #[.slice A n c,.int .i64 (i:Int)] w fun e w'=>e=.returned (.int .i64 (Tr.par st i))/\Below w.heap.size w w':=by
 unfold maxLen at hn;obtain⟨ad,rfl,b5⟩:=h.addr hi;go_enter func59,ntmps59;go_wp2
 go_loopw [6,5] (fun v f wr=>∃k:Nat,k<=i/\v=.int .i64 (k:Int)/\f=.int .i64 (Tr.Hq st (Tr.dp st i) k)/\Below w.heap.size w wr) (fun v _ _=>i-(intOf v).toNat)
 case atStart=>exact⟨0,eN _,rfl,rfl,aJ _ _⟩
 case round=>
  obtain⟨k,hk,rfl,rfl,p⟩:=hrel;have ht:=h.below p;by_cases b6:k<i
  ·have I:=(ht.at_ (show k<n by omega)).2;have J:=(ht.at_ hi).2;have b7:(k:Int)<(n:Int):=by omega
   have b8:(i:Int)<(n:Int):=by omega
   have b9:k<n:=by omega
   have a7:(k:Int)<(i:Int):=by omega
   have j:Tr.Hq st (Tr.dp st i) (k+1)=if Tr.dp st k=Tr.dp st i-1 then(k:Int)else Tr.Hq st (Tr.dp st i) k:=rfl
   obtain⟨q',o⟩:∃q',Tr.Hq st (Tr.dp st i) (k+1)=q':=⟨_,rfl⟩;rw[o]at j;have HQ:=jK o;generalize Tr.Hq st (Tr.dp st i) k=q at *;obtain⟨d1,R⟩:∃x,Tr.dp st k=x:=⟨_,rfl⟩;obtain⟨d2,U⟩:∃x,Tr.dp st i=x:=⟨_,rfl⟩;rw[R,U]at j;rw[R]at I;rw[U]at J hd;clear R U o;have c0:=cM (d2-1) (by omega);by_cases he:d1=d2-1
   ·rw[if_pos he]at j;have HN:=jK j;have b1:(d1==d2-1)=true:=by rw[he];simp
    clear j he;go_wp2
    go_quiet (fail)
    go_wp2;go_roundw
    case rel=>exact⟨k+1,by omega,by go_num,by rw[HQ.out,HN.out],Tr.below_drewN p _⟩
    case measure=>simp[intOf];omega
   ·rw[if_neg he]at j;have HN:=jK j;clear j;go_wp2
    go_quiet (fail)
    go_wp2;go_roundw
    case rel=>exact⟨k+1,by omega,by go_num,by rw[HQ.out,HN.out],Tr.below_drewN p _⟩
    case measure=>simp[intOf];omega
  ·obtain rfl:k=i:=by omega
   have c1:¬(k:Int)<(k:Int):=by omega
   go_wp2;go_ret;exact⟨rfl,p⟩
theorem CD (w:World) (A:Option Addr) (n c:Nat) (st:BQ) (h:Tree w w.heap.size A n st) (o:n<=maxLen) (nb:Tr.NB st) (i:Nat) (hi:i<n) :
  Calls prog 59 #[.slice A n c,.int .i64 (i:Int)] w fun e p=>e=.returned (.int .i64 (Tr.up st i))/\Below w.heap.size w p:=by
 have j:i<st.length:=by rw[h.1];exact hi
 have:=Za2 w A n c st h o i hi ⟨(nb.dp j).1,(nb.dp j).2.1⟩;rw[nb.par j]at this;exact this
def QQ (st:BQ) (i:Nat) (q:Int):Prop:=∃p:Nat,q=(p:Int)/\(i=p\/(i<p/\p<Tr.fin st i))
theorem Gg (w:World) (A:Option Addr) (n c:Nat) (st:BQ) (h:Tree w w.heap.size A n st) (hn:n<=maxLen) (nb:Tr.NB st) (i j:Nat) (hj:j<n) :
  Calls prog 167 #[.slice A n c,.int .i64 (i:Int),.int .i64 (j:Int)] w fun e w'=>e=.returned (.bool (decide (i<j/\j<Tr.fin st i)))/\Below w.heap.size w w':=by
 have hl:=h.1;have I:=fun q=>Tr.OE st q
 obtain⟨b,J⟩:∃b,decide (i<j/\j<Tr.fin st i)=b:=⟨_,rfl⟩;rw[J];go_enter func167,ntmps167;go_wp2_with fail;refine(CD w A n c st h hn nb j hj).mono ?_;rintro e w1⟨rfl,a7⟩;have a8:=Tr.Dk st (i:=i) (j:=j) (by rw[hl];exact hj);go_wp2
 go_loopw [7] (fun v wr=>∃q:Int,v=.int .i64 q/\-1<=q/\q<(n:Int)/\Below w.heap.size w wr/\(b=true↔QQ st i q)) (fun v _=>(intOf v+1).toNat)
 case atStart=>exact⟨Tr.up st j,rfl,(I j).2,by have:=(I j).1;omega,a7,by rw[<-J,aP];exact a8⟩
 case round=>
  obtain⟨q,rfl,b8,b9,hb,o⟩:=hrel;clear J;by_cases c0:q<0
  ·have b0:b=false:=by
    cases b with
    |false=>rfl
    |true=>
     obtain⟨p,hp,_⟩:=o.1 rfl;omega
   subst b0;have b1:¬(0:Int)<=q:=by omega
   go_wp2;go_ret;exact⟨rfl,hb⟩
  ·obtain⟨m,rfl⟩:∃m:Nat,q=(m:Int):=⟨q.toNat,by omega⟩;have b1:(0:Int)<=(m:Int):=by omega
   have R:m<n:=by omega
   by_cases he:m=i
   ·have b2:b=true:=o.2 ⟨m,rfl,.inl he.symm⟩;subst b2;subst he;go_wp2;go_ret;exact⟨rfl,hb⟩
   ·have c1:¬(m:Int)=(i:Int):=by omega
    have HB:=jK (show b=true↔QQ st i (Tr.up st m)by
     rw[o];constructor
     ·rintro⟨p,hp,U⟩;obtain rfl:m=p:=by omega
      rcases U with U|U
      ·exact absurd U.symm he
      ·exact(Tr.Dk st (by rw[hl];exact R)).1 U
     ·intro U;exact⟨m,rfl,.inr ((Tr.Dk st (by rw[hl];exact R)).2 U)⟩)
    clear o;have b3:=I m;go_wp2_with fail;refine(CD _ A n c st ((h.below hb).more hb.size) hn nb m R).mono ?_;rintro e w3⟨rfl,b4⟩;go_wp2;go_roundw
    case rel=>exact⟨Tr.up st m,rfl,b3.2,by omega,hb.trans (b4.mono hb.size),HB.out⟩
    case measure=>simp[intOf];omega
theorem Oq (w:World) (A:Option Addr) (n c:Nat) (st:BQ) (h:Tree w w.heap.size A n st) (hn:n<=maxLen) (nb:Tr.NB st) (i j:Nat) (hi:i<n) (hj:j<n) :
  Calls prog 171 #[.slice A n c,.int .i64 (i:Int),.int .i64 (j:Int)] w fun e w'=>e=.returned (.int .i64 (Tr.domain st i j))/\Below w.heap.size w w':=by
 obtain⟨ad,rfl,b8⟩:=h.addr hi;have HD:=jK (show Tr.Hf st j (i+2) i=Tr.domain st i j from rfl);generalize Tr.domain st i j=D at *;go_enter func171,ntmps171;go_wp2
 go_loopw [7] (fun v wr=>∃(k:Int) (f:Nat),v=.int .i64 k/\-1<=k/\k<=(i:Int)/\k+1<(f:Int)/\Below w.heap.size w wr/\Tr.Hf st j f k=D) (fun v _=>(intOf v+1).toNat)
 case atStart=>exact⟨i,i+2,rfl,by omega,by omega,by omega,aJ _ _,HD.out⟩
 case round=>
  obtain⟨k,f,rfl,c0,c1,c2,o,hu⟩:=hrel;obtain⟨f,rfl⟩:∃g,f=g+1:=⟨f-1,by omega⟩;rw[Tr.JK st j f k]at hu;by_cases a6:k<0
  ·rw[if_pos a6]at hu;obtain rfl:k=-1:=by omega
   subst hu;go_wp2;go_ret;exact⟨rfl,o⟩
  ·rw[if_neg a6]at hu;obtain⟨m,rfl⟩:∃m:Nat,k=(m:Int):=⟨k.toNat,by omega⟩;rw[bI]at hu;have R:m<n:=by omega
   have c3:(m:Int)<(n:Int):=by omega
   have c4:(0:Int)<=(m:Int):=by omega
   have I:=(h.below o).more o.size;have J:=(I.at_ R).1;have a7:=Tr.OE st m;by_cases U:Tr.kd st m=2/\(m:Int)<(j:Int)/\j<Tr.fin st m
   ·rw[if_pos U]at hu;obtain⟨hK,c5,b4⟩:=U;have HU:=jK hu;rw[hK]at J;clear hu hK;go_wp2_with fail;refine(Gg wr (some ad) n c st I hn nb m j hj).mono ?_;rintro e w4⟨rfl,p⟩;rw[aH ⟨by omega,b4⟩];go_wp2;go_ret;exact⟨by rw[<-HU.out];rfl,o.trans (p.mono o.size)⟩
   ·rw[if_neg U]at hu;have HU:=jK hu;obtain⟨K,hK⟩:∃K,Tr.kd st m=K:=⟨_,rfl⟩;rw[hK]at U J;clear hu hK;by_cases h2:K=2
    ·subst h2;have b0:¬(m<j/\j<Tr.fin st m):=fun h=>U ⟨rfl,by omega,h.2⟩
     clear U;go_wp2_with fail;refine(Gg wr (some ad) n c st I hn nb m j hj).mono ?_;rintro e w4⟨rfl,p⟩;rw[aF b0];clear b0;go_wp2_with fail;refine(CD w4 (some ad) n c st ((I.below p).more p.size) hn nb m R).mono ?_;rintro e w5⟨rfl,a1⟩;go_wp2;go_roundw
     case rel=>exact⟨Tr.up st m,f,rfl,a7.2,by omega,by omega,(o.trans (p.mono o.size)).trans (a1.mono (aV o.size p.size)),HU.out⟩
     case measure=>simp[intOf];omega
    ·clear U;go_wp2_with fail;refine(CD wr (some ad) n c st I hn nb m R).mono ?_;rintro e w5⟨rfl,a1⟩;go_wp2;go_roundw
     case rel=>exact⟨Tr.up st m,f,rfl,a7.2,by omega,by omega,o.trans (a1.mono o.size),HU.out⟩
     case measure=>simp[intOf];omega
def ints (l:List Nat):List Value:=l.map fun(k:Nat)=>.int .i64 (k:Int)
theorem MF:(prog.info? 3).map (fun i=>(i.zero,i.size,i.bytes))=some (some (.int .i64 0),1,8):=by kernel_rfl
namespace Tr
def kf (st:BQ) (i k:Nat):List Nat:=(List.range k).filter (fun m=>up st m=(i:Int))
theorem Zc6 (st:BQ) (i k:Nat) (h:up st k=(i:Int)):kf st i (k+1)=kf st i k++[k]:=by
 unfold kf;rw[iK,dL,gD,if_pos (by rw[h];simp)];rfl
theorem ZcC (st:BQ) (i k:Nat) (h:¬up st k=(i:Int)):kf st i (k+1)=kf st i k:=by
 unfold kf;rw[iK,dL,gD,if_neg (by simpa using h)];exact cP _
theorem Zcx (st:BQ) (i k:Nat):(kf st i k).length<=k:=by
 have:=eZ (fun m=>decide (up st m=(i:Int))) (List.range k);rw[fP]at this;exact this
end Tr
theorem Ly (w:World) (A:Option Addr) (n c:Nat) (st:BQ) (h:Tree w w.heap.size A n st) (hn:n<=1000000) (nb:Tr.NB st) (i:Nat) (hi:i<n) :
  Calls prog 60 #[.slice A n c,.int .i64 (i:Int)] w fun e w'=>∃v',e=.returned v'/\Below w.heap.size w w'/\w'.ownsRow w.heap.size 3 1 v' (Tr.kids st i).length (ints (Tr.kids st i)):=by
 obtain⟨i0,b1,b2,b3,b4⟩:=dC MF;have hl:=h.1;have j:=Tr.P4 st i (by rw[hl];exact hi);rw[hl]at j;have b5:=jK (j:Tr.kids st i=Tr.kf st i n);obtain⟨ad,rfl,e0⟩:=h.addr hi;clear j;go_enter func60,ntmps60;go_wp2
 go_loopw [6,5] (fun v o wr=>∃k:Nat,k<=n/\v=.int .i64 (k:Int)/\Below w.heap.size w wr/\wr.ownsRow w.heap.size 3 1 o (Tr.kf st i k).length (ints (Tr.kf st i k))) (fun v _ _=>n-(intOf v).toNat)
 case atStart=>exact⟨0,eN _,rfl,aJ _ _,(bL w w.heap.size 3 1)⟩
 case round=>
  obtain⟨k,hk,rfl,hb,J⟩:=hrel;have b6:=(h.below hb).more hb.size;by_cases R:k<n
  ·have b7:(k:Int)<(n:Int):=by omega
   have e1:k<st.length:=by rw[hl];exact R
   have b8:i<st.length:=by rw[hl];exact hi
   have e2:=Tr.Zcx st i k;go_wp2_with fail;refine(CD wr (some ad) n c st b6 (by unfold maxLen;omega) nb k R).mono ?_;rintro e w2⟨rfl,a7⟩;have I:=hb.trans (a7.mono hb.size);have p:=AG J a7;have b9:=(h.below I).at_ R;by_cases hu:Tr.up st k=(i:Int)
   ·have hd:0<Tr.dp st k:=by
     have h1:=((Tr.DW st k i).1 hu).2.1;have h2:=(nb.dp b8).1;omega
    rw[hu];have U:=jK (Tr.Zc6 st i k hu);have hs:=I.size;obtain⟨D,hD⟩:∃D,Tr.dp st k=D:=⟨_,rfl⟩;rw[hD]at b9 hd;clear hu hD;go_wp2_with (at_builtin;refine gR _ rfl _ _ 28 rfl w.heap.size 3 i0 _ 1 8 underlying28 b1 b2 b3 b4 rfl (by decide) _ _ _ rfl (p.alloc _) ⟨w2.heap.size,0,none⟩ 1 1 [.int .i64 (k:Int)] rfl rfl ?c1 ?c2 ?c3 ?c4 ?c5 ?_)
    case c1=>exact Dm _ _ rfl _ _
    case c2=>intro u hu;simp at hu;subst hu;rfl
    case c3=>unfold maxLen;omega
    case c4=>omega
    case c5=>simp;omega
    intro v' w1 a1 hg _;have c0:Below w.heap.size w w1:=(I.alloc hs _).grown hg (by simp;omega) (fun k hk=>(p.lt k hk).1);go_wp2;go_roundw
    case rel=>exact⟨k+1,by omega,by go_num,c0,by rw[U.out];simpa[ints]using a1⟩
    case measure=>simp[intOf];omega
   ·have U:=jK (Tr.ZcC st i k hu);generalize Tr.up st k=q at *;go_wp2;go_roundw
    case rel=>exact⟨k+1,by omega,by go_num,I,by rw[U.out];exact p⟩
    case measure=>simp[intOf];omega
  ·obtain rfl:k=n:=by omega
   have b7:¬(k:Int)<(k:Int):=by omega
   go_wp2;go_ret;exact⟨_,rfl,hb,by rw[b5.out];exact J⟩
end
section
open Go.RowKit Go.Shelf
attribute [local go_sem] Oper.semAt_some
namespace Tr
def EW (st:BQ) (i:Int):List Nat:=if hasB st i then kids st i.toNat else []
theorem Ld (st:BQ) (i:Int):(EW st i).length<=40:=by
 unfold EW;split
 ·rename_i h;obtain⟨k,rfl,j,o⟩:=Ek.1 h;have p:=J1 st j;have I:=Kl o;simp only[bI];omega
 ·simp
end Tr
theorem Tc {W U:World} {n₀ H B:Nat} {t e:TypeId} {size:Nat} {v R:Value} {k m:Nat} {xs ys:List Value} {tmp:Obj}
  (hv:Boxed W B t v) (hB:B<H) (hn:n₀<=B) (hH:H<=W.heap.size) (J:W.ownsRow H e size v k xs)
  (a1:U.ownsRow H e size R m ys) (I:(W.alloc tmp).grownBy U v.ownBlock) :
  Boxed U B t v/\Boxed (U.setCell ⟨B,0,none⟩ R) B t R/\(U.setCell ⟨B,0,none⟩ R).ownsRow H e size R m ys/\KeepsOthers W (U.setCell ⟨B,0,none⟩ R)/\Below n₀ W (U.setCell ⟨B,0,none⟩ R)/\
   ∀j,j<H->j≠B->(U.setCell ⟨B,0,none⟩ R).heap[j]?=W.heap[j]?:=by
 have b6:=hv.lt;have b0:some B≠v.ownBlock:=fun e=>by have:=(J.lt B e.symm).1;omega
 have a7:R.ownBlock≠some B:=fun e=>by have:=(a1.lt B e).1;omega
 have a8:Boxed U B t v:=(hv.alloc tmp).kept I b0;refine⟨a8,a8.set R,a1.kept (grownBy_setCell' U B R) (.inr a7),?_,?_,fun j hj b2=>?_⟩
 ·refine((KeepsOthers.alloc W tmp).trans (KeepsOthers.of_grownBy I fun j o ej hj=>?_)).trans (KeepsOthers.setCell _ _ _);rcases(J.alloc tmp).2 with⟨rfl,_⟩|⟨g,cap,b7,rfl,_,b3,_⟩
  ·simp[Value.ownBlock]at ej
  ·obtain rfl:g=j:=by simpa[Value.ownBlock]using ej
   rw[b3]at hj;cases hj;rfl
 ·exact(((aJ n₀ W).alloc (by omega) tmp).grown I (by simp;omega) fun j ej=>by have:=(J.lt j ej).1;omega).setCell (p:=⟨B,0,none⟩) hn R
 ·rw[cT U ⟨B,0,none⟩ R j b2,I.block j (by simp;omega) (fun ej=>by have:=(J.lt j ej.symm).1;omega)];exact fL W tmp j (by omega)
theorem Bk {w:World} {B p e size n:Nat} {v:Value} {xs:List Value} (h:w.ownsRow B e size v n xs) (I:p<=B):w.ownsRow p e size v n xs:=by
 refine⟨h.1,?_⟩;rcases h.2 with j|⟨g,cap,o,j,J,R⟩
 ·exact .inl j
 ·exact .inr ⟨g,cap,o,j,aV I J,R⟩
theorem IR (W:World) (c1 c2 c3:Array Value) (t1 t2 t3:TypeId) (j:World) (h:((W.alloc (.cells c1 t1)).alloc (.cells c2 t2)).alloc (.cells c3 t3)=j) :
  Bw j W.heap.size t1 c1/\Bw j (W.heap.size+1) t2 c2/\Bw j (W.heap.size+1+1) t3 c3/\j.heap.size=W.heap.size+3/\Below W.heap.size W j:=by
 subst h;have I:=Bw.new W t1 c1;have o:=Bw.new (W.alloc (.cells c1 t1)) t2 c2;have p:=Bw.new ((W.alloc (.cells c1 t1)).alloc (.cells c2 t2)) t3 c3;simp only[aW]at o p;refine⟨(I.alloc _).alloc _,o.alloc _,p,by simp only[aW],?_⟩;exact(((aJ _ W).alloc (aL _) _).alloc (by simp only[aW];omega) _).alloc (by simp only[aW];omega) _
theorem SR (A:Option Addr) (n c:Nat) (st:BQ) (w:World) (h:Tree w w.heap.size A n st) (hw:Tr.Wf st) (hn:n<=maxLen) (i:Int) :
  CallsIn Fence.wide 3 prog 183 #[.slice A n c,.int .i64 i] w fun e w'=>∃v,e=.returned v/\Below w.heap.size w w'/\w'.ownsRow w.heap.size 3 1 v (Tr.EW st i).length (ints (Tr.EW st i)):=by
 obtain⟨i0,c2,c3,c4,c5⟩:=dC MF;refine callsIn_of_wp_marks func183 rfl trivial ?_ rfl;simp only[ntmps183,jA,bP,dX,Nat.reduceAdd,Nat.reduceSub,iF,iE,jB,iL,eH,gE]
 gi_wp2
 refine⟨trivial,(dZ.2 (IM w A n c st h hw hn i)).mono ?_⟩;rintro e p⟨rfl,a1⟩;obtain⟨b,hh⟩:∃b,Tr.hasB st i=b:=⟨_,rfl⟩;rw[hh];cases b with
 |false=>
  have HP:=jK (show Tr.EW st i=[]by unfold Tr.EW;rw[hh];rfl);clear hh
  gi_wp2
  refine⟨_,results_tmp rfl _ _ _,_,rfl,a1,?_⟩;rw[HP.out];exact bL _ _ _ _
 |true=>
  obtain⟨k,rfl,hk,hr⟩:=Ek.1 hh;have a8:=Tr.Kl hr;have HP:=jK (show Tr.EW st (k:Int)=Tr.kids st k by unfold Tr.EW;rw[hh];rfl);have c8:=Tr.J1 st hk;rw[h.1]at hk a8 c8;clear hh hr hn
  gi_wp2
  refine⟨trivial,(VT _ A n c k _).mono ?_⟩;rintro e w2⟨rfl,c9⟩
  gi_wp2
  clear c9;generalize b0:((p.alloc (.cells #[.slice none 0 0] 28)).alloc (.cells #[.slice A n c] 24)).alloc (.cells #[.int .i64 (k:Int)] 3)=I;obtain⟨f1,f2,f3,h9,fB⟩:=IR _ _ _ _ _ _ _ _ b0;clear b0;have b1:=a1.size;have J:Below w.heap.size w I:=a1.trans (fB.mono b1);have e0:=J.size;refine wpIn_rangeFunc_ownF rfl (by omega) (gf:=249) (lb:=#[.pointer (some ⟨p.heap.size+1+1,0,none⟩),.pointer (some ⟨p.heap.size+1,0,none⟩)]) rfl trivial (enters_of func249 (by kernel_rfl) rfl)
   (N0 2 (by omega) (p.heap.size+1+1) (p.heap.size+1) w.heap.size A n c st (aV (by omega) (show 40<=maxLen by unfold maxLen;omega)) k hk I J.size (f3.cell 0) (f2.cell 0) (h.below J))
   ?hKt ?hKb (aJ _ _) (fun _=>rfl)
   (fun(pre:List {x:Nat // x<n}) W'=>(∃v,Boxed W' p.heap.size 28 v/\W'.ownsRow I.heap.size 3 1 v (pre.map Subtype.val).length (ints (pre.map Subtype.val))/\True)/\Below w.heap.size w W'/\Below I.heap.size I I/\I.heap.size<=W'.heap.size)
   (fun _ _ _=>False)
   ?hI (fun _ _ _ _ _ hs _ _=>hs)
   ⟨⟨_,f1,bL _ _ _ _,trivial⟩,J,aJ _ _,aL _⟩
   (fun x=>{tmps:=#[.slice A n c,.int .i64 (k:Int),undef,undef,.slice none 0 0,.pointer (some ⟨p.heap.size,0,none⟩),.int .i64 (x.1:Int),.slice A n c,.int .i64 (k:Int),.bool true,.bool false,.slice A n c,.int .i64 (k:Int),.func (.func 249) #[] #[.pointer (some ⟨p.heap.size+1+1,0,none⟩),.pointer (some ⟨p.heap.size+1,0,none⟩)],.int .i64 (x.1:Int),undef,undef,undef,undef,undef],defers:=[]}) ?assign ?body ?done ?stop
  case hKt=>
   rintro A B C⟨h1,h2,h3⟩⟨k1,k2,k3⟩;exact⟨h1.trans k1,k2.trans h2,k3.trans h3⟩
  case hKb=>
   intro X l o o' hl ho hc e4;exact⟨belowK_b (w:=I) J.size X l o o' hl ho hc e4,World.putObj_heap_other (by omega),World.putObj_heap_other (by omega)⟩
  case hI=>
   rintro s X Y row⟨hs,hX,e5,e6⟩hg hr;exact⟨holdsRow_own I.heap.size p.heap.size 28 3 1 (fun(pre:List {x:Nat // x<n})=>(pre.map Subtype.val).length) (fun pre=>ints (pre.map Subtype.val)) (fun _ _=>True) s X Y row hs hg (fun r e=>(hr r e).2),hX.grown hg (by omega) (fun r e=>by have:=(hr r e).1;omega),e5,aV e6 hg.size⟩
  case assign=>
   intro l x X K hK
   gi_wp2
   exact hK
  case body=>
   rintro l pre x X⟨⟨v,hv,j,-⟩,hB,-,b3⟩hlen;have hc:=hv.cell;have j7:pre.length<40:=by omega
   rw[bG]at j;have b4:ints ((pre++[x]).map Subtype.val)=ints (pre.map Subtype.val)++[.int .i64 (x.1:Int)]:=by simp[ints]
   have e9:=jK b4;clear b4
   gi_wp2_with (gi_at_builtin;refine wpListIn_append_own _ rfl _ _ 28 rfl I.heap.size 3 i0 (.int .i64 0) 1 8 underlying28 c2 c3 c4 c5 rfl (by decide) _ _ _ rfl (j.alloc _) ⟨X.heap.size,0,none⟩ 1 1 [.int .i64 (x.1:Int)] rfl rfl (cell_one_new _ _ _) (by simp[Value.oneCell']) (by unfold maxLen;omega) (by omega) (by simp;omega) ?_;intro v' w5 R U _;obtain⟨g',b5,rfl⟩:=ownsRow_succ R;obtain⟨b6,h0,h4,h5,b7,b8⟩:=Tc (n₀:=w.heap.size) hv (by omega) b1 b3 j R U;have k0:=b6.cell;have k4:=b6.frozen)
   have b9:I.heap.size<=(w5.setCell ⟨p.heap.size,0,none⟩ (.slice (some ⟨g',0,none⟩) (pre.length+1) b5)).heap.size:=by
    have h1:=U.size;rw[eK];rw[aW]at h1;omega
   exact⟨h5,⟨b7,b8 _ (by omega) (by omega),b8 _ (by omega) (by omega)⟩,⟨_,h0,by rw[e9.out];simpa using h4,trivial⟩,hB.trans b7,aJ _ _,b9⟩
  case done=>
   rintro D ys X hD h6⟨⟨v,hv,j,-⟩,hB,-,b3⟩hK;have hc:=hv.cell;rw[h6]at j
   gi_wp2
   refine⟨by simp,.inl ⟨_,_,rfl,run_takeDeferred hK,?_⟩⟩;refine⟨_,results_tmp rfl _ _ _,v,rfl,hB.trans (belowK_b (w:=w) (aL _) X D _ _ (by omega) hK rfl rfl),?_⟩;rw[HP.out];exact Bk (ownsRow_putObj j _ hK rfl) e0
  case stop=>
   rintro D c pre X _ _ h _;exact h.elim
theorem Ku (w:World) (A:Option Addr) (n c:Nat) (st:BQ) (h:Tree w w.heap.size A n st) (hw:Tr.Wf st) (o:n<=maxLen) (i:Int) :
  Calls prog 183 #[.slice A n c,.int .i64 i] w fun e j=>∃v,e=.returned v/\Below w.heap.size w j/\j.ownsRow w.heap.size 3 1 v (Tr.EW st i).length (ints (Tr.EW st i)):=
 (dZ (n:=3)).1 (SR A n c st w h hw o i)
end
section
open Go.RowKit
namespace Tr
def SG (st:BQ) (i:Nat):Prop:=(∀p:Nat,up st i=(p:Int)->kd st p=2\/(kd st p=3/\kd st i<=3))/\((kd st i=2\/kd st i=3)->BN st (kids st i)≠0)
theorem O0 (k:Int):E8 k=true↔k=5\/k=6:=by unfold E8;simp
theorem WK (st:BQ) (nb:NB st) (h0:0<st.length) (U:st.length<=40):right st↔D7 st st.length<=4/\∀i,i<st.length->SG st i:=by
 constructor
 ·rintro⟨⟨_,hr,_⟩,j⟩;refine⟨hr,fun i hi=>⟨fun p hp=>?_,fun hk=>?_⟩⟩
  ·have b1:=((DW st i p).1 hp).1;have J:p<st.length:=by omega
   have hm:=(B6 st J).2 ⟨hi,hp⟩;obtain⟨h1,R⟩:=j p J;by_cases o:kd st p=2\/kd st p=3
   ·rcases o with o|o
    ·exact .inl o
    ·obtain⟨h3,h4⟩:=h1 i hm o;refine .inr ⟨o,?_⟩;have h5:=nb.dp hi;have h6:¬(kd st i=5\/kd st i=6):=fun h=>by rw[(O0 _).2 h]at h3;cases h3
     omega
   ·rw[if_neg o]at R;rw[aZ R]at hm;cases hm
  ·have R:=(j i hi).2;rw[if_pos hk]at R;exact R
 ·rintro⟨hr,j⟩;refine⟨⟨nb,hr,h0,U⟩,fun i hi=>⟨fun k hk=>?_,?_⟩⟩
  ·obtain⟨I,hu⟩:=(B6 st hi).1 hk;intro h3;have h4:=(j k I).1 i hu;refine⟨?_,by omega⟩;cases hp:E8 (kd st k)with
   |false=>rfl
   |true=>have:=(O0 _).1 hp;omega
  ·by_cases o:kd st i=2\/kd st i=3
   ·rw[if_pos o];exact(j i hi).2 o
   ·rw[if_neg o];cases a8:kids st i with
    |nil=>rfl
    |cons k l=>
     obtain⟨I,hu⟩:=(B6 st hi).1 (show k∈kids st i by rw[a8];simp);have:=(j k I).1 i hu;omega
end Tr
end
section
namespace Tr
def seen (st:BQ) (i:Nat):List Nat:=(List.range i).flatMap (kids st)
def Over (st:BQ) (d:Nat) (k:Int):Prop:=∃m:Nat,k=(m:Int)/\(d=m\/(d<m/\m<fin st d))
theorem Za1 (st:BQ) {d m:Nat} (hm:m<st.length) (h:Over st d (up st m)):d<m/\m<fin st d:=by
 obtain⟨p,j,o⟩:=h;exact(Dk st hm).2 ⟨p,j,o⟩
theorem RE (st:BQ) (j:Nat):∀(f:Nat) (k:Int),k+1<(f:Int)->k<(st.length:Int)->Hf st j f k=-1\/∃d:Nat,Hf st j f k=(d:Int)/\Over st d k/\kd st d=2/\d<j/\j<fin st d
 | 0,k,J,_=>by unfold Hf;exact .inl rfl
 |f+1,k,J,hk=>by
  rw[JK];by_cases I:k<0
  ·rw[if_pos I];exact .inl rfl
  ·rw[if_neg I];obtain⟨m,rfl⟩:∃m:Nat,k=(m:Int):=⟨k.toNat,by omega⟩;rw[bI];by_cases o:kd st m=2/\(m:Int)<j/\j<fin st m
   ·rw[if_pos o];exact .inr ⟨m,rfl,⟨m,rfl,.inl rfl⟩,o.1,by omega,o.2.2⟩
   ·rw[if_neg o];have hu:=OE st m;rcases RE st j f (up st m) (by omega) (by omega)with p|⟨d,p,R,U⟩
    ·exact .inl p
    ·exact .inr ⟨d,p,⟨m,rfl,.inr (Za1 st (by omega) R)⟩,U⟩
theorem RJ (st:BQ) {r i:Nat} (o:r<i) (j:i<fin st r) (hi:i<st.length):fin st i<=fin st r:=by
 by_cases h:fin st i<=fin st r
 ·exact h
 ·have p:=Ia st hi;have:=Kg st r (by omega);have:=Ik st i (fin st r) j (by omega);have:=Ik st r i o j;omega
def sub (st:BQ) (r:Nat):BQ:=(st.drop r).take (fin st r-r)
section
variable {st:BQ} {r:Nat}
end
end Tr
end
section
open Go.RowKit
theorem P0 (w:World) (A:Option Addr) (n c:Nat) (st:BQ) (h:Tree w w.heap.size A n st) (_hw:Tr.Wf st) :
  Calls prog 70 #[.slice A n c] w fun e w'=>e=.returned (.bool (decide (Tr.right st)))/\Below w.heap.size w w':=by
 have hl:=h.1;obtain⟨b,j8⟩:∃b,decide (Tr.right st)=b:=⟨_,rfl⟩;rw[j8];have HB:=jK j8;clear j8;have a8:¬Tr.right st->b=false:=fun h=>by rw[<-HB.out];exact aF h
 go_enter func70,ntmps70;by_cases U:n<1
 ·have J:=a8 fun hr=>by have:=hr.1.2.2.1;omega
  subst J;have l4:(n:Int)<1:=by omega
  clear a8 U;go_wp2;go_ret;exact⟨rfl,aJ _ _⟩
 by_cases h2:40<n
 ·have J:=a8 fun hr=>by have:=hr.1.2.2.2;omega
  subst J;have l4:¬(n:Int)<1:=by omega
  have p1:(40:Int)<(n:Int):=by omega
  clear a8 U h2;go_wp2;go_ret;exact⟨rfl,aJ _ _⟩
 obtain⟨ad,rfl,w8⟩:=h.addr (i:=0) (by omega);have j2:=(h.at_ (i:=0) (by omega)).2;rw[show ad.add (0*6)=ad from by unfold Addr.add;simp]at j2;have l4:¬(n:Int)<1:=by omega
 have p1:¬(40:Int)<(n:Int):=by omega
 have w9:0<n:=by omega
 have u0:(0:Int)<(n:Int):=by omega
 by_cases h3:Tr.dp st 0=0
 ·have HD:=jK h3;rw[h3]at j2;clear h3;go_wp2
  go_loopw [4,3] (fun v r wr=>∃i:Nat,i<=n/\v=.int .i64 (i:Int)/\r=.int .i64 (Tr.D7 st i:Int)/\Below w.heap.size w wr/\(∀j,j<i->¬Tr.bad st j)) (fun v _ _=>n-(intOf v).toNat)
  case atStart=>exact⟨0,by omega,rfl,rfl,aJ _ _,fun j hj=>absurd hj (by omega)⟩
  case round=>
   obtain⟨i,hi,rfl,rfl,hb,I⟩:=hrel;have ht:=h.below hb;have x1:=Tr.PE st i;by_cases i1:i<n
   ·obtain⟨p3,p4⟩:=ht.at_ i1;obtain⟨s0,s3,a4,n4,c4,a5,n5,c5,x2,x3,x4,x5⟩:=ht.all i1;have p5:(i:Int)<(n:Int):=by omega
    have l5:∀o,Below w.heap.size w (wr.alloc o):=fun o=>hb.alloc hb.size o
    have j9:i=0\/(0<i/\0<=Tr.dp st (i-1)/\Tr.dp st (i-1)<=5/\∀o,(wr.alloc o).cell? {block:=(ad.add ((i-1)*6)).block,off:=(ad.add ((i-1)*6)).off+2}=some (.int .i64 (Tr.dp st (i-1)))):=by
     rcases gM i with h0|h0
     ·exact .inl h0
     ·refine .inr ⟨h0,?_,?_,fun o=>(ht.alloc hb.size o|>.at_ (show i-1<n by omega)).2⟩
      ·exact Int.not_lt.1 fun h=>I (i-1) (by omega) (.inl h)
      ·exact Int.not_lt.1 fun h=>I (i-1) (by omega) (.inr (.inr (.inl (by omega))))
    have j3:i=0->Tr.dp st i=0:=fun h=>by rw[h];exact HD.out
    have e7:Tr.bad st i↔(Tr.kd st i<1\/6<Tr.kd st i\/Tr.dp st i<0\/5<Tr.dp st i\/(0<i/\Tr.dp st (i-1)+1<Tr.dp st i))\/(Tr.dp st i=0/\Tr.kd st i≠2):=by
     unfold Tr.bad Tr.ahead;rcases j9 with h0|⟨h0,k0,p6,_⟩
     ·have:=j3 h0;rw[if_pos h0];omega
     ·rw[if_neg (by omega)];omega
    have l6:Tr.dp st i=0->Tr.D7 st (i+1)=Tr.D7 st i+1:=fun h=>by rw[Tr.D7,if_pos h]
    have c7:Tr.dp st i≠0->Tr.D7 st (i+1)=Tr.D7 st i:=fun h=>by rw[Tr.D7,if_neg h,dD]
    have p7:=jK l6;have p8:=jK c7;have c0:=jK e7;have c8:=jK a8;have b3:=jK I;have x6:IntKind.i64.wrap ((Tr.D7 st i:Nat)+1:Int)=((Tr.D7 st i:Nat)+1:Int):=cM _ (by omega);clear l6 c7 e7 a8 I j3;generalize Tr.D7 st i=r at *;obtain⟨K,hK⟩:∃K,Tr.kd st i=K:=⟨_,rfl⟩;obtain⟨D,hD⟩:∃D,Tr.dp st i=D:=⟨_,rfl⟩;obtain⟨pa,hP⟩:∃pa,Tr.dp st (i-1)=pa:=⟨_,rfl⟩;rw[hK]at p3;rw[hD]at p4;rw[hP]at j9;have HK:=jK hK;have e0:=jK hD;have HP:=jK hP;clear hK hD hP;go_wp2_with fail;go_upto_region 8 with fail
    go_cut [69]from 26 to 82 (fun v wx=>∃bb:Bool,v=.bool bb/\(bb=true↔(K<1\/6<K\/D<0\/5<D\/(0<i/\pa+1<D)))/\∃q,wx=(wr.alloc (.cells #[.string s0,.int .i64 K,.int .i64 D,.string s3,.slice a4 n4 c4,.slice a5 n5 c5] 54)).drewN q)
    case first=>
     by_cases U:K<1
     ·go_quiet (fail)
      go_wp2;go_meet
      case rel=>exact⟨true,rfl,⟨fun _=>.inl U,fun _=>rfl⟩,nq,rfl⟩
     have x7:1<=K:=by omega
     by_cases h2:6<K
     ·go_quiet (fail)
      go_wp2;go_meet
      case rel=>exact⟨true,rfl,⟨fun _=>.inr (.inl h2),fun _=>rfl⟩,nq,rfl⟩
     have x8:K<=6:=by omega
     by_cases h3:D<0
     ·go_quiet (fail)
      go_wp2;go_meet
      case rel=>exact⟨true,rfl,⟨fun _=>.inr (.inr (.inl h3)),fun _=>rfl⟩,nq,rfl⟩
     have x9:0<=D:=by omega
     by_cases h4:5<D
     ·go_quiet (fail)
      go_wp2;go_meet
      case rel=>exact⟨true,rfl,⟨fun _=>.inr (.inr (.inr (.inl h4))),fun _=>rfl⟩,nq,rfl⟩
     have y0:D<=5:=by omega
     rcases j9 with h0|⟨h0,k0,p6,y1⟩
     ·have k1:¬(0:Int)<(i:Int):=by omega
      have y2:decide (0<i)=false:=aF (by omega);have hn:¬(K<1\/6<K\/D<0\/5<D\/(0<i/\pa+1<D)):=by omega
      have HN:=jK hn;clear h0 hn
      go_quiet (fail)
      go_wp2;go_meet
      case rel=>exact⟨false,rfl,⟨fun h=>(by cases h),fun h=>absurd h HN.out⟩,nq,rfl⟩
     ·have u5:0<(i:Int):=by omega
      have i6:i-1<n:=by omega
      have u6:(i:Int)-1<(n:Int):=by omega
      have y3:=cM ((i:Int)-1) (by omega);have y4:=cM (pa+1) (by omega);have y5:((i:Int)-1).toNat=i-1:=by omega
      have u7:(0:Int)<=(i:Int)-1:=by omega
      by_cases h5:pa+1<D
      ·go_quiet (fail)
       go_wp2;go_meet
       case rel=>exact⟨true,rfl,⟨fun _=>.inr (.inr (.inr (.inr ⟨h0,h5⟩))),fun _=>rfl⟩,nq,rfl⟩
      ·have y7:D<=pa+1:=by omega
       have hn:¬(K<1\/6<K\/D<0\/5<D\/(0<i/\pa+1<D)):=by omega
       have HN:=jK hn;clear hn
       go_quiet (fail)
       go_wp2;go_meet
       case rel=>exact⟨false,rfl,⟨fun h=>(by cases h),fun h=>absurd h HN.out⟩,nq,rfl⟩
    case rest=>
     obtain⟨bb,hv,b4,q,rfl⟩:=hcut;subst hv;have c1:=Tr.below_drewN (l5 (.cells #[.string s0,.int .i64 K,.int .i64 D,.string s3,.slice a4 n4 c4,.slice a5 n5 c5] 54)) q;have a6:=jK b4;clear b4;cases bb with
     |true=>
      have j5:=a6.out.1 rfl;have J:=c8.out fun hr=>hr.1.1 i (by rw[hl];exact i1) (c0.out.2 (.inl (by rw[HK.out,e0.out,HP.out];exact j5)))
      subst J;clear j5;go_wp2;go_ret;exact⟨rfl,c1⟩
     |false=>
      by_cases k2:D=0
      ·subst k2;by_cases i7:K=2
       ·subst i7;have e8:¬Tr.bad st i:=fun h=>by
         have U:=c0.out.1 h;rw[HK.out,e0.out,HP.out]at U;rcases U with U|U
         ·have:=a6.out.2 U;cases this
         ·exact U.2 rfl
        have HR:=jK (p7.out e0.out);have R:=jK (show ∀j,j<i+1->¬Tr.bad st j from fun j hj=>by
         by_cases h:j=i
         ·subst h;exact e8
         ·exact b3.out j (by omega))
        clear e8;go_wp2;go_roundw
        case rel=>exact⟨i+1,by omega,by go_num,by rw[HR.out];go_num,c1,R.out⟩
        case measure=>simp[intOf];omega
       ·have J:=c8.out fun hr=>hr.1.1 i (by rw[hl];exact i1) (c0.out.2 (.inr ⟨e0.out,by rw[HK.out];exact i7⟩))
        subst J;go_wp2;go_ret;exact⟨rfl,c1⟩
      ·have e8:¬Tr.bad st i:=fun h=>by
        have U:=c0.out.1 h;rw[HK.out,e0.out,HP.out]at U;rcases U with U|U
        ·have:=a6.out.2 U;cases this
        ·exact k2 U.1
       have HR:=jK (p8.out (by rw[e0.out];exact k2));have R:=jK (show ∀j,j<i+1->¬Tr.bad st j from fun j hj=>by
        by_cases h:j=i
        ·subst h;exact e8
        ·exact b3.out j (by omega))
       clear e8;go_wp2;go_roundw
       case rel=>exact⟨i+1,by omega,by go_num,by rw[HR.out],c1,R.out⟩
       case measure=>simp[intOf];omega
   ·obtain rfl:i=n:=by omega
    have nb:Tr.NB st:=fun j hj=>I j (by rw[hl]at hj;exact hj)
    have k3:=Tr.WK st nb (by omega) (by omega);rw[hl]at k3;have p5:¬(i:Int)<(i:Int):=by omega
    have j0:=jK k3;have c8:=jK a8;clear I k3 a8;go_wp2
    go_loopw [6] (fun v wr=>∃m:Nat,m<=i/\v=.int .i64 (m:Int)/\Below w.heap.size w wr/\(∀j,j<m->Tr.SG st j)) (fun v _=>i-(intOf v).toNat)
    case atStart=>exact⟨0,by omega,rfl,hb,fun j hj=>absurd hj (by omega)⟩
    case round=>
     obtain⟨m,hm,rfl,hb,I⟩:=hrel;have q7:=(h.below hb).more hb.size;by_cases b8:m<i
     ·have q8:(m:Int)<(i:Int):=by omega
      have l8:m<st.length:=by rw[hl];exact b8
      have b3:=jK I;clear I;go_upto_region 18 with(go_at_call 59;refine(CD wr (some ad) i c st q7 (by unfold maxLen;omega) nb m b8).mono ?_;rintro e w2⟨rfl,q9⟩)
      obtain⟨q,hq⟩:∃q,Tr.up st m=q:=⟨_,rfl⟩;rw[hq];have HQ:=jK hq;clear hq
      go_cut [6,117]from 83 to 155 (fun v v2 wx=>v=.int .i64 (m:Int)/\Below w.heap.size w wx/\∃bb:Bool,v2=.bool bb/\(bb=false↔∀p:Nat,Tr.up st m=(p:Int)->Tr.kd st p=2\/(Tr.kd st p=3/\Tr.kd st m<=3)))
      case first=>
       have a7:=hb.trans (q9.mono hb.size);have k4:=(h.below a7).more a7.size;have k5:=(k4.at_ b8).1;obtain⟨Km,b9⟩:∃x,Tr.kd st m=x:=⟨_,rfl⟩;rw[b9]at k5;have h6:=jK b9;clear b9;by_cases b0:∀p:Nat,Tr.up st m=(p:Int)->Tr.kd st p=2\/(Tr.kd st p=3/\Tr.kd st m<=3)
       ·have r2:q=-1\/∃p:Nat,q=(p:Int)/\p<i/\(Tr.kd st p=2\/(Tr.kd st p=3/\Km<=3)):=by
         rw[<-HQ.out];rcases Tr.Ep st m with⟨U,_⟩|⟨p,U,h2,_⟩
         ·exact .inl U
         ·refine .inr ⟨p,U,by omega,?_⟩;have:=b0 p U;rw[h6.out]at this;exact this
        have b1:=jK b0;clear b0;rcases r2 with rfl|⟨p,rfl,i6,h3⟩
        ·go_wp2;go_meet
         case rel=>exact⟨rfl,a7,false,rfl,⟨fun _=>b1.out,fun _=>rfl⟩⟩
        ·have r3:(p:Int)<(i:Int):=by omega
         have k0:(0:Int)<=(p:Int):=by omega
         have k6:=(k4.at_ i6).1;rcases h3 with h3|⟨h3,h4⟩
         ·rw[h3]at k6;clear h3;go_wp2;go_meet
          case rel=>exact⟨rfl,a7,false,rfl,⟨fun _=>b1.out,fun _=>rfl⟩⟩
         ·rw[h3]at k6;have r4:decide (3<Km)=false:=aF (by omega);clear h3;go_wp2;go_meet
          case rel=>exact⟨rfl,a7,false,by first|rfl|rw[r4],⟨fun _=>b1.out,fun _=>rfl⟩⟩
       ·have hex:∃p:Nat,q=(p:Int)/\Tr.kd st p≠2/\(Tr.kd st p≠3\/3<Km):=by
         refine bU fun k7=>b0 fun p hp=>?_
         refine bU fun l9=>k7 ⟨p,HQ.out.symm.trans hp,?_⟩
         rw[h6.out]at l9;omega
        obtain⟨p,hp,n0,n1⟩:=hex;have y8:=((Tr.DW st m p).1 (HQ.out.trans hp)).1;have i6:p<i:=by omega
        have r3:(p:Int)<(i:Int):=by omega
        have k0:(0:Int)<=(p:Int):=by omega
        have k6:=(k4.at_ i6).1;subst hp;have b1:=jK b0;clear b0;generalize Tr.kd st p=Kp at *;by_cases h3:Kp=3
        ·have h4:3<Km:=by omega
         subst h3;clear n1 n0;go_wp2;go_meet
         case rel=>exact⟨rfl,a7,true,rfl,⟨fun h=>(by cases h),fun h=>absurd h b1.out⟩⟩
        ·have n2:(Kp != 2)=true:=bne_iff_ne.2 n0;have u9:(Kp != 3)=true:=bne_iff_ne.2 h3;clear n1;go_wp2;go_meet
         case rel=>exact⟨rfl,a7,true,by first|rfl|rw[n2],⟨fun h=>(by cases h),fun h=>absurd h b1.out⟩⟩
      case rest=>
       obtain⟨hv,e2,bb,r6,b4⟩:=hcut;subst hv r6;have a6:=jK b4;clear b4;cases bb with
       |true=>
        have J:=c8.out fun hr=>by
         have:=a6.out.2 ((j0.out.1 hr).2 m b8).1;cases this
        subst J;go_wp2;go_ret;exact⟨rfl,e2⟩
       |false=>
       have b0:=a6.out.1 rfl;have b1:=jK b0;clear b0 a6;have n3:=(h.below e2).more e2.size;have k5:=(n3.at_ b8).1;obtain⟨Km,b9⟩:∃x,Tr.kd st m=x:=⟨_,rfl⟩;rw[b9]at k5;have h6:=jK b9;clear b9;by_cases hK:Km=2\/Km=3
       ·have b5:=fun k (hk:k∈Tr.kids st m)=>((Tr.B6 st l8).1 hk).1
        have k8:=Tr.J1 st l8;rw[hl]at k8 b5;have n9:=jK (show Tr.SG st m↔Tr.BN st (Tr.kids st m)≠0 from⟨fun hh=>hh.2 (by rw[h6.out];exact hK),fun hh=>⟨b1.out,fun _=>hh⟩⟩);have r7:=jK b5;clear b5;rcases hK with hK|hK
        all_goals
         subst hK;go_wp2_with fail;refine(Ly _ (some ad) i c st n3 (by omega) nb m b8).mono ?_;rintro e w3⟨v3,rfl,r8,h7⟩;obtain⟨A3,c3,rfl⟩:=Al h7;have c7:=Reads.BL h7;have c2:=e2.trans (r8.mono e2.size);clear h7;obtain⟨ks,b5⟩:∃ks,Tr.kids st m=ks:=⟨_,rfl⟩;rw[b5]at c7 k8;rw[b5];have j6:=jK b5;clear b5;obtain⟨nk,j1⟩:∃nk,ks.length=nk:=⟨_,rfl⟩;rw[j1]at c7 k8;rw[j1];have o1:=jK j1;clear j1;go_wp2
         go_loopw [10,8] (fun v r wr=>∃(k:Nat) (bb:Bool),k<=nk/\v=.int .i64 (k:Int)/\r=.bool bb/\Below w3.heap.size w3 wr/\(bb=true↔Tr.BN st (ks.take k)≠0)) (fun v _ _=>nk-(intOf v).toNat)
         case atStart=>exact⟨0,false,eN _,rfl,rfl,aJ _ _,by simp[Tr.BN]⟩
         case round=>
          obtain⟨k,bb,hk,rfl,rfl,h8,b4⟩:=hrel;have a6:=jK b4;clear b4;by_cases o2:k<nk
          ·have r9:(k:Int)<(nk:Int):=by omega
           have l0:k<ks.length:=by rw[o1.out];exact o2
           have e4:=Tr.NG st (ks.take k) ks[k];rw[<-bM l0]at e4;cases bb with
           |true=>
            have k1:Tr.BN st (ks.take (k+1))≠0:=by
             have:=a6.out.1 rfl;rw[e4];omega
            have s4:=jK k1;clear k1 e4;go_wp2;go_roundw
            case rel=>exact⟨k+1,true,by omega,by go_num,rfl,h8,⟨fun _=>s4.out,fun _=>rfl⟩⟩
            case measure=>simp[intOf];omega
           |false=>
            have hz:Tr.BN st (ks.take k)=0:=bU fun k7=>by have:=a6.out.2 k7;cases this
            rw[hz,bO]at e4;have l1:=jK e4;obtain⟨a1,u1,rfl,y9,o3,s5⟩:=(c7.below h8).at_ o2;have o4:ks[k]<i:=r7.out ks[k] (by rw[j6.out];exact bK l0);have e1:u1=.int .i64 (ks[k]:Int):=by simpa[ints,l0]using o3.symm
            subst e1;have o5:=(((h.below (c2.trans (h8.mono c2.size)))).at_ o4).1;clear hz e4 o3;obtain⟨x,hx⟩:∃x,ks[k]=x:=⟨_,rfl⟩;rw[hx]at s5 o4 o5 l1;clear hx;obtain⟨Kx,o6⟩:∃y,Tr.kd st x=y:=⟨_,rfl⟩;rw[o6]at o5 l1;clear o6;have z6:(x:Int)<(i:Int):=by omega
            go_wp2_with fail;refine(EV _ Kx).mono ?_;rintro e w5⟨rfl,rfl⟩;go_wp2;go_roundw
            case rel=>exact⟨k+1,!Tr.E8 Kx,by omega,by go_num,rfl,h8,by rw[l1.out];cases Tr.E8 Kx<;>simp⟩
            case measure=>simp[intOf];omega
          ·obtain rfl:k=nk:=by omega
           have r9:¬(k:Int)<(k:Int):=by omega
           have c6:bb=true↔Tr.BN st (Tr.kids st m)≠0:=by
            rw[a6.out,j6.out,gP (by rw[o1.out];omega)]
           have j7:=c2.trans (h8.mono c2.size);cases bb with
           |true=>
            have R:=jK (show ∀j,j<m+1->Tr.SG st j from fun j hj=>by
             by_cases e:j=m
             ·subst e;exact n9.out.2 (c6.1 rfl)
             ·exact b3.out j (by omega))
            clear c6;go_wp2;go_roundw
            case rel=>exact⟨m+1,by omega,by go_num,j7,R.out⟩
            case measure=>simp[intOf];omega
           |false=>
            have J:=c8.out fun hr=>by
             have:=c6.2 (n9.out.1 ((j0.out.1 hr).2 m b8));cases this
            subst J;clear c6;go_wp2;go_ret;exact⟨rfl,j7⟩
       ·have i7:¬Km=2:=fun e=>hK (.inl e)
        have s7:¬Km=3:=fun e=>hK (.inr e)
        have w4:(Km != 2)=true:=bne_iff_ne.2 i7;have w6:(Km != 3)=true:=bne_iff_ne.2 s7;have R:=jK (show ∀j,j<m+1->Tr.SG st j from fun j hj=>by
         by_cases e:j=m
         ·subst e;exact⟨b1.out,fun hh=>absurd (by rw[<-h6.out];exact hh) hK⟩
         ·exact b3.out j (by omega))
        clear hK;go_wp2;go_roundw
        case rel=>exact⟨m+1,by omega,by go_num,e2,R.out⟩
        case measure=>simp[intOf];omega
     ·obtain rfl:m=i:=by omega
      have q8:¬(m:Int)<(m:Int):=by omega
      by_cases o7:Tr.D7 st m<=4
      ·have s8:b=true:=by rw[<-HB.out];exact aH (j0.out.2 ⟨o7,I⟩)
       subst s8;have o8:(Tr.D7 st m:Int)<=4:=by omega
       generalize Tr.D7 st m=r at *;clear I;go_wp2;go_ret;exact⟨rfl,hb⟩
      ·have J:=c8.out fun hr=>o7 (j0.out.1 hr).1
       subst J;have o8:¬(Tr.D7 st m:Int)<=4:=by omega
       generalize Tr.D7 st m=r at *;clear I;go_wp2;go_ret;exact⟨rfl,hb⟩
 ·have J:=a8 fun hr=>h3 (Tr.Xe hr)
  subst J;generalize Tr.dp st 0=D at *;clear a8;go_wp2;go_ret;exact⟨rfl,aJ _ _⟩
end
end Go.Proofs.YthbihnpoghlfaaaGreatDoor
