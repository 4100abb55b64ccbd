import Derived.Test.YthbihnpoghlfaaaGreatDoorZr09
import Derived.Test.YthbihnpoghlfaaaGreatDoorZr11
set_option linter.unusedVariables false
set_option linter.unusedSimpArgs false
set_option maxHeartbeats 8000000
set_option maxRecDepth 100000
namespace Go.Proofs.YthbihnpoghlfaaaGreatDoor
open Go.Proofs.Tryz
section
open Go.RowKit
abbrev UY:=Tr.kids
namespace Ev
def WA:AV->Bool
 |.Bm ..=>true
 |.v (.slice ..)=>true
 |_=>false
def Zay:AV->Option Int
 |.v (.int .i64 n)=>some n
 |_=>none
def Zau:List AV->Option BQ
 | []=>some []
 |a::k::d::s::u::v::l=>match Zay k,Zay d,Zau l with
  |some k,some d,some st=>bif Fs a&&Fs s&&WA u&&WA v then some ((k,d)::st)else none
  |_,_,_=>none
 |_=>none
def V4 (H:AH) (b off n:Nat):Option BQ:=match I5 H b off (n*6)with
 |some l=>match Zau l with
  |some st=>bif decide (Tr.right st)then some st else none
  |none=>none
 |none=>none
def UN (args:List AV) (H:AH):Option (AV×AH):=match args with
 | [.Bm b off n _]=>match V4 H b off n with
  |some _=>some (.v (.bool true),H)
  |none=>none
 |_=>none
def Wm (l:List Nat):List AV:=l.map fun(k:Nat)=>.v (.int .i64 (k:Int))
def Zbx (H:AH) (j:List Nat):Option (AV×AH):=bif Nat.blt 0 j.length&&H.next.blt 16384 then some (.Bm H.next 0 j.length (.to 1),H.alloc (.cells (Wm j) 3))else none
def Zr (args:List AV) (H:AH):Option (AV×AH):=match args with
 | [.Bm b off n _,.v (.int .i64 (.ofNat i))]=>match V4 H b off n with
  |some st=>bif Nat.blt i st.length then Zbx H (UY st i)else none
  |none=>none
 |_=>none
def Ml (f:FuncId):Option (List AV->AH->Option (AV×AH)):=bif Nat.beq f 90 then some UN else bif Nat.beq f 183 then some Zr else none
section
variable {P:Program} {base:CJ} {e e':Env} {H H':AH} {w w':World} {x:AV} {y:Value}
theorem O6 (h:Fs x=true) (j:DR e x y):∃s,y=.string s:=by
 unfold Fs at h;split at h
 ·cases j;exact⟨_,rfl⟩
 ·cases h
theorem Vq (h:WA x=true) (j:DR e x y):∃a n c,y=.slice a n c:=by
 unfold WA at h;split at h
 ·cases j;exact⟨_,_,_,rfl⟩
 ·cases j;exact⟨_,_,_,rfl⟩
 ·cases h
theorem Vm {n:Int} (h:Zay x=some n) (j:DR e x y):y=.int .i64 n:=by
 unfold Zay at h;split at h
 ·cases h;cases j;rfl
 ·cases h
theorem Wq:∀(l:List AV) (st:BQ),Zau l=some st->∀ys,BP e l ys->l.length=st.length*6/\∀i,i<st.length->
  (∃s0,ys[i*6]?=some (.string s0))/\ys[i*6+1]?=some (.int .i64 (Tr.kd st i))/\ys[i*6+2]?=some (.int .i64 (Tr.dp st i))/\
  (∃s3,ys[i*6+3]?=some (.string s3))/\(∃a4 n4 c4,ys[i*6+4]?=some (.slice a4 n4 c4))/\∃a5 J c5,ys[i*6+5]?=some (.slice a5 J c5)
 | [],st,h,ys,o=>by
  cases h;exact⟨rfl,fun i hi=>absurd hi (Nat.not_lt_zero i)⟩
 |a::k::d::s::u::v::l,st,h,ys,o=>by
  unfold Zau at h;split at h
  ·rename_i k' d' p hk R U;cases I:(Fs a&&Fs s&&WA u&&WA v)with
   |false=>rw[I]at h;cases h
   |true=>
    rw[I]at h;cases h;rw[aG,aG,aG]at I;obtain⟨⟨⟨h1,h4⟩,h5⟩,h6⟩:=I;cases o with
    |cons d1 o=>cases o with
     |cons d2 o=>cases o with
      |cons d3 o=>cases o with
       |cons d4 o=>cases o with
        |cons d5 o=>cases o with
         |cons d6 o=>
          obtain⟨hl,ih⟩:=Wq l p U _ o;refine⟨by simp[hl];omega,fun i hi=>?_⟩;cases i with
          |zero=>
           obtain⟨s1,rfl⟩:=O6 h1 d1;obtain⟨s4,rfl⟩:=O6 h4 d4;obtain⟨a5,J,c5,rfl⟩:=Vq h5 d5;obtain⟨a6,n6,c6,rfl⟩:=Vq h6 d6;have e2:=Vm hk d2;have e3:=Vm R d3;subst e2;subst e3;exact⟨⟨s1,rfl⟩,rfl,rfl,⟨s4,rfl⟩,⟨a5,J,c5,rfl⟩,a6,n6,c6,rfl⟩
          |succ i=>
           have a1:i<p.length:=by simpa using hi
           have hs:∀j,(i+1)*6+j=(i*6+j)+6:=fun j=>by omega
           have h0:=ih i a1;rw[show(i+1)*6=i*6+6 from by omega];rw[show i*6+6+1=(i*6+1)+6 from by omega,show i*6+6+2=(i*6+2)+6 from by omega,show i*6+6+3=(i*6+3)+6 from by omega,show i*6+6+4=(i*6+4)+6 from by omega,show i*6+6+5=(i*6+5)+6 from by omega];exact h0
  ·cases h
 | [_],st,h,ys,o=>by cases h
 | [_,_],st,h,ys,o=>by cases h
 | [_,_,_],st,h,ys,o=>by cases h
 | [_,_,_,_],st,h,ys,o=>by cases h
 | [_,_,_,_,_],st,h,ys,o=>by cases h
theorem Rx {st:BQ} (h:Tr.right st):Tr.Wf st:=fun i hi=>by
 have j:=h.1.1 i hi;unfold Tr.bad at j;omega
theorem RL {b off n g o z:Nat} {st:BQ} (J:AO base e H w) (R:e b=some (g,o,z)) (h:V4 H b off n=some st):Tree w w.heap.size (some ⟨g,o+off,none⟩) n st/\Tr.right st/\n<=maxLen:=by
 unfold V4 at h;split at h
 ·rename_i l I;split at h
  ·rename_i U a1;cases hd:decide (Tr.right U)with
   |false=>rw[hd]at h;cases h
   |true=>
    rw[hd]at h;cases h;have hR:Tr.right st:=cV hd;obtain⟨ys,h1,h2,h3⟩:=IJ J I R;obtain⟨h4,h5⟩:=Wq l st a1 ys h1;have hlen:st.length=n:=by
     have:=h1.length;omega
    have b5:=Tr.Kl hR;refine⟨⟨hlen,ys,⟨h2,fun _=>⟨_,rfl,?_,fun j v hv=>by rw[Addr.add_mid];exact h3 j v hv⟩⟩,fun i hi=>h5 i (by omega)⟩,hR,by unfold maxLen;omega⟩;have h6:=hR.1.2.2.1;have a8:=J.Vc R;have alive:∃y,H.get b=some y:=by
     unfold I5 at I;split at I
     ·rename_i p;exact⟨_,p⟩
     ·rename_i p;exact⟨_,p⟩
     ·cases I
    obtain⟨y,p⟩:=alive;obtain⟨g',o',z',k1,k2,k3⟩:=J.Bq b _ a8 p;rw[R]at k1;cases k1;exact k3.lt
  ·cases h
 ·cases h
theorem AO.below (h:AO base e H w) (p:Below w.heap.size w w'):AO base e H w':=
 ⟨fun g J=>aK (h.size g J) p.size,h.KN,h.next,h.fresh,fun b x j R=>by
  obtain⟨g,o,z,U,h2,I⟩:=h.Bq b x j R;exact⟨g,o,z,U,h2,I.heap (p.block g I.lt)⟩,h.inj⟩
theorem Zg (h:AO base e H w) (hb:Below w.heap.size w w') (x:AB) (hn:H.next+1<=2^depth) {g o z:Nat} (hg:w.heap.size<=g) (hx:I3 (Env.new e H.next (g,o,z)) w' g o z x) :
  AO base (Env.new e H.next (g,o,z)) (H.alloc x) w':=by
 have hle:=EF h (g,o,z);refine⟨fun g' b9=>aK (h.size g' b9) hb.size,fun b j=>⟨iZ (h.KN b j).1,by unfold Env.new;rw[if_neg (Nat.ne_of_lt (h.KN b j).1)];exact(h.KN b j).2⟩,hn,fun b j=>?_,fun b y R hy=>?_,fun b1 b2 x1 x2 p1 p2 a7 U a1 I b5 a8 b6=>?_⟩
 ·have j:H.next+1<=b:=j;unfold Env.new;rw[if_neg (by omega)];exact h.fresh b (by omega)
 ·rw[AH.ED _ _ _ (by omega) R]at hy;by_cases J:b=H.next
  ·rw[if_pos J]at hy;cases hy;subst J;exact⟨g,o,z,by unfold Env.new;rw[if_pos rfl],fun c4=>absurd (h.size g c4) (Nat.not_lt.2 hg),hx⟩
  ·rw[if_neg J]at hy;obtain⟨g',o',z',h1,h2,h3⟩:=h.Bq b y R hy;exact⟨g',o',z',hle _ _ h1,h2,(h3.mono hle).heap (hb.block g' h3.lt)⟩
 ·rw[AH.ED _ _ _ (by omega) a7]at a1;rw[AH.ED _ _ _ (by omega) U]at I;have b0:∀b y p,b<2^depth->b≠H.next->H.get b=some y->Env.new e H.next (g,o,z) b=some p->e b=some p/\p.1<w.heap.size:=fun b y p R J hy hp=>by
   unfold Env.new at hp;rw[if_neg J]at hp;obtain⟨g',o',z',h1,h2,h3⟩:=h.Bq b y R hy;rw[hp]at h1;cases h1;exact⟨hp,h3.lt⟩
  have new:∀p,Env.new e H.next (g,o,z) H.next=some p->p.1=g:=fun p hp=>by
   unfold Env.new at hp;rw[if_pos rfl]at hp;cases hp;rfl
  by_cases c1:b1=H.next
  ·by_cases c2:b2=H.next
   ·exact absurd (c1.trans c2.symm) b6
   ·rw[if_neg c2]at I;subst c1;have k1:=new p1 b5;have k2:=(b0 b2 x2 p2 U c2 I a8).2;omega
  ·rw[if_neg c1]at a1;have k1:=b0 b1 x1 p1 a7 c1 a1 b5;by_cases c2:b2=H.next
   ·subst c2;have k2:=new p2 a8;have:=k1.2;omega
   ·rw[if_neg c2]at I;have k2:=b0 b2 x2 p2 U c2 I a8;exact h.inj b1 b2 x1 x2 p1 p2 a7 U a1 I k1.1 k2.1 b6
theorem Zw (l:List Nat):BP e (Wm l) (ints l):=by
 induction l with
 |nil=>exact .nil
 |cons k l ih=>exact .cons (.v _) ih
theorem Xu {args:List AV} (h:UN args H=some (x,H')) {ys:List Value} (o:AO base e H w) (p:BP e args ys):Calls prog 90 ys.toArray w (X0 base e w x H'):=by
 unfold UN at h;split at h
 ·rename_i b off n c;split at h
  ·rename_i st I;cases h;cases p with
   |cons d1 p=>
    cases p;cases d1 with
    |Bm R hc hl=>
     obtain⟨U,J,h3⟩:=RL o R I;refine(Lp w _ n _ st U (Rx J) h3).mono ?_;rintro en w1⟨rfl,j⟩;rw[aH J];exact⟨e,Fp.refl e,.v _,o.below j,B8.AK j o.size⟩
  ·cases h
 ·cases h
theorem YE {args:List AV} (h:Zr args H=some (x,H')) {ys:List Value} (hr:AO base e H w) (R:BP e args ys):Calls prog 183 ys.toArray w (X0 base e w x H'):=by
 unfold Zr at h;split at h
 ·rename_i b off n c i;split at h
  ·rename_i st a6;cases I:Nat.blt i st.length with
   |false=>rw[I]at h;cases h
   |true=>
    rw[I]at h;rw[dP]at I;simp only[cX]at h;unfold Zbx at h;cases hc:(Nat.blt 0 (UY st i).length&&H.next.blt 16384)with
    |false=>rw[hc]at h;cases h
    |true=>
     rw[hc]at h;cases h;rw[aG,dP,dP]at hc;cases R with
     |cons d1 R=>cases R with
      |cons d2 R=>
       cases R;cases d2;cases d1 with
       |Bm hb b5 hl=>
        obtain⟨h1,h2,h3⟩:=RL hr hb a6;have hk:Tr.EW st (Int.ofNat i)=UY st i:=by
         unfold Tr.EW;rw[if_pos (show Tr.hasB st (Int.ofNat i)=true from Ek.2 ⟨i,rfl,I,h2⟩)];rfl
        refine(Ku w _ n _ st h1 (Rx h2) h3 (Int.ofNat i)).mono ?_;rintro en w1⟨v,rfl,U,j⟩;rw[hk]at j;obtain⟨hlen,j⟩:=j;rcases j with⟨_,h0⟩|⟨g,cap,a8,rfl,hg,J,b0,c0,b1,p⟩
        ·omega
        ·have b3:(2:Nat)^depth=16384:=by unfold depth;decide
         refine⟨Env.new e H.next (g,0,cap*1),EF hr _,?_,Zg hr U _ (by omega) hg ⟨a8,J,b1,?_,?_⟩,B8.AK U hr.size⟩
         ·exact .Bm (o:=0) (z:=cap*1) (by unfold Env.new;rw[if_pos rfl]) (by show 0+0+cap*1=cap*1;omega) b0
         ·simp[Wm];omega
         ·rw[Nat.mul_one]at p;simp only[aS,Wm,bG];rw[p];exact Zw _
  ·cases h
 ·cases h
theorem Nz:D8 prog base Ml:=by
 intro f g j args H x H' h e w ys I J;unfold Ml at j;cases o:Nat.beq f 90 with
 |true=>
  rw[o]at j;cases j;rw[bY o];exact Xu h I J
 |false=>
  rw[o]at j;cases p:Nat.beq f 183 with
  |true=>
   rw[p]at j;cases j;rw[bY p];exact YE h I J
  |false=>rw[p]at j;cases j
end
end Ev
end
section
open Go.RowKit
namespace Ev
def Zc4 (P:Program):Tb:=⟨Tr.build 10 P.types.toList,Tr.build 10 P.funcs.toList⟩
theorem Vd {α:Type} (l:Array α) (k:Nat) (x:α) (h:Tr.get 10 (Tr.build 10 l.toList) k=some x):l[k]?=some x:=by
 rw[Tr.IP 10 _ _ (Tr.PB 10 _ _ _ h)]at h;rw[<-fC];exact h
theorem X7 (P:Program) (t:Nat) (i:TypeInfo) (h:P.types[t]?=some i):P.info? t=some i:=by
 obtain⟨j,_⟩:=aU.1 h;simp only[Tables.info?];rw[if_pos j];exact h
theorem WL (l : Array Func) (h :(l.toList.all fun fn => !(fn.name == "runtime.NumGoroutine")) = true) (k : Nat) (fn : Func) (j : l[k]? = some fn) :(fn.name == "runtime.NumGoroutine") = false := by
 rw[<-fC]at j;have o:=aY.1 h fn (bR j);simpa using o
theorem Zao (P : Program) (j :(P.funcs.toList.all fun fn => !(fn.name == "runtime.NumGoroutine")) = true) (hm : P.follows .mixedOrders = true) : B3 P (Zc4 P) :=
 ⟨fun t i h=>X7 P t i (Vd P.types t i h),fun f fn h=>Vd P.funcs f fn h,fun f fn h=>WL P.funcs j f fn (Vd P.funcs f fn h),hm⟩
noncomputable def TB:Tb:=Zc4 prog
theorem ZV:B3 prog TB:=Zao prog (by kernel_rfl) (by kernel_rfl)
def Oc:Option (AV×AH)->Bool
 |some (.v (.bool true),_)=>true
 |_=>false
theorem ZaX {r:Option (AV×AH)} (h:Oc r=true):∃H,r=some (.v (.bool true),H):=by
 unfold Oc at h;split at h
 ·exact⟨_,rfl⟩
 ·cases h
theorem Tw {o:FuncId->Option (List AV->AH->Option (AV×AH))} (J:∀base,D8 prog base o) {f:FuncId} {n:Nat} (p:List Value) {x:Value} {H:AH} (h:evF prog TB o n f (p.map .v) AH.empty=some (.v x,H)) (w:World) :
  Calls prog f p.toArray w fun e I=>e=.returned x/\Below w.heap.size w I:=by
 have R:∀(l:List Value) (e:Env),BP e (l.map .v) l:=fun l e=>by
  induction l with
  |nil=>exact .nil
  |cons a l ih=>exact .cons (.v a) ih
 refine(Lh ZV J h (AO.start w) (R p _)).mono fun U I j=>?_
 cases U with
 |returned r=>
  obtain⟨e',_,hx,_,hb⟩:=j;cases hx;exact⟨rfl,hb.below⟩
 |panicked c=>exact j.elim
 |outgrown=>exact j.elim
theorem Of {j:FuncId->Option (List AV->AH->Option (AV×AH))} (p:∀base,D8 prog base j) {f:FuncId} {n:Nat} (o:List Value) (h:Oc (evF prog TB j n f (o.map .v) AH.empty)=true) (w:World) :
  Calls prog f o.toArray w fun e I=>e=.returned (.bool true)/\Below w.heap.size w I:=by
 obtain⟨H,h⟩:=ZaX h;exact Tw p o h w
end Ev
end
section
open Go.RowKit
namespace Ev
abbrev XZ:=FuncId->Option (List AV->AH->Option (AV×AH))
def Wl (s:Loc) (o:XZ):XZ:=fun f=>bif Nat.beq f s.f then some (fun args H=>match Zb6 s args H with
 |some r=>some r
 |none=>match o f with
  |some g=>g args H
  |none=>none)else o f
theorem Q5 {s:Loc} {o o2:XZ} {n:Nat} (hs:YC prog TB o2 n s=true) (p:∀base,D8 prog base o2) (ho:∀base,D8 prog base o):∀base,D8 prog base (Wl s o):=by
 intro base f g j args H x H' h e w ys I J;unfold Wl at j;cases R:Nat.beq f s.f with
 |false=>
  rw[R]at j;exact ho base f g j args H x H' h e w ys I J
 |true=>
  rw[R]at j;obtain rfl:=bY R;cases j;dsimp only at h;split at h
  ·rename_i r U;cases h;exact ZcD ZV p hs U I J
  ·split at h
   ·rename_i g2 a1;exact ho base _ g2 a1 args H x H' h e w ys I J
   ·cases h
def Zbz:Loc:=⟨27,[.agg [.v (.string ⟨#[99]⟩),.Bm 13 0 1 (.to 1),.Bm 35 0 1 (.to 7),.Bm 51 0 2 (.to 6),.Bm 112 0 1 (.to 5)]],113,[(13,.cells [.v (.string ⟨#[103,111]⟩)] 9),
 (35,.cells [.v (.string ⟨#[120]⟩),.v (.int .i64 1),.v (.int .i64 0),.v (.int .i64 9),.v (.int .i64 1),.v (.int .i64 2),.v (.int .i64 0)] 66),
 (51,.cells [.v (.string ⟨#[114]⟩),.v (.int .i64 2),.v (.int .i64 0),.v (.string ⟨#[97]⟩),.v (.slice none 0 0),.v (.slice none 0 0),.v (.string ⟨#[97]⟩),.v (.int .i64 1),.v (.int .i64 1),.v (.string ⟨#[]⟩),.v (.slice none 0 0),.v (.slice none 0 0)] 54),
 (77,.cells [.v (.int .i64 5),.v (.int .i64 0),.v (.string ⟨#[120]⟩),.v (.int .i64 1),.v (.int .i64 3),.v (.string ⟨#[]⟩),.v (.int .i64 18),.v (.int .i64 0),.v (.string ⟨#[]⟩)] 248),
 (94,.cells [.v (.int .i64 5),.v (.int .i64 0),.v (.string ⟨#[120]⟩),.v (.int .i64 1),.v (.int .i64 1),.v (.string ⟨#[]⟩),.v (.int .i64 11),.v (.int .i64 0),.v (.string ⟨#[]⟩)] 248),
 (110,.cells [.v (.int .i64 1),.v (.string ⟨#[120]⟩),.Bm 94 0 3 (.to 3),.v (.int .i64 3),.v (.string ⟨#[103,111]⟩),.v (.slice none 0 0)] 169),
 (112,.cells [.v (.int .i64 1),.v (.string ⟨#[103,111]⟩),.Bm 77 0 3 (.to 3),.v (.string ⟨#[]⟩),.Bm 110 0 2 (.to 3)] 51)],.int .i64 0⟩
theorem ZB:YC prog TB Ml 2000 Zbz=true:=by kernel_rfl
def Zce:XZ:=Wl Zbz Ml
theorem Vk:∀base,D8 prog base Zce:=Q5 ZB (fun _=>Nz) (fun _=>Nz)
def ZbG:Loc:=⟨29,[.agg [.v (.string ⟨#[99]⟩),.Bm 13 0 1 (.to 1),.Bm 35 0 1 (.to 7),.Bm 51 0 2 (.to 6),.Bm 112 0 1 (.to 5)],.v (.slice none 0 0)],113,[(13,.cells [.v (.string ⟨#[103,111]⟩)] 9),
 (35,.cells [.v (.string ⟨#[120]⟩),.v (.int .i64 1),.v (.int .i64 0),.v (.int .i64 9),.v (.int .i64 1),.v (.int .i64 2),.v (.int .i64 0)] 66),
 (51,.cells [.v (.string ⟨#[114]⟩),.v (.int .i64 2),.v (.int .i64 0),.v (.string ⟨#[97]⟩),.v (.slice none 0 0),.v (.slice none 0 0),.v (.string ⟨#[97]⟩),.v (.int .i64 1),.v (.int .i64 1),.v (.string ⟨#[]⟩),.v (.slice none 0 0),.v (.slice none 0 0)] 54),
 (77,.cells [.v (.int .i64 5),.v (.int .i64 0),.v (.string ⟨#[120]⟩),.v (.int .i64 1),.v (.int .i64 3),.v (.string ⟨#[]⟩),.v (.int .i64 18),.v (.int .i64 0),.v (.string ⟨#[]⟩)] 248),
 (94,.cells [.v (.int .i64 5),.v (.int .i64 0),.v (.string ⟨#[120]⟩),.v (.int .i64 1),.v (.int .i64 1),.v (.string ⟨#[]⟩),.v (.int .i64 11),.v (.int .i64 0),.v (.string ⟨#[]⟩)] 248),
 (110,.cells [.v (.int .i64 1),.v (.string ⟨#[120]⟩),.Bm 94 0 3 (.to 3),.v (.int .i64 3),.v (.string ⟨#[103,111]⟩),.v (.slice none 0 0)] 169),
 (112,.cells [.v (.int .i64 1),.v (.string ⟨#[103,111]⟩),.Bm 77 0 3 (.to 3),.v (.string ⟨#[]⟩),.Bm 110 0 2 (.to 3)] 51)],.bool true⟩
theorem Zl:YC prog TB Zce 2000 ZbG=true:=by kernel_rfl
def WT:XZ:=Wl ZbG Zce
theorem Mj:∀base,D8 prog base WT:=Q5 Zl Vk Vk
def L6 (l:List YD) (args:List AV) (H:AH):Option (AV×AH):=match l with
 | []=>none
 |s::l=>match Zcr s args H with
  |some r=>some r
  |none=>L6 l args H
def SX (f0:FuncId) (l:List YD) (o:XZ):XZ:=fun f=>bif Nat.beq f f0 then some (L6 l)else o f
theorem MQ {p:XZ} {n:Nat} {f0:FuncId} (j:∀base,D8 prog base p):∀(l:List YD),(∀s∈l,s.f=f0/\Rv prog TB p n s=true)->∀ {base:CJ} {args:List AV} {H H':AH} {x:AV} {e:Env} {w:World} {ys:List Value},
  L6 l args H=some (x,H')->AO base e H w->BP e args ys->Calls prog f0 ys.toArray w (X0 base e w x H')
 | [],_,_,_,_,_,_,_,_,_,h,_,_=>by cases h
 |s::l,I,base,args,H,H',x,e,w,ys,h,J,R=>by
  unfold L6 at h;split at h
  ·rename_i r o;cases h;obtain⟨U,h2⟩:=I s (aR ..);rw[<-U];exact Zcm ZV j h2 o J R
  ·exact MQ j l (fun s hs=>I s (bA _ hs)) h J R
theorem Mm {o J:XZ} {n:Nat} {f0:FuncId} {l:List YD} (hl:∀s∈l,s.f=f0/\Rv prog TB J n s=true) (p:∀base,D8 prog base J) (ho:∀base,D8 prog base o):∀base,D8 prog base (SX f0 l o):=by
 intro base f g j args H x H' h e w ys R U;unfold SX at j;cases I:Nat.beq f f0 with
 |false=>
  rw[I]at j;exact ho base f g j args H x H' h e w ys R U
 |true=>
  rw[I]at j;obtain rfl:=bY I;cases j;exact MQ p l hl h R U
def Zd:YD:=⟨25,[.v (.string ⟨#[99,104,97,114,116,32,99,10,101,118,101,110,116,32,103,111,10,105,110,116,32,120,32,48,32,57,32,50,10,111,110,101,32,114,32,97,10,32,98,97,115,105,99,32,97,10,32,32,111,110,32,103,111,32,120,60,51,32,45,32,120,61,120,43,49,59,115,101,110,100,58,103,111,10]⟩)],0,[],.N6 [.agg [.v (.string ⟨#[99]⟩),.Bm 13 0 1 (.to 1),.Bm 35 0 1 (.to 7),.Bm 51 0 2 (.to 6),.Bm 112 0 1 (.to 5)],.v (.int .i64 0),.v (.int .i64 0)],113,[(13,.cells [.v (.string ⟨#[103,111]⟩)] 9),
 (35,.cells [.v (.string ⟨#[120]⟩),.v (.int .i64 1),.v (.int .i64 0),.v (.int .i64 9),.v (.int .i64 1),.v (.int .i64 2),.v (.int .i64 0)] 66),
 (51,.cells [.v (.string ⟨#[114]⟩),.v (.int .i64 2),.v (.int .i64 0),.v (.string ⟨#[97]⟩),.v (.slice none 0 0),.v (.slice none 0 0),.v (.string ⟨#[97]⟩),.v (.int .i64 1),.v (.int .i64 1),.v (.string ⟨#[]⟩),.v (.slice none 0 0),.v (.slice none 0 0)] 54),
 (77,.cells [.v (.int .i64 5),.v (.int .i64 0),.v (.string ⟨#[120]⟩),.v (.int .i64 1),.v (.int .i64 3),.v (.string ⟨#[]⟩),.v (.int .i64 18),.v (.int .i64 0),.v (.string ⟨#[]⟩)] 248),
 (94,.cells [.v (.int .i64 5),.v (.int .i64 0),.v (.string ⟨#[120]⟩),.v (.int .i64 1),.v (.int .i64 1),.v (.string ⟨#[]⟩),.v (.int .i64 11),.v (.int .i64 0),.v (.string ⟨#[]⟩)] 248),
 (110,.cells [.v (.int .i64 1),.v (.string ⟨#[120]⟩),.Bm 94 0 3 (.to 3),.v (.int .i64 3),.v (.string ⟨#[103,111]⟩),.v (.slice none 0 0)] 169),
 (112,.cells [.v (.int .i64 1),.v (.string ⟨#[103,111]⟩),.Bm 77 0 3 (.to 3),.v (.string ⟨#[]⟩),.Bm 110 0 2 (.to 3)] 51)]⟩
theorem Wu:Rv prog TB WT 2000 Zd=true:=by kernel_rfl
def YR:YD:=⟨15,[.agg [.v (.string ⟨#[99]⟩),.Bm 13 0 1 (.to 1),.Bm 35 0 1 (.to 7),.Bm 51 0 2 (.to 6),.Bm 112 0 1 (.to 5)]],114,[(13,.cells [.v (.string ⟨#[103,111]⟩)] 9),
 (35,.cells [.v (.string ⟨#[120]⟩),.v (.int .i64 1),.v (.int .i64 0),.v (.int .i64 9),.v (.int .i64 1),.v (.int .i64 2),.v (.int .i64 0)] 66),
 (51,.cells [.v (.string ⟨#[114]⟩),.v (.int .i64 2),.v (.int .i64 0),.v (.string ⟨#[97]⟩),.v (.slice none 0 0),.v (.slice none 0 0),.v (.string ⟨#[97]⟩),.v (.int .i64 1),.v (.int .i64 1),.v (.string ⟨#[]⟩),.v (.slice none 0 0),.v (.slice none 0 0)] 54),
 (77,.cells [.v (.int .i64 5),.v (.int .i64 0),.v (.string ⟨#[120]⟩),.v (.int .i64 1),.v (.int .i64 3),.v (.string ⟨#[]⟩),.v (.int .i64 18),.v (.int .i64 0),.v (.string ⟨#[]⟩)] 248),
 (94,.cells [.v (.int .i64 5),.v (.int .i64 0),.v (.string ⟨#[120]⟩),.v (.int .i64 1),.v (.int .i64 1),.v (.string ⟨#[]⟩),.v (.int .i64 11),.v (.int .i64 0),.v (.string ⟨#[]⟩)] 248),
 (110,.cells [.v (.int .i64 1),.v (.string ⟨#[120]⟩),.Bm 94 0 3 (.to 3),.v (.int .i64 3),.v (.string ⟨#[103,111]⟩),.v (.slice none 0 0)] 169),
 (112,.cells [.v (.int .i64 1),.v (.string ⟨#[103,111]⟩),.Bm 77 0 3 (.to 3),.v (.string ⟨#[]⟩),.Bm 110 0 2 (.to 3)] 51),
 (113,.cells [.v (.string ⟨#[99]⟩),.Bm 13 0 1 (.to 1),.Bm 35 0 1 (.to 7),.Bm 51 0 2 (.to 6),.Bm 112 0 1 (.to 5)] 27)],.N6 [.agg [.Bm 141 0 2 (.to 1),.v (.slice none 0 0),.Bm 143 0 1 (.to 3),.v (.slice none 0 0),.v (.int .i64 0),.v (.int .i64 0),.v (.int .i64 0),.v (.int .i64 0)],.v (.slice none 0 0)],147,[(13,.cells [.v (.string ⟨#[103,111]⟩)] 9),
 (35,.cells [.v (.string ⟨#[120]⟩),.v (.int .i64 1),.v (.int .i64 0),.v (.int .i64 9),.v (.int .i64 1),.v (.int .i64 2),.v (.int .i64 0)] 66),
 (51,.cells [.v (.string ⟨#[114]⟩),.v (.int .i64 2),.v (.int .i64 0),.v (.string ⟨#[97]⟩),.v (.slice none 0 0),.v (.slice none 0 0),.v (.string ⟨#[97]⟩),.v (.int .i64 1),.v (.int .i64 1),.v (.string ⟨#[]⟩),.v (.slice none 0 0),.v (.slice none 0 0)] 54),
 (77,.cells [.v (.int .i64 5),.v (.int .i64 0),.v (.string ⟨#[120]⟩),.v (.int .i64 1),.v (.int .i64 3),.v (.string ⟨#[]⟩),.v (.int .i64 18),.v (.int .i64 0),.v (.string ⟨#[]⟩)] 248),
 (94,.cells [.v (.int .i64 5),.v (.int .i64 0),.v (.string ⟨#[120]⟩),.v (.int .i64 1),.v (.int .i64 1),.v (.string ⟨#[]⟩),.v (.int .i64 11),.v (.int .i64 0),.v (.string ⟨#[]⟩)] 248),
 (110,.cells [.v (.int .i64 1),.v (.string ⟨#[120]⟩),.Bm 94 0 3 (.to 3),.v (.int .i64 3),.v (.string ⟨#[103,111]⟩),.v (.slice none 0 0)] 169),
 (112,.cells [.v (.int .i64 1),.v (.string ⟨#[103,111]⟩),.Bm 77 0 3 (.to 3),.v (.string ⟨#[]⟩),.Bm 110 0 2 (.to 3)] 51),
 (113,.cells [.v (.string ⟨#[99]⟩),.Bm 13 0 1 (.to 1),.Bm 35 0 1 (.to 7),.Bm 51 0 2 (.to 6),.Bm 112 0 1 (.to 5)] 27),
 (141,.cells [.v (.int .i64 0),.v (.int .i64 1)] 3),
 (143,.cells [.v (.int .i64 1),.v (.int .i64 2),.v (.int .i64 0)] 60)]⟩
theorem XR:Rv prog TB WT 2000 YR=true:=by kernel_rfl
def ZW:YD:=⟨19,[.agg [.v (.string ⟨#[99]⟩),.Bm 13 0 1 (.to 1),.Bm 35 0 1 (.to 7),.Bm 51 0 2 (.to 6),.Bm 112 0 1 (.to 5)],.agg [.Bm 141 0 2 (.to 1),.v (.slice none 0 0),.Bm 143 0 1 (.to 3),.v (.slice none 0 0),.v (.int .i64 0),.v (.int .i64 0),.v (.int .i64 0),.v (.int .i64 0)],.v (.string ⟨#[103,111]⟩)],148,[(13,.cells [.v (.string ⟨#[103,111]⟩)] 9),
 (35,.cells [.v (.string ⟨#[120]⟩),.v (.int .i64 1),.v (.int .i64 0),.v (.int .i64 9),.v (.int .i64 1),.v (.int .i64 2),.v (.int .i64 0)] 66),
 (51,.cells [.v (.string ⟨#[114]⟩),.v (.int .i64 2),.v (.int .i64 0),.v (.string ⟨#[97]⟩),.v (.slice none 0 0),.v (.slice none 0 0),.v (.string ⟨#[97]⟩),.v (.int .i64 1),.v (.int .i64 1),.v (.string ⟨#[]⟩),.v (.slice none 0 0),.v (.slice none 0 0)] 54),
 (77,.cells [.v (.int .i64 5),.v (.int .i64 0),.v (.string ⟨#[120]⟩),.v (.int .i64 1),.v (.int .i64 3),.v (.string ⟨#[]⟩),.v (.int .i64 18),.v (.int .i64 0),.v (.string ⟨#[]⟩)] 248),
 (94,.cells [.v (.int .i64 5),.v (.int .i64 0),.v (.string ⟨#[120]⟩),.v (.int .i64 1),.v (.int .i64 1),.v (.string ⟨#[]⟩),.v (.int .i64 11),.v (.int .i64 0),.v (.string ⟨#[]⟩)] 248),
 (110,.cells [.v (.int .i64 1),.v (.string ⟨#[120]⟩),.Bm 94 0 3 (.to 3),.v (.int .i64 3),.v (.string ⟨#[103,111]⟩),.v (.slice none 0 0)] 169),
 (112,.cells [.v (.int .i64 1),.v (.string ⟨#[103,111]⟩),.Bm 77 0 3 (.to 3),.v (.string ⟨#[]⟩),.Bm 110 0 2 (.to 3)] 51),
 (113,.cells [.v (.string ⟨#[99]⟩),.Bm 13 0 1 (.to 1),.Bm 35 0 1 (.to 7),.Bm 51 0 2 (.to 6),.Bm 112 0 1 (.to 5)] 27),
 (141,.cells [.v (.int .i64 0),.v (.int .i64 1)] 3),
 (143,.cells [.v (.int .i64 1),.v (.int .i64 2),.v (.int .i64 0)] 60),
 (147,.cells [.Bm 141 0 2 (.to 1),.v (.slice none 0 0),.Bm 143 0 1 (.to 3),.v (.slice none 0 0),.v (.int .i64 0),.v (.int .i64 0),.v (.int .i64 0),.v (.int .i64 0)] 32)],.N6 [.agg [.Bm 168 0 2 (.to 1),.v (.slice none 0 0),.Bm 271 0 1 (.to 3),.v (.slice none 0 0),.v (.int .i64 0),.v (.int .i64 0),.v (.int .i64 0),.v (.int .i64 0)],.Bm 306 0 1 (.to 1),.Bm 244 0 1 (.to 1)],310,[(13,.cells [.v (.string ⟨#[103,111]⟩)] 9),
 (35,.cells [.v (.string ⟨#[120]⟩),.v (.int .i64 1),.v (.int .i64 0),.v (.int .i64 9),.v (.int .i64 1),.v (.int .i64 2),.v (.int .i64 0)] 66),
 (51,.cells [.v (.string ⟨#[114]⟩),.v (.int .i64 2),.v (.int .i64 0),.v (.string ⟨#[97]⟩),.v (.slice none 0 0),.v (.slice none 0 0),.v (.string ⟨#[97]⟩),.v (.int .i64 1),.v (.int .i64 1),.v (.string ⟨#[]⟩),.v (.slice none 0 0),.v (.slice none 0 0)] 54),
 (77,.cells [.v (.int .i64 5),.v (.int .i64 0),.v (.string ⟨#[120]⟩),.v (.int .i64 1),.v (.int .i64 3),.v (.string ⟨#[]⟩),.v (.int .i64 18),.v (.int .i64 0),.v (.string ⟨#[]⟩)] 248),
 (94,.cells [.v (.int .i64 5),.v (.int .i64 0),.v (.string ⟨#[120]⟩),.v (.int .i64 1),.v (.int .i64 1),.v (.string ⟨#[]⟩),.v (.int .i64 11),.v (.int .i64 0),.v (.string ⟨#[]⟩)] 248),
 (110,.cells [.v (.int .i64 1),.v (.string ⟨#[120]⟩),.Bm 94 0 3 (.to 3),.v (.int .i64 3),.v (.string ⟨#[103,111]⟩),.v (.slice none 0 0)] 169),
 (112,.cells [.v (.int .i64 1),.v (.string ⟨#[103,111]⟩),.Bm 77 0 3 (.to 3),.v (.string ⟨#[]⟩),.Bm 110 0 2 (.to 3)] 51),
 (113,.cells [.v (.string ⟨#[99]⟩),.Bm 13 0 1 (.to 1),.Bm 35 0 1 (.to 7),.Bm 51 0 2 (.to 6),.Bm 112 0 1 (.to 5)] 27),
 (141,.cells [.v (.int .i64 0),.v (.int .i64 1)] 3),
 (143,.cells [.v (.int .i64 1),.v (.int .i64 2),.v (.int .i64 0)] 60),
 (147,.cells [.Bm 141 0 2 (.to 1),.v (.slice none 0 0),.Bm 143 0 1 (.to 3),.v (.slice none 0 0),.v (.int .i64 0),.v (.int .i64 0),.v (.int .i64 0),.v (.int .i64 0)] 32),
 (168,.cells [.v (.int .i64 0),.v (.int .i64 1)] 3),
 (244,.cells [.v (.int .i64 0)] 3),
 (271,.cells [.v (.int .i64 1),.v (.int .i64 3),.v (.int .i64 0)] 60),
 (306,.cells [.v (.string ⟨#[103,111]⟩)] 9)]⟩
theorem XD:Rv prog TB WT 2000 ZW=true:=by kernel_rfl
def Ya:YD:=⟨19,[.agg [.v (.string ⟨#[99]⟩),.Bm 13 0 1 (.to 1),.Bm 35 0 1 (.to 7),.Bm 51 0 2 (.to 6),.Bm 112 0 1 (.to 5)],.agg [.Bm 168 0 2 (.to 1),.v (.slice none 0 0),.Bm 271 0 1 (.to 3),.v (.slice none 0 0),.v (.int .i64 0),.v (.int .i64 0),.v (.int .i64 0),.v (.int .i64 0)],.v (.string ⟨#[103,111]⟩)],311,[(13,.cells [.v (.string ⟨#[103,111]⟩)] 9),
 (35,.cells [.v (.string ⟨#[120]⟩),.v (.int .i64 1),.v (.int .i64 0),.v (.int .i64 9),.v (.int .i64 1),.v (.int .i64 2),.v (.int .i64 0)] 66),
 (51,.cells [.v (.string ⟨#[114]⟩),.v (.int .i64 2),.v (.int .i64 0),.v (.string ⟨#[97]⟩),.v (.slice none 0 0),.v (.slice none 0 0),.v (.string ⟨#[97]⟩),.v (.int .i64 1),.v (.int .i64 1),.v (.string ⟨#[]⟩),.v (.slice none 0 0),.v (.slice none 0 0)] 54),
 (77,.cells [.v (.int .i64 5),.v (.int .i64 0),.v (.string ⟨#[120]⟩),.v (.int .i64 1),.v (.int .i64 3),.v (.string ⟨#[]⟩),.v (.int .i64 18),.v (.int .i64 0),.v (.string ⟨#[]⟩)] 248),
 (94,.cells [.v (.int .i64 5),.v (.int .i64 0),.v (.string ⟨#[120]⟩),.v (.int .i64 1),.v (.int .i64 1),.v (.string ⟨#[]⟩),.v (.int .i64 11),.v (.int .i64 0),.v (.string ⟨#[]⟩)] 248),
 (110,.cells [.v (.int .i64 1),.v (.string ⟨#[120]⟩),.Bm 94 0 3 (.to 3),.v (.int .i64 3),.v (.string ⟨#[103,111]⟩),.v (.slice none 0 0)] 169),
 (112,.cells [.v (.int .i64 1),.v (.string ⟨#[103,111]⟩),.Bm 77 0 3 (.to 3),.v (.string ⟨#[]⟩),.Bm 110 0 2 (.to 3)] 51),
 (113,.cells [.v (.string ⟨#[99]⟩),.Bm 13 0 1 (.to 1),.Bm 35 0 1 (.to 7),.Bm 51 0 2 (.to 6),.Bm 112 0 1 (.to 5)] 27),
 (141,.cells [.v (.int .i64 0),.v (.int .i64 1)] 3),
 (143,.cells [.v (.int .i64 1),.v (.int .i64 2),.v (.int .i64 0)] 60),
 (147,.cells [.Bm 141 0 2 (.to 1),.v (.slice none 0 0),.Bm 143 0 1 (.to 3),.v (.slice none 0 0),.v (.int .i64 0),.v (.int .i64 0),.v (.int .i64 0),.v (.int .i64 0)] 32),
 (168,.cells [.v (.int .i64 0),.v (.int .i64 1)] 3),
 (271,.cells [.v (.int .i64 1),.v (.int .i64 3),.v (.int .i64 0)] 60),
 (306,.cells [.v (.string ⟨#[103,111]⟩)] 9),
 (310,.cells [.Bm 168 0 2 (.to 1),.v (.slice none 0 0),.Bm 271 0 1 (.to 3),.v (.slice none 0 0),.v (.int .i64 0),.v (.int .i64 0),.v (.int .i64 0),.v (.int .i64 0)] 32)],.N6 [.agg [.Bm 331 0 2 (.to 1),.v (.slice none 0 0),.Bm 333 0 1 (.to 3),.v (.slice none 0 0),.v (.int .i64 0),.v (.int .i64 0),.v (.int .i64 0),.v (.int .i64 0)],.v (.slice none 0 0),.v (.slice none 0 0)],421,[(13,.cells [.v (.string ⟨#[103,111]⟩)] 9),
 (35,.cells [.v (.string ⟨#[120]⟩),.v (.int .i64 1),.v (.int .i64 0),.v (.int .i64 9),.v (.int .i64 1),.v (.int .i64 2),.v (.int .i64 0)] 66),
 (51,.cells [.v (.string ⟨#[114]⟩),.v (.int .i64 2),.v (.int .i64 0),.v (.string ⟨#[97]⟩),.v (.slice none 0 0),.v (.slice none 0 0),.v (.string ⟨#[97]⟩),.v (.int .i64 1),.v (.int .i64 1),.v (.string ⟨#[]⟩),.v (.slice none 0 0),.v (.slice none 0 0)] 54),
 (77,.cells [.v (.int .i64 5),.v (.int .i64 0),.v (.string ⟨#[120]⟩),.v (.int .i64 1),.v (.int .i64 3),.v (.string ⟨#[]⟩),.v (.int .i64 18),.v (.int .i64 0),.v (.string ⟨#[]⟩)] 248),
 (94,.cells [.v (.int .i64 5),.v (.int .i64 0),.v (.string ⟨#[120]⟩),.v (.int .i64 1),.v (.int .i64 1),.v (.string ⟨#[]⟩),.v (.int .i64 11),.v (.int .i64 0),.v (.string ⟨#[]⟩)] 248),
 (110,.cells [.v (.int .i64 1),.v (.string ⟨#[120]⟩),.Bm 94 0 3 (.to 3),.v (.int .i64 3),.v (.string ⟨#[103,111]⟩),.v (.slice none 0 0)] 169),
 (112,.cells [.v (.int .i64 1),.v (.string ⟨#[103,111]⟩),.Bm 77 0 3 (.to 3),.v (.string ⟨#[]⟩),.Bm 110 0 2 (.to 3)] 51),
 (113,.cells [.v (.string ⟨#[99]⟩),.Bm 13 0 1 (.to 1),.Bm 35 0 1 (.to 7),.Bm 51 0 2 (.to 6),.Bm 112 0 1 (.to 5)] 27),
 (141,.cells [.v (.int .i64 0),.v (.int .i64 1)] 3),
 (143,.cells [.v (.int .i64 1),.v (.int .i64 2),.v (.int .i64 0)] 60),
 (147,.cells [.Bm 141 0 2 (.to 1),.v (.slice none 0 0),.Bm 143 0 1 (.to 3),.v (.slice none 0 0),.v (.int .i64 0),.v (.int .i64 0),.v (.int .i64 0),.v (.int .i64 0)] 32),
 (168,.cells [.v (.int .i64 0),.v (.int .i64 1)] 3),
 (271,.cells [.v (.int .i64 1),.v (.int .i64 3),.v (.int .i64 0)] 60),
 (306,.cells [.v (.string ⟨#[103,111]⟩)] 9),
 (310,.cells [.Bm 168 0 2 (.to 1),.v (.slice none 0 0),.Bm 271 0 1 (.to 3),.v (.slice none 0 0),.v (.int .i64 0),.v (.int .i64 0),.v (.int .i64 0),.v (.int .i64 0)] 32),
 (331,.cells [.v (.int .i64 0),.v (.int .i64 1)] 3),
 (333,.cells [.v (.int .i64 1),.v (.int .i64 3),.v (.int .i64 0)] 60)]⟩
theorem XU:Rv prog TB WT 2000 Ya=true:=by kernel_rfl
def ZbM:XZ:=SX 25 [Zd] WT
theorem Zu:∀base,D8 prog base ZbM:=Mm (fun s j=>(bJ.1 j).elim (fun e=>by rw[e];exact⟨rfl,Wu⟩) fun j=>by cases j) Mj Mj
def ZbE:XZ:=SX 15 [YR] ZbM
theorem Zaa:∀base,D8 prog base ZbE:=Mm (fun s j=>(bJ.1 j).elim (fun e=>by rw[e];exact⟨rfl,XR⟩) fun j=>by cases j) Mj Zu
def ZbB:XZ:=SX 19 [ZW,Ya] ZbE
theorem ZI:∀base,D8 prog base ZbB:=Mm (fun s j=>(bJ.1 j).elim (fun e=>by rw[e];exact⟨rfl,XD⟩) fun j=>(bJ.1 j).elim (fun e=>by rw[e];exact⟨rfl,XU⟩) fun j=>by cases j) Mj Zaa
end Ev
open Ev in
theorem SK:Oc (evF prog TB ZbB 2000 9 [] AH.empty)=true:=by kernel_rfl
theorem Rt (w:World):Calls prog 9 #[] w fun e j=>e=.returned (.bool true)/\Below w.heap.size w j:=
 Ev.Of Ev.ZI [] SK w
end
end Go.Proofs.YthbihnpoghlfaaaGreatDoor
