import Derived.Shelf.Spec.SlicesGrow
import Derived.Lib.SmallJoins
import Derived.Test.YthbihnpoghlfaaaGreatDoorZr18
import Derived.Test.YthbihnpoghlfaaaGreatDoorZr26
set_option linter.unusedVariables false
set_option linter.unusedSimpArgs false
set_option maxHeartbeats 8000000
set_option maxRecDepth 100000
namespace Go.Proofs.YthbihnpoghlfaaaGreatDoor
open Go.Proofs.Tryz
section
open Go.RowKit Q Go.Lib
structure AQ (w:World) (B:Nat) (ev vv sv tv:Value) (c:Q.Af):Prop where
 events:AE w B ev c.events
 vars:BK w B vv c.vars
 Aa:A6 w B sv c.Aa
 trans:JV w B tv c.trans
theorem AQ.on {w o:World} {ev vv sv tv:Value} {c:Q.Af} (h:AQ w w.heap.size ev vv sv tv c) (j:Below w.heap.size w o):AQ o o.heap.size ev vv sv tv c:=
 ⟨h.events.on j,h.vars.on AL j,h.Aa.on AU j,h.trans.on Ij j⟩
theorem AQ.below {w o:World} {B:Nat} {ev vv sv tv:Value} {c:Q.Af} (h:AQ w B ev vv sv tv c) (j:Below B w o):AQ o B ev vv sv tv c:=
 ⟨h.events.below j,h.vars.below AL j,h.Aa.below AU j,h.trans.below Ij j⟩
theorem AQ.more {w:World} {B o:Nat} {ev vv sv tv:Value} {c:Q.Af} (h:AQ w B ev vv sv tv c) (j:B<=o):AQ w o ev vv sv tv c:=
 ⟨h.events.more j,h.vars.keep AL j (fun _ _=>rfl),h.Aa.keep AU j (fun _ _=>rfl),h.trans.keep Ij j (fun _ _=>rfl)⟩
abbrev BZ (nm:ByteArray) (ev vv sv tv:Value):Value:=.agg #[.string nm,ev,vv,sv,tv]
structure Fit (c:Q.Af):Prop where
 wf:Tr.Wf c.Ar
 names:∀s∈c.name::(c.events++(c.AN++c.An)),Ej s
 Ey:∀s∈c.Aa,(∀a∈s.entry,Ej a.name)/\∀a∈s.exit,Ej a.name
 Zc0:∀t∈c.trans,∀a∈t.Ey,Ej a.name
 inits:∀v∈c.vars,AP v.init.a
 ZcK:∀t∈c.trans,AP t.FH
 lens:∀s∈c.Aa,s.entry.length+s.exit.length<=9223372036854775807
structure SlV where
 a:Option Addr
 n:Nat
 c:Nat
def SlV.val (s:SlV):Value:=.slice s.a s.n s.c
structure DN where
 s:Q.State
 u:SlV
 v:SlV
instance:Inhabited DN:=⟨⟨⟨⟨#[]⟩,0,0,⟨#[]⟩,[],[]⟩,⟨none,0,0⟩,⟨none,0,0⟩⟩⟩
def DN.cells (b:DN):List Value:=[.string b.s.name,.int .i64 b.s.kind,.int .i64 b.s.depth,.string b.s.initial,b.u.val,b.v.val]
theorem Y2 {α:Type} {k:Nat} {E:Rel α} {w:World} {B:Nat} {v:Value} {l:List α} (h:Cq k E w B v l):∃s:SlV,s.val=v:=by
 obtain⟨A,n,c,rfl,_⟩:=h;exact⟨⟨A,n,c⟩,rfl⟩
theorem Pa (w:World) (B:Nat) (a:Q.State) (o:Nat->Value) (h:∀j,j<6->JL w B a j (o j)):∃b:DN,b.s=a/\∀j,j<6->b.cells[j]?=some (o j):=by
 obtain⟨u,hu⟩:=Y2 (show Cq 3 Mt w B (o 4) a.entry from h 4 (by omega));obtain⟨v,J⟩:=Y2 (show Cq 3 Mt w B (o 5) a.exit from h 5 (by omega));refine⟨⟨a,u,v⟩,rfl,fun j I=>?_⟩;have p:=h j I
 match j,I,p with
 | 0,_,h=>rw[show o 0=_ from h];rfl
 | 1,_,h=>rw[show o 1=_ from h];rfl
 | 2,_,h=>rw[show o 2=_ from h];rfl
 | 3,_,h=>rw[show o 3=_ from h];rfl
 | 4,_,_=>rw[<-hu];rfl
 | 5,_,_=>rw[<-J];rfl
theorem RF (w:World):(isAgg 54).run prog w=.ok true w:=by kernel_rfl
theorem PA (w:World):(Go.sizeOf 54).run prog w=.ok 6 w:=by kernel_rfl
theorem Wy {β:Type} [Inhabited β] {k:Nat} (R:0<k) (o:β->List Value) (p:∀b,(o b).length=k) {w:World} {B:Nat} {I:List β} {J:Addr} (U:J.block<B)
  (h:∀i,i<I.length->∀j v,(o I[i]!)[j]?=some v->w.cell? ((J.add (i*k)).add j)=some v):Reads w B k (some J) I.length (I.flatMap o):=by
 refine⟨J0 o p I,fun _=>⟨J,rfl,U,fun m u hu=>?_⟩⟩;have hm:m<I.length*k:=by rw[<-J0 o p];exact(bC.1 hu).1
 have hi:m / k<I.length:=(Nat.div_lt_iff_lt_mul R).2 hm;have hj:m % k<k:=Nat.mod_lt _ R;have h9:=h (m / k) hi (m % k) u (by
  rw[getElem!_pos I (m / k) hi,<-IT o p I (m / k) (m % k) hi hj,jG];exact hu)
 rwa[Ca,jG]at h9
theorem CE {w:World} {B n U:Nat} {A:Option Addr} {c:Q.Af} (h:A6 w B (.slice A n U) c.Aa):Tree w B A n c.Ar:=by
 obtain⟨A0,c0,e,hn,hA⟩:=h.form;injection e with e1 e2 e3
 subst e1 e2;refine⟨by rw[AI],?_⟩;by_cases hl:0<c.Aa.length
 ·obtain⟨ad,rfl,I⟩:=hA 0 hl;obtain⟨o,R,hc⟩:=Uf DN.s DN.cells Pa (fun _=>rfl) h;have J:o.length=c.Aa.length:=by rw[<-R,bG]
  refine⟨o.flatMap DN.cells,by rw[<-J];exact Wy (k:=6) (by omega) DN.cells (fun _=>rfl) I hc,fun i hi=>?_⟩;have p:i<o.length:=by omega
  have hs:o[i].s=c.Aa[i]:=by
   have:(o.map DN.s)[i]?=c.Aa[i]?:=by rw[R]
   rw[cN,aQ p,aQ hi]at this;simpa using this
  have ha:∀j,j<6->(o.flatMap DN.cells)[i*6+j]?=o[i].cells[j]?:=fun j hj=>IT DN.cells (fun _=>rfl) o i j p hj
  rw[Cb c hi,K2 c hi,<-hs];exact⟨⟨_,ha 0 (by omega)⟩,ha 1 (by omega),ha 2 (by omega),⟨_,ha 3 (by omega)⟩,⟨_,_,_,ha 4 (by omega)⟩,⟨_,_,_,ha 5 (by omega)⟩⟩
 ·have h0:c.Aa.length=0:=by omega
  refine⟨[],⟨by simp[h0],fun h=>absurd h (by omega)⟩,fun i hi=>by omega⟩
def KQ (s:ByteArray) (x:Q.State):Bool:=decide (x.name=s)
def Zct (b:DN):Value:=.agg #[.string b.s.name,.int .i64 b.s.kind,.int .i64 b.s.depth,.string b.s.initial,b.u.val,b.v.val]
theorem NL (s:ByteArray) (x:Q.State):(x.name.toList==s.toList)=KQ s x:=EO _ _
def O8 (g:Nat) (lb:Array Value) (p:Q.State->Bool) (w:World):Prop:=∀(W:World) (x:DN),Below w.heap.size w W->Calls prog g (#[Zct x]++lb) W fun e j=>e=.returned (.bool (p x.s))/\Below w.heap.size w j
theorem PU {g:Nat} {lb:Array Value} {p:Q.State->Bool} {w:World} {v:Value} {l:List Q.State} (j:∀args w,(callFunc g args).run prog w=.ok (.enter g args) w) (h:A6 w w.heap.size v l) (hp:O8 g lb p w) :
  Calls prog 187 #[v,.func (.func g) #[] lb] w fun e o=>e=.returned (.int .i64 (ET p l))/\Below w.heap.size w o:=
 Ye (P:=prog) Tryz.ZaH RF PA DN.s DN.cells Pa (fun _=>rfl) (by omega) p g lb j w v l h hp
def Is (c:Q.Af) (s:ByteArray):Int:=ET (KQ s) c.Aa
theorem CZ (c:Q.Af) (s:ByteArray):(place c s=none/\Is c s=-1)\/∃k,place c s=some k/\Is c s=(k:Int)/\k<c.Aa.length:=by
 unfold Is place;cases h:c.Aa.findIdx? fun x=>decide (x.name=s)with
 |none=>exact .inl ⟨rfl,ID h⟩
 |some k=>exact .inr ⟨k,rfl,IF h,(cY.1 h).1⟩
theorem NC (s:ByteArray) (b:Nat) (w:World) (I:b<w.heap.size) (J:w.cell? ⟨b,0,none⟩=some (.string s)):O8 206 #[.pointer (some ⟨b,0,none⟩)] (KQ s) w:=fun W x j=>by
 have R:W.cell? ⟨b,0,none⟩=some (.string s):=(j.cell (p:=⟨b,0,none⟩) I).trans J;have U:b<W.heap.size:=aK I j.size;have a1:b≠W.heap.size:=by omega
 obtain⟨r,o⟩:∃r,KQ s x.s=r:=⟨_,rfl⟩;rw[o];have HR:=jK o;show Calls prog 206 #[.agg #[.string x.s.name,.int .i64 x.s.kind,.int .i64 x.s.depth,.string x.s.initial,.slice x.u.a x.u.n x.u.c,.slice x.v.a x.v.n x.v.c],.pointer (some ⟨b,0,none⟩)] W _;clear o J;go_enter func206,ntmps206;go_wp2;go_ret;exact⟨Db (by rw[<-HR.out];exact NL s x.s),j.alloc j.size _⟩
theorem BI (b:Bool) (x:Int) (w:World):Calls prog 83 #[.bool b,.int .i64 x] w fun e j=>e=.returned (.int .i64 (CN b x))/\j=w:=by
 cases b
 all_goals
  go_enter func83,ntmps83;go_wp2;go_ret;exact⟨rfl,rfl⟩
theorem Ez (w:World) (k:Int):Calls prog 79 #[.int .i64 k] w fun e p=>e=.returned (.bool (BR k))/\p=w:=by
 go_enter func79,ntmps79;unfold BR;by_cases j:k=5
 ·subst j;go_wp2;go_ret;exact⟨rfl,rfl⟩
 ·by_cases o:k=6
  ·subst o;go_wp2;go_ret;exact⟨rfl,rfl⟩
  ·go_wp2;go_ret;exact⟨by simp[j,o],rfl⟩
theorem EL (c:Q.Af) (nm s:ByteArray) (ev vv sv tv:Value) (w:World) (h:AQ w w.heap.size ev vv sv tv c) :
  Calls prog 128 #[BZ nm ev vv sv tv,.string s] w fun e I=>e=.returned (.int .i64 (Is c s))/\Below w.heap.size w I:=by
 have o:=AT w (.cells #[.string nm,ev,vv,sv,tv] 27);have j:=CU o (.cells #[.string s] 9);go_enter func128,ntmps128;go_wp2_with fail;refine(PU (enters_of func206 (by decide) rfl) (h.on j).Aa (NC s (w.heap.size+1) _ (by simp) (by go_simp))).mono ?_;rintro e J⟨rfl,p⟩;go_wp2;go_ret;exact⟨rfl,Ab j p⟩
theorem Mz (l:List ByteArray) (v:Value) (w:World) (h:AE w w.heap.size v l) (hn:l.length<=1000000) :
  Calls prog 88 #[v] w fun e w'=>e=.returned (.bool (Q.distinct l))/\Below w.heap.size w w':=by
 obtain⟨r,hr⟩:∃r,Q.distinct l=r:=⟨_,rfl⟩;rw[hr];rw[<-ZaB]at hr;have HR:=jK hr;clear hr;go_enter func88,ntmps88;go_wp2_with fail;refine(Mr w v l h hn).mono ?_;rintro e w1⟨v1,rfl,I,J⟩;go_wp2_with fail;refine(Xq w1 w.heap.size v1 l J (by omega)).mono ?_;rintro e w2⟨rfl,p,a6⟩;have R:Below w.heap.size w w2:=I.grown a6 I.size fun k hk=>(Bd J hk).2
 obtain⟨S,hS⟩:∃S,(Ef l).mergeSort leB=S:=⟨_,rfl⟩;have j:=HR.out;rw[show((List.map (fun s=>s.data.toList) l).mergeSort fun x y=>decide (x<=y))=S from hS]at j;have a7:(unB S).length=l.length:=by rw[Zbf,<-hS,gW,JB]
 rw[hS,<-a7]at p;have a8:=AE.BL p (by omega);clear HR;have HR:=jK j;have b7:=jK a7;clear j hS J a6;go_wp2_with fail;refine(Mr w2 v1 (unB S) a8 (by omega)).mono ?_;rintro e w3⟨v3,rfl,b0,U⟩;have o:=Ab R b0;go_wp2_with fail;refine(Qa w3 w2.heap.size v3 (unB S) U (by omega)).mono ?_;rintro e w4⟨A4,c4,rfl,b1⟩;have b8:Below w.heap.size w w4:=o.grown b1 o.size fun k hk=>by have:=(Bd U hk).2;have:=R.size;omega
 rw[OL];obtain⟨A2,c2,rfl⟩:=Al p;rw[b7.out];clear p U a8 b1 o b0 R I;obtain⟨n4,b2⟩:∃n4,(Lib.compact S).length=n4:=⟨_,rfl⟩;have j:=HR.out;rw[b2]at j⊢;have HR:=jK j;clear j b2;go_wp2;go_ret;exact⟨Db (by rw[<-HR.out,cH,dI,aP];omega),b8⟩
theorem G7 (c:Q.Af) (nm s:ByteArray) (ev vv sv tv:Value) (w:World) (h:AQ w w.heap.size ev vv sv tv c) :
  Calls prog 166 #[BZ nm ev vv sv tv,.string s] w fun e w'=>e=.returned (.int .i64 (Is c s))/\Below w.heap.size w w':=by
 obtain⟨A,cp,rfl,hn,hA⟩:=h.Aa.form;have p:=AT w (.cells #[.string nm,ev,vv,.slice A c.Aa.length cp,tv] 27);have h0:=(h.on p).Aa;have h1:=h0;obtain⟨r,R⟩:∃r,Is c s=r:=⟨_,rfl⟩;rw[R];unfold Is at R;have HR:=jK R;clear R h;generalize c.Aa=l at *;go_enter func166,ntmps166;go_wp2
 go_loop [5] (fun v=>∃k:Nat,k<=l.length/\v=.int .i64 (k:Int)/\∀j (h:j<l.length),j<k->KQ s l[j]=false) (fun v=>l.length-(intOf v).toNat)
 case atStart=>exact⟨0,by omega,rfl,fun j _ U=>absurd U (by omega)⟩
 case round=>
  obtain⟨k,hk,rfl,o⟩:=hrel;by_cases I:k<l.length
  ·have b3:(k:Int)<(l.length:Int):=by omega
   obtain⟨ad,rfl,b4⟩:=hA k I;obtain⟨_,_,a1,-⟩:=A6.at_ h1 I;have HA:=jK o;have J:=NL s l[k];clear o;cases e:KQ s l[k]
   ·rw[e]at J;have HE:=jK e;clear e;go_wp2
    go_round
    case rel=>exact⟨k+1,by omega,by go_num,fun j U b6=>by
     by_cases e:j=k
     ·subst e;exact HE.out
     ·exact HA.out j U (by omega)⟩
    case measure=>simp[intOf];omega
   ·rw[e]at J;obtain rfl:r=(k:Int):=by rw[<-HR.out];exact Qr I e HA.out
    clear e;go_wp2;go_ret;exact⟨rfl,p⟩
  ·obtain rfl:k=l.length:=by omega
   have b7:¬(l.length:Int)<(l.length:Int):=by omega
   obtain rfl:r=-1:=by rw[<-HR.out];exact PX o
   clear o;go_wp2;go_ret;exact⟨rfl,p⟩
end
section
open Go.RowKit Q Go.Lib Go.Shelf
def IS:Go.Shelf.Ren:=⟨fun| 4=>172|n=>n,fun| 22=>22| 25=>9| 20=>20| 9=>9| 4=>4| 3=>3|n=>n,fun|n=>n⟩
theorem Zbw:Go.Proofs.Lays8.n4 prog IS:={
 mixed:=by kernel_rfl
 f4:=⟨Tryz.f172.name,by decide,func172.trans (congrArg some (by kernel_rfl))⟩
 t0:=underlying0
 a0:=Tryz.isAgg0
 z0:=Tryz.sizeOf0
 v0:=Tryz.zeroValue0
 t3:=underlying3
 a3:=Tryz.isAgg3
 z3:=Tryz.sizeOf3
 v3:=Tryz.zeroValue3
 t4:=underlying4
 a4:=Tryz.isAgg4
 z4:=Tryz.sizeOf4
 v4:=Tryz.zeroValue4
 t9:=underlying9
 a9:=Tryz.isAgg9
 z9:=Tryz.sizeOf9
 v9:=Tryz.zeroValue9
 t20:=underlying20
 a20:=Tryz.isAgg20
 z20:=Tryz.sizeOf20
 v20:=Tryz.zeroValue20
 t22:=underlying22
 a22:=Tryz.isAgg22
 z22:=Tryz.sizeOf22
 v22:=Tryz.zeroValue22}
theorem BE (l:List ByteArray):∀u∈strs l,u.oneCell'=true:=fun u hu=>by
 obtain⟨s,_,rfl⟩:=dF.1 hu;rfl
theorem BX:(prog.info? 9).map (fun i=>(i.zero,i.size,i.bytes))=some (some (.string ⟨#[]⟩),1,16):=by kernel_rfl
theorem Q1 (n:Nat) (hn:n<=1000000) (w:World) :
  Calls prog 172 #[.slice none 0 0,.int .i64 (n:Int)] w fun e j=>∃v,e=.returned v/\Below w.heap.size w j/\j.ownsRow w.heap.size 9 1 v 0 []:=by
 obtain⟨i0,o,p,I,J⟩:=dC BX;by_cases U:n=0
 ·subst U;refine(Any8.slices_Grow_room Zbw none 0 0 0 w (by omega) (by omega) (by omega) (by omega)).mono ?_;rintro e j⟨rfl,rfl⟩;exact⟨_,rfl,aJ _ _,bL _ _ _ _⟩
 ·refine(Any8.slices_Grow_grow Zbw i0 (.string ⟨#[]⟩) o p (by rw[I];omega) none 0 0 n [] w (by omega) (by omega) (by rw[J];omega) (by omega) (by simp) (fun _=>rfl) (fun a h=>by cases h)).mono ?_;rintro e j⟨rfl,rfl⟩;have h1:=grownCap_ge w (0+n) 0 (IS.t 25);have R:=grownCap_le_maxLen w (0+n) 0 (IS.t 25) (by unfold maxLen;omega);obtain⟨G,hG⟩:∃G,grownCap w (0+n) 0 (IS.t 25)=G:=⟨_,rfl⟩;rw[hG]at h1 R⊢;refine⟨_,rfl,(aJ _ w).drew.alloc (aL _) _,?_⟩;exact World.ownsRow_made w.drew _ G (aL _) R (by simp[size_zeroCells,Value.cells];omega)
theorem Uu {g:Nat} {lb:Array Value} {p:ByteArray->Bool} {w:World} {v:Value} {l:List ByteArray} (J:∀args w,(callFunc g args).run prog w=.ok (.enter g args) w) (h:AE w w.heap.size v l) (hp:PredAt prog g lb Value.string p w) :
  Calls prog 85 #[v,.func (.func g) #[] lb] w fun e o=>e=.returned (.bool (l.any p))/\∃q,o=w.drewN q:=by
 obtain⟨A,c,rfl,R,U⟩:=h.form;by_cases hl:0<l.length
 ·obtain⟨b,off,rfl,_,hc⟩:=FN U hl;refine(AnyE.slices_ContainsFunc Tryz.ZbC Value.string p g lb J b off l.length c l w hp (aL _) R fun j I=>?_).mono ?_
  ·rw[getElem!_pos l j I];have:=hc j _ (MP I);rw[this];congr 2;rw[fU,aQ I];rfl
  ·rintro e o⟨rfl,hq⟩;rw[bT];exact⟨rfl,hq⟩
 ·obtain rfl:=aZ (show l.length=0 by omega);refine(AnyE.slices_ContainsFunc_empty Tryz.ZbC A c _ w).mono ?_;rintro e o⟨rfl,rfl⟩;exact⟨rfl,0,rfl⟩
def YW:Rel (List ByteArray):=fun w B l _ u=>AE w B u l
theorem Uc:Hc YW:=fun w w' B B' l j u o p h=>by
 obtain⟨A,n,c,I,J,R,U⟩:=h;exact⟨A,n,c,I,J,R,(U.keep p).more o⟩
theorem Ov {α:Type} {L:List (List α)} {k:Nat} (j:k<L.length):(L.take (k+1)).flatten=(L.take k).flatten++L[k]:=by
 rw[bM j,List.flatten_append];simp
theorem Ss {α:Type} (L:List (List α)) (k:Nat):(L.take k).flatten.length<=L.flatten.length:=by
 conv=>rhs;rw[<-fN k L,List.flatten_append,aO]
 omega
theorem Tj (w:World) (v:Value) (L:List (List ByteArray)) (h:Cq 1 YW w w.heap.size v L) (hn:L.flatten.length<=1000000) (hL:L.length<=1000000) :
  Calls prog 81 #[v] w fun e w'=>∃v',e=.returned v'/\Below w.heap.size w w'/\w'.ownsRow w.heap.size 9 1 v' L.flatten.length (strs L.flatten):=by
 obtain⟨i0,c1,c2,c6,c7⟩:=dC BX;obtain⟨A,c,rfl,i7,hA⟩:=h.form;have b2:∀(w1:World),Below w.heap.size w w1->∀k (U:k<L.length),∃ad uA uc,A=some ad/\ad.block<w.heap.size/\w1.cell? (ad.add k)=some (.slice uA L[k].length uc)/\Reads w1 w1.heap.size 1 uA L[k].length (strs L[k]):=fun w1 hb k U=>by
  obtain⟨A',n',c',e,h2,h3,h4⟩:=h.on Uc hb;injection e with e1 e2 e3
  subst e1;obtain⟨ad,e4,_,h5⟩:=h4 k U;obtain⟨j4,e5,h6⟩:=hA k U;rw[e4]at e5;injection e5 with e5
  subst e5;obtain⟨u,hu,hs⟩:=h5 0 (by omega);obtain⟨uA,uc,rfl,_,hr⟩:=hs.form;exact⟨ad,uA,uc,e4,h6,by rw[Ca,Nat.mul_one,dD]at hu;exact hu,hr⟩
 have b3:=jK b2;clear b2;have R:∀k,(L.take k).flatten.length<=1000000:=fun k=>aV (Ss L k) hn
 have HP:=jK R;clear R;go_enter func81,ntmps81;go_wp2
 go_loop [11,3] (fun v s=>∃k:Nat,k<=L.length/\v=.int .i64 (k:Int)/\s=.int .i64 ((L.take k).flatten.length:Int)) (fun v _=>L.length-(intOf v).toNat)
 case atStart=>exact⟨0,by omega,rfl,rfl⟩
 case round=>
  obtain⟨k,U,rfl,rfl⟩:=hrel;have hp:=HP.out k;by_cases I:k<L.length
  ·have c9:(k:Int)<(L.length:Int):=by omega
   have o:=HP.out (k+1);have p:=Ov I;rw[p,aO]at o;obtain⟨ad,uA,uc,rfl,e0,e6,_⟩:=b3.out w (aJ _ _) k I;have a8:=jK p;clear p;obtain⟨S,hS⟩:∃S,(L.take k).flatten.length=S:=⟨_,rfl⟩;rw[hS]at o hp⊢;have HS:=jK hS;clear hS;generalize b4:L[k].length=T at *;have j9:IntKind.i64.wrap ((S:Int)+(T:Int))=(S:Int)+(T:Int):=cM _ (by omega);have k0:¬(S:Int)+(T:Int)<0:=by omega
   have e8:=jK b4;have k1:=jK o;clear b4 o hp hn hL;go_wp2
   go_round
   case rel=>exact⟨k+1,by omega,by go_num,by rw[a8.out,aO,e8.out];rw[HS.out];go_num⟩
   case measure=>simp[intOf];omega
  ·obtain rfl:k=L.length:=by omega
   have e9:¬(L.length:Int)<(L.length:Int):=by omega
   rw[bT]at hp;rw[bT];obtain⟨T,hT⟩:∃T,L.flatten.length=T:=⟨_,rfl⟩;rw[hT];have HT:=jK hT;rw[hT]at hp;clear hT hn;go_wp2_with fail
   (with_reducible refine(Q1 T hp w).mono ?_)
   rintro e w1⟨V,rfl,h0,hV⟩;go_wp2
   go_loopw [27,6] (fun v V wr=>∃k:Nat,k<=L.length/\v=.int .i64 (k:Int)/\wr.ownsRow w.heap.size 9 1 V (L.take k).flatten.length (strs (L.take k).flatten)/\Below w.heap.size w wr) (fun v _ _=>L.length-(intOf v).toNat)
   case atStart=>exact⟨0,by omega,rfl,by simpa[strs]using hV,h0⟩
   case round=>
    obtain⟨k,U,rfl,j,hb⟩:=hrel;have k3:=hb.size;by_cases I:k<L.length
    ·have c9:(k:Int)<(L.length:Int):=by omega
     have o:=HP.out (k+1);have p:=Ov I;rw[p,aO]at o;obtain⟨ad,uA,uc,rfl,e0,e6,h1⟩:=b3.out wr hb k I;have a8:=jK p;have b5:=BE L[k];clear p;go_wp2_with (at_builtin;refine Ap _ rfl _ _ 22 rfl w.heap.size 9 i0 _ 1 16 underlying22 c1 c2 c6 c7 rfl (by decide) _ _ _ rfl j _ uA L[k].length uc _ rfl h1 b5 ?c3 ?c4 ?c5 ?_)
     case c3=>unfold maxLen;omega
     case c4=>omega
     case c5=>omega
     intro v' w2 J b6 _;have h7:Below w.heap.size w w2:=hb.grown b6 hb.size (fun k U=>(Bd j U).2);have HO:Hid (w2.ownsRow w.heap.size 9 1 v' (L.take (k+1)).flatten.length (strs (L.take (k+1)).flatten)):=jK (by
      rw[a8.out,aO];have:=J;unfold strs at this⊢;rw[bN]
      first|exact this|(rw[List.length_flatten,List.map_take];exact this))
     clear J b6 j o;go_wp2;go_roundw
     case rel=>exact⟨k+1,by omega,by go_num,HO.out,h7⟩
     case measure=>simp[intOf];omega
    ·obtain rfl:k=L.length:=by omega
     have e9:¬(L.length:Int)<(L.length:Int):=by omega
     rw[bT]at j;go_wp2;go_ret;refine⟨u6,rfl,hb,?_⟩
     first|exact j|(rw[<-List.length_flatten];exact j)
end
section
open Go.RowKit Q Go.Lib
theorem Fc {st:BQ} (j:Tr.right st) {i:Nat} (hi:i<st.length):Tr.hasB st (i:Int)=true:=Ek.2 ⟨i,rfl,hi,j⟩
theorem I9 {c:Q.Af} (j:Tr.right c.Ar):c.Aa.length<=40:=by
 have:=Tr.Kl j
 rwa[AI]at this
section
variable {c:Q.Af} {A:Option Addr} {n cp:Nat} {w:World}
theorem QE (h:A6 w w.heap.size (.slice A n cp) c.Aa):c.Aa.length=n:=by
 obtain⟨j,o,p,e,I,_⟩:=h;injection e with J R U
 omega
theorem Gp (h:A6 w w.heap.size (.slice A n cp) c.Aa) (f:Fit c) (j:Tr.right c.Ar) (i:Nat) (hi:i<n) :
  Calls prog 111 #[.slice A n cp,.int .i64 (i:Int)] w fun e o=>e=.returned (.int .i64 (Tr.up c.Ar i))/\Below w.heap.size w o:=by
 have p:=I9 j;have J:=QE h;refine(TQ w A n cp c.Ar (CE h) f.wf (by unfold maxLen;omega) i).mono ?_;rintro e o⟨rfl,I⟩;refine⟨?_,I⟩;unfold Tr.Mb;rw[Fc j (by rw[AI];omega)];rfl
theorem SI (h:A6 w w.heap.size (.slice A n cp) c.Aa) (f:Fit c) (o:Tr.right c.Ar) (i j:Int) :
  Calls prog 126 #[.slice A n cp,.int .i64 i,.int .i64 j] w fun e p=>e=.returned (.bool (Tr.Es c.Ar i j))/\Below w.heap.size w p:=by
 have I:=I9 o;have J:=QE h;exact TN w A n cp c.Ar (CE h) f.wf (by unfold maxLen;omega) i j
theorem DU (h:A6 w w.heap.size (.slice A n cp) c.Aa) (j:Tr.right c.Ar) (i:Nat) (hi:i<n) :
  Calls prog 59 #[.slice A n cp,.int .i64 (i:Int)] w fun e o=>e=.returned (.int .i64 (Tr.up c.Ar i))/\Below w.heap.size w o:=by
 have p:=I9 j;have I:=QE h;exact CD w A n cp c.Ar (CE h) (by unfold maxLen;omega) (Tr.Fq j) i hi
theorem MV (h:A6 w w.heap.size (.slice A n cp) c.Aa) (o:Tr.right c.Ar) (i j:Nat) (p:j<n) :
  Calls prog 167 #[.slice A n cp,.int .i64 (i:Int),.int .i64 (j:Int)] w fun e I=>e=.returned (.bool (decide (i<j/\j<Tr.fin c.Ar i)))/\Below w.heap.size w I:=by
 have J:=I9 o;have R:=QE h;exact Gg w A n cp c.Ar (CE h) (by unfold maxLen;omega) (Tr.Fq o) i j p
end
theorem Be {a b:Int} (h:a=b):(a==b)=true:=by simpa using h
theorem Bj {a b:Int} (h:a=b):(a != b)=false:=by simpa using h
theorem Bg {a b:Int} (h:a≠b):(a==b)=false:=by simpa using h
theorem Bc {a b:Int} (h:a≠b):(a != b)=true:=by simpa using h
theorem Bi (w:World) (j:Array Value) (T:TypeId) {W:World} (e:w.alloc (.cells j T)=W):Below w.heap.size w W/\W.heap.size=w.heap.size+1/\Bw W w.heap.size T j:=by
 subst e;exact⟨AT _ _,by simp,Bw.new w T j⟩
theorem Bl {w W:World} {nm:ByteArray} {ev vv sv tv:Value} {c:Q.Af} (h:AQ w w.heap.size ev vv sv tv c) (e:w.alloc (.cells #[.string nm,ev,vv,sv,tv] 27)=W) :
  Below w.heap.size w W/\W.heap.size=w.heap.size+1/\AQ W W.heap.size ev vv sv tv c/\W.cell? ⟨w.heap.size,0,none⟩=some (.string nm)/\W.cell? ⟨w.heap.size,1,none⟩=some ev/\W.cell? ⟨w.heap.size,2,none⟩=some vv/\W.cell? ⟨w.heap.size,3,none⟩=some sv/\W.cell? ⟨w.heap.size,4,none⟩=some tv:=by
 obtain⟨o,p,j⟩:=Bi _ _ _ e;exact⟨o,p,h.on o,j.cell 0,j.cell 1,j.cell 2,j.cell 3,j.cell 4⟩
theorem A5 {w:World} {n cp:Nat} {j:Addr} {c:Q.Af} {i:Nat} (h:A6 w w.heap.size (.slice (some j) n cp) c.Aa) (hi:i<c.Aa.length) :
  ∃o p I J,w.cell? (j.add (i*6))=some (.string c.Aa[i].name)/\w.cell? {block:=(j.add (i*6)).block,off:=(j.add (i*6)).off+1}=some (.int .i64 c.Aa[i].kind)/\
   w.cell? {block:=(j.add (i*6)).block,off:=(j.add (i*6)).off+2}=some (.int .i64 c.Aa[i].depth)/\w.cell? {block:=(j.add (i*6)).block,off:=(j.add (i*6)).off+3}=some (.string c.Aa[i].initial)/\
   w.cell? {block:=(j.add (i*6)).block,off:=(j.add (i*6)).off+4}=some (.slice o c.Aa[i].entry.length p)/\w.cell? {block:=(j.add (i*6)).block,off:=(j.add (i*6)).off+5}=some (.slice I c.Aa[i].exit.length J)/\
   Cj w w.heap.size (.slice o c.Aa[i].entry.length p) c.Aa[i].entry/\Cj w w.heap.size (.slice I c.Aa[i].exit.length J) c.Aa[i].exit:=by
 obtain⟨u,v,U,c1,c2,c3,c4,c5,hu,R⟩:=A6.at_ h hi;obtain⟨o,p,rfl,-,-⟩:=hu.form;obtain⟨I,J,rfl,-,-⟩:=R.form;exact⟨o,p,I,J,U,c1,c2,c3,c4,c5,hu,R⟩
theorem Ff {w W:World} {nm o:ByteArray} {k d:Int} {u v:Value} (e:w.alloc (.cells #[.string nm,.int .i64 k,.int .i64 d,.string o,u,v] 54)=W) :
  Below w.heap.size w W/\W.heap.size=w.heap.size+1/\W.cell? ⟨w.heap.size,0,none⟩=some (.string nm)/\W.cell? ⟨w.heap.size,1,none⟩=some (.int .i64 k)/\W.cell? ⟨w.heap.size,2,none⟩=some (.int .i64 d)/\W.cell? ⟨w.heap.size,3,none⟩=some (.string o)/\W.cell? ⟨w.heap.size,4,none⟩=some u/\W.cell? ⟨w.heap.size,5,none⟩=some v:=by
 obtain⟨p,I,j⟩:=Bi _ _ _ e;exact⟨p,I,j.cell 0,j.cell 1,j.cell 2,j.cell 3,j.cell 4,j.cell 5⟩
theorem Di (s:ByteArray):s.toList.isEmpty=decide (s.size=0):=by
 rw[Dl,cH,gB,aP];constructor
 ·intro h;show s.data.size=0;rw[<-bS,h];rfl
 ·intro h;exact aZ (by rw[bS];exact h)
theorem Sa (c:Q.Af) (nm:ByteArray) (ev vv sv tv:Value) (w:World) (h:AQ w w.heap.size ev vv sv tv c) (f:Fit c) (hr:Tr.right c.Ar) (i:Nat) (hi:i<c.Aa.length) :
  Calls prog 92 #[BZ nm ev vv sv tv,.int .i64 (i:Int)] w fun e w'=>e=.returned (.int .i64 (Ew c i c.Aa[i]))/\Below w.heap.size w w':=by
 obtain⟨SA,sc,rfl,j5,e3⟩:=h.Aa.form;obtain⟨ad,rfl,j6⟩:=e3 i hi;obtain⟨W0,e0⟩:∃W0,w.alloc (.cells #[.string nm,ev,vv,.slice (some ad) c.Aa.length sc,tv] 27)=W0:=⟨_,rfl⟩;obtain⟨b7,s0,h0,p0,p1,p2,p3,p4⟩:=Bl h e0;obtain⟨uA,uc,vA,vc,c0,c1,c2,c3,c4,c5,-,-⟩:=A5 h0.Aa hi;have b4:=Cb c hi;obtain⟨r,a7⟩:∃r,Ew c i c.Aa[i]=r:=⟨_,rfl⟩;rw[a7];generalize c.Aa[i]=s at *;obtain⟨W,e1⟩:∃W,W0.alloc (.cells #[.string s.name,.int .i64 s.kind,.int .i64 s.depth,.string s.initial,.slice uA s.entry.length uc,.slice vA s.exit.length vc] 54)=W:=⟨_,rfl⟩;obtain⟨a8,s1,q0,q1,q2,q3,q4,q5⟩:=Ff e1;rw[s0]at q0 q1 q2 q3 q4 q5 s1;have h1:=h0.on a8;have b8:=Ab b7 a8;obtain⟨J,b9⟩:=Ae a8;rw[s0]at J b9;have g0:W.cell? ⟨w.heap.size,0,none⟩=some (.string nm):=by rw[J _ _ (by omega)];exact p0
 have g1:W.cell? ⟨w.heap.size,1,none⟩=some ev:=by rw[J _ _ (by omega)];exact p1
 have g2:W.cell? ⟨w.heap.size,2,none⟩=some vv:=by rw[J _ _ (by omega)];exact p2
 have g3:W.cell? ⟨w.heap.size,3,none⟩=some (.slice (some ad) c.Aa.length sc):=by rw[J _ _ (by omega)];exact p3
 have g4:W.cell? ⟨w.heap.size,4,none⟩=some tv:=by rw[J _ _ (by omega)];exact p4
 clear J b9 a8 q0 q2 q4 q5 p0 p1 p2 p4;unfold Ew at a7;have o:=jK a7;have k6:(i:Int)<(c.Aa.length:Int):=by omega
 have k7:=jK b4;clear a7 b4;have k8:=f;go_enter func92,ntmps92;go_upto_region 2 with(fail)
 clear e0 e1 c0 c1 c2 c3 c4 c5 p3 s0 b7 h0;by_cases hA:s.kind≠2/\BR s.kind=false
 ·obtain⟨p,kp⟩:=hA;have j:=o.out;rw[if_pos ⟨p,kp⟩]at j;have z2:=Bc p;have KP:=jK kp;clear o p kp;go_wp2_with fail;refine(Ez _ s.kind).mono ?_;rintro e w'⟨rfl,rfl⟩;rw[KP.out];go_wp2_with (refine(BI _ _ _).mono ?_;rintro e w'⟨rfl,rfl⟩);go_ret;exact⟨D4 (by rw[Di,<-j];unfold CN;simp only[aP]),b8⟩
 ·have j:=o.out;rw[if_neg hA]at j;have b5:s.kind=2\/(s.kind≠2/\BR s.kind=true):=by
   by_cases p:s.kind=2
   ·exact .inl p
   ·refine .inr ⟨p,?_⟩;rw[<-Bool.not_eq_false];exact fun e=>hA ⟨p,e⟩
  clear o hA;have o:=jK j;clear j;have h4:∃(z:Bool),(s.kind != 2)=z/\(z=true->BR s.kind=true):=by
   rcases b5 with p|⟨p,kp⟩
   ·exact⟨false,Bj p,fun x=>by cases x⟩
   ·exact⟨true,Bc p,fun _=>kp⟩
  obtain⟨z,hz,c8⟩:=h4;have l0:=jK b5;have e7:=jK c8;clear b5 c8;go_upto_region 2 with(fail)
  cases z
  all_goals
   go_upto_region 4 with((with_reducible refine(Ez _ s.kind).mono ?_);rintro e w'⟨rfl,rfl⟩;rw[e7.out rfl])
   go_wp2_with fail;refine(EL c nm s.initial ev vv _ tv _ h1).mono ?_;rintro e w3⟨rfl,b0⟩;obtain⟨l1,l2⟩:=Ae b0;have l3:w.heap.size+1<w3.heap.size:=by have:=b0.size;omega
   have j0:w.heap.size<w3.heap.size:=by omega
   have h3:=h1.on b0;have R:=Ab b8 b0;rcases CZ c s.initial with⟨hp,U⟩|⟨k,hp,U,b1⟩
   ·rw[U];have j:=o.out;rw[hp]at j;subst j;clear o hp U;go_wp2;go_ret;exact⟨rfl,R⟩
   rw[U];have j:=o.out;rw[hp]at j;dsimp only at j;obtain⟨_,_,_,_,-,d1,-⟩:=A5 h3.Aa b1;rw[<-Cb c b1]at d1;have l4:(k:Int)<(c.Aa.length:Int):=by omega
   have l5:¬(k:Int)<0:=by omega
   clear o hp U;have o:=jK j;clear j;go_wp2_with fail;refine(Ez _ (Tr.kd c.Ar k)).mono ?_;rintro e w'⟨rfl,rfl⟩;obtain⟨x,hx⟩:∃x,BR (Tr.kd c.Ar k)=x:=⟨_,rfl⟩;have j:=o.out;rw[hx]at j⊢;clear o hx;cases x;rotate_left
   ·subst j;go_wp2;go_ret;exact⟨rfl,R⟩
   rw[if_neg dT]at j;have o:=jK j;clear j;go_wp2_with fail;refine(Gp h3.Aa f hr i hi).mono ?_;rintro e w4⟨rfl,b2⟩;obtain⟨l6,l7⟩:=Ae b2;have l8:w.heap.size+1<w4.heap.size:=by have:=b2.size;omega
   have j3:w.heap.size<w4.heap.size:=by omega
   have h4:=h3.on b2;have a1:=Ab R b2;by_cases p:s.kind=2
   ·have z2:=Be p;have j:=o.out;rw[if_pos p]at j;clear o p;have o:=jK j;clear j;go_wp2_with fail;refine(Gp h4.Aa f hr k b1).mono ?_;rintro e w5⟨rfl,a6⟩;have I:=Ab a1 a6;go_wp2_with (refine(BI _ _ _).mono ?_;rintro e w'⟨rfl,rfl⟩);go_ret;exact⟨D4 (by rw[<-o.out];unfold CN;simp only[dI]),I⟩
   by_cases k5:s.kind=5
   ·have z2:=Bg p;have z5:=Be k5;have j:=o.out;rw[if_neg p,if_pos k5]at j;clear o p k5;have o:=jK j;clear j;go_wp2_with fail;refine(Gp h4.Aa f hr k b1).mono ?_;rintro e w5⟨rfl,a6⟩;have I:=Ab a1 a6;go_wp2_with (refine(BI _ _ _).mono ?_;rintro e w'⟨rfl,rfl⟩);go_ret;exact⟨D4 (by rw[<-o.out];unfold CN;simp only[dI]),I⟩
   ·have z2:=Bg p;have z5:=Bg k5;have j:=o.out;rw[if_neg p,if_neg k5]at j;clear o p k5;have o:=jK j;clear j;go_wp2_with fail;refine(SI h4.Aa f hr (Tr.up c.Ar i) k).mono ?_;rintro e w5⟨rfl,a6⟩;have I:=Ab a1 a6;go_wp2_with (refine(BI _ _ _).mono ?_;rintro e w'⟨rfl,rfl⟩);go_ret;exact⟨D4 (by rw[<-o.out];unfold CN;rfl),I⟩
end
section
open Go.ChangeShapes Go.WideShapes Go.ChangeAt Go.RowKit Go.Deep Go.Joins Q
section
variable {H:Type} {enc:TypeId×Value->H} {w:World} {Bf:Nat} {v:Value} {x:DataW H×List MemPlace}
theorem Rz {E:TypeId}:∀(l:List (DataW H)) (d:DataW H),d∈l->∀n∈d.weights prog E,n∈DataW.weightsAll prog E l
 | [],d,j,n,o=>by cases j
 |d0::r,d,j,n,o=>by
  unfold DataW.weightsAll;rcases bJ.1 j with rfl|j
  ·exact iA _ o
  ·exact gV _ (Rz r d j n o)
theorem PH {α:Type} [Inhabited α] {k:Nat} (R:Rel α) (P:α->Prop) (T E:TypeId) (hT:prog.underlying T=some (.slice E)) (hc:prog.cellsOf E=k) (hk:0<k)
  (op:∀(n:Nat) (cs:List Value) (y:DataW H×List MemPlace),cs.length=k->DataW.trod enc prog w 0 (fun _=>true) true n E cs=some y->∃a,(∀j u,cs[j]?=some u->R w w.heap.size a j u)/\P a)
  (h:DataW.trod enc prog w 0 (fun _=>true) true Bf T [v]=some x):∃l,Cq k R w w.heap.size v l/\∀a∈l,P a:=by
 rcases open_slice hT h with⟨p,_⟩|⟨a,len,cap,m,n,D,Pl,p,_,hl,hm,J,hx,hi⟩
 ·obtain rfl:v=_:=bE p;exact⟨[],⟨none,0,0,rfl,rfl,by omega,fun i h=>absurd h (by simp)⟩,fun s hs=>by cases hs⟩
 ·obtain rfl:v=_:=bE p;simp only[if_true]at J;subst J;rw[hc]at hi;have U:∀i,∃g:α,i<m->P g/\∀j,j<k->∃u,w.cell? ((a.add (i*k)).add j)=some u/\R w w.heap.size g j u:=by
   intro i;by_cases a1:i<m
   ·obtain⟨I,b1,ht⟩:=hi i a1;obtain⟨_,o,b2⟩:=World.cells?_some b1;obtain⟨g,hg,hp⟩:=op n I _ o ht;refine⟨g,fun _=>⟨hp,fun j hj=>?_⟩⟩;have a6:I[j]?=some (I[j]'(by omega)):=aQ _;exact⟨_,(b2 j hj).trans a6,hg j _ a6⟩
   ·exact⟨default,fun h=>absurd h a1⟩
  obtain⟨g,hg⟩:=Classical.axiomOfChoice U;refine⟨(List.range len).map g,⟨some a,len,m,rfl,by simp,by unfold maxLen at hm;omega,fun i b4=>?_⟩,fun s hs=>?_⟩
  ·have b6:i<len:=by simpa using b4
   obtain⟨_,o⟩:=hg i (by omega);have b5:((List.range len).map g)[i]=g i:=by simp
   rw[b5];refine⟨a,rfl,?_,fun j hj=>o j hj⟩;obtain⟨u,hu,_⟩:=o 0 hk;have:=dN w _ hu
   rwa[Bz,Bz]at this
  ·obtain⟨i,hi,rfl⟩:=dF.1 hs;exact(hg i (by have:=cQ.1 hi;omega)).1
theorem NU {α:Type} [Inhabited α] {k:Nat} (R:Rel α) (P S:α->Prop) (T E:TypeId) (U:Nat) (b2:prog.bytesOf E=U) (hT:prog.underlying T=some (.slice E)) (hc:prog.cellsOf E=k) (hk:0<k)
  (op:∀(n:Nat) (cs:List Value) (y:DataW H×List MemPlace),cs.length=k->DataW.trod enc prog w 0 (fun _=>true) true n E cs=some y->∃a,(∀j u,cs[j]?=some u->R w w.heap.size a j u)/\P a/\((∀n∈y.1.weights prog E,n<=reachBytes)->S a))
  (h:DataW.trod enc prog w 0 (fun _=>true) true Bf T [v]=some x):∃l,Cq k R w w.heap.size v l/\(∀a∈l,P a)/\((∀n∈x.1.weights prog T,n<=reachBytes)->l.length*U<=140737488355328/\∀a∈l,S a):=by
 rcases open_slice hT h with⟨p,_⟩|⟨a,len,cap,m,n,D,Pl,p,_,hl,hm,a1,hx,hi⟩
 ·obtain rfl:v=_:=bE p;exact⟨[],⟨none,0,0,rfl,rfl,by omega,fun i h=>absurd h (by simp)⟩,(fun s I=>by cases I),fun _=>⟨by simp,fun s I=>by cases I⟩⟩
 ·obtain rfl:v=_:=bE p;simp only[if_true]at a1;subst a1;rw[hc]at hi;have a6:∀i,∃g:α,i<m->(P g/\((∀n∈(D i).weights prog E,n<=reachBytes)->S g))/\∀j,j<k->∃u,w.cell? ((a.add (i*k)).add j)=some u/\R w w.heap.size g j u:=by
   intro i;by_cases a7:i<m
   ·obtain⟨J,b4,ht⟩:=hi i a7;obtain⟨_,o,b5⟩:=World.cells?_some b4;obtain⟨g,hg,hp⟩:=op n J _ o ht;refine⟨g,fun _=>⟨hp,fun j hj=>?_⟩⟩;have b0:J[j]?=some (J[j]'(by omega)):=aQ _;exact⟨_,(b5 j hj).trans b0,hg j _ b0⟩
   ·exact⟨default,fun h=>absurd h a7⟩
  obtain⟨g,hg⟩:=Classical.axiomOfChoice a6;refine⟨(List.range len).map g,⟨some a,len,m,rfl,by simp,by unfold maxLen at hm;omega,fun i b1=>?_⟩,fun s I=>?_,fun hw=>?_⟩
  ·have c1:i<len:=by simpa using b1
   obtain⟨_,o⟩:=hg i (by omega);have b7:((List.range len).map g)[i]=g i:=by simp
   rw[b7];refine⟨a,rfl,?_,fun j hj=>o j hj⟩;obtain⟨u,hu,_⟩:=o 0 hk;have:=dN w _ hu
   rwa[Bz,Bz]at this
  ·obtain⟨i,hi,rfl⟩:=dF.1 I;exact(hg i (by have:=cQ.1 hi;omega)).1.1
  ·have b8:x.1.weights prog T=m*U::(DataW.weightsAll prog E ((List.range len).map D)++DataW.weightsAll prog E ((List.range (m-len)).map fun j=>D (len+j))):=by
    rw[hx];simp only[DataW.weights,hT,bG,fP];rw[Nat.add_sub_cancel' hl,b2]
   rw[b8]at hw;refine⟨?_,fun s I=>?_⟩
   ·have h8:=hw _ (aR ..);have h9:len*U<=m*U:=fD _ hl;rw[bG,fP];unfold reachBytes at h8;omega
   ·obtain⟨i,hi,rfl⟩:=dF.1 I;have b1:i<len:=cQ.1 hi;exact(hg i (by omega)).1.2 fun n hn=>hw n (bA _ (iA _ (Rz _ _ (dF.2 ⟨i,hi,rfl⟩) n hn)))
theorem WZ (h:DataW.trod enc prog w 0 (fun _=>true) true Bf 22 [v]=some x):∃l,AE w w.heap.size v l/\∀s∈l,s.size<=maxLen:=by
 obtain⟨l,U,h2⟩:=PH (α:=ByteArray) (k:=1) (fun _ _ s _ u=>u=.string s) (fun s=>s.size<=maxLen) 22 9 underlying22 (by kernel_rfl) (by omega) (fun n cs y hl ht=>by
  match cs,hl with
  | [c0],_=>
   obtain⟨s,e,_,hs⟩:=eF underlying9 ht;obtain rfl:c0=_:=bE e;exact⟨s,fun j u hu=>by
    cases j with
    |zero=>injection hu with hu;exact hu.symm
    |succ j=>simp at hu,hs⟩) h
 refine⟨l,?_,h2⟩;obtain⟨A,n,c,e1,p,e3,I⟩:=U;refine⟨A,n,c,e1,p,e3,by unfold strs;rw[bG,Nat.mul_one];exact p,fun hn=>?_⟩;obtain⟨ad,J,a2,_⟩:=I 0 (by omega);refine⟨ad,J,a2,fun j u hu=>?_⟩;have R:j<l.length:=by
  have:=(bC.1 hu).1;unfold strs at this
  rwa[bG]at this
 obtain⟨b8,o,_,b3⟩:=I j R;rw[J]at o;injection o with o
 subst o;obtain⟨u',c1,c2⟩:=b3 0 (by omega);rw[Ca,Nat.mul_one,dD]at c1;rw[c1,c2];unfold strs at hu;rw[cN,aQ R]at hu;exact hu
theorem Jt:prog.cellsOf 3=1:=by kernel_rfl
theorem MD:prog.cellsOf 2=1:=by kernel_rfl
theorem Ip:prog.cellsOf 9=1:=by kernel_rfl
theorem Zap:prog.cellsOf 22=1:=by kernel_rfl
theorem QN:prog.cellsOf 48=1:=by kernel_rfl
theorem Qj:prog.cellsOf 49=1:=by kernel_rfl
theorem Zbh:prog.cellsOf 23=1:=by kernel_rfl
theorem WM:prog.cellsOf 24=1:=by kernel_rfl
theorem Z9:prog.cellsOf 25=1:=by kernel_rfl
theorem Z1:prog.cellsOf 60=3:=by kernel_rfl
theorem Y1:prog.cellsOf 27=5:=by kernel_rfl
def PW (_:Q.Cell):Prop:=True
theorem Xg {o:List Value} (hl:o.length=3) (h:DataW.trod enc prog w 0 (fun _=>true) true Bf 248 o=some x) :
  ∃a:Q.Cell,(∀j u,o[j]?=some u->LO w w.heap.size a j u)/\PW a:=by
 match o,hl with
 | [p,c1,c2],_=>
  obtain⟨ys,n,_,_,_,I,J⟩:=fH underlying248 h
  match ys,I with
  | [y0,y1,y2],_=>
   have t0:DataW.trod enc prog w 0 (fun _=>true) true n 3 (([p,c1,c2].drop 0).take (prog.cellsOf 3))=some y0:=J 0 _ rfl;rw[Jt]at t0;obtain⟨k0,e0,_,w0⟩:=dW underlying3 t0;have R:p=_:=bE e0;have t1:DataW.trod enc prog w 0 (fun _=>true) true n 2 (([p,c1,c2].drop 1).take (prog.cellsOf 2))=some y1:=J 1 _ rfl;rw[MD]at t1;obtain⟨k1,e1,_,w1⟩:=dW underlying2 t1;have U:c1=_:=bE e1;have t2:DataW.trod enc prog w 0 (fun _=>true) true n 9 (([p,c1,c2].drop 2).take (prog.cellsOf 9))=some y2:=J 2 _ rfl;rw[Ip]at t2;obtain⟨k2,e2,_,w2⟩:=eF underlying9 t2;have a1:c2=_:=bE e2;subst R U a1;refine⟨⟨k0,k1,k2⟩,fun j u hu=>?_,trivial⟩
   match j,hu with
   | 0,hu=>injection hu with hu;exact hu.symm
   | 1,hu=>injection hu with hu;exact hu.symm
   | 2,hu=>injection hu with hu;exact hu.symm
theorem M2 (h:DataW.trod enc prog w 0 (fun _=>true) true Bf 48 [v]=some x):∃l:List Q.Cell,Cq 3 LO w w.heap.size v l/\∀a∈l,PW a:=
 PH LO PW 48 248 underlying48 (by kernel_rfl) (by omega) (fun n p y j o=>Xg j o) h
instance:Inhabited Q.Act:=⟨⟨0,⟨#[]⟩,[]⟩⟩
def UJ (a:Q.Act):Prop:=Ej a.name
theorem YJ {o:List Value} (hl:o.length=3) (h:DataW.trod enc prog w 0 (fun _=>true) true Bf 169 o=some x) :
  ∃a:Q.Act,(∀j u,o[j]?=some u->Mt w w.heap.size a j u)/\UJ a:=by
 match o,hl with
 | [p,c1,c2],_=>
  obtain⟨ys,n,_,_,_,I,J⟩:=fH underlying169 h
  match ys,I with
  | [y0,y1,y2],_=>
   have t0:DataW.trod enc prog w 0 (fun _=>true) true n 3 (([p,c1,c2].drop 0).take (prog.cellsOf 3))=some y0:=J 0 _ rfl;rw[Jt]at t0;obtain⟨k0,e0,_,w0⟩:=dW underlying3 t0;have R:p=_:=bE e0;have t1:DataW.trod enc prog w 0 (fun _=>true) true n 9 (([p,c1,c2].drop 1).take (prog.cellsOf 9))=some y1:=J 1 _ rfl;rw[Ip]at t1;obtain⟨k1,e1,_,w1⟩:=eF underlying9 t1;have U:c1=_:=bE e1;have t2:DataW.trod enc prog w 0 (fun _=>true) true n 48 (([p,c1,c2].drop 2).take (prog.cellsOf 48))=some y2:=J 2 _ rfl;rw[QN]at t2;obtain⟨k2,a2,w2⟩:=M2 t2;subst R U;refine⟨⟨k0,k1,k2⟩,fun j u hu=>?_,by show k1.size<=_;unfold maxLen at w1;omega⟩
   match j,hu with
   | 0,hu=>injection hu with hu;exact hu.symm
   | 1,hu=>injection hu with hu;exact hu.symm
   | 2,hu=>injection hu with hu;subst hu;exact a2
theorem KX (h:DataW.trod enc prog w 0 (fun _=>true) true Bf 49 [v]=some x):∃l:List Q.Act,Cq 3 Mt w w.heap.size v l/\(∀a∈l,UJ a)/\((∀n∈x.1.weights prog 49,n<=reachBytes)->l.length*48<=140737488355328/\∀a∈l,True):=
 NU Mt UJ (fun _=>True) 49 169 48 (by kernel_rfl) underlying49 (by kernel_rfl) (by omega) (fun n J y j o=>by
  obtain⟨a,p,I⟩:=YJ j o;exact⟨a,p,I,fun _=>trivial⟩) h
def Vg (v:Q.Var):Prop:=Ej v.name/\AP v.init.a
theorem Z3 {I:List Value} (hl:I.length=7) (h:DataW.trod enc prog w 0 (fun _=>true) true Bf 66 I=some x) :
  ∃a:Q.Var,(∀j u,I[j]?=some u->XO w w.heap.size a j u)/\Vg a:=by
 match I,hl with
 | [o,c1,c2,c3,c4,c5,c6],_=>
  obtain⟨ys,n,_,_,_,J,p⟩:=fH underlying66 h
  match ys,J with
  | [y0,y1,y2,y3,y4],_=>
   have t0:DataW.trod enc prog w 0 (fun _=>true) true n 9 (([o,c1,c2,c3,c4,c5,c6].drop 0).take (prog.cellsOf 9))=some y0:=p 0 _ rfl;rw[Ip]at t0;obtain⟨k0,e0,_,w0⟩:=eF underlying9 t0;have R:o=_:=bE e0;have t1:DataW.trod enc prog w 0 (fun _=>true) true n 3 (([o,c1,c2,c3,c4,c5,c6].drop 1).take (prog.cellsOf 3))=some y1:=p 1 _ rfl;rw[Jt]at t1;obtain⟨k1,e1,_,w1⟩:=dW underlying3 t1;have U:c1=_:=bE e1;have t2:DataW.trod enc prog w 0 (fun _=>true) true n 2 (([o,c1,c2,c3,c4,c5,c6].drop 2).take (prog.cellsOf 2))=some y2:=p 2 _ rfl;rw[MD]at t2;obtain⟨k2,e2,_,w2⟩:=dW underlying2 t2;have a1:c2=_:=bE e2;have t3:DataW.trod enc prog w 0 (fun _=>true) true n 2 (([o,c1,c2,c3,c4,c5,c6].drop 3).take (prog.cellsOf 2))=some y3:=p 3 _ rfl;rw[MD]at t3;obtain⟨k3,e3,_,w3⟩:=dW underlying2 t3;have a6:c3=_:=bE e3;have t4:DataW.trod enc prog w 0 (fun _=>true) true n 60 (([o,c1,c2,c3,c4,c5,c6].drop 4).take (prog.cellsOf 60))=some y4:=p 4 _ rfl;rw[Z1]at t4;obtain⟨zs,n1,_,_,_,a7,hg⟩:=fH underlying60 t4
   match zs,a7 with
   | [z0,z1,z2],_=>
   have s0:DataW.trod enc prog w 0 (fun _=>true) true n1 3 (([c4,c5,c6].drop 0).take (prog.cellsOf 3))=some z0:=hg 0 _ rfl;rw[Jt]at s0;obtain⟨m0,g0,_,v0⟩:=dW underlying3 s0;have b0:c4=_:=bE g0;have s1:DataW.trod enc prog w 0 (fun _=>true) true n1 2 (([c4,c5,c6].drop 1).take (prog.cellsOf 2))=some z1:=hg 1 _ rfl;rw[MD]at s1;obtain⟨m1,g1,_,v1⟩:=dW underlying2 s1;have b1:c5=_:=bE g1;have s2:DataW.trod enc prog w 0 (fun _=>true) true n1 2 (([c4,c5,c6].drop 2).take (prog.cellsOf 2))=some z2:=hg 2 _ rfl;rw[MD]at s2;obtain⟨m2,g2,_,v2⟩:=dW underlying2 s2;have b2:c6=_:=bE g2;subst R U a1 a6 b0 b1 b2;refine⟨⟨k0,k1,k2,k3,⟨m0,m1,m2⟩⟩,fun j u hu=>?_,⟨by show k0.size<=_;unfold maxLen at w0;omega,by have:=bounds_i64 v1;unfold AP;exact this⟩⟩
   match j,hu with
   | 0,hu=>injection hu with hu;exact hu.symm
   | 1,hu=>injection hu with hu;exact hu.symm
   | 2,hu=>injection hu with hu;exact hu.symm
   | 3,hu=>injection hu with hu;exact hu.symm
   | 4,hu=>injection hu with hu;exact hu.symm
   | 5,hu=>injection hu with hu;exact hu.symm
   | 6,hu=>injection hu with hu;exact hu.symm
theorem XL (h:DataW.trod enc prog w 0 (fun _=>true) true Bf 23 [v]=some x):∃l:List Q.Var,Cq 7 XO w w.heap.size v l/\(∀a∈l,Vg a)/\((∀n∈x.1.weights prog 23,n<=reachBytes)->l.length*64<=140737488355328/\∀a∈l,True):=
 NU XO Vg (fun _=>True) 23 66 64 (by kernel_rfl) underlying23 (by kernel_rfl) (by omega) (fun n J y j o=>by
  obtain⟨a,p,I⟩:=Z3 j o;exact⟨a,p,I,fun _=>trivial⟩) h
instance:Inhabited Q.State:=⟨⟨⟨#[]⟩,0,0,⟨#[]⟩,[],[]⟩⟩
def Mv (s:Q.State):Prop:=Ej s.name/\AP s.kind/\AP s.depth/\(∀a∈s.entry,Ej a.name)/\∀a∈s.exit,Ej a.name
theorem TZ {cs:List Value} (hl:cs.length=6) (h:DataW.trod enc prog w 0 (fun _=>true) true Bf 54 cs=some x) :
  ∃a:Q.State,(∀j u,cs[j]?=some u->JL w w.heap.size a j u)/\Mv a/\((∀n∈x.1.weights prog 54,n<=reachBytes)->a.entry.length+a.exit.length<=9223372036854775807):=by
 match cs,hl with
 | [p,c1,c2,c3,c4,c5],_=>
  obtain⟨ys,n,_,J,_,a6,I⟩:=fH underlying54 h
  match ys,a6 with
  | [y0,y1,y2,y3,y4,y5],_=>
   have t0:DataW.trod enc prog w 0 (fun _=>true) true n 9 (([p,c1,c2,c3,c4,c5].drop 0).take (prog.cellsOf 9))=some y0:=I 0 _ rfl;rw[Ip]at t0;obtain⟨k0,e0,_,w0⟩:=eF underlying9 t0;have a7:p=_:=bE e0;have t1:DataW.trod enc prog w 0 (fun _=>true) true n 3 (([p,c1,c2,c3,c4,c5].drop 1).take (prog.cellsOf 3))=some y1:=I 1 _ rfl;rw[Jt]at t1;obtain⟨k1,e1,_,w1⟩:=dW underlying3 t1;have a8:c1=_:=bE e1;have t2:DataW.trod enc prog w 0 (fun _=>true) true n 3 (([p,c1,c2,c3,c4,c5].drop 2).take (prog.cellsOf 3))=some y2:=I 2 _ rfl;rw[Jt]at t2;obtain⟨k2,e2,_,w2⟩:=dW underlying3 t2;have b0:c2=_:=bE e2;have t3:DataW.trod enc prog w 0 (fun _=>true) true n 9 (([p,c1,c2,c3,c4,c5].drop 3).take (prog.cellsOf 9))=some y3:=I 3 _ rfl;rw[Ip]at t3;obtain⟨k3,e3,_,w3⟩:=eF underlying9 t3;have b1:c3=_:=bE e3;have t4:DataW.trod enc prog w 0 (fun _=>true) true n 49 (([p,c1,c2,c3,c4,c5].drop 4).take (prog.cellsOf 49))=some y4:=I 4 _ rfl;rw[Qj]at t4;obtain⟨k4,a4,w4,b4⟩:=KX t4;have t5:DataW.trod enc prog w 0 (fun _=>true) true n 49 (([p,c1,c2,c3,c4,c5].drop 5).take (prog.cellsOf 49))=some y5:=I 5 _ rfl;rw[Qj]at t5;obtain⟨k5,a5,w5,b5⟩:=KX t5;have R:=congrArg Prod.fst J;dsimp only at R;clear J;subst a7 a8 b0 b1;refine⟨⟨k0,k1,k2,k3,k4,k5⟩,fun j u hu=>?_,⟨by show k0.size<=_;unfold maxLen at w0;omega,by have:=bounds_i64 w1;unfold AP;exact this,by have:=bounds_i64 w2;unfold AP;exact this,w4,w5⟩,fun hw=>?_⟩;rotate_left
   ·have o:∀k,k∈y4.1.weights prog 49\/k∈y5.1.weights prog 49->k<=reachBytes:=by
     intro k U;refine hw k ?_;rw[R];simp only[DataW.weights,underlying54,eY,List.map_nil,DataW.weightsEach,fG,cP];rcases U with h|h<;>simp[h]
    have h4:=(b4 fun k U=>o k (.inl U)).1;have h5:=(b5 fun k U=>o k (.inr U)).1;show k4.length+k5.length<=9223372036854775807;omega
   match j,hu with
   | 0,hu=>injection hu with hu;exact hu.symm
   | 1,hu=>injection hu with hu;exact hu.symm
   | 2,hu=>injection hu with hu;exact hu.symm
   | 3,hu=>injection hu with hu;exact hu.symm
   | 4,hu=>injection hu with hu;subst hu;exact a4
   | 5,hu=>injection hu with hu;subst hu;exact a5
theorem Sc (h:DataW.trod enc prog w 0 (fun _=>true) true Bf 24 [v]=some x):∃l:List Q.State,Cq 6 JL w w.heap.size v l/\(∀a∈l,Mv a)/\((∀n∈x.1.weights prog 24,n<=reachBytes)->l.length*96<=140737488355328/\∀a∈l,a.entry.length+a.exit.length<=9223372036854775807):=
 NU JL Mv (fun a=>a.entry.length+a.exit.length<=9223372036854775807) 24 54 96 (by kernel_rfl) underlying24 (by kernel_rfl) (by omega) (fun n p y j o=>TZ j o) h
instance:Inhabited Q.Trans:=⟨⟨0,⟨#[]⟩,[],⟨#[]⟩,[]⟩⟩
def NV (t:Q.Trans):Prop:=AP t.FH/\∀a∈t.Ey,Ej a.name
theorem XE {I:List Value} (hl:I.length=5) (h:DataW.trod enc prog w 0 (fun _=>true) true Bf 51 I=some x) :
  ∃a:Q.Trans,(∀j u,I[j]?=some u->Le w w.heap.size a j u)/\NV a:=by
 match I,hl with
 | [o,c1,c2,c3,c4],_=>
  obtain⟨ys,n,_,_,_,J,p⟩:=fH underlying51 h
  match ys,J with
  | [y0,y1,y2,y3,y4],_=>
   have t0:DataW.trod enc prog w 0 (fun _=>true) true n 3 (([o,c1,c2,c3,c4].drop 0).take (prog.cellsOf 3))=some y0:=p 0 _ rfl;rw[Jt]at t0;obtain⟨k0,e0,_,w0⟩:=dW underlying3 t0;have R:o=_:=bE e0;have t1:DataW.trod enc prog w 0 (fun _=>true) true n 9 (([o,c1,c2,c3,c4].drop 1).take (prog.cellsOf 9))=some y1:=p 1 _ rfl;rw[Ip]at t1;obtain⟨k1,e1,_,w1⟩:=eF underlying9 t1;have U:c1=_:=bE e1;have t2:DataW.trod enc prog w 0 (fun _=>true) true n 48 (([o,c1,c2,c3,c4].drop 2).take (prog.cellsOf 48))=some y2:=p 2 _ rfl;rw[QN]at t2;obtain⟨k2,a2,w2⟩:=M2 t2;have t3:DataW.trod enc prog w 0 (fun _=>true) true n 9 (([o,c1,c2,c3,c4].drop 3).take (prog.cellsOf 9))=some y3:=p 3 _ rfl;rw[Ip]at t3;obtain⟨k3,e3,_,w3⟩:=eF underlying9 t3;have a1:c3=_:=bE e3;have t4:DataW.trod enc prog w 0 (fun _=>true) true n 49 (([o,c1,c2,c3,c4].drop 4).take (prog.cellsOf 49))=some y4:=p 4 _ rfl;rw[Qj]at t4;obtain⟨k4,a4,w4,-⟩:=KX t4;subst R U a1;refine⟨⟨k0,k1,k2,k3,k4⟩,fun j u hu=>?_,⟨by have:=bounds_i64 w0;unfold AP;exact this,w4⟩⟩
   match j,hu with
   | 0,hu=>injection hu with hu;exact hu.symm
   | 1,hu=>injection hu with hu;exact hu.symm
   | 2,hu=>injection hu with hu;subst hu;exact a2
   | 3,hu=>injection hu with hu;exact hu.symm
   | 4,hu=>injection hu with hu;subst hu;exact a4
theorem UI (h:DataW.trod enc prog w 0 (fun _=>true) true Bf 25 [v]=some x):∃l:List Q.Trans,Cq 5 Le w w.heap.size v l/\∀a∈l,NV a:=
 PH Le NV 25 51 underlying25 (by kernel_rfl) (by omega) (fun n p y j o=>XE j o) h
end
theorem Ty {H:Type} {enc:TypeId×Value->H} {w:World} {base:Nat} {v:Value} {d:DataW H} {p:List MemPlace}
  (hv:Value.okWide prog w .any base 27 v) (h:DataW.Trod enc prog w 0 (fun _=>true) true 27 v d p) (hz:∀n∈d.weights prog 27,n<=reachBytes) :
  ∃c ev vv sv tv,v=BZ c.name ev vv sv tv/\AQ w w.heap.size ev vv sv tv c/\Fit c/\c.vars.length<=4398046511104/\c.Aa.length<=4398046511104:=by
 obtain⟨cs,rfl,R⟩:=okWide_struct underlying27 hv;rw[Y1]at R;obtain⟨l,rfl⟩:∃l:List Value,cs=l.toArray:=⟨cs.toList,rfl⟩;obtain⟨Bf,hf⟩:=h
 match l,R with
 | [J,c1,c2,c3,c4],_=>
  obtain⟨ys,n,_,U,_,b1,hg⟩:=fH underlying27 hf
  match ys,b1 with
  | [y0,y1,y2,y3,y4],_=>
   simp only[Prod.mk.injEq]at U;obtain⟨rfl,_⟩:=U;have t0:DataW.trod enc prog w 0 (fun _=>true) true n 9 (([J,c1,c2,c3,c4].drop 0).take (prog.cellsOf 9))=some y0:=hg 0 _ rfl;rw[Ip]at t0;have t1:DataW.trod enc prog w 0 (fun _=>true) true n 22 (([J,c1,c2,c3,c4].drop 1).take (prog.cellsOf 22))=some y1:=hg 1 _ rfl;rw[Zap]at t1;have t2:DataW.trod enc prog w 0 (fun _=>true) true n 23 (([J,c1,c2,c3,c4].drop 2).take (prog.cellsOf 23))=some y2:=hg 2 _ rfl;rw[Zbh]at t2;have t3:DataW.trod enc prog w 0 (fun _=>true) true n 24 (([J,c1,c2,c3,c4].drop 3).take (prog.cellsOf 24))=some y3:=hg 3 _ rfl;rw[WM]at t3;have t4:DataW.trod enc prog w 0 (fun _=>true) true n 25 (([J,c1,c2,c3,c4].drop 4).take (prog.cellsOf 25))=some y4:=hg 4 _ rfl;rw[Z9]at t4;obtain⟨k0,e0,_,w0⟩:=eF underlying9 t0;have b4:J=_:=bE e0;obtain⟨k1,a1,w1⟩:=WZ t1;obtain⟨k2,a2,w2,b2⟩:=XL t2;obtain⟨k3,a3,w3,b3⟩:=Sc t3;obtain⟨k4,a4,w4⟩:=UI t4;have o:∀k,k∈y2.1.weights prog 23\/k∈y3.1.weights prog 24->k<=reachBytes:=by
    intro k hk;refine hz k ?_;simp only[DataW.weights,underlying27,eY,List.map_nil,DataW.weightsEach,fG,cP];rcases hk with h|h<;>simp[h]
   have h4:=(b2 fun k hk=>o k (.inl hk)).1;obtain⟨h5,I⟩:=b3 fun k hk=>o k (.inr hk)
   subst b4;refine⟨⟨k0,k1,k2,k3,k4⟩,c1,c2,c3,c4,rfl,⟨a1,a2,a3,a4⟩,⟨fun i hi=>?_,fun s j=>?_,fun s j=>⟨(w3 s j).2.2.2.1,(w3 s j).2.2.2.2⟩,fun t ht=>(w4 t ht).2,fun v hv=>(w2 v hv).2,?_,I⟩,by show k2.length<=_;omega,by show k3.length<=_;omega⟩
   ·rw[AI]at hi;rw[Cb _ hi,K2 _ hi];have:=w3 _ (bK hi);exact⟨this.2.1,this.2.2.1⟩
   ·unfold maxLen at w0;simp only[bJ,fG]at j;unfold Ej;rcases j with j|j|j|j
    ·rw[j];show k0.size<=9223372036854775807;omega
    ·have:=w1 s j;unfold maxLen at this;omega
    ·obtain⟨x,hx,rfl⟩:=dF.1 j;exact(w2 x hx).1
    ·obtain⟨x,hx,rfl⟩:=dF.1 j;exact(w3 x hx).1
   ·exact fun t ht=>(w4 t ht).1
end
end Go.Proofs.YthbihnpoghlfaaaGreatDoor
