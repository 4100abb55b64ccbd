import Derived.Test.YthbihnpoghlfaaaGreatDoorZr30
set_option linter.unusedVariables false
set_option linter.unusedSimpArgs false
set_option maxHeartbeats 8000000
set_option maxRecDepth 100000
namespace Go.Proofs.YthbihnpoghlfaaaGreatDoor
open Go.Proofs.Tryz
section
open Go.RowKit Q Go.Lib Go.Shelf
theorem Fj {w:World} {B n:Nat} {A:Option Addr} {l:List ByteArray} (h:Reads w B 1 A n (strs l)) (R:l.length=n) {k:Nat} (U:k<l.length):∃o,A=some o/\o.block<B/\∀j (p:j<l.length),w.cell? (o.add j)=some (.string l[j]):=by
 obtain⟨o,e,I,J⟩:=h.2 (by omega);exact⟨o,e,I,fun j p=>J j _ (by unfold strs;rw[cN,aQ p];rfl)⟩
theorem add_lt {j:Addr} {B:Nat} (h:j.block<B) (k:Nat):(j.add k).block<B:=by
 unfold Addr.add;split<;>exact h
theorem ZcB {l:List ByteArray} {p:ByteArray->Bool} (h:∀j (o:j<l.length),p l[j]=true):l.all p=true:=by
 rw[aY];intro x I;obtain⟨j,o,rfl⟩:=cU I;exact h j o
theorem ZcA {l:List ByteArray} {p:ByteArray->Bool} {j:Nat} (o:j<l.length) (h:p l[j]=false):l.all p=false:=by
 rw[fS];intro I;rw[aY.1 I _ (bK o)]at h;cases h
theorem Hx (l:List ByteArray) (v:Value) (w:World) (h:AE w w.heap.size v l) :
  Calls prog 67 #[v] w fun e w'=>e=.returned (.bool (l.all Bv))/\w'=w:=by
 obtain⟨A,c,rfl,hn,hA⟩:=h.form;obtain⟨r,I⟩:∃r,l.all Bv=r:=⟨_,rfl⟩;rw[I];have HR:=jK I;clear I h;go_enter func67,ntmps67;go_wp2
 go_loop [3] (fun v=>∃k:Nat,k<=l.length/\v=.int .i64 (k:Int)/\∀j (o:j<l.length),j<k->Bv l[j]=true) (fun v=>l.length-(intOf v).toNat)
 case atStart=>exact⟨0,by omega,rfl,fun j _ o=>absurd o (by omega)⟩
 case round=>
  obtain⟨k,hk,rfl,hz⟩:=hrel;have HZ:=jK hz;clear hz;by_cases p:k<l.length
  ·have b5:(k:Int)<(l.length:Int):=by omega
   obtain⟨ad,rfl,b6,hc⟩:=Fj hA rfl p;have J:=hc k p;clear hc;obtain⟨s,R⟩:∃s,l[k]=s:=⟨_,rfl⟩;rw[R]at J;obtain⟨d,U⟩:∃d,Bv s=d:=⟨_,rfl⟩;have HS:=jK R;have HD:=jK U;clear R;cases d
   all_goals
    go_wp2_with fail;(with_reducible refine(Da s _).mono ?_);rintro e w1⟨rfl,rfl⟩;rw[U];clear U;go_wp2
   ·go_ret;exact⟨Db (by rw[<-HR.out];exact(ZcA p (by rw[HS.out];exact HD.out)).symm),rfl⟩
   ·go_round
    case rel=>exact⟨k+1,by omega,by go_num,fun j o b7=>by
      rcases bH j k with h1|h1
      ·exact HZ.out j o h1
      ·obtain rfl:j=k:=by omega
       rw[HS.out];exact HD.out⟩
    case measure=>simp[intOf];omega
  ·obtain rfl:k=l.length:=by omega
   have b8:¬(l.length:Int)<(l.length:Int):=by omega
   go_wp2;go_ret;exact⟨Db (by rw[<-HR.out];exact(ZcB fun j o=>HZ.out j o o).symm),rfl⟩
theorem YM {l:List ByteArray} (h:∀a (ha:a<l.length) b (I:b<a),l[a]≠l[b]):Q.distinct l=true:=by
 rw[Eg];unfold List.Nodup;rw[eG];intro i j hi p o e;exact h j p i o e.symm
theorem Zt {l:List ByteArray} {a b:Nat} (ha:a<l.length) (o:b<a) (h:l[a]=l[b]):Q.distinct l=false:=by
 rw[fS];intro j;rw[Eg]at j;unfold List.Nodup at j;rw[eG]at j;exact j b a (by omega) ha o h.symm
theorem KS (l:List ByteArray) (v:Value) (w:World) (h:AE w w.heap.size v l) :
  Calls prog 69 #[v] w fun e w'=>e=.returned (.bool (!Q.distinct l))/\Below w.heap.size w w':=by
 obtain⟨A,c,rfl,hn,hA⟩:=h.form;obtain⟨r,hr⟩:∃r,(!Q.distinct l)=r:=⟨_,rfl⟩;rw[hr];have HR:=jK hr;clear hr h;go_enter func69,ntmps69;go_wp2
 go_loopw [3] (fun v wr=>∃k:Nat,k<=l.length/\v=.int .i64 (k:Int)/\(∀a (ha:a<l.length) b (I:b<a),a<k->l[a]≠l[b])/\Below w.heap.size w wr) (fun v _=>l.length-(intOf v).toNat)
 case atStart=>exact⟨0,by omega,rfl,fun a _ b _ hj=>absurd hj (by omega),aJ _ _⟩
 case round=>
  obtain⟨k,hk,rfl,hz,a1⟩:=hrel;have HZ:=jK hz;clear hz;by_cases R:k<l.length
  ·have e2:(k:Int)<(l.length:Int):=by omega
   obtain⟨ad,rfl,a6,hc⟩:=Fj hA rfl R;have HC:=jK hc;clear hc;go_wp2;obtain⟨wq,b2⟩:∃x,x=wr:=⟨_,rfl⟩;subst b2
   go_loopw [4] (fun v wr=>∃m:Nat,m<=k/\v=.int .i64 (m:Int)/\(∀b (I:b<k),b<m->l[k]≠l[b])/\Below w.heap.size w wr) (fun v _=>k-(intOf v).toNat)
   case atStart=>exact⟨0,by omega,rfl,fun b _ hj=>absurd hj (by omega),a1⟩
   case round=>
    obtain⟨m,hm,rfl,hy,j⟩:=hrel;have HY:=jK hy;clear hy;by_cases b3:m<k
    ·have e3:(m:Int)<(k:Int):=by omega
     have b4:m<l.length:=by omega
     have c5:(m:Int)<(l.length:Int):=by omega
     have q1:=(j.cell (p:=ad.add k) (add_lt a6 k)).trans (HC.out k R);have q2:=(j.cell (p:=ad.add m) (add_lt a6 m)).trans (HC.out m b4);obtain⟨s,hs⟩:∃s,l[k]=s:=⟨_,rfl⟩;obtain⟨t,ht⟩:∃t,l[m]=t:=⟨_,rfl⟩;rw[hs]at q1;rw[ht]at q2;have HS:=jK hs;have HT:=jK ht;clear hs ht;have J:=EO s t;by_cases o:s=t
     ·have a7:(s.toList==t.toList)=true:=by rw[J];exact aH o
      have U:=jK o;clear J o;go_wp2_with fail
      go_quiet (fail)
      go_wp2;go_ret;exact⟨Db (by rw[<-HR.out,Zt R b3 (by rw[HS.out,HT.out];exact U.out)];rfl),⟨j.os,j.tape,j.output,j.size,j.block⟩⟩
     ·have a7:(s.toList==t.toList)=false:=by rw[J];exact aF o
      have U:=jK o;clear J o;go_wp2_with fail
      go_quiet (fail)
      go_wp2;go_roundw
      case rel=>exact⟨m+1,by omega,by go_num,fun b I c8=>by
        rcases bH b m with h1|h1
        ·exact HY.out b I h1
        ·obtain rfl:b=m:=by omega
         rw[HS.out,HT.out];exact U.out,⟨j.os,j.tape,j.output,j.size,j.block⟩⟩
      case measure=>simp[intOf];omega
    ·obtain rfl:m=k:=by omega
     have c9:¬(m:Int)<(m:Int):=by omega
     go_wp2;go_roundw
     case rel=>exact⟨m+1,by omega,by go_num,fun a ha b I e6=>by
       rcases bH a m with h1|h1
       ·exact HZ.out a ha b I h1
       ·obtain rfl:a=m:=by omega
        exact HY.out b I I,j⟩
     case measure=>simp[intOf];omega
  ·obtain rfl:k=l.length:=by omega
   have e7:¬(l.length:Int)<(l.length:Int):=by omega
   go_wp2;go_ret;exact⟨Db (by rw[<-HR.out,YM fun a ha b I=>HZ.out a ha b I ha];rfl),a1⟩
def Df (l:List Q.State) (b:Bool):List ByteArray:=(l.filter fun s=>b||!BR s.kind).map fun s=>s.name
theorem Lx (c:Q.Af):Df c.Aa true=c.An:=by
 unfold Df Af.An;have h:(c.Aa.filter fun s=>true||!BR s.kind)=c.Aa:=List.filter_eq_self.2 (fun a _=>by simp);rw[h]
theorem Sy {l:List Q.State} {b:Bool} {k:Nat} (j:k<l.length):Df (l.take (k+1)) b=Df (l.take k) b++(if(b||!BR l[k].kind)=true then [l[k].name]else []):=by
 unfold Df;rw[bM j,dL,bN];congr 1;by_cases h:(b||!BR l[k].kind)=true
 ·rw[if_pos h,gN (by exact h)];rfl
 ·rw[if_neg h,jD (by exact h)];rfl
theorem G3 (l:List Q.State) (b:Bool) (k:Nat):(Df (l.take k) b).length<=l.length:=by
 unfold Df;rw[bG];refine aV (eZ _ _) ?_;rw[bF];omega
theorem Mi (k:Int):Tr.E8 k=BR k:=by
 unfold Tr.E8 BR
 try rfl
theorem Ec (c:Q.Af) (nm:ByteArray) (ev vv sv tv:Value) (b:Bool) (w:World) (h:AQ w w.heap.size ev vv sv tv c) (e7:c.Aa.length<=1000000) :
  Calls prog 68 #[BZ nm ev vv sv tv,.bool b] w fun e w'=>∃V,e=.returned V/\Below w.heap.size w w'/\w'.ownsRow w.heap.size 9 1 V (Df c.Aa b).length (strs (Df c.Aa b)):=by
 obtain⟨i0,b3,b4,b5,b6⟩:=dC BX;obtain⟨SA,sc,rfl,h1,c7⟩:=h.Aa.form;obtain⟨R,e0⟩:∃R,w.alloc (.cells #[.string nm,ev,vv,.slice SA c.Aa.length sc,tv] 27)=R:=⟨_,rfl⟩;obtain⟨b0,s0,h0,p0,p1,p2,p3,p4⟩:=Bl h e0;have a6:w.heap.size<R.heap.size:=by omega
 clear p0 p1 p4 p2 s0 h;go_enter func68,ntmps68;go_wp2;clear e0
 go_loopw [6,5] (fun v V wr=>∃k:Nat,k<=c.Aa.length/\v=.int .i64 (k:Int)/\wr.ownsRow R.heap.size 9 1 V (Df (c.Aa.take k) b).length (strs (Df (c.Aa.take k) b))/\Below R.heap.size R wr) (fun v _ _=>c.Aa.length-(intOf v).toNat)
 case atStart=>exact⟨0,by omega,rfl,by simpa[strs,Df]using bL _ _ _ _,aJ _ _⟩
 case round=>
  obtain⟨k,hk,rfl,o,hb⟩:=hrel;have b7:=hb.size;have h4:=G3 c.Aa b k;have h5:=(hb.cell (p:=⟨w.heap.size,3,none⟩) a6).trans p3;have e6:=aK a6 hb.size;by_cases b1:k<c.Aa.length
  ·have h6:(k:Int)<(c.Aa.length:Int):=by omega
   obtain⟨ad,rfl,h7⟩:=c7 k b1;obtain⟨uA,uc,zA,zc,c0,c1,c2,c3,c4,c5,-,-⟩:=A5 (c:=c) (h0.Aa.on AU hb) b1;have a1:=jK (Sy (b:=b) b1);have hq:=fun w1=>EV w1 c.Aa[k].kind
   rw[Mi]at hq;generalize c.Aa[k]=x at *;have a8:=BE [x.name];obtain⟨pk,b8⟩:∃pk,BR x.kind=pk:=⟨_,rfl⟩;rw[b8]at hq a1;clear b8;generalize Df (c.Aa.take k) b=M at *;cases b
   ·cases pk
    ·go_wp2_with fail;(with_reducible refine(hq _).mono ?_);rintro e w5⟨rfl,rfl⟩;go_wp2_with (at_builtin;refine Ap _ rfl _ _ 22 rfl R.heap.size 9 i0 _ 1 16 underlying22 b3 b4 b5 b6 rfl (by decide) _ _ _ rfl (o.alloc _) _ (some ⟨w5.heap.size,0,none⟩) 1 1 _ rfl (Bt w5 (.string x.name) 9 _ rfl) a8 ?c3 ?c4 ?c5 ?_)
     case c3=>unfold maxLen;omega
     case c4=>omega
     case c5=>simp;omega
     intro v' w2 I U _;have b2:Below R.heap.size R w2:=(hb.alloc b7 (.cells #[.string x.name] 9)).grown U (by simp;omega) (fun j hj=>(Bd o hj).2);have HO:Hid (w2.ownsRow R.heap.size 9 1 v' (Df (c.Aa.take (k+1)) false).length (strs (Df (c.Aa.take (k+1)) false))):=jK (by
      have J:=a1.out;simp only[eI,cZ,fM,fA,if_true]at J;rw[J,aO];have:=I;unfold strs at this⊢;rw[bN];exact this)
     clear I U o;go_wp2;go_roundw
     case rel=>exact⟨k+1,by omega,by go_num,HO.out,b2⟩
     case measure=>simp[intOf];omega
    ·go_wp2_with fail;(with_reducible refine(hq _).mono ?_);rintro e w5⟨rfl,rfl⟩;go_wp2;go_roundw
     case rel=>
      have J:=a1.out;simp only[cZ,fA,dY,if_false,cP]at J;exact⟨k+1,by omega,by go_num,by rw[J];exact o,hb⟩
     case measure=>simp[intOf];omega
   ·go_wp2_with (at_builtin;refine Ap _ rfl _ _ 22 rfl R.heap.size 9 i0 _ 1 16 underlying22 b3 b4 b5 b6 rfl (by decide) _ _ _ rfl (o.alloc _) _ (some ⟨wr.heap.size,0,none⟩) 1 1 _ rfl (Bt wr (.string x.name) 9 _ rfl) a8 ?c3 ?c4 ?c5 ?_)
    case c3=>unfold maxLen;omega
    case c4=>omega
    case c5=>simp;omega
    intro v' w2 I U _;have b2:Below R.heap.size R w2:=(hb.alloc b7 (.cells #[.string x.name] 9)).grown U (by simp;omega) (fun j hj=>(Bd o hj).2);have HO:Hid (w2.ownsRow R.heap.size 9 1 v' (Df (c.Aa.take (k+1)) true).length (strs (Df (c.Aa.take (k+1)) true))):=jK (by
     have J:=a1.out;simp only[eI,cZ,fM,fA,if_true]at J;rw[J,aO];have:=I;unfold strs at this⊢;rw[bN];exact this)
    clear I U o;go_wp2;go_roundw
    case rel=>exact⟨k+1,by omega,by go_num,HO.out,b2⟩
    case measure=>simp[intOf];omega
  ·obtain rfl:k=c.Aa.length:=by omega
   have h9:¬(c.Aa.length:Int)<(c.Aa.length:Int):=by omega
   rw[bT]at o;go_wp2;go_ret;exact⟨_,rfl,b0.trans (hb.mono b0.size),Bk o b0.size⟩
theorem Ka (I U:List ByteArray) (v1 v2:Value) (w:World) (h1:AE w w.heap.size v1 I) (h2:AE w w.heap.size v2 U) :
  Calls prog 18 #[v1,v2] w fun e w'=>e=.returned (.bool (decide (I=U)))/\Below w.heap.size w w':=by
 obtain⟨A,c,rfl,e0,hA⟩:=h1.form;obtain⟨B,d,rfl,e2,hB⟩:=h2.form;obtain⟨r,hr⟩:∃r,decide (I=U)=r:=⟨_,rfl⟩;rw[hr];have HR:=jK hr;clear hr h1 h2;go_enter func18,ntmps18;by_cases hl:I.length=U.length
 ·have b5:=Bj (show(I.length:Int)=(U.length:Int)by omega);have HL:=jK hl;clear hl;go_wp2
  go_loopw [5] (fun v wr=>∃k:Nat,k<=I.length/\v=.int .i64 (k:Int)/\(∀j (h1:j<I.length) (h2:j<U.length),j<k->I[j]=U[j])/\Below w.heap.size w wr) (fun v _=>I.length-(intOf v).toNat)
  case atStart=>exact⟨0,by omega,rfl,fun j _ _ hj=>absurd hj (by omega),aJ _ _⟩
  case round=>
   obtain⟨k,hk,rfl,hz,J⟩:=hrel;have HZ:=jK hz;clear hz;by_cases a7:k<I.length
   ·have e5:(k:Int)<(I.length:Int):=by omega
    have a1:k<U.length:=by have:=HL.out;omega
    have c4:(k:Int)<(U.length:Int):=by omega
    obtain⟨ad,rfl,b6,hc⟩:=Fj hA rfl a7;obtain⟨bd,rfl,b7,hd⟩:=Fj hB rfl a1;have q1:=(J.cell (p:=ad.add k) (add_lt b6 k)).trans (hc k a7);have q2:=(J.cell (p:=bd.add k) (add_lt b7 k)).trans (hd k a1);clear hc hd;obtain⟨s,hs⟩:∃s,I[k]=s:=⟨_,rfl⟩;obtain⟨t,ht⟩:∃t,U[k]=t:=⟨_,rfl⟩;rw[hs]at q1;rw[ht]at q2;have HS:=jK hs;have HT:=jK ht;clear hs ht;have R:=EO s t;by_cases o:s=t
    ·have a8:(s.toList != t.toList)=false:=by unfold bne;rw[R,aH o];rfl
     have b0:(s.toList==t.toList)=true:=by rw[R];exact aH o
     have c0:=jK o;clear R o;go_wp2_with fail
     go_quiet (fail)
     go_wp2;go_roundw
     case rel=>exact⟨k+1,by omega,by go_num,fun j ha J h0=>by
       rcases bH j k with h1|h1
       ·exact HZ.out j ha J h1
       ·obtain rfl:j=k:=by omega
        rw[HS.out,HT.out];exact c0.out,⟨J.os,J.tape,J.output,J.size,J.block⟩⟩
     case measure=>simp[intOf];omega
    ·have a8:(s.toList != t.toList)=true:=by unfold bne;rw[R,aF o];rfl
     have b0:(s.toList==t.toList)=false:=by rw[R];exact aF o
     obtain rfl:r=false:=by
      rw[<-HR.out];refine aF fun e=>o ?_
      rw[<-HS.out,<-HT.out];subst e;rfl
     clear R o;go_wp2_with fail
     go_quiet (fail)
     go_wp2;go_ret;exact⟨rfl,⟨J.os,J.tape,J.output,J.size,J.block⟩⟩
   ·obtain rfl:k=I.length:=by omega
    have h3:¬(I.length:Int)<(I.length:Int):=by omega
    obtain rfl:r=true:=by
     rw[<-HR.out];refine aH (gZ HL.out fun j a b=>HZ.out j a b a)
    go_wp2;go_ret;exact⟨rfl,J⟩
 ·have b5:=Bc (show(I.length:Int)≠(U.length:Int)by omega);obtain rfl:r=false:=by
   rw[<-HR.out];exact aF fun e=>hl (by rw[e])
  clear hl;go_wp2;go_ret;exact⟨rfl,aJ _ _⟩
theorem La {w:World} {B n:Nat} {A:Option Addr} {l:List Int} (h:Reads w B 1 A n (Gf l)) (R:l.length=n) {k:Nat} (U:k<l.length):∃o,A=some o/\o.block<B/\∀j (p:j<l.length),w.cell? (o.add j)=some (.int .i64 l[j]):=by
 obtain⟨o,e,I,J⟩:=h.2 (by omega);exact⟨o,e,I,fun j p=>J j _ (by unfold Gf;rw[cN,aQ p];rfl)⟩
theorem DO (l:List Int) (v:Value) (x:Int) (w:World) (h:BD w w.heap.size v l) :
  Calls prog 23 #[v,.int .i64 x] w fun e w'=>e=.returned (.bool (decide (x∈l)))/\w'=w:=by
 obtain⟨A,n,c,rfl,rfl,hn,hA⟩:=h;obtain⟨r,R⟩:∃r,decide (x∈l)=r:=⟨_,rfl⟩;rw[R];have HR:=jK R;clear R;go_enter func23,ntmps23;go_wp2
 go_loop [5] (fun v=>∃k:Nat,k<=l.length/\v=.int .i64 (k:Int)/\∀j (p:j<l.length),j<k->l[j]≠x) (fun v=>l.length-(intOf v).toNat)
 case atStart=>exact⟨0,by omega,rfl,fun j _ p=>absurd p (by omega)⟩
 case round=>
  obtain⟨k,hk,rfl,J⟩:=hrel;have HZ:=jK J;clear J;by_cases I:k<l.length
  ·have b5:(k:Int)<(l.length:Int):=by omega
   obtain⟨ad,rfl,b6,hc⟩:=La hA rfl I;have U:=hc k I;clear hc;obtain⟨s,hs⟩:∃s,l[k]=s:=⟨_,rfl⟩;rw[hs]at U;have HS:=jK hs;clear hs;by_cases o:s=x
   ·have J:=Be o;obtain rfl:r=true:=by
     rw[<-HR.out];exact aH (by rw[<-o,<-HS.out];exact bK I)
    clear o;go_wp2;go_ret;exact⟨rfl,rfl⟩
   ·have J:=Bg o;have a6:=jK o;clear o;go_wp2
    go_round
    case rel=>exact⟨k+1,by omega,by go_num,fun j p b7=>by
      rcases bH j k with h1|h1
      ·exact HZ.out j p h1
      ·obtain rfl:j=k:=by omega
       rw[HS.out];exact a6.out⟩
    case measure=>simp[intOf];omega
  ·obtain rfl:k=l.length:=by omega
   have b8:¬(l.length:Int)<(l.length:Int):=by omega
   obtain rfl:r=false:=by
    rw[<-HR.out];refine aF fun hm=>?_
    obtain⟨j,p,e⟩:=cU hm;exact HZ.out j p p e
   go_wp2;go_ret;exact⟨rfl,rfl⟩
theorem JQ (o R:List Int) (v1 v2:Value) (w:World) (h1:BD w w.heap.size v1 o) (h2:BD w w.heap.size v2 R) :
  Calls prog 21 #[v1,v2] w fun e w'=>e=.returned (.bool (decide (o=R)))/\Below w.heap.size w w':=by
 obtain⟨A,n1,c,rfl,rfl,c8,hA⟩:=h1;obtain⟨B,n2,d,rfl,rfl,e0,hB⟩:=h2;obtain⟨r,hr⟩:∃r,decide (o=R)=r:=⟨_,rfl⟩;rw[hr];have HR:=jK hr;clear hr;go_enter func21,ntmps21;by_cases hl:o.length=R.length
 ·have b2:=Bj (show(o.length:Int)=(R.length:Int)by omega);have HL:=jK hl;clear hl;go_wp2
  go_loopw [5] (fun v wr=>∃k:Nat,k<=o.length/\v=.int .i64 (k:Int)/\(∀j (h1:j<o.length) (h2:j<R.length),j<k->o[j]=R[j])/\Below w.heap.size w wr) (fun v _=>o.length-(intOf v).toNat)
  case atStart=>exact⟨0,by omega,rfl,fun j _ _ hj=>absurd hj (by omega),aJ _ _⟩
  case round=>
   obtain⟨k,hk,rfl,hz,I⟩:=hrel;have HZ:=jK hz;clear hz;by_cases a6:k<o.length
   ·have e3:(k:Int)<(o.length:Int):=by omega
    have U:k<R.length:=by have:=HL.out;omega
    have c2:(k:Int)<(R.length:Int):=by omega
    obtain⟨ad,rfl,b3,hc⟩:=La hA rfl a6;obtain⟨bd,rfl,b4,hd⟩:=La hB rfl U;have q1:=(I.cell (p:=ad.add k) (add_lt b3 k)).trans (hc k a6);have q2:=(I.cell (p:=bd.add k) (add_lt b4 k)).trans (hd k U);clear hc hd;obtain⟨s,hs⟩:∃s,o[k]=s:=⟨_,rfl⟩;obtain⟨t,ht⟩:∃t,R[k]=t:=⟨_,rfl⟩;rw[hs]at q1;rw[ht]at q2;have HS:=jK hs;have HT:=jK ht;clear hs ht;by_cases J:s=t
    ·have a7:=Bj J;have b7:=jK J;clear J;go_wp2_with fail
     go_quiet (fail)
     go_wp2;go_roundw
     case rel=>exact⟨k+1,by omega,by go_num,fun j ha I e8=>by
       rcases bH j k with h1|h1
       ·exact HZ.out j ha I h1
       ·obtain rfl:j=k:=by omega
        rw[HS.out,HT.out];exact b7.out,⟨I.os,I.tape,I.output,I.size,I.block⟩⟩
     case measure=>simp[intOf];omega
    ·have a7:=Bc J;obtain rfl:r=false:=by
      rw[<-HR.out];refine aF fun e=>J ?_
      rw[<-HS.out,<-HT.out];subst e;rfl
     clear J;go_wp2_with fail
     go_quiet (fail)
     go_wp2;go_ret;exact⟨rfl,⟨I.os,I.tape,I.output,I.size,I.block⟩⟩
   ·obtain rfl:k=o.length:=by omega
    have e9:¬(o.length:Int)<(o.length:Int):=by omega
    obtain rfl:r=true:=by
     rw[<-HR.out];refine aH (gZ HL.out fun j a b=>HZ.out j a b a)
    go_wp2;go_ret;exact⟨rfl,I⟩
 ·have b2:=Bc (show(o.length:Int)≠(R.length:Int)by omega);obtain rfl:r=false:=by
   rw[<-HR.out];exact aF fun e=>hl (by rw[e])
  clear hl;go_wp2;go_ret;exact⟨rfl,aJ _ _⟩
def Cf (n:Nat) (j left new:List Int):List Int:=((List.range n).map fun(k:Nat)=>(k:Int)).filter fun x=>decide (x∈new)||(decide (x∈j)&&!decide (x∈left))
theorem Ol (n:Nat) (j left new:List Int):Cf (n+1) j left new=Cf n j left new++(if(decide ((n:Int)∈new)||(decide ((n:Int)∈j)&&!decide ((n:Int)∈left)))=true then [(n:Int)]else []):=by
 unfold Cf;rw[iK,bN,dL];congr 1;by_cases h:(decide ((n:Int)∈new)||(decide ((n:Int)∈j)&&!decide ((n:Int)∈left)))=true
 ·rw[if_pos h];exact gN (by exact h)
 ·rw[if_neg h];exact jD (by exact h)
theorem PR (n:Nat) (j left new:List Int):(Cf n j left new).length<=n:=by
 unfold Cf;refine aV (eZ _ _) ?_;simp
theorem WG (l:List Int):∀u∈Gf l,u.oneCell'=true:=fun u hu=>by
 obtain⟨s,_,rfl⟩:=dF.1 hu;rfl
theorem Fg:(prog.info? 3).map (fun i=>(i.zero,i.size,i.bytes))=some (some (.int .i64 0),1,8):=by kernel_rfl
theorem Na (c:Q.Af) (nm:ByteArray) (ev vv sv tv:Value) (I left new:List Int) (v1 v2 v3:Value) (w:World) (h:AQ w w.heap.size ev vv sv tv c) (h8:c.Aa.length<=1000000)
  (g1:BD w w.heap.size v1 I) (g2:BD w w.heap.size v2 left) (g3:BD w w.heap.size v3 new) :
  Calls prog 115 #[BZ nm ev vv sv tv,v1,v2,v3] w fun e w'=>∃V,e=.returned V/\Below w.heap.size w w'/\w'.ownsRow w.heap.size 3 1 V (Cf c.Aa.length I left new).length (Gf (Cf c.Aa.length I left new)):=by
 obtain⟨i0,b8,b9,c0,c1⟩:=dC Fg;obtain⟨SA,sc,rfl,i6,i7⟩:=h.Aa.form;obtain⟨U,e0⟩:∃U,w.alloc (.cells #[.string nm,ev,vv,.slice SA c.Aa.length sc,tv] 27)=U:=⟨_,rfl⟩;obtain⟨a1,s0,h0,p0,p1,p2,p3,p4⟩:=Bl h e0;have b0:w.heap.size<U.heap.size:=by omega
 have c2:=fun w1 (h1:Below w.heap.size w w1) k=>DO I v1 k w1 (g1.on h1)
 have c7:=fun w1 (h1:Below w.heap.size w w1) k=>DO left v2 k w1 (g2.on h1)
 have c8:=fun w1 (h1:Below w.heap.size w w1) k=>DO new v3 k w1 (g3.on h1)
 obtain⟨A1,n1,z1,rfl,-⟩:=g1;obtain⟨A2,n2,z2,rfl,-⟩:=g2;obtain⟨A3,n3,z3,rfl,-⟩:=g3;clear p0 p1 p4 p2 s0 h h0;generalize c.Aa.length=n at *;go_enter func115,ntmps115;go_wp2;clear e0
 go_loopw [10,9] (fun v V wr=>∃k:Nat,k<=n/\v=.int .i64 (k:Int)/\wr.ownsRow U.heap.size 3 1 V (Cf k I left new).length (Gf (Cf k I left new))/\Below U.heap.size U wr) (fun v _ _=>n-(intOf v).toNat)
 case atStart=>exact⟨0,by omega,rfl,by simpa[Gf,Cf]using bL _ _ _ _,aJ _ _⟩
 case round=>
  obtain⟨k,hk,rfl,o,hb⟩:=hrel;have c9:=hb.size;have j2:=PR k I left new;have j3:=(hb.cell (p:=⟨w.heap.size,3,none⟩) b0).trans p3;have h7:=aK b0 hb.size;by_cases j4:k<n
  ·have j5:(k:Int)<(n:Int):=by omega
   have a6:=jK (Ol k I left new);have b6:=a1.trans (hb.mono a1.size);have d1:=c2 wr b6 (k:Int);have d2:=c7 wr b6 (k:Int);have d3:=c8 wr b6 (k:Int);obtain⟨b1,e1⟩:∃b,decide ((k:Int)∈I)=b:=⟨_,rfl⟩;obtain⟨b2,e2⟩:∃b,decide ((k:Int)∈left)=b:=⟨_,rfl⟩;obtain⟨b3,e3⟩:∃b,decide ((k:Int)∈new)=b:=⟨_,rfl⟩;rw[e1,e2,e3]at a6;rw[e1]at d1;rw[e2]at d2;rw[e3]at d3;have b5:=WG [(k:Int)];clear c2 c7 c8 e1 e2 e3;cases b3
   ·go_wp2_with fail;(with_reducible refine d3.mono ?_);rintro e w5⟨rfl,rfl⟩;cases b1
    ·go_wp2_with fail;(with_reducible refine d1.mono ?_);rintro e w6⟨rfl,rfl⟩;go_wp2;go_roundw
     case rel=>
      have J:=a6.out;simp only[cZ,cC,bW,fA,dY,if_false,cP]at J;exact⟨k+1,by omega,by go_num,by rw[J];exact o,hb⟩
     case measure=>simp[intOf];omega
    ·go_wp2_with fail;(with_reducible refine d1.mono ?_);rintro e w6⟨rfl,rfl⟩;cases b2
     ·go_wp2_with fail;(with_reducible refine d2.mono ?_);rintro e w7⟨rfl,rfl⟩;go_wp2_with (at_builtin;refine Ap _ rfl _ _ 28 rfl U.heap.size 3 i0 _ 1 8 underlying28 b8 b9 c0 c1 rfl (by decide) _ _ _ rfl (o.alloc _) _ (some ⟨w7.heap.size,0,none⟩) 1 1 _ rfl (Bt w7 (.int .i64 (k:Int)) 3 _ rfl) b5 ?c3 ?c4 ?c5 ?_)
      case c3=>unfold maxLen;omega
      case c4=>omega
      case c5=>simp;omega
      intro v' w2 R a7 _;have b7:Below U.heap.size U w2:=(hb.alloc c9 (.cells #[.int .i64 (k:Int)] 3)).grown a7 (by simp;omega) (fun j hj=>(Bd o hj).2);have HO:Hid (w2.ownsRow U.heap.size 3 1 v' (Cf (k+1) I left new).length (Gf (Cf (k+1) I left new))):=jK (by
       have J:=a6.out;simp only[eI,cZ,bW,fM,if_true]at J;rw[J,aO];have:=R;unfold Gf at this⊢;rw[bN];exact this)
      clear R a7 o;go_wp2;go_roundw
      case rel=>exact⟨k+1,by omega,by go_num,HO.out,b7⟩
      case measure=>simp[intOf];omega
     ·go_wp2_with fail;(with_reducible refine d2.mono ?_);rintro e w7⟨rfl,rfl⟩;go_wp2;go_roundw
      case rel=>
       have J:=a6.out;simp only[cZ,cC,bW,fA,dY,if_false,cP]at J;exact⟨k+1,by omega,by go_num,by rw[J];exact o,hb⟩
      case measure=>simp[intOf];omega
   ·go_wp2_with fail;(with_reducible refine d3.mono ?_);rintro e w5⟨rfl,rfl⟩;go_wp2_with (at_builtin;refine Ap _ rfl _ _ 28 rfl U.heap.size 3 i0 _ 1 8 underlying28 b8 b9 c0 c1 rfl (by decide) _ _ _ rfl (o.alloc _) _ (some ⟨w5.heap.size,0,none⟩) 1 1 _ rfl (Bt w5 (.int .i64 (k:Int)) 3 _ rfl) b5 ?c3 ?c4 ?c5 ?_)
    case c3=>unfold maxLen;omega
    case c4=>omega
    case c5=>simp;omega
    intro v' w2 R a7 _;have b7:Below U.heap.size U w2:=(hb.alloc c9 (.cells #[.int .i64 (k:Int)] 3)).grown a7 (by simp;omega) (fun j hj=>(Bd o hj).2);have HO:Hid (w2.ownsRow U.heap.size 3 1 v' (Cf (k+1) I left new).length (Gf (Cf (k+1) I left new))):=jK (by
     have J:=a6.out;simp only[eI,cZ,bW,fM,if_true]at J;rw[J,aO];have:=R;unfold Gf at this⊢;rw[bN];exact this)
    clear R a7 o;go_wp2;go_roundw
    case rel=>exact⟨k+1,by omega,by go_num,HO.out,b7⟩
    case measure=>simp[intOf];omega
  ·obtain rfl:k=n:=by omega
   have k0:¬(k:Int)<(k:Int):=by omega
   go_wp2;go_ret;exact⟨_,rfl,a1.trans (hb.mono a1.size),Bk o a1.size⟩
theorem Wd {x y:Q.BS}:(x.kind=y.kind/\x.a=y.a/\x.b=y.b)↔x=y:=by
 constructor
 ·rintro⟨j,o,p⟩;cases x;cases y;simp only at j o p;subst j o p;rfl
 ·rintro rfl;exact⟨rfl,rfl,rfl⟩
instance:DecidableEq Q.BS:=fun x y=>decidable_of_iff _ Wd
theorem YG {w:World} {n cp:Nat} {A:Option Addr} {l:List Q.BS} {k:Nat} (h:Ci w w.heap.size (.slice A n cp) l) (o:k<l.length):∃j,A=some j/\j.block<w.heap.size/\w.cell? (j.add (k*3))=some (.int .i64 l[k].kind)/\
  w.cell? {block:=(j.add (k*3)).block,off:=(j.add (k*3)).off+1}=some (.int .i64 l[k].a)/\w.cell? {block:=(j.add (k*3)).block,off:=(j.add (k*3)).off+2}=some (.int .i64 l[k].b):=by
 have p:=h;obtain⟨A',n',c',e,h2,h3,I⟩:=p;injection e with J e2 e3
 obtain⟨j,R,U,_⟩:=I k o;subst J;subst R;exact⟨j,rfl,U,Ci.at_ h o⟩
theorem Qf (o J:List Q.BS) (v1 v2:Value) (w:World) (h1:Ci w w.heap.size v1 o) (h2:Ci w w.heap.size v2 J) :
  Calls prog 43 #[v1,v2] w fun e w'=>e=.returned (.bool (decide (o=J)))/\Below w.heap.size w w':=by
 obtain⟨A,c,rfl,c5,hA⟩:=h1.form;obtain⟨B,d,rfl,c6,hB⟩:=h2.form;obtain⟨r,hr⟩:∃r,decide (o=J)=r:=⟨_,rfl⟩;rw[hr];have HR:=jK hr;clear hr;go_enter func43,ntmps43;by_cases hl:o.length=J.length
 ·have b3:=Bj (show(o.length:Int)=(J.length:Int)by omega);have HL:=jK hl;clear hl;go_wp2
  go_loopw [5] (fun v wr=>∃k:Nat,k<=o.length/\v=.int .i64 (k:Int)/\(∀j (h1:j<o.length) (h2:j<J.length),j<k->o[j]=J[j])/\Below w.heap.size w wr) (fun v _=>o.length-(intOf v).toNat)
  case atStart=>exact⟨0,by omega,rfl,fun j _ _ hj=>absurd hj (by omega),aJ _ _⟩
  case round=>
   obtain⟨k,hk,rfl,hz,p⟩:=hrel;have HZ:=jK hz;clear hz;by_cases b4:k<o.length
   ·have c8:(k:Int)<(o.length:Int):=by omega
    have a7:k<J.length:=by have:=HL.out;omega
    have c1:(k:Int)<(J.length:Int):=by omega
    obtain⟨ad,rfl,c9,q0,q1,q2⟩:=YG (h1.on BV p) b4;obtain⟨bd,rfl,e3,s0,s1,s2⟩:=YG (h2.on BV p) a7;have a1:=jK (Wd (x:=o[k]) (y:=J[k])).symm;obtain⟨x,hx⟩:∃x,o[k]=x:=⟨_,rfl⟩;obtain⟨y,hy⟩:∃y,J[k]=y:=⟨_,rfl⟩;rw[hx]at q0 q1 q2 a1;rw[hy]at s0 s1 s2 a1;have HX:=jK hx;have HY:=jK hy;clear hx hy;have R:=fun w5=>We x y w5
    unfold As at R;by_cases I:x.kind=y.kind/\x.a=y.a/\x.b=y.b
    ·have U:=a1.out.2 I;rw[aH I]at R;have b7:=jK U;clear I U;go_wp2_with fail
     go_quiet (fail)
     go_wp2;go_roundw
     case rel=>exact⟨k+1,by omega,by go_num,fun j ha p e6=>by
       rcases bH j k with h1|h1
       ·exact HZ.out j ha p h1
       ·obtain rfl:j=k:=by omega
        rw[HX.out,HY.out];exact b7.out,⟨p.os,p.tape,p.output,p.size,p.block⟩⟩
     case measure=>simp[intOf];omega
    ·have U:¬x=y:=fun e=>I (a1.out.1 e)
     rw[aF I]at R;obtain rfl:r=false:=by
      rw[<-HR.out];refine aF fun e=>U ?_
      rw[<-HX.out,<-HY.out];subst e;rfl
     clear I U;go_wp2_with fail
     go_quiet (fail)
     go_wp2;go_ret;exact⟨rfl,⟨p.os,p.tape,p.output,p.size,p.block⟩⟩
   ·obtain rfl:k=o.length:=by omega
    have e7:¬(o.length:Int)<(o.length:Int):=by omega
    obtain rfl:r=true:=by
     rw[<-HR.out];refine aH (gZ HL.out fun j a b=>HZ.out j a b a)
    go_wp2;go_ret;exact⟨rfl,p⟩
 ·have b3:=Bc (show(o.length:Int)≠(J.length:Int)by omega);obtain rfl:r=false:=by
   rw[<-HR.out];exact aF fun e=>hl (by rw[e])
  clear hl;go_wp2;go_ret;exact⟨rfl,aJ _ _⟩
abbrev Vy:=Int×List Int
def Zbs:Rel Vy:=fun w B p j u=>match j with
 | 0=>u=.int .i64 p.1
 |_=>BD w B u p.2
theorem JJ:Hc Zbs:=fun w w' B B' l j u o p h=>by
 match j,h with
 | 0,h=>exact h
 |j+1,h=>
  obtain⟨A,n,c,I,J,R,U⟩:=(show BD w B u l.2 from h);exact⟨A,n,c,I,J,R,(U.keep p).more o⟩
abbrev L4:=Cq 2 Zbs
theorem VX {w:World} {n cp:Nat} {A:Option Addr} {l:List Vy} {k:Nat} (h:L4 w w.heap.size (.slice A n cp) l) (hk:k<l.length):∃j o p,A=some j/\j.block<w.heap.size/\w.cell? (j.add (k*2))=some (.int .i64 l[k].1)/\
  w.cell? {block:=(j.add (k*2)).block,off:=(j.add (k*2)).off+1}=some (.slice o l[k].2.length p)/\BD w w.heap.size (.slice o l[k].2.length p) l[k].2:=by
 obtain⟨A',n',c',e,h2,h3,h4⟩:=h;injection e with e1 e2 e3
 obtain⟨j,e4,hb,R⟩:=h4 k hk;subst e1;subst e4;obtain⟨u,hu,r0⟩:=R 0 (by omega);obtain⟨u1,I,U⟩:=R 1 (by omega);obtain rfl:u=.int .i64 l[k].1:=r0;have J:BD w w.heap.size u1 l[k].2:=U;obtain⟨o,m,p,rfl,rfl,hm⟩:=J;exact⟨j,o,p,rfl,hb,hu,I,U⟩
theorem PZ (U l2:List Vy) (v1 v2:Value) (w:World) (h1:L4 w w.heap.size v1 U) (h2:L4 w w.heap.size v2 l2) :
  Calls prog 42 #[v1,v2] w fun e w'=>e=.returned (.bool (decide (U=l2)))/\Below w.heap.size w w':=by
 obtain⟨A,c,rfl,h7,hA⟩:=h1.form;obtain⟨B,d,rfl,h8,hB⟩:=h2.form;obtain⟨r,hr⟩:∃r,decide (U=l2)=r:=⟨_,rfl⟩;rw[hr];have HR:=jK hr;clear hr;go_enter func42,ntmps42;by_cases hl:U.length=l2.length
 ·have c9:=Bj (show(U.length:Int)=(l2.length:Int)by omega);have HL:=jK hl;clear hl;go_wp2
  go_loopw [5] (fun v wr=>∃k:Nat,k<=U.length/\v=.int .i64 (k:Int)/\(∀j (h1:j<U.length) (h2:j<l2.length),j<k->U[j]=l2[j])/\Below w.heap.size w wr) (fun v _=>U.length-(intOf v).toNat)
  case atStart=>exact⟨0,by omega,rfl,fun j _ _ hj=>absurd hj (by omega),aJ _ _⟩
  case round=>
   obtain⟨k,hk,rfl,hz,hb⟩:=hrel;have HZ:=jK hz;clear hz;by_cases e0:k<U.length
   ·have i6:(k:Int)<(U.length:Int):=by omega
    have c4:k<l2.length:=by have:=HL.out;omega
    have h3:(k:Int)<(l2.length:Int):=by omega
    obtain⟨ad,uA,uc,rfl,I,q0,q1,hu⟩:=VX (h1.on JJ hb) e0;obtain⟨bd,zA,zc,rfl,J,s0,s1,hz⟩:=VX (h2.on JJ hb) c4;obtain⟨x,hx⟩:∃x,U[k]=x:=⟨_,rfl⟩;obtain⟨y,hy⟩:∃y,l2[k]=y:=⟨_,rfl⟩;rw[hx]at q0 q1 hu;rw[hy]at s0 s1 hz;have HX:=jK hx;have HY:=jK hy;clear hx hy;by_cases h0:x.1=y.1
    ·have e5:=Bj h0;have H0:=jK h0;clear h0;have b9:=fun w5 (h5:Below wr.heap.size wr w5)=>JQ x.2 y.2 _ _ w5 (hu.on h5) (hz.on h5)
     by_cases h9:x.2=y.2
     ·have R:x=y:=Prod.ext H0.out h9;simp only[aH h9]at b9;have e6:=jK R;clear h9 R;go_wp2;refine Aj.AF 25 [(22,.bool true)] [(22,fun _ _=>True)] (fun w'=>Below wr.heap.size wr w') (fun w w'=>Below w.heap.size w w') (by kernel_rfl) (by kernel_rfl) (by kernel_rfl) (by kernel_rfl) (fun _ _ d _ _ h=>by cases d<;>exact h) (aJ _ _).drew ?_;simp only[aM,aT]
      iterate 22 ((first|refine Aj.Ad rfl rfl ?_ ?_ ?_|refine Aj.Aq rfl (by kernel_rfl) ?_ ?_ ?_);rotate_left;(focus(intro w5 hI _;have b2:=fun x=>hI.cell (p:=ad.add x) (add_lt I x);have b3:=fun x o=>hI.cell (p:=⟨(ad.add x).block,o,none⟩) (add_lt I x);have b4:=fun x=>hI.cell (p:=bd.add x) (add_lt J x);have b5:=fun x o=>hI.cell (p:=⟨(bd.add x).block,o,none⟩) (add_lt J x);go_simp;rfl)))
      refine Aj.Ah (a':=?_) ?_ ?_;rotate_left;(focus(simp only[Act.put,aB,aD,aC];rfl));refine Aj.AC (.bool true) rfl rfl (by kernel_rfl) (fun _ _ _ _ _=>trivial) (fun w5 hI _ K hK=>?_) ?_
      ·go_simp;(with_reducible refine(b9 w5 hI).mono ?_);rintro e w9⟨rfl,b6⟩;exact hK _ _ (by go_simp) trivial (hI.trans (b6.mono hI.size)) b6
      iterate 2 ((first|refine Aj.Ad rfl rfl ?_ ?_ ?_|refine Aj.Aq rfl (by kernel_rfl) ?_ ?_ ?_);rotate_left;(focus(intro w5 hI _;have b2:=fun x=>hI.cell (p:=ad.add x) (add_lt I x);have b3:=fun x o=>hI.cell (p:=⟨(ad.add x).block,o,none⟩) (add_lt I x);have b4:=fun x=>hI.cell (p:=bd.add x) (add_lt J x);have b5:=fun x o=>hI.cell (p:=⟨(bd.add x).block,o,none⟩) (add_lt J x);go_simp;rfl)))
      refine Aj.Ah (a':=?_) ?_ ?_;rotate_left;(focus(simp only[Act.put,aB,aD,aC];rfl));refine Aj.Ak (fun w6 b7 _=>?_);simp only[aN,aS];have b8:=hb.trans (b7.mono hb.size);go_wp2;go_roundw
      case rel=>exact⟨k+1,by omega,by go_num,fun j ha hb j4=>by
        rcases bH j k with h1|h1
        ·exact HZ.out j ha hb h1
        ·obtain rfl:j=k:=by omega
         rw[HX.out,HY.out];exact e6.out,b8⟩
      case measure=>simp[intOf];omega
     ·have R:¬x=y:=fun e=>h9 (by rw[e])
      simp only[aF h9]at b9;obtain rfl:r=false:=by
       rw[<-HR.out];refine aF fun e=>R ?_
       rw[<-HX.out,<-HY.out];subst e;rfl
      clear h9 R;go_wp2;refine Aj.AF 25 [(22,.bool false)] [(22,fun _ _=>True)] (fun w'=>Below wr.heap.size wr w') (fun w w'=>Below w.heap.size w w') (by kernel_rfl) (by kernel_rfl) (by kernel_rfl) (by kernel_rfl) (fun _ _ d _ _ h=>by cases d<;>exact h) (aJ _ _).drew ?_;simp only[aM,aT]
      iterate 22 ((first|refine Aj.Ad rfl rfl ?_ ?_ ?_|refine Aj.Aq rfl (by kernel_rfl) ?_ ?_ ?_);rotate_left;(focus(intro w5 hI _;have b2:=fun x=>hI.cell (p:=ad.add x) (add_lt I x);have b3:=fun x o=>hI.cell (p:=⟨(ad.add x).block,o,none⟩) (add_lt I x);have b4:=fun x=>hI.cell (p:=bd.add x) (add_lt J x);have b5:=fun x o=>hI.cell (p:=⟨(bd.add x).block,o,none⟩) (add_lt J x);go_simp;rfl)))
      refine Aj.Ah (a':=?_) ?_ ?_;rotate_left;(focus(simp only[Act.put,aB,aD,aC];rfl));refine Aj.AC (.bool false) rfl rfl (by kernel_rfl) (fun _ _ _ _ _=>trivial) (fun w5 hI _ K hK=>?_) ?_
      ·go_simp;(with_reducible refine(b9 w5 hI).mono ?_);rintro e w9⟨rfl,b6⟩;exact hK _ _ (by go_simp) trivial (hI.trans (b6.mono hI.size)) b6
      iterate 2 ((first|refine Aj.Ad rfl rfl ?_ ?_ ?_|refine Aj.Aq rfl (by kernel_rfl) ?_ ?_ ?_);rotate_left;(focus(intro w5 hI _;have b2:=fun x=>hI.cell (p:=ad.add x) (add_lt I x);have b3:=fun x o=>hI.cell (p:=⟨(ad.add x).block,o,none⟩) (add_lt I x);have b4:=fun x=>hI.cell (p:=bd.add x) (add_lt J x);have b5:=fun x o=>hI.cell (p:=⟨(bd.add x).block,o,none⟩) (add_lt J x);go_simp;rfl)))
      refine Aj.Ah (a':=?_) ?_ ?_;rotate_left;(focus(simp only[Act.put,aB,aD,aC];rfl));refine Aj.Ak (fun w6 b7 _=>?_);simp only[aN,aS];have b8:=hb.trans (b7.mono hb.size);go_wp2;go_ret;exact⟨rfl,b8⟩
    ·have e5:=Bc h0;have R:¬x=y:=fun e=>h0 (by rw[e])
     obtain rfl:r=false:=by
      rw[<-HR.out];refine aF fun e=>R ?_
      rw[<-HX.out,<-HY.out];subst e;rfl
     clear h0 R;go_wp2;refine Aj.AM 25 [] (fun w'=>Below wr.heap.size wr w') (fun w w'=>Below w.heap.size w w') (by kernel_rfl) (by kernel_rfl) (by kernel_rfl) (by kernel_rfl) (fun _ _ d _ _ h=>by cases d<;>exact h) (aJ _ _).drew ?_;simp only[aM,aT]
     iterate 12 (refine Aj.Ad rfl rfl ?_ ?_ ?_;rotate_left;(focus(intro w5 hI _;have b2:=fun x=>hI.cell (p:=ad.add x) (add_lt I x);have b3:=fun x o=>hI.cell (p:=⟨(ad.add x).block,o,none⟩) (add_lt I x);have b4:=fun x=>hI.cell (p:=bd.add x) (add_lt J x);have b5:=fun x o=>hI.cell (p:=⟨(bd.add x).block,o,none⟩) (add_lt J x);go_simp;rfl)))
     iterate 12 (refine Aj.Bb rfl (by kernel_rfl) ?_)
     (refine Aj.Ad rfl rfl ?_ ?_ ?_;rotate_left;(focus(intro w5 hI _;have b2:=fun x=>hI.cell (p:=ad.add x) (add_lt I x);have b3:=fun x o=>hI.cell (p:=⟨(ad.add x).block,o,none⟩) (add_lt I x);have b4:=fun x=>hI.cell (p:=bd.add x) (add_lt J x);have b5:=fun x o=>hI.cell (p:=⟨(bd.add x).block,o,none⟩) (add_lt J x);go_simp;rfl)))
     refine Aj.Ah (a':=?_) ?_ ?_;rotate_left;(focus(simp only[Act.put,aB,aD,aC];rfl));refine Aj.Ak (fun w6 b7 _=>?_);simp only[aN,aS];have b8:=hb.trans (b7.mono hb.size);go_wp2;go_ret;exact⟨rfl,b8⟩
   ·obtain rfl:k=U.length:=by omega
    have j5:¬(U.length:Int)<(U.length:Int):=by omega
    obtain rfl:r=true:=by
     rw[<-HR.out];refine aH (gZ HL.out fun j a b=>HZ.out j a b a)
    go_wp2;go_ret;exact⟨rfl,hb⟩
 ·have c9:=Bc (show(U.length:Int)≠(l2.length:Int)by omega);obtain rfl:r=false:=by
   rw[<-HR.out];exact aF fun e=>hl (by rw[e])
  clear hl;go_wp2;go_ret;exact⟨rfl,aJ _ _⟩
structure J9 where
 Ag:List Int
 Fa:List Vy
 Ac:List Q.BS
 queue:List ByteArray
 steps:Int
 Bf:Int
 status:Int
 lost:Int
structure Gd (w:World) (B:Nat) (cv pv vv qv:Value) (m:J9):Prop where
 Ag:BD w B cv m.Ag
 Fa:L4 w B pv m.Fa
 Ac:Ci w B vv m.Ac
 queue:AE w B qv m.queue
theorem Gd.on {w o:World} {p I vv J:Value} {m:J9} (h:Gd w w.heap.size p I vv J m) (j:Below w.heap.size w o):Gd o o.heap.size p I vv J m:=
 ⟨h.Ag.on j,h.Fa.on JJ j,h.Ac.on BV j,h.queue.on j⟩
abbrev VJ (j o vv p:Value) (m:J9):Value:=.agg #[j,o,vv,p,.int .i64 m.steps,.int .i64 m.Bf,.int .i64 m.status,.int .i64 m.lost]
structure T1 (w:World) (B P:Nat) (cv pv vv qv:Value) (m:J9):Prop where
 lt:P<B
 at_:Gd w B cv pv vv qv m
 p0:w.cell? ⟨P,0,none⟩=some (cv)
 p1:w.cell? ⟨P,1,none⟩=some (pv)
 p2:w.cell? ⟨P,2,none⟩=some (vv)
 p3:w.cell? ⟨P,3,none⟩=some (qv)
 p4:w.cell? ⟨P,4,none⟩=some (.int .i64 m.steps)
 p5:w.cell? ⟨P,5,none⟩=some (.int .i64 m.Bf)
 p6:w.cell? ⟨P,6,none⟩=some (.int .i64 m.status)
 p7:w.cell? ⟨P,7,none⟩=some (.int .i64 m.lost)
theorem T1.on {w W:World} {P:Nat} {o I vv J:Value} {m:J9} (h:T1 w w.heap.size P o I vv J m) (j:Below w.heap.size w W):T1 W W.heap.size P o I vv J m:=
 ⟨aK h.lt j.size,h.at_.on j,(j.cell (p:=⟨P,0,none⟩) h.lt).trans h.p0,(j.cell (p:=⟨P,1,none⟩) h.lt).trans h.p1,(j.cell (p:=⟨P,2,none⟩) h.lt).trans h.p2,(j.cell (p:=⟨P,3,none⟩) h.lt).trans h.p3,(j.cell (p:=⟨P,4,none⟩) h.lt).trans h.p4,(j.cell (p:=⟨P,5,none⟩) h.lt).trans h.p5,(j.cell (p:=⟨P,6,none⟩) h.lt).trans h.p6,(j.cell (p:=⟨P,7,none⟩) h.lt).trans h.p7⟩
theorem T1.new {w W:World} {o p vv I:Value} {m:J9} (h:Gd w w.heap.size o p vv I m) (e:w.alloc (.cells #[o,p,vv,I,.int .i64 m.steps,.int .i64 m.Bf,.int .i64 m.status,.int .i64 m.lost] 32)=W):Below w.heap.size w W/\T1 W W.heap.size w.heap.size o p vv I m:=by
 obtain⟨J,R,j⟩:=Bi _ _ _ e;exact⟨J,by omega,h.on J,j.cell 0,j.cell 1,j.cell 2,j.cell 3,j.cell 4,j.cell 5,j.cell 6,j.cell 7⟩
theorem JU (m:J9) (c1 p1 v1 q1 c2 p2 v2 q2:Value) (w:World) (h1:Gd w w.heap.size c1 p1 v1 q1 m) (h2:Gd w w.heap.size c2 p2 v2 q2 m) :
  Calls prog 16 #[VJ c1 p1 v1 q1 m,VJ c2 p2 v2 q2 m] w fun e w'=>e=.returned (.bool true)/\Below w.heap.size w w':=by
 obtain⟨cA,cn,cc,rfl,e1,-⟩:=h1.Ag;obtain⟨dA,dn,dc,rfl,e2,-⟩:=h2.Ag;obtain⟨pA,pc,rfl,-,-⟩:=h1.Fa.form;obtain⟨rA,rc,rfl,-,-⟩:=h2.Fa.form;obtain⟨vA,vc,rfl,-,-⟩:=h1.Ac.form;obtain⟨xA,xc,rfl,-,-⟩:=h2.Ac.form;obtain⟨qA,qc,rfl,-,-⟩:=h1.queue.form;obtain⟨yA,yc,rfl,-,-⟩:=h2.queue.form;subst e1 e2;obtain⟨W1,f1⟩:∃W1,w.alloc (.cells #[.slice cA m.Ag.length cc,.slice pA m.Fa.length pc,.slice vA m.Ac.length vc,.slice qA m.queue.length qc,.int .i64 m.steps,.int .i64 m.Bf,.int .i64 m.status,.int .i64 m.lost] 32)=W1:=⟨_,rfl⟩;obtain⟨e0,b1⟩:=T1.new h1 f1;obtain⟨W2,f2⟩:∃W2,W1.alloc (.cells #[.slice dA m.Ag.length dc,.slice rA m.Fa.length rc,.slice xA m.Ac.length xc,.slice yA m.queue.length yc,.int .i64 m.steps,.int .i64 m.Bf,.int .i64 m.status,.int .i64 m.lost] 32)=W2:=⟨_,rfl⟩;obtain⟨e3,b2⟩:=T1.new (h2.on e0) f2;have g1:=jK (b1.on e3);have g2:=jK b2;have j:=Ab e0 e3;have s1:W1.heap.size=w.heap.size+1:=by rw[<-f1];simp
 clear b1 b2 h1 h2;have HS:=jK s1;clear s1;have z0:=Be (rfl:m.steps=m.steps);have z1:=Be (rfl:m.Bf=m.Bf);have z2:=Be (rfl:m.status=m.status);have z3:=Be (rfl:m.lost=m.lost);obtain⟨I,p,J,x1,R,U,x4,x5,x6,x7⟩:=g1.out;obtain⟨l2,a2,y0,y1,y2,y3,y4,y5,y6,y7⟩:=g2.out;have o:=JQ m.Ag m.Ag _ _ W2 p.Ag a2.Ag;rw[aH rfl]at o;clear p a2;go_enter func16,ntmps16;go_wp2_with fail;(with_reducible refine o.mono ?_);rintro e W3⟨rfl,c4⟩;clear f1 f2 J x1 R U x4 x5 x6 x7 y0 y1 y2 y3 y4 y5 y6 y7 I l2 o;have g1:=jK (g1.out.on c4);have g2:=jK (g2.out.on c4);have j:=Ab j c4;obtain⟨I,p,J,x1,R,U,x4,x5,x6,x7⟩:=g1.out;obtain⟨l2,a2,y0,y1,y2,y3,y4,y5,y6,y7⟩:=g2.out;have o:=PZ m.Fa m.Fa _ _ W3 p.Fa a2.Fa;rw[aH rfl]at o;clear p a2;go_wp2_with fail;(with_reducible refine o.mono ?_);rintro e W4⟨rfl,c5⟩;clear J x1 R U x4 x5 x6 x7 y0 y1 y2 y3 y4 y5 y6 y7 I l2 o;have g1:=jK (g1.out.on c5);have g2:=jK (g2.out.on c5);have j:=Ab j c5;obtain⟨I,p,J,x1,R,U,x4,x5,x6,x7⟩:=g1.out;obtain⟨l2,a2,y0,y1,y2,y3,y4,y5,y6,y7⟩:=g2.out;have o:=Qf m.Ac m.Ac _ _ W4 p.Ac a2.Ac;rw[aH rfl]at o;clear p a2;go_wp2_with fail;(with_reducible refine o.mono ?_);rintro e W5⟨rfl,c6⟩;clear J x1 R U x4 x5 x6 x7 y0 y1 y2 y3 y4 y5 y6 y7 I l2 o;have g1:=jK (g1.out.on c6);have g2:=jK (g2.out.on c6);have j:=Ab j c6;obtain⟨I,p,J,x1,R,U,x4,x5,x6,x7⟩:=g1.out;obtain⟨l2,a2,y0,y1,y2,y3,y4,y5,y6,y7⟩:=g2.out;have o:=Ka m.queue m.queue _ _ W5 p.queue a2.queue;rw[aH rfl]at o;clear p a2;go_wp2_with fail;(with_reducible refine o.mono ?_);rintro e W6⟨rfl,c7⟩;clear J x1 R U x4 x5 x6 x7 y0 y1 y2 y3 y4 y5 y6 y7 I l2 o;have g1:=jK (g1.out.on c7);have g2:=jK (g2.out.on c7);have j:=Ab j c7;obtain⟨I,-,J,x1,R,U,x4,x5,x6,x7⟩:=g1.out;obtain⟨l2,-,y0,y1,y2,y3,y4,y5,y6,y7⟩:=g2.out;go_wp2;go_ret;exact⟨rfl,j⟩
end
end Go.Proofs.YthbihnpoghlfaaaGreatDoor
