import Derived.Test.YthbihnpoghlfaaaGreatDoorZr32
import Derived.Test.YthbihnpoghlfaaaGreatDoorZr35
set_option linter.unusedVariables false
set_option linter.unusedSimpArgs false
set_option maxHeartbeats 8000000
set_option maxRecDepth 100000
namespace Go.Proofs.YthbihnpoghlfaaaGreatDoor
open Go.Proofs.Tryz
section
open Go.RowKit Q Go.Lib
theorem ZaZ {α:Type} (p:α->Bool) (l:List α):decide ((0:Int)<=ET p l)=l.any p:=by
 cases h:l.findIdx? p with
 |none=>
  rw[ID h];have:=iX.1 h;symm;rw[show decide ((0:Int)<=-1)=false from rfl,fS];intro j;obtain⟨x,o,hp⟩:=gF.1 j;rw[this x o]at hp;cases hp
 |some k=>
  rw[IF h];obtain⟨I,J,_⟩:=cY.1 h;rw[aH (Int.natCast_nonneg k)];symm;exact gF.2 ⟨_,bK I,J⟩
def Zbv (g:Nat) (lb:Array Value) (p:Nat->Bool) (L:List Nat) (w:World):Prop:=
 ∀j (I:j<L.length) (W:World),Below w.heap.size w W->Calls prog g (#[.int .i64 (L[j]:Int)]++lb) W fun e o=>e=.returned (.bool (p L[j]))/\Below W.heap.size W o
theorem X8 {g:Nat} {lb:Array Value} {p:Nat->Bool} {L:List Nat} {A:Option Addr} {cp:Nat} {w:World} (eg:∀args w,(callFunc g args).run prog w=.ok (.enter g args) w) (hR:Reads w w.heap.size 1 A L.length (ints L)) (hn:L.length<=1000000) (hp:Zbv g lb p L w) :
  Calls prog 143 #[.slice A L.length cp,.func (.func g) #[] lb] w fun e w'=>e=.returned (.int .i64 (ET p L))/\Below w.heap.size w w':=by
 go_enter func143,ntmps143;go_wp2
 go_loopw [8] (fun u wr=>∃k:Nat,k<=L.length/\u=.int .i64 (k:Int)/\(∀j (h:j<L.length),j<k->p L[j]=false)/\Below w.heap.size w wr) (fun u _=>L.length-(intOf u).toNat)
 case atStart=>exact⟨0,by omega,rfl,fun j _ h=>absurd h (by omega),aJ _ _⟩
 case round=>
  obtain⟨k,hk,rfl,o,I⟩:=hrel;have HA:=jK o;clear o;by_cases J:k<L.length
  ·have b5:(k:Int)<(L.length:Int):=by omega
   have hc:=hp k J wr I;obtain⟨ad,rfl,b0,a1⟩:=GK hR rfl J;have c0:=(I.cell (p:=ad.add k) (add_lt b0 k)).trans a1;obtain⟨x,hx⟩:∃x,p L[k]=x:=⟨_,rfl⟩;have HX:=jK hx;rw[hx]at hc;clear hx a1;generalize L[k]=y at c0 hc;cases x
   ·go_wp2_with (go_at_fn g;refine hc.mono ?_;rintro e w1⟨rfl,U⟩);go_roundw
    case rel=>
     refine⟨k+1,by omega,by go_num,fun j hj b9=>?_,I.trans (U.mono I.size)⟩;by_cases e:j=k
     ·subst e;exact HX.out
     ·exact HA.out j hj (by omega)
    case measure=>simp[intOf];omega
   ·go_wp2_with (go_at_fn g;refine hc.mono ?_;rintro e w1⟨rfl,U⟩);go_ret;exact⟨D4 (Qr J HX.out HA.out).symm,I.trans (U.mono I.size)⟩
  ·obtain rfl:k=L.length:=by omega
   have c1:¬(L.length:Int)<(L.length:Int):=by omega
   go_wp2;go_ret;exact⟨D4 (PX fun j hj _=>HA.out j hj hj).symm,I⟩
theorem Q0 {g:Nat} {lb:Array Value} {p:Nat->Bool} {L:List Nat} {A:Option Addr} {cp:Nat} {w:World} (J:∀args w,(callFunc g args).run prog w=.ok (.enter g args) w) (U:Reads w w.heap.size 1 A L.length (ints L)) (hn:L.length<=1000000) (hp:Zbv g lb p L w) :
  Calls prog 192 #[.slice A L.length cp,.func (.func g) #[] lb] w fun e w'=>e=.returned (.bool (L.any p))/\Below w.heap.size w w':=by
 have o:=X8 (cp:=cp) J U hn hp;have I:=jK (ZaZ p L);generalize ET p L=r at o I;go_enter func192,ntmps192;go_wp2_with fail;(with_reducible refine o.mono ?_);rintro e w1⟨rfl,j⟩;go_wp2;go_ret;exact⟨Db I.out,j⟩
theorem BD.GM {w:World} {B:Nat} {v:Value} {l:List Nat} (h:w.ownsRow B 3 1 v l.length (ints l)) (j:l.length<=9223372036854775807):BD w w.heap.size v (Co l):=by
 rw[Fo,<-Dj l]at h;exact BD.BL h (by rw[Dj];exact j)
theorem Jg (l:List Nat) (k:Nat):(Co l).contains (k:Int)=l.contains k:=by
 rw[cH,cS,cS];unfold Co;rw[dF];constructor
 ·rintro⟨a,ha,e⟩;obtain rfl:a=k:=by omega
  exact ha
 ·intro h;exact⟨k,h,rfl⟩
section
variable {w:World} {B p b:Nat} {D:DV} {R:RV} {cl:List Nat} {d:Wk} {c:Q.Af}
def Jc (c:Q.Af) (cl:List Nat) (k:Nat):Bool:=decide (Tr.kd c.Ar k=4)&&cl.contains k
theorem Xi (h:Ay w B p 75 D R cl d) (hB:B<=w.heap.size) (hC:AQ w B D.ev D.vv D.sv D.tv c) (hb:b<w.heap.size) (hx:w.cell? ⟨b,0,none⟩=some (.pointer (some ⟨p,0,none⟩))) (a8:cl.length<=1000000) (k:Nat) (hk:k<c.Aa.length) :
  Calls prog 193 #[.int .i64 (k:Int),.pointer (some ⟨b,0,none⟩)] w fun e w'=>e=.returned (.bool (Jc c cl k))/\Below w.heap.size w w':=by
 obtain⟨-,-,-,c3,-,c5,-⟩:=h.cells;have j:A6 w w.heap.size D.sv c.Aa:=hC.Aa.keep AU hB (fun _ _=>rfl);have hi:=BD.GM h.Ag (by omega);have o:=Oo (Co cl) R.vC (k:Int) w hi;rw[Jg]at o;obtain⟨SA,sc,J,b1,U⟩:=j.form;obtain⟨ad,rfl,b2⟩:=U k hk;rw[J]at c3 j;obtain⟨_,_,_,_,-,d1,-⟩:=A5 (c:=c) j hk;rw[<-Cb c hk]at d1;have b3:(k:Int)<(c.Aa.length:Int):=by omega
 have b4:=h.Bq.lt;unfold Jc;generalize Tr.kd c.Ar k=kd at *;generalize cl.contains k=x at *;obtain⟨vA,vc,a1⟩:=Al h.Ag;rw[a1]at c5 o;clear h hC hi j U J a1;by_cases I:kd=4
 ·have hz:=Be I;rw[aH I,bW];clear I;go_enter func193,ntmps193;go_wp2_with fail;(with_reducible refine o.mono ?_);rintro e w1⟨rfl,rfl⟩;go_wp2;go_ret;exact⟨rfl,aJ _ _⟩
 ·have hz:=Bg I;rw[aF I,cC];clear I;go_enter func193,ntmps193;go_wp2;go_ret;exact⟨rfl,aJ _ _⟩
end
theorem KT {B p:Nat} {D:DV} {R:RV} {cl:List Nat} {d:Wk} {c:Q.Af} (v:Valid c) (f:Fit c) (c8:cl.length<=1000000):∀(m i:Nat),c.Aa.length-i<=m->i<c.Aa.length->∀(w:World),Ay w B p 75 D R cl d->B<=w.heap.size->AQ w B D.ev D.vv D.sv D.tv c->
  Calls prog 113 #[.pointer (some ⟨p,0,none⟩),.int .i64 (i:Int)] w fun e w'=>e=.returned (.bool (over c.Ar cl i))/\Below w.heap.size w w'
 | 0,i,hm,hi=>absurd hm (by omega)
 |m+1,i,hm,hi=>by
  intro w h hB hC;have ih:=fun j (h1:i<j) (h2:j<c.Aa.length)=>KT v f c8 (B:=B) (p:=p) (D:=D) (R:=R) (d:=d) m j (by omega) h2
  have b5:i<c.Ar.length:=by rw[AI];exact hi
  have J:=Pv (st:=c.Ar) cl b5;have a1:∀j,(hj:j<(Tr.kids c.Ar i).length)->i<(Tr.kids c.Ar i)[j]/\(Tr.kids c.Ar i)[j]<c.Aa.length:=fun j hj=>by
   have h1:=(Tr.B6 c.Ar b5).1 (bK hj);have h2:=((Tr.DW c.Ar _ i).1 h1.2).1;exact⟨h2,by have:=h1.1;rwa[AI]at this⟩
  have c9:(Tr.kids c.Ar i).length<=1000000:=by
   have h1:(Tr.kids c.Ar i).length<=40:=by
    have:=Tr.Ld c.Ar (i:Int);unfold Tr.EW at this;rw[Fc v.tree b5]at this;exact this
   omega
  obtain⟨W0,e0⟩:∃W0,w.alloc (.cells #[.pointer (some ⟨p,0,none⟩)] 73)=W0:=⟨_,rfl⟩;obtain⟨b2,s0,k0⟩:=Bi _ _ _ e0;have x0:W0.cell? ⟨w.heap.size,0,none⟩=some (.pointer (some ⟨p,0,none⟩)):=k0.cell 0;have b4:w.heap.size<W0.heap.size:=by omega
  have h0:=h.below b2;have b7:=aV hB b2.size;have b8:=hC.below (b2.mono hB);obtain⟨-,-,-,c3,-,c5,-⟩:=h0.cells;have a6:A6 W0 W0.heap.size D.sv c.Aa:=b8.Aa.keep AU b7 (fun _ _=>rfl);obtain⟨SA,sc,e1,j6,e2⟩:=a6.form;obtain⟨ad,rfl,j7⟩:=e2 i hi;rw[e1]at c3 a6;have e3:=Ow (c:=c) a6 f v.tree i hi;have j8:(i:Int)<(c.Aa.length:Int):=by omega
  have e4:=h0.Bq.lt;have H0:=jK h0;have e9:=jK b8;obtain⟨r,hr⟩:∃r,over c.Ar cl i=r:=⟨_,rfl⟩;rw[hr]at J⊢;have HR:=jK J;have HK:=jK (Cb c hi);have h4:=jK a6;clear s0 k0 h hC h0 b8 e2 e1 J hr a6;generalize hK:Tr.kids c.Ar i=K at *;go_enter func113,ntmps113;go_wp2_with fail;(with_reducible refine e3.mono ?_);rintro e w1⟨kv,rfl,I,b9⟩;obtain⟨kA,kc,rfl⟩:=Al b9;have e5:Reads w1 w1.heap.size 1 kA K.length (ints K):=Reads.BL b9;obtain⟨c0,-⟩:=Ae I;have x1:=(c0 _ 0 b4).trans x0;have g3:=(c0 _ 3 e4).trans c3;have U:=aK b4 I.size;have j2:=aK e4 I.size;obtain⟨_,_,_,_,-,d1,-⟩:=A5 (c:=c) (h4.out.on AU I) hi;have a7:=Ab b2 I;have H1:=jK (H0.out.below I);have e6:=jK (e9.out.below (I.mono b7));have b3:=aV b7 I.size;rw[<-HK.out]at d1;obtain⟨kd,c1⟩:∃kd,Tr.kd c.Ar i=kd:=⟨_,rfl⟩;rw[c1]at d1;have o:=HR.out;rw[c1]at o;clear e0 c3 c5 x0 e3 b9 c0 HR c1 HK;by_cases h2:kd=2
  ·have z2:=Be h2;have c2:=Q0 (g:=193) (lb:=#[.pointer (some ⟨w.heap.size,0,none⟩)]) (p:=Jc c cl) (cp:=kc) (enters_of func193 (by decide) rfl) e5 c9 fun j hj W hW=>
    Xi (H1.out.below hW) (aV b3 hW.size) (e6.out.below (hW.mono b3)) (aK U hW.size) ((hW.cell (p:=⟨w.heap.size,0,none⟩) U).trans x1) c8 _ (a1 j hj).2
   rw[if_pos h2]at o;have c4:=jK o;clear o h2;go_wp2_with fail;(with_reducible refine c2.mono ?_);rintro e w2⟨rfl,b0⟩;go_wp2;go_ret;exact⟨Db c4.out.symm,Ab a7 b0⟩
  have z2:=Bg h2;rw[if_neg h2]at o;by_cases h3:kd=3
  ·have z3:=Be h3;have c2:=Q0 (g:=194) (lb:=#[.pointer (some ⟨w.heap.size,0,none⟩)]) (p:=fun k=>!over c.Ar cl k) (cp:=kc) (enters_of func194 (by decide) rfl) e5 c9 fun j hj W hW=>by
    have h5:=ih _ (a1 j hj).1 (a1 j hj).2 W (H1.out.below hW) (aV b3 hW.size) (e6.out.below (hW.mono b3));have y0:=(hW.cell (p:=⟨w.heap.size,0,none⟩) U).trans x1;have k2:=aK U hW.size;generalize K[j]=k at *;clear x1 g3 d1;show Calls prog 194 #[.int .i64 (k:Int),.pointer (some ⟨w.heap.size,0,none⟩)] W _;go_enter func194,ntmps194;go_wp2_with fail;(with_reducible refine h5.mono ?_);rintro e w2⟨rfl,b0⟩;go_wp2;go_ret;exact⟨rfl,b0⟩
   rw[if_pos h3]at o;have c4:=jK o;clear o h3;go_wp2_with fail;(with_reducible refine c2.mono ?_);rintro e w2⟨rfl,b0⟩;go_wp2;go_ret;exact⟨Db (by rw[c4.out,List.not_any_eq_all_not];simp),Ab a7 b0⟩
  ·have z3:=Bg h3;rw[if_neg h3]at o;subst o;clear h2 h3;go_wp2;go_ret;exact⟨rfl,a7⟩
end
section
open Go.RowKit Q Go.Lib
theorem Oa {st:BQ} (p:Tr.right st) {Ag:List Nat} (h:Dd st Ag) {i:Nat} (hi:i<st.length) :
  over st Ag i=(Ag.contains i&&(decide (Tr.kd st i=3)&&(Tr.kids st i).all (fun k=>over st Ag k)||decide (Tr.kd st i=2)&&(Tr.kids st i).any (fun k=>decide (Tr.kd st k=4)&&Ag.contains k))):=by
 cases I:Ag.contains i with
 |false=>
  rw[cC,fS];intro J;have:=VM p h _ i hi J;rw[<-cS,I]at this;cases this
 |true=>
  rw[bW,Pv Ag hi];by_cases j:Tr.kd st i=2
  ·rw[if_pos j,aH j,aF (show ¬Tr.kd st i=3 by omega),cC,cZ,bW]
  ·rw[if_neg j,aF j,cC,Bool.or_false];by_cases o:Tr.kd st i=3
   ·rw[if_pos o,aH o,bW]
   ·rw[if_neg o,aF o,cC]
theorem P9 {c:Q.Af} {A:Option Addr} {n cp:Nat} {w:World} (h:A6 w w.heap.size (.slice A n cp) c.Aa) (j:Tr.right c.Ar) (i:Nat) (hi:i<n) :
  Calls prog 60 #[.slice A n cp,.int .i64 (i:Int)] w fun e o=>∃v,e=.returned v/\Below w.heap.size w o/\o.ownsRow w.heap.size 3 1 v (Tr.kids c.Ar i).length (ints (Tr.kids c.Ar i)):=by
 have p:=I9 j;have I:=QE h;exact Ly w A n cp c.Ar (CE h) (by omega) (Tr.Fq j) i hi
theorem J4 (l:List Nat) (k:Nat):decide ((k:Int)∈Co l)=l.contains k:=by
 rw[<-Jg,cH,aP,cS]
theorem YO {l:List Nat} {q:Nat->Bool} {k:Nat} (j:k<l.length):(l.take (k+1)).all q=((l.take k).all q&&q l[k]):=by
 rw[bM j,List.all_append];simp
theorem Yd {l:List Nat} {q:Nat->Bool} {k:Nat} (j:k<l.length):(l.take (k+1)).any q=((l.take k).any q||q l[k]):=by
 rw[bM j,List.any_append];simp
theorem Ho (c:Q.Af) (nm:ByteArray) (ev vv sv tv:Value) (hr:Tr.right c.Ar) (l:List Nat) (lv:Value) (k3:Dd c.Ar l):∀(m i:Nat),c.Aa.length-i<=m->i<c.Aa.length->∀(w:World),AQ w w.heap.size ev vv sv tv c->BD w w.heap.size lv (Co l)->
  Calls prog 24 #[BZ nm ev vv sv tv,lv,.int .i64 (i:Int)] w fun e w'=>e=.returned (.bool (over c.Ar l i))/\Below w.heap.size w w'
 | 0,i,hm,hi=>absurd hm (by omega)
 |m+1,i,hm,hi=>by
  intro w h j3;have ih:=fun j (h1:i<j) (h2:j<c.Aa.length)=>Ho c nm ev vv sv tv hr l lv k3 m j (by omega) h2
  have j4:i<c.Ar.length:=by rw[AI];exact hi
  have c2:=Oa hr k3 j4;have k4:∀j,(hj:j<(Tr.kids c.Ar i).length)->i<(Tr.kids c.Ar i)[j]/\(Tr.kids c.Ar i)[j]<c.Aa.length:=fun j hj=>by
   have h1:=(Tr.B6 c.Ar j4).1 (bK hj);have h2:=((Tr.DW c.Ar _ i).1 h1.2).1;exact⟨h2,by have:=h1.1;rwa[AI]at this⟩
  have q5:(Tr.kids c.Ar i).length<=1000000:=by
   have h1:(Tr.kids c.Ar i).length<=40:=by
    have:=Tr.Ld c.Ar (i:Int);unfold Tr.EW at this;rw[Fc hr j4]at this;exact this
   omega
  obtain⟨lA,ln,lc,rfl,n3,k5,-⟩:=(show ∃A n c',lv=.slice A n c'/\(Co l).length=n/\n<=9223372036854775807/\True by
   obtain⟨A,n,c',e,h1,h2,_⟩:=j3;exact⟨A,n,c',e,h1,h2,trivial⟩)
  obtain⟨SA,sc,rfl,q7,n9⟩:=h.Aa.form;obtain⟨ad,rfl,q8⟩:=n9 i hi;obtain⟨W0,e0⟩:∃W0,w.alloc (.cells #[.string nm,ev,vv,.slice (some ad) c.Aa.length sc,tv] 27)=W0:=⟨_,rfl⟩;obtain⟨h8,s0,h0,p0,p1,p2,p3,p4⟩:=Bl h e0;have b8:w.heap.size<W0.heap.size:=by omega
  have j5:=j3.on h8;have r0:¬(i:Int)<0:=by omega
  have p6:¬(c.Aa.length:Int)<=(i:Int):=by omega
  have p7:(i:Int)<(c.Aa.length:Int):=by omega
  have e5:=DO (Co l) _ (i:Int) W0 j5;rw[J4]at e5;obtain⟨r,k6⟩:∃r,over c.Ar l i=r:=⟨_,rfl⟩;rw[k6]at c2⊢;obtain⟨x,hx⟩:∃x,l.contains i=x:=⟨_,rfl⟩;rw[hx]at c2 e5;have HR:=jK c2;clear c2 k6 hx s0 h j3 n3 k5;cases x
  ·have h9:r=false:=by rw[HR.out];rfl
   subst h9;go_enter func24,ntmps24;go_wp2_with fail;(with_reducible refine e5.mono ?_);rintro e w5⟨rfl,rfl⟩;go_wp2;go_ret;exact⟨rfl,h8⟩
  have k7:=P9 (c:=c) h0.Aa hr i hi;generalize hK:Tr.kids c.Ar i=K at *;go_enter func24,ntmps24;go_wp2_with fail;(with_reducible refine e5.mono ?_);rintro e w5⟨rfl,rfl⟩;clear e0 e5;go_wp2_with fail;(with_reducible refine k7.mono ?_);rintro e w1⟨kv,rfl,e1,j6⟩;obtain⟨kA,kc,rfl⟩:=Al j6;have o2:Reads w1 w1.heap.size 1 kA K.length (ints K):=Reads.BL j6;obtain⟨e2,-⟩:=Ae e1;have q0:=(e2 _ 0 b8).trans p0;have q1:=(e2 _ 1 b8).trans p1;have q2:=(e2 _ 2 b8).trans p2;have q3:=(e2 _ 3 b8).trans p3;have q4:=(e2 _ 4 b8).trans p4;have b9:=aK b8 e1.size;have h1:=h0.on e1;have o3:=j5.on e1;have k8:=Ab h8 e1;clear p0 p1 p2 p3 p4 e2 k7 j6 h0 j5 h8 e1;go_wp2
  go_loopw [10,8,9] (fun u a o wr=>∃k:Nat,k<=K.length/\u=.int .i64 (k:Int)/\a=.bool ((K.take k).all fun k=>over c.Ar l k)/\o=.bool ((K.take k).any (Jc c l))/\Below w1.heap.size w1 wr) (fun u _ _ _=>K.length-(intOf u).toNat)
  case atStart=>exact⟨0,by omega,rfl,rfl,rfl,aJ _ _⟩
  case round=>
   obtain⟨k,hk,rfl,rfl,rfl,hb⟩:=hrel;obtain⟨c7,-⟩:=Ae hb;have g0:=(c7 _ 0 b9).trans q0;have g1:=(c7 _ 1 b9).trans q1;have g2:=(c7 _ 2 b9).trans q2;have g3:=(c7 _ 3 b9).trans q3;have g4:=(c7 _ 4 b9).trans q4;have c8:=aK b9 hb.size;have c0:=Ab k8 hb;by_cases i1:k<K.length
   ·have r8:(k:Int)<(K.length:Int):=by omega
    obtain⟨a6,J⟩:=k4 k i1;obtain⟨ka,rfl,k9,e6⟩:=GK o2 rfl i1;have b2:ka.block<wr.heap.size:=aK k9 hb.size;have i6:=(hb.cell (p:=ka.add k) (add_lt k9 k)).trans e6;have c3:=jK (YO (q:=fun k=>over c.Ar l k) i1);have c4:=jK (Yd (q:=Jc c l) i1);have e7:=h1.on hb;have e8:=o3.on hb;have i7:=fun w5 (h5:Below wr.heap.size wr w5)=>ih K[k] a6 J w5 (e7.on h5) (e8.on h5)
    obtain⟨ov,l0⟩:∃ov,over c.Ar l K[k]=ov:=⟨_,rfl⟩;obtain⟨fi,a1⟩:∃fi,Jc c l K[k]=fi:=⟨_,rfl⟩;have j0:=c3.out;have j7:=c4.out
    (try dsimp only at j0)
    rw[l0]at j0 i7;rw[a1]at j7;unfold Jc at a1;have j1:=jK a1;clear c3 c4 l0 a1;have c3:=jK j0;have c4:=jK j7;clear j0 j7 e6 c7;have c9:=Cb c J;generalize K[k]=y at *;generalize (K.take k).all (fun k=>over c.Ar l k)=aa at *;generalize (K.take k).any (Jc c l)=oo at *;cases aa
    ·go_wp2_with fail;refine Aj.AM 11 [] (fun w'=>Below wr.heap.size wr w') (fun w w'=>Below w.heap.size w w') (by kernel_rfl) (by kernel_rfl) (by kernel_rfl) (by kernel_rfl) (fun _ _ d _ _ h=>by cases d<;>exact h) (aJ _ _).drew ?_;simp only[aM,aT]
     iterate 2 (refine Aj.Ad rfl rfl ?_ ?_ ?_;rotate_left;(focus(intro w5 hI _;obtain⟨a6,_⟩:=Ae hI;have J:=hI.cell (p:=ka.add k) (add_lt b2 k);go_simp;rfl)))
     iterate 7 (refine Aj.Bb rfl (by kernel_rfl) ?_)
     iterate 2 (refine Aj.Ad rfl rfl ?_ ?_ ?_;rotate_left;(focus(intro w5 hI _;obtain⟨a6,_⟩:=Ae hI;have J:=hI.cell (p:=ka.add k) (add_lt b2 k);go_simp;rfl)))
     refine Aj.Ah (a':=?_) ?_ ?_;rotate_left;(focus(simp only[Act.put,aB,aD,aC];rfl));refine Aj.Ak (fun w6 U _=>?_);simp only[aN,aS];have e9:=e8.on U;have b3:=fun w7 (h7:Below w6.heap.size w6 w7)=>DO (Co l) _ (y:Int) w7 (e9.on h7)
     rw[J4]at b3;have o5:=(U.cell (p:=⟨w.heap.size,3,none⟩) c8).trans g3;have l3:=aK c8 U.size;have o6:=(U.cell (p:=ka.add k) (add_lt b2 k)).trans i6;have R:=aK b2 U.size;have I:(ad.add (y*6)).block<w6.heap.size:=add_lt (by omega) _;obtain⟨_,_,_,_,-,d16,-⟩:=A5 (c:=c) (e7.on U).Aa J;rw[<-c9]at d16;have o7:(y:Int)<(c.Aa.length:Int):=by omega
     have b0:=hb.trans (U.mono hb.size);have l4:=Ab c0 U;generalize Tr.kd c.Ar y=ky at *;clear g0 g1 g2 g3 g4 e7 e8 i6 i7 c9 U;cases oo
     ·by_cases h4:ky=4
      ·have z4:=Be h4;have a1:=j1.out;rw[aH h4,bW]at a1;rw[a1]at b3;clear h4 a1;go_wp2_with fail;refine Aj.AF 22 [(18,.bool fi)] [(18,fun _ _=>True)] (fun w'=>Below w6.heap.size w6 w') (fun w w'=>Below w.heap.size w w') (by kernel_rfl) (by kernel_rfl) (by kernel_rfl) (by kernel_rfl) (fun _ _ d _ _ h=>by cases d<;>exact h) (aJ _ _).drew ?_;simp only[aM,aT]
       iterate 18 ((first|refine Aj.Ad rfl rfl ?_ ?_ ?_|refine Aj.Aq rfl (by kernel_rfl) ?_ ?_ ?_);rotate_left;(focus(intro w5 hI _;obtain⟨a6,_⟩:=Ae hI;have J:=hI.cell (p:=ka.add k) (add_lt R k);have b4:=hI.cell (p:={block:=(ad.add (y*6)).block,off:=(ad.add (y*6)).off+1,spot:=none}) I;go_simp;rfl)))
       refine Aj.Ah (a':=?_) ?_ ?_;rotate_left;(focus(simp only[Act.put,aB,aD,aC];rfl));refine Aj.AC (.bool fi) rfl rfl (by kernel_rfl) (fun _ _ _ _ _=>trivial) (fun w5 hI _ K hK=>?_) ?_
       ·go_simp;(with_reducible refine(b3 w5 hI).mono ?_);rintro e w7⟨rfl,rfl⟩;exact hK _ _ (by go_simp) trivial hI (aJ _ _)
       iterate 3 ((first|refine Aj.Ad rfl rfl ?_ ?_ ?_|refine Aj.Aq rfl (by kernel_rfl) ?_ ?_ ?_);rotate_left;(focus(intro w5 hI _;obtain⟨a6,_⟩:=Ae hI;have J:=hI.cell (p:=ka.add k) (add_lt R k);have b4:=hI.cell (p:={block:=(ad.add (y*6)).block,off:=(ad.add (y*6)).off+1,spot:=none}) I;go_simp;rfl)))
       refine Aj.Ah (a':=?_) ?_ ?_;rotate_left;(focus(simp only[Act.put,aB,aD,aC];rfl));refine Aj.Ak (fun w8 b5 _=>?_);simp only[aN,aS];have b6:=b0.trans (b5.mono b0.size);go_wp2;go_roundw
       case rel=>exact⟨k+1,by omega,by go_num,by rw[c3.out];rfl,by rw[c4.out];rfl,b6⟩
       case measure=>simp[intOf];omega
      ·have z4:=Bg h4;have a1:=j1.out;rw[aF h4,cC]at a1;subst a1;clear h4;go_wp2_with fail;refine Aj.AM 22 [] (fun w'=>Below w6.heap.size w6 w') (fun w w'=>Below w.heap.size w w') (by kernel_rfl) (by kernel_rfl) (by kernel_rfl) (by kernel_rfl) (fun _ _ d _ _ h=>by cases d<;>exact h) (aJ _ _).drew ?_;simp only[aM,aT]
       iterate 13 ((first|refine Aj.Ad rfl rfl ?_ ?_ ?_|refine Aj.Aq rfl (by kernel_rfl) ?_ ?_ ?_);rotate_left;(focus(intro w5 hI _;obtain⟨a6,_⟩:=Ae hI;have J:=hI.cell (p:=ka.add k) (add_lt R k);have b4:=hI.cell (p:={block:=(ad.add (y*6)).block,off:=(ad.add (y*6)).off+1,spot:=none}) I;go_simp;rfl)))
       iterate 6 (refine Aj.Bb rfl (by kernel_rfl) ?_)
       iterate 3 ((first|refine Aj.Ad rfl rfl ?_ ?_ ?_|refine Aj.Aq rfl (by kernel_rfl) ?_ ?_ ?_);rotate_left;(focus(intro w5 hI _;obtain⟨a6,_⟩:=Ae hI;have J:=hI.cell (p:=ka.add k) (add_lt R k);have b4:=hI.cell (p:={block:=(ad.add (y*6)).block,off:=(ad.add (y*6)).off+1,spot:=none}) I;go_simp;rfl)))
       refine Aj.Ah (a':=?_) ?_ ?_;rotate_left;(focus(simp only[Act.put,aB,aD,aC];rfl));refine Aj.Ak (fun w8 b5 _=>?_);simp only[aN,aS];have b6:=b0.trans (b5.mono b0.size);go_wp2;go_roundw
       case rel=>exact⟨k+1,by omega,by go_num,by rw[c3.out];rfl,by rw[c4.out];rfl,b6⟩
       case measure=>simp[intOf];omega
     ·go_wp2_with fail;refine Aj.AM 22 [] (fun w'=>Below w6.heap.size w6 w') (fun w w'=>Below w.heap.size w w') (by kernel_rfl) (by kernel_rfl) (by kernel_rfl) (by kernel_rfl) (fun _ _ d _ _ h=>by cases d<;>exact h) (aJ _ _).drew ?_;simp only[aM,aT]
      iterate 2 (refine Aj.Ad rfl rfl ?_ ?_ ?_;rotate_left;(focus(intro w5 hI _;obtain⟨a6,_⟩:=Ae hI;have J:=hI.cell (p:=ka.add k) (add_lt R k);have b4:=hI.cell (p:={block:=(ad.add (y*6)).block,off:=(ad.add (y*6)).off+1,spot:=none}) I;go_simp;rfl)))
      iterate 18 (refine Aj.Bb rfl (by kernel_rfl) ?_)
      iterate 2 (refine Aj.Ad rfl rfl ?_ ?_ ?_;rotate_left;(focus(intro w5 hI _;obtain⟨a6,_⟩:=Ae hI;have J:=hI.cell (p:=ka.add k) (add_lt R k);have b4:=hI.cell (p:={block:=(ad.add (y*6)).block,off:=(ad.add (y*6)).off+1,spot:=none}) I;go_simp;rfl)))
      refine Aj.Ah (a':=?_) ?_ ?_;rotate_left;(focus(simp only[Act.put,aB,aD,aC];rfl));refine Aj.Ak (fun w8 b5 _=>?_);simp only[aN,aS];have b6:=b0.trans (b5.mono b0.size);go_wp2;go_roundw
      case rel=>exact⟨k+1,by omega,by go_num,by rw[c3.out];rfl,by rw[c4.out];rfl,b6⟩
      case measure=>simp[intOf];omega
    ·go_wp2_with fail;refine Aj.AF 11 [(8,.bool ov)] [(8,fun _ _=>True)] (fun w'=>Below wr.heap.size wr w') (fun w w'=>Below w.heap.size w w') (by kernel_rfl) (by kernel_rfl) (by kernel_rfl) (by kernel_rfl) (fun _ _ d _ _ h=>by cases d<;>exact h) (aJ _ _).drew ?_;simp only[aM,aT]
     iterate 8 ((first|refine Aj.Ad rfl rfl ?_ ?_ ?_|refine Aj.Aq rfl (by kernel_rfl) ?_ ?_ ?_);rotate_left;(focus(intro w5 hI _;obtain⟨a6,_⟩:=Ae hI;have J:=hI.cell (p:=ka.add k) (add_lt b2 k);go_simp;rfl)))
     refine Aj.Ah (a':=?_) ?_ ?_;rotate_left;(focus(simp only[Act.put,aB,aD,aC];rfl));refine Aj.AC (.bool ov) rfl rfl (by kernel_rfl) (fun _ _ _ _ _=>trivial) (fun w5 hI _ K hK=>?_) ?_
     ·go_simp;(with_reducible refine(i7 w5 hI).mono ?_);rintro e w7⟨rfl,l6⟩;exact hK _ _ (by go_simp) trivial (hI.trans (l6.mono hI.size)) l6
     iterate 2 (refine Aj.Ad rfl rfl ?_ ?_ ?_;rotate_left;(focus(intro w5 hI _;obtain⟨a6,_⟩:=Ae hI;have J:=hI.cell (p:=ka.add k) (add_lt b2 k);go_simp;rfl)))
     refine Aj.Ah (a':=?_) ?_ ?_;rotate_left;(focus(simp only[Act.put,aB,aD,aC];rfl));refine Aj.Ak (fun w6 U _=>?_);simp only[aN,aS];have e9:=e8.on U;have b3:=fun w7 (h7:Below w6.heap.size w6 w7)=>DO (Co l) _ (y:Int) w7 (e9.on h7)
     rw[J4]at b3;have o5:=(U.cell (p:=⟨w.heap.size,3,none⟩) c8).trans g3;have l3:=aK c8 U.size;have o6:=(U.cell (p:=ka.add k) (add_lt b2 k)).trans i6;have R:=aK b2 U.size;have I:(ad.add (y*6)).block<w6.heap.size:=add_lt (by omega) _;obtain⟨_,_,_,_,-,d16,-⟩:=A5 (c:=c) (e7.on U).Aa J;rw[<-c9]at d16;have o7:(y:Int)<(c.Aa.length:Int):=by omega
     have b0:=hb.trans (U.mono hb.size);have l4:=Ab c0 U;generalize Tr.kd c.Ar y=ky at *;clear g0 g1 g2 g3 g4 e7 e8 i6 i7 c9 U;cases oo
     ·by_cases h4:ky=4
      ·have z4:=Be h4;have a1:=j1.out;rw[aH h4,bW]at a1;rw[a1]at b3;clear h4 a1;go_wp2_with fail;refine Aj.AF 22 [(18,.bool fi)] [(18,fun _ _=>True)] (fun w'=>Below w6.heap.size w6 w') (fun w w'=>Below w.heap.size w w') (by kernel_rfl) (by kernel_rfl) (by kernel_rfl) (by kernel_rfl) (fun _ _ d _ _ h=>by cases d<;>exact h) (aJ _ _).drew ?_;simp only[aM,aT]
       iterate 18 ((first|refine Aj.Ad rfl rfl ?_ ?_ ?_|refine Aj.Aq rfl (by kernel_rfl) ?_ ?_ ?_);rotate_left;(focus(intro w5 hI _;obtain⟨a6,_⟩:=Ae hI;have J:=hI.cell (p:=ka.add k) (add_lt R k);have b4:=hI.cell (p:={block:=(ad.add (y*6)).block,off:=(ad.add (y*6)).off+1,spot:=none}) I;go_simp;rfl)))
       refine Aj.Ah (a':=?_) ?_ ?_;rotate_left;(focus(simp only[Act.put,aB,aD,aC];rfl));refine Aj.AC (.bool fi) rfl rfl (by kernel_rfl) (fun _ _ _ _ _=>trivial) (fun w5 hI _ K hK=>?_) ?_
       ·go_simp;(with_reducible refine(b3 w5 hI).mono ?_);rintro e w7⟨rfl,rfl⟩;exact hK _ _ (by go_simp) trivial hI (aJ _ _)
       iterate 3 ((first|refine Aj.Ad rfl rfl ?_ ?_ ?_|refine Aj.Aq rfl (by kernel_rfl) ?_ ?_ ?_);rotate_left;(focus(intro w5 hI _;obtain⟨a6,_⟩:=Ae hI;have J:=hI.cell (p:=ka.add k) (add_lt R k);have b4:=hI.cell (p:={block:=(ad.add (y*6)).block,off:=(ad.add (y*6)).off+1,spot:=none}) I;go_simp;rfl)))
       refine Aj.Ah (a':=?_) ?_ ?_;rotate_left;(focus(simp only[Act.put,aB,aD,aC];rfl));refine Aj.Ak (fun w8 b5 _=>?_);simp only[aN,aS];have b6:=b0.trans (b5.mono b0.size);go_wp2;go_roundw
       case rel=>exact⟨k+1,by omega,by go_num,by rw[c3.out];rfl,by rw[c4.out];rfl,b6⟩
       case measure=>simp[intOf];omega
      ·have z4:=Bg h4;have a1:=j1.out;rw[aF h4,cC]at a1;subst a1;clear h4;go_wp2_with fail;refine Aj.AM 22 [] (fun w'=>Below w6.heap.size w6 w') (fun w w'=>Below w.heap.size w w') (by kernel_rfl) (by kernel_rfl) (by kernel_rfl) (by kernel_rfl) (fun _ _ d _ _ h=>by cases d<;>exact h) (aJ _ _).drew ?_;simp only[aM,aT]
       iterate 13 ((first|refine Aj.Ad rfl rfl ?_ ?_ ?_|refine Aj.Aq rfl (by kernel_rfl) ?_ ?_ ?_);rotate_left;(focus(intro w5 hI _;obtain⟨a6,_⟩:=Ae hI;have J:=hI.cell (p:=ka.add k) (add_lt R k);have b4:=hI.cell (p:={block:=(ad.add (y*6)).block,off:=(ad.add (y*6)).off+1,spot:=none}) I;go_simp;rfl)))
       iterate 6 (refine Aj.Bb rfl (by kernel_rfl) ?_)
       iterate 3 ((first|refine Aj.Ad rfl rfl ?_ ?_ ?_|refine Aj.Aq rfl (by kernel_rfl) ?_ ?_ ?_);rotate_left;(focus(intro w5 hI _;obtain⟨a6,_⟩:=Ae hI;have J:=hI.cell (p:=ka.add k) (add_lt R k);have b4:=hI.cell (p:={block:=(ad.add (y*6)).block,off:=(ad.add (y*6)).off+1,spot:=none}) I;go_simp;rfl)))
       refine Aj.Ah (a':=?_) ?_ ?_;rotate_left;(focus(simp only[Act.put,aB,aD,aC];rfl));refine Aj.Ak (fun w8 b5 _=>?_);simp only[aN,aS];have b6:=b0.trans (b5.mono b0.size);go_wp2;go_roundw
       case rel=>exact⟨k+1,by omega,by go_num,by rw[c3.out];rfl,by rw[c4.out];rfl,b6⟩
       case measure=>simp[intOf];omega
     ·go_wp2_with fail;refine Aj.AM 22 [] (fun w'=>Below w6.heap.size w6 w') (fun w w'=>Below w.heap.size w w') (by kernel_rfl) (by kernel_rfl) (by kernel_rfl) (by kernel_rfl) (fun _ _ d _ _ h=>by cases d<;>exact h) (aJ _ _).drew ?_;simp only[aM,aT]
      iterate 2 (refine Aj.Ad rfl rfl ?_ ?_ ?_;rotate_left;(focus(intro w5 hI _;obtain⟨a6,_⟩:=Ae hI;have J:=hI.cell (p:=ka.add k) (add_lt R k);have b4:=hI.cell (p:={block:=(ad.add (y*6)).block,off:=(ad.add (y*6)).off+1,spot:=none}) I;go_simp;rfl)))
      iterate 18 (refine Aj.Bb rfl (by kernel_rfl) ?_)
      iterate 2 (refine Aj.Ad rfl rfl ?_ ?_ ?_;rotate_left;(focus(intro w5 hI _;obtain⟨a6,_⟩:=Ae hI;have J:=hI.cell (p:=ka.add k) (add_lt R k);have b4:=hI.cell (p:={block:=(ad.add (y*6)).block,off:=(ad.add (y*6)).off+1,spot:=none}) I;go_simp;rfl)))
      refine Aj.Ah (a':=?_) ?_ ?_;rotate_left;(focus(simp only[Act.put,aB,aD,aC];rfl));refine Aj.Ak (fun w8 b5 _=>?_);simp only[aN,aS];have b6:=b0.trans (b5.mono b0.size);go_wp2;go_roundw
      case rel=>exact⟨k+1,by omega,by go_num,by rw[c3.out];rfl,by rw[c4.out];rfl,b6⟩
      case measure=>simp[intOf];omega
   ·obtain rfl:k=K.length:=by omega
    have r9:¬(K.length:Int)<(K.length:Int):=by omega
    rw[bT]at *;obtain⟨_,_,_,_,-,d1,-⟩:=A5 (c:=c) (h1.on hb).Aa hi;rw[<-Cb c hi]at d1;have b7:=HR.out;rw[bW]at b7;have l7:(K.any fun k=>decide (Tr.kd c.Ar k=4)&&l.contains k)=K.any (Jc c l):=rfl;rw[l7]at b7;obtain⟨aa,j8⟩:∃aa,K.all (fun k=>over c.Ar l k)=aa:=⟨_,rfl⟩;obtain⟨oo,j9⟩:∃oo,K.any (Jc c l)=oo:=⟨_,rfl⟩;rw[j8,j9]at b7;rw[j8,j9];clear j8 j9;generalize Tr.kd c.Ar i=kd at *;clear HR l7 c7;by_cases h3:kd=3
    ·have z3:=Be h3;have h2:¬kd=2:=by omega
     have z2:=Bg h2;rw[aH h3,aF h2,bW,cC,Bool.or_false]at b7;clear h3 h2;cases aa<;>subst b7
     ·go_wp2;go_ret;exact⟨rfl,c0⟩
     ·go_wp2;go_ret;exact⟨rfl,c0⟩
    have z3:=Bg h3;rw[aF h3,cC,cZ]at b7;by_cases h2:kd=2
    ·have z2:=Be h2;rw[aH h2,bW]at b7;subst b7;clear h3 h2;go_wp2;go_ret;exact⟨rfl,c0⟩
    ·have z2:=Bg h2;rw[aF h2,cC]at b7;subst b7;clear h3 h2;go_wp2;go_ret;exact⟨rfl,c0⟩
end
end Go.Proofs.YthbihnpoghlfaaaGreatDoor
