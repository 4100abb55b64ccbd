import Derived.Test.YthbihnpoghlfaaaGreatDoorZr22
import Derived.Test.YthbihnpoghlfaaaGreatDoorZr27
set_option linter.unusedVariables false
set_option linter.unusedSimpArgs false
set_option maxHeartbeats 8000000
set_option maxRecDepth 100000
namespace Go.Proofs.YthbihnpoghlfaaaGreatDoor
open Go.Proofs.Tryz
section
open Go.RowKit Q Go.Lib
theorem IN:∀ {l:List Int} {k:Nat} (p:k<l.length),(∀j (h:j<l.length),j<k->l[j]=0)->l[k]≠0->Av l=l[k]
 | [],k,p,_,_=>absurd p (by simp)
 |a::l,0,p,_,o=>by
  unfold Av;exact if_neg o
 |a::l,k+1,p,I,o=>by
  unfold Av;rw[if_pos (show a=0 from I 0 (by simp) (by omega))];exact IN (k:=k) (Nat.lt_of_succ_lt_succ p) (fun j J R=>I (j+1) (Nat.succ_lt_succ J) (by omega)) o
theorem Hw {l:List Int} (h:∀j (h:j<l.length),l[j]=0):Av l=0:=by
 rw[D0];intro e he;obtain⟨j,o,rfl⟩:=cU he;exact h j o
theorem Cy {α:Type} {E:α->Int} {l:List α} {k:Nat} (I:k<l.length) (J:∀j (h:j<l.length),j<k->E l[j]=0) (o:E l[k]≠0):Av (l.map E)=E l[k]:=by
 rw[IN (l:=l.map E) (k:=k) (by simpa using I) (fun j R p=>by simpa using J j (by simpa using R) p) (by simpa using o)];simp
theorem FU {α:Type} {E:α->Int} {l:List α} (h:∀j (h:j<l.length),E l[j]=0):Av (l.map E)=0:=
 Hw fun j o=>by simpa using h j (by simpa using o)
theorem OA {α:Type} {E:Nat->α->Int} {l:List α} {k:Nat} (I:k<l.length) (J:∀j (h:j<l.length),j<k->E j l[j]=0) (o:E k l[k]≠0):Av (l.mapIdx E)=E k l[k]:=by
 rw[IN (l:=l.mapIdx E) (k:=k) (by simpa using I) (fun j R p=>by simpa using J j (by simpa using R) p) (by simpa using o)];simp
theorem LP {α:Type} {E:Nat->α->Int} {l:List α} (h:∀j (h:j<l.length),E j l[j]=0):Av (l.mapIdx E)=0:=
 Hw fun j o=>by simpa using h j (by simpa using o)
theorem Yv {w:World} {n cp:Nat} {j:Addr} {l:List Q.Act} {i:Nat} (h:Cj w w.heap.size (.slice (some j) n cp) l) (hi:i<l.length) :
  ∃o p,w.cell? (j.add (i*3))=some (.int .i64 l[i].kind)/\w.cell? {block:=(j.add (i*3)).block,off:=(j.add (i*3)).off+1}=some (.string l[i].name)/\
   w.cell? {block:=(j.add (i*3)).block,off:=(j.add (i*3)).off+2}=some (.slice o l[i].expr.length p)/\Bp w w.heap.size (.slice o l[i].expr.length p) l[i].expr:=by
 obtain⟨u,I,c1,c2,hu⟩:=Cj.at_ h hi;obtain⟨o,p,rfl,-,-⟩:=hu.form;exact⟨o,p,I,c1,c2,hu⟩
theorem ZaF {w W:World} {k:Int} {nm:ByteArray} {u:Value} (e:w.alloc (.cells #[.int .i64 k,.string nm,u] 169)=W) :
  Below w.heap.size w W/\W.heap.size=w.heap.size+1/\W.cell? ⟨w.heap.size,0,none⟩=some (.int .i64 k)/\W.cell? ⟨w.heap.size,1,none⟩=some (.string nm)/\W.cell? ⟨w.heap.size,2,none⟩=some u:=by
 obtain⟨o,p,j⟩:=Bi _ _ _ e;exact⟨o,p,j.cell 0,j.cell 1,j.cell 2⟩
theorem M6 (s:ByteArray) (b:Nat) (w:World) (I:b<w.heap.size) (J:w.cell? ⟨b,1,none⟩=some (.string s)):JT 251 #[.pointer (some ⟨b,0,none⟩)] s w:=fun W x j=>by
 have R:W.cell? ⟨b,1,none⟩=some (.string s):=(j.cell (p:=⟨b,1,none⟩) I).trans J;have U:b<W.heap.size:=aK I j.size;have a1:b≠W.heap.size:=by omega
 obtain⟨r,o⟩:∃r,named s x=r:=⟨_,rfl⟩;rw[o];have HR:=jK o;show Calls prog 251 #[.agg #[.string x.name,.int .i64 x.kind,.int .i64 x.lo,.int .i64 x.hi,.int .i64 x.init.kind,.int .i64 x.init.a,.int .i64 x.init.b],.pointer (some ⟨b,0,none⟩)] W _;clear o J;go_enter func251,ntmps251;go_wp2;go_ret;exact⟨Db (by rw[<-HR.out];exact Gh s x),j.alloc j.size _⟩
theorem Fv {vars:List Q.Var} {Aa:List ByteArray} {l:List Q.Cell} {e:Int} (h:kindOf vars Aa l=.err e):e≠0:=by
 by_cases j:BC l=true
 ·obtain⟨t,hw,rfl⟩:=Q.CE j;unfold kindOf at h;rw[Mf _ hw j]at h;exact GS t _ h
 ·unfold kindOf Hi.of at h;rw[if_neg j]at h;injection h with h
  omega
theorem SD (w:World):AE w w.heap.size (.slice none 0 0) []:=⟨none,0,0,rfl,rfl,by omega,Reads.none_⟩
theorem CK (c:Q.Af) (nm:ByteArray) (ev vv sv tv:Value) (l:List Q.Act) (v:Value) (w:World) (h:AQ w w.heap.size ev vv sv tv c) (hl:Cj w w.heap.size v l) :
  Calls prog 179 #[BZ nm ev vv sv tv,v] w fun e w'=>e=.returned (.int .i64 (Br c l))/\Below w.heap.size w w':=by
 obtain⟨A,cp,rfl,hn,hA⟩:=hl.form;obtain⟨vA,vc,rfl,o4,j6⟩:=h.vars.form;obtain⟨W0,e0⟩:∃W0,w.alloc (.cells #[.string nm,ev,.slice vA c.vars.length vc,sv,tv] 27)=W0:=⟨_,rfl⟩;obtain⟨b6,s0,h0,p0,p1,p2,p3,p4⟩:=Bl h e0;obtain⟨r,b7⟩:∃r,Br c l=r:=⟨_,rfl⟩;rw[b7];unfold Br at b7;have HR:=jK b7;clear b7;go_enter func179,ntmps179;by_cases I:l.length=0
 ·have j8:=Be (show(l.length:Int)=0 by omega);have hR:=HR.out;rw[if_pos I]at hR;subst hR;clear I HR;go_wp2;go_ret;exact⟨rfl,b6⟩
 have j8:=Bg (show(l.length:Int)≠0 by omega);have hR:=HR.out;rw[if_neg I]at hR;clear HR I;have I:=hl.on Ax b6;go_wp2_with fail;refine(Om l _ W0 I).mono ?_;rintro e w1⟨rfl,U⟩;obtain⟨x,hx⟩:∃x,FE l=x:=⟨_,rfl⟩;rw[hx]at hR⊢;have HX:=jK hx;have b0:=Ab b6 U;clear hx e0;cases x
 ·rw[if_pos rfl]at hR;subst hR;go_wp2;go_ret;exact⟨rfl,b0⟩
 rw[if_neg Bool.noConfusion]at hR;have HR:=jK hR;clear hR;obtain⟨e1,k0⟩:=Ae U;have q1:w1.cell? ⟨w.heap.size,1,none⟩=some ev:=by rw[e1 _ _ (by omega)];exact p1
 have q2:w1.cell? ⟨w.heap.size,2,none⟩=some (.slice vA c.vars.length vc):=by rw[e1 _ _ (by omega)];exact p2
 have k1:=I.on Ax U;have h1:=h0.on U;have o9:w.heap.size<w1.heap.size:=by have:=U.size;omega
 clear e1 k0 p0 p1 p2 p3 p4 h0 I b6 U s0 hl;go_wp2
 go_loopw [18] (fun v wr=>∃k:Nat,k<=l.length/\v=.int .i64 (k:Int)/\(∀j (h:j<l.length),j<k->C2 c l[j]=0)/\Below w1.heap.size w1 wr) (fun v _=>l.length-(intOf v).toNat)
 case atStart=>exact⟨0,by omega,rfl,fun j _ hj=>absurd hj (by omega),aJ _ _⟩
 case round=>
  obtain⟨k,hk,rfl,c5,hb⟩:=hrel;have HA:=jK c5;clear c5;by_cases e2:k<l.length
  ·have h7:(k:Int)<(l.length:Int):=by omega
   obtain⟨ad,rfl,p5⟩:=hA k e2;have h8:=Ab b0 hb;obtain⟨uA,uc,c0,c1,c2,hu⟩:=Yv (k1.on Ax hb) e2;have b8:=jK (fun k3=>Cy (E:=C2 c) e2 HA.out k3);have i1:Hid (C2 c l[k]=0->∀j (h:j<l.length),j<k+1->C2 c l[j]=0):=jK (fun e0 j hj p7=>by
    by_cases e:j=k
    ·subst e;exact e0
    ·exact HA.out j hj (by omega))
   generalize l[k]=a at *;obtain⟨W,eW⟩:∃W,wr.alloc (.cells #[.int .i64 a.kind,.string a.name,.slice uA a.expr.length uc] 169)=W:=⟨_,rfl⟩;obtain⟨e3,sA,a0,a1,a2⟩:=ZaF eW;have b9:=Ab hb e3;obtain⟨e4,k4⟩:=Ae b9;have p8:w1.heap.size<W.heap.size:=by have:=hb.size;omega
   have l9:w.heap.size<wr.heap.size:=by have:=hb.size;omega
   have c6:=Ab h8 e3;have r1:W.cell? ⟨w.heap.size,1,none⟩=some ev:=by rw[e4 _ _ (by omega)];exact q1
   have r2:W.cell? ⟨w.heap.size,2,none⟩=some (.slice vA c.vars.length vc):=by rw[e4 _ _ (by omega)];exact q2
   have hW:=h1.on b9;have k6:=hu.on Aw e3;obtain⟨E,o⟩:∃E,C2 c a=E:=⟨_,rfl⟩;unfold C2 at o;have J:=jK o;clear o e4 k4;go_upto_region 8 with(fail)
   clear eW c0 c1 c2;by_cases c3:a.kind=1
   ·have z1:=Bj c3;have o:=J.out;rw[if_pos c3]at o;go_wp2_with fail;refine(EK (enters_of func251 (by decide) rfl) hW.vars (M6 a.name wr.heap.size W (by omega) a1)).mono ?_;rintro e w3⟨rfl,a6⟩;have c7:=Ab c6 a6;rcases DY (named a.name) c.vars with⟨hi,hf,-⟩|⟨i,i7,hi,hf,-⟩
    ·rw[hi];rw[show(c.vars.find? fun v=>decide (v.name=a.name))=none from hf]at o;have R:r=2:=by
      have p:C2 c a=2:=by unfold C2;rw[J.out];exact o.symm
      rw[<-HR.out,b8.out (by rw[p];omega),p]
     subst R;clear hi hf o;go_wp2;go_ret;exact⟨rfl,c7⟩
    rw[hi];rw[show(c.vars.find? fun v=>decide (v.name=a.name))=some c.vars[i]from hf]at o;dsimp only at o;have HE:=jK o;clear o hi hf;have q3:¬(i:Int)<0:=by omega
    have n3:(i:Int)<(c.vars.length:Int):=by omega
    have q4:W.heap.size<=w3.heap.size:=a6.size;have n5:w.heap.size<w3.heap.size:=by omega
    have n9:wr.heap.size<w3.heap.size:=by omega
    obtain⟨e7,k7⟩:=Ae a6;have b1:w3.cell? ⟨w.heap.size,2,none⟩=some (.slice vA c.vars.length vc):=by rw[e7 _ _ (by omega)];exact r2
    have b2:w3.cell? ⟨wr.heap.size,2,none⟩=some (.slice uA a.expr.length uc):=by rw[e7 _ _ (by omega)];exact a2
    have h3:=hW.on a6;have k8:=k6.on Aw a6;clear e7 k7 a0 a1 a2 r1 r2;have j0:=SD w3;have j1:=h3.vars;go_wp2_with fail
    (with_reducible refine(Qh c.vars [] a.expr _ _ (.slice none 0 0) w3 k8 j1 j0).mono ?_)
    rintro e w4⟨rfl,c4⟩;have c8:=Ab c7 c4;have j2:=Ab (Ab b9 a6) c4;obtain⟨j3,k9⟩:=Ae c4;have b4:w4.cell? ⟨w.heap.size,2,none⟩=some (.slice vA c.vars.length vc):=by rw[j3 _ _ (by omega)];exact b1
    obtain⟨q7,c9,o2⟩:=j6 i i7;clear j0 j3 k9 b1 b2;obtain⟨kr,a7⟩:∃kr,kindOf c.vars [] a.expr=kr:=⟨_,rfl⟩;rw[a7];have o:=HE.out;rw[a7]at o;cases kr with
    |err y=>
     have hy:=Fv a7;have q8:=Bc hy;have p:C2 c a=y:=by unfold C2;rw[J.out];exact o.symm
     have R:r=y:=by rw[<-HR.out,b8.out (by rw[p];exact hy),p]
     subst R;clear o a7 p HE;rw[show Cu (.err r)=.tuple #[.int .i64 0,.int .i64 r]from rfl];go_wp2;go_ret;exact⟨rfl,c8⟩
    |ok kk=>
     obtain⟨n0,n1,-⟩:=BK.at_ (c9▸(h3.on c4).vars) i7;dsimp only at o;subst c9;rw[show Cu (.ok kk)=.tuple #[.int .i64 kk,.int .i64 0]from rfl];by_cases a8:kk=c.vars[i].kind
     ·have h7:=Bj a8;rw[if_pos a8]at o;have p:C2 c a=0:=by unfold C2;rw[J.out];exact o.symm
      have H9:=jK (i1.out p);clear p o a8 a7 HE;go_wp2;go_roundw
      case rel=>exact⟨k+1,by omega,by go_num,H9.out,j2⟩
      case measure=>simp[intOf];omega
     ·have h7:=Bc a8;rw[if_neg a8]at o;have R:r=8:=by
       have p:C2 c a=8:=by unfold C2;rw[J.out];exact o.symm
       rw[<-HR.out,b8.out (by rw[p];omega),p]
      subst R;clear o a8 a7 HE;go_wp2;go_ret;exact⟨rfl,c8⟩
   ·have z1:=Bc c3;have o:=J.out;rw[if_neg c3]at o;have HE:=jK o;clear o;go_wp2_with fail;refine(EN c.events ev a.name W hW.events).mono ?_;rintro e w'⟨rfl,rfl⟩;obtain⟨y,hy⟩:∃y,E5 c.events a.name=y:=⟨_,rfl⟩;rw[hy];have o:=HE.out;rw[hy]at o;clear HE hy;cases y
    ·have R:r=2:=by
      have p:C2 c a=2:=by unfold C2;rw[J.out];exact o.symm
      rw[<-HR.out,b8.out (by rw[p];omega),p]
     subst R;go_wp2;go_ret;exact⟨rfl,c6⟩
    ·have p:C2 c a=0:=by unfold C2;rw[J.out];exact o.symm
     have H9:=jK (i1.out p);clear p o;go_wp2;go_roundw
     case rel=>exact⟨k+1,by omega,by go_num,H9.out,b9⟩
     case measure=>simp[intOf];omega
  ·obtain rfl:k=l.length:=by omega
   have q9:¬(l.length:Int)<(l.length:Int):=by omega
   obtain rfl:r=0:=by rw[<-HR.out];exact FU fun j hj=>HA.out j hj hj
   go_wp2;go_ret;exact⟨rfl,Ab b0 hb⟩
theorem PI {w W:World} {nm:ByteArray} {k lo hi o i2 i3:Int} (e:w.alloc (.cells #[.string nm,.int .i64 k,.int .i64 lo,.int .i64 hi,.int .i64 o,.int .i64 i2,.int .i64 i3] 66)=W) :
  Below w.heap.size w W/\W.heap.size=w.heap.size+1/\W.cell? ⟨w.heap.size,0,none⟩=some (.string nm)/\W.cell? ⟨w.heap.size,1,none⟩=some (.int .i64 k)/\W.cell? ⟨w.heap.size,2,none⟩=some (.int .i64 lo)/\W.cell? ⟨w.heap.size,3,none⟩=some (.int .i64 hi)/\
   W.cell? ⟨w.heap.size,4,none⟩=some (.int .i64 o)/\W.cell? ⟨w.heap.size,5,none⟩=some (.int .i64 i2)/\W.cell? ⟨w.heap.size,6,none⟩=some (.int .i64 i3):=by
 obtain⟨p,I,j⟩:=Bi _ _ _ e;exact⟨p,I,j.cell 0,j.cell 1,j.cell 2,j.cell 3,j.cell 4,j.cell 5,j.cell 6⟩
theorem Gu {v:Q.Var} (h:v.kind<1\/3<v.kind\/v.init.kind≠v.kind):Gc v=8:=by
 unfold Gc;rw[if_pos h]
theorem Eb (v:Q.Var) (x:BS):fits v x=true↔v.kind=x.kind/\(v.lo<=x.a/\x.a<=v.hi)/\(x.kind=3->v.lo<=x.b/\x.b<=v.hi):=by
 unfold fits;rw[aG,aG,aG,bV,aG,Bool.not_eq_true',aP,aP,aP,aP,aP,bD];by_cases h:x.kind=3
 ·simp[h,and_assoc]
 ·simp[h,and_assoc]
def Bu (k:Int):Int:=if k=3 then 1048576 else 1099511627776
theorem B9 {v:Q.Var} (h:¬(v.kind<1\/3<v.kind\/v.init.kind≠v.kind)) (j:v.hi<v.lo\/v.lo < -(Bu v.kind)\/Bu v.kind<v.hi\/(v.kind=2/\(v.lo≠0\/v.hi≠1))):Gc v=5:=by
 unfold Gc;rw[if_neg h];exact if_pos j
theorem IL {v:Q.Var} (h:¬(v.kind<1\/3<v.kind\/v.init.kind≠v.kind)) (j:¬(v.hi<v.lo\/v.lo < -(Bu v.kind)\/Bu v.kind<v.hi\/(v.kind=2/\(v.lo≠0\/v.hi≠1)))):Gc v=if By v.init/\fits v v.init=true then 0 else 5:=by
 unfold Gc;rw[if_neg h];exact if_neg j
theorem Qn (v:Q.Var) (w:World) :
  Calls prog 94 #[Nu v] w fun e p=>e=.returned (.int .i64 (Gc v))/\Below w.heap.size w p:=by
 obtain⟨nm,k,lo,hi,⟨i1,i2,i3⟩⟩:=v;unfold Nu;dsimp only;obtain⟨r,hr⟩:∃r,Gc ⟨nm,k,lo,hi,⟨i1,i2,i3⟩⟩=r:=⟨_,rfl⟩;rw[hr];have J:=jK hr;clear hr;obtain⟨W,e0⟩:∃W,w.alloc (.cells #[.string nm,.int .i64 k,.int .i64 lo,.int .i64 hi,.int .i64 i1,.int .i64 i2,.int .i64 i3] 66)=W:=⟨_,rfl⟩;obtain⟨R,s0,q0,q1,q2,q3,q4,q5,q6⟩:=PI e0;go_enter func94,ntmps94;go_upto_region 1 with(fail)
 clear e0;by_cases h1:k<1\/3<k\/i1≠k
 ·obtain rfl:r=8:=J.out.symm.trans (Gu h1);have hx:(decide (k<1)=true)\/(decide (k<1)=false/\decide (3<k)=true)\/(decide (k<1)=false/\decide (3<k)=false/\(i1 != k)=true):=by
   by_cases a:k<1
   ·exact .inl (aH a)
   ·by_cases b:3<k
    ·exact .inr (.inl ⟨aF a,aH b⟩)
    ·exact .inr (.inr ⟨aF a,aF b,Bc (by rcases h1 with h|h|h;exact absurd h a;exact absurd h b;exact h)⟩)
  clear h1 J;rcases hx with a|⟨a,b⟩|⟨a,b,d⟩
  all_goals
   go_wp2;go_ret;exact⟨rfl,R⟩
 have h7:¬k<1/\¬3<k/\i1=k:=⟨fun h=>h1 (.inl h),fun h=>h1 (.inr (.inl h)),bU fun h=>h1 (.inr (.inr h))⟩;obtain⟨a,b,d⟩:=h7;subst d;have H1:=jK h1;clear h1;have da:=aF a;have db:=aF b;have dd:=Bj (rfl:i1=i1);by_cases h2:hi<lo\/lo < -(Bu i1)\/Bu i1<hi\/(i1=2/\(lo≠0\/hi≠1))
 ·obtain rfl:r=5:=J.out.symm.trans (B9 H1.out h2);have hk:i1=1\/i1=2\/i1=3:=by omega
  clear J H1 a b da db dd;by_cases x1:hi<lo
  ·rcases hk with rfl|rfl|rfl
   all_goals
    clear h2;go_wp2;go_ret;exact⟨rfl,R⟩
  have j7:¬lo>hi:=by omega
  have h3:lo < -(Bu i1)\/Bu i1<hi\/(i1=2/\(lo≠0\/hi≠1)):=h2.resolve_left x1;clear h2;rcases hk with rfl|rfl|rfl
  ·by_cases x2:lo < -1099511627776
   ·clear h3;go_wp2;go_ret;exact⟨rfl,R⟩
   by_cases x3:1099511627776<hi
   ·clear h3;go_wp2;go_ret;exact⟨rfl,R⟩
   ·exfalso;rcases h3 with h|h|h
    ·exact x2 h
    ·exact x3 h
    ·exact absurd h.1 (by decide)
  ·by_cases x2:lo < -1099511627776
   ·clear h3;go_wp2;go_ret;exact⟨rfl,R⟩
   by_cases x3:1099511627776<hi
   ·clear h3;go_wp2;go_ret;exact⟨rfl,R⟩
   have h4:lo≠0\/hi≠1:=by
    rcases h3 with h|h|h
    ·exact absurd h x2
    ·exact absurd h x3
    ·exact h.2
   clear h3;by_cases x4:lo=0
   ·have x5:=Bj x4;have x6:=Bc (h4.resolve_left (fun h=>h x4));clear h4 x4;go_wp2;go_ret;exact⟨rfl,R⟩
   ·have x5:=Bc x4;clear h4 x4;go_wp2;go_ret;exact⟨rfl,R⟩
  ·by_cases x2:lo < -1048576
   ·clear h3;go_wp2;go_ret;exact⟨rfl,R⟩
   by_cases x3:1048576<hi
   ·clear h3;go_wp2;go_ret;exact⟨rfl,R⟩
   ·exfalso;rcases h3 with h|h|h
    ·exact x2 h
    ·exact x3 h
    ·exact absurd h.1 (by decide)
 have j:=J.out.symm.trans (IL H1.out h2);dsimp only at j;have e2:hi<lo->False:=fun h=>h2 (.inl h)
 have y1:¬hi<lo:=e2;have y2:¬lo < -(Bu i1):=fun h=>h2 (.inr (.inl h))
 have y3:¬Bu i1<hi:=fun h=>h2 (.inr (.inr (.inl h)))
 have y4:i1=2->lo=0/\hi=1:=fun e=>⟨bU fun h=>h2 (.inr (.inr (.inr ⟨e,.inl h⟩))),bU fun h=>h2 (.inr (.inr (.inr ⟨e,.inr h⟩)))⟩
 have HY:=jK y4;have a8:=jK j;have hk:i1=1\/i1=2\/i1=3:=by omega
 clear j y4 h2 e2 H1 a b da db dd J;rcases hk with rfl|rfl|rfl
 ·have x2:¬lo < -1099511627776:=y2;have x3:¬1099511627776<hi:=y3;clear y2 y3;clear HY;go_upto_region 8 with(fail)
  refine Aj.AM 8 [] (fun p=>Below W.heap.size W p) (fun w p=>Below w.heap.size w p) (by kernel_rfl) (by kernel_rfl) (by kernel_rfl) (by kernel_rfl) (fun _ _ d _ _ h=>by cases d<;>exact h) (aJ _ _).drew ?_;simp only[aM,aT]
  repeat(refine Aj.Ad rfl rfl ?_ ?_ ?_;rotate_left;(focus(intro w1 hI _;obtain⟨c1,_⟩:=Ae hI;go_simp;rfl)))
  simp only[Act.put,aB,aD,aC];refine Aj.Ak (fun w6 U _=>?_);simp only[aN,aS];have b3:=Ab R U;obtain⟨e3,e4⟩:=Ae U;have c2:w.heap.size<w6.heap.size:=by have:=U.size;omega
  have c0:w.heap.size<W.heap.size:=by omega
  have I:=ER ⟨1,i2,i3⟩ w6;unfold As at I;dsimp only at I;have b4:=jK I;clear I;go_wp2_with fail
  (with_reducible refine b4.out.mono ?_)
  rintro e w8⟨rfl,a1⟩;have o:=Ab b3 a1;obtain⟨e6,e7⟩:=Ae a1;have e8:w.heap.size<w8.heap.size:=by have:=a1.size;omega
  obtain⟨x,hx⟩:∃x,decide (By ⟨1,i2,i3⟩)=x:=⟨_,rfl⟩;rw[hx];have j:=a8.out;cases x
  ·have hv:¬By ⟨1,i2,i3⟩:=iO hx;rw[if_neg (fun h=>hv h.1)]at j;subst j;clear hx hv a8;go_wp2_with (refine(BI _ _ _).mono ?_;rintro e p⟨rfl,rfl⟩);go_ret;exact⟨rfl,o⟩
  have hv:By ⟨1,i2,i3⟩:=cV hx;have HV:=jK hv;clear hx hv a8;have J:=jK j;clear j;by_cases z1:lo<=i2
  ·by_cases z2:i2<=hi
   ·have j:=J.out;rw[if_pos ⟨HV.out,(Eb _ _).2 (by dsimp only;omega)⟩]at j;subst j;clear J;go_wp2_with (refine(BI _ _ _).mono ?_;rintro e p⟨rfl,rfl⟩);go_ret;exact⟨rfl,o⟩
   ·have j:=J.out;rw[if_neg (fun h=>by have h9:=(Eb _ _).1 h.2;dsimp only at h9;omega)]at j;subst j;clear J;go_wp2_with (refine(BI _ _ _).mono ?_;rintro e p⟨rfl,rfl⟩);go_ret;exact⟨D4 (by rw[aF (by omega)];rfl),o⟩
  ·have j:=J.out;rw[if_neg (fun h=>by have h9:=(Eb _ _).1 h.2;dsimp only at h9;omega)]at j;subst j;clear J;go_wp2_with (refine(BI _ _ _).mono ?_;rintro e p⟨rfl,rfl⟩);go_ret;exact⟨rfl,o⟩
 ·have x2:¬lo < -1099511627776:=y2;have x3:¬1099511627776<hi:=y3;clear y2 y3;obtain⟨rfl,rfl⟩:=HY.out rfl;clear HY;go_upto_region 8 with(fail)
  refine Aj.AM 8 [] (fun p=>Below W.heap.size W p) (fun w p=>Below w.heap.size w p) (by kernel_rfl) (by kernel_rfl) (by kernel_rfl) (by kernel_rfl) (fun _ _ d _ _ h=>by cases d<;>exact h) (aJ _ _).drew ?_;simp only[aM,aT]
  repeat(refine Aj.Ad rfl rfl ?_ ?_ ?_;rotate_left;(focus(intro w1 hI _;obtain⟨c1,_⟩:=Ae hI;go_simp;rfl)))
  simp only[Act.put,aB,aD,aC];refine Aj.Ak (fun w6 U _=>?_);simp only[aN,aS];have b3:=Ab R U;obtain⟨e3,e4⟩:=Ae U;have c2:w.heap.size<w6.heap.size:=by have:=U.size;omega
  have c0:w.heap.size<W.heap.size:=by omega
  have I:=ER ⟨2,i2,i3⟩ w6;unfold As at I;dsimp only at I;have b4:=jK I;clear I;go_wp2_with fail
  (with_reducible refine b4.out.mono ?_)
  rintro e w8⟨rfl,a1⟩;have o:=Ab b3 a1;obtain⟨e6,e7⟩:=Ae a1;have e8:w.heap.size<w8.heap.size:=by have:=a1.size;omega
  obtain⟨x,hx⟩:∃x,decide (By ⟨2,i2,i3⟩)=x:=⟨_,rfl⟩;rw[hx];have j:=a8.out;cases x
  ·have hv:¬By ⟨2,i2,i3⟩:=iO hx;rw[if_neg (fun h=>hv h.1)]at j;subst j;clear hx hv a8;go_wp2_with (refine(BI _ _ _).mono ?_;rintro e p⟨rfl,rfl⟩);go_ret;exact⟨rfl,o⟩
  have hv:By ⟨2,i2,i3⟩:=cV hx;have HV:=jK hv;clear hx hv a8;have J:=jK j;clear j;by_cases z1:0<=i2
  ·by_cases z2:i2<=1
   ·have j:=J.out;rw[if_pos ⟨HV.out,(Eb _ _).2 (by dsimp only;omega)⟩]at j;subst j;clear J;go_wp2_with (refine(BI _ _ _).mono ?_;rintro e p⟨rfl,rfl⟩);go_ret;exact⟨rfl,o⟩
   ·have j:=J.out;rw[if_neg (fun h=>by have h9:=(Eb _ _).1 h.2;dsimp only at h9;omega)]at j;subst j;clear J;go_wp2_with (refine(BI _ _ _).mono ?_;rintro e p⟨rfl,rfl⟩);go_ret;exact⟨D4 (by rw[aF (by omega)];rfl),o⟩
  ·have j:=J.out;rw[if_neg (fun h=>by have h9:=(Eb _ _).1 h.2;dsimp only at h9;omega)]at j;subst j;clear J;go_wp2_with (refine(BI _ _ _).mono ?_;rintro e p⟨rfl,rfl⟩);go_ret;exact⟨rfl,o⟩
 ·have x2:¬lo < -1048576:=y2;have x3:¬1048576<hi:=y3;clear y2 y3;clear HY;go_upto_region 8 with(fail)
  refine Aj.AM 8 [] (fun p=>Below W.heap.size W p) (fun w p=>Below w.heap.size w p) (by kernel_rfl) (by kernel_rfl) (by kernel_rfl) (by kernel_rfl) (fun _ _ d _ _ h=>by cases d<;>exact h) (aJ _ _).drew ?_;simp only[aM,aT]
  repeat(refine Aj.Ad rfl rfl ?_ ?_ ?_;rotate_left;(focus(intro w1 hI _;obtain⟨c1,_⟩:=Ae hI;go_simp;rfl)))
  simp only[Act.put,aB,aD,aC];refine Aj.Ak (fun w6 U _=>?_);simp only[aN,aS];have b3:=Ab R U;obtain⟨e3,e4⟩:=Ae U;have c2:w.heap.size<w6.heap.size:=by have:=U.size;omega
  have c0:w.heap.size<W.heap.size:=by omega
  go_upto_region 10 with(fail)
  refine Aj.AM 12 [] (fun p=>Below w6.heap.size w6 p) (fun w p=>Below w.heap.size w p) (by kernel_rfl) (by kernel_rfl) (by kernel_rfl) (by kernel_rfl) (fun _ _ d _ _ h=>by cases d<;>exact h) (aJ _ _).drew ?_;simp only[aM,aT];have j9:w.heap.size<w6.heap.size:=c2
  repeat(refine Aj.Ad rfl rfl ?_ ?_ ?_;rotate_left;(focus(intro w1 hI _;obtain⟨c1,_⟩:=Ae hI;go_simp;rfl)))
  simp only[Act.put,aB,aD,aC];refine Aj.Ak (fun w7 c3 _=>?_);simp only[aN,aS];have i7:=Ab b3 c3;obtain⟨k0,k1⟩:=Ae c3;have k2:w.heap.size<w7.heap.size:=by have:=c3.size;omega
  obtain⟨mn,c4⟩:∃mn,min i2 i3=mn:=⟨_,rfl⟩;obtain⟨mx,c5⟩:∃mx,max i2 i3=mx:=⟨_,rfl⟩;rw[c4,c5];have c6:=jK c4;have c7:=jK c5;clear c4 c5;have I:=ER ⟨3,i2,i3⟩ w7;unfold As at I;dsimp only at I;have b4:=jK I;clear I;go_wp2_with fail
  (with_reducible refine b4.out.mono ?_)
  rintro e w8⟨rfl,a1⟩;have o:=Ab i7 a1;obtain⟨e6,e7⟩:=Ae a1;have e8:w.heap.size<w8.heap.size:=by have:=a1.size;omega
  obtain⟨x,hx⟩:∃x,decide (By ⟨3,i2,i3⟩)=x:=⟨_,rfl⟩;rw[hx];have j:=a8.out;cases x
  ·have hv:¬By ⟨3,i2,i3⟩:=iO hx;rw[if_neg (fun h=>hv h.1)]at j;subst j;clear hx hv a8;go_wp2_with (refine(BI _ _ _).mono ?_;rintro e p⟨rfl,rfl⟩);go_ret;exact⟨rfl,o⟩
  have hv:By ⟨3,i2,i3⟩:=cV hx;have HV:=jK hv;clear hx hv a8;have J:=jK j;clear j;by_cases z1:lo<=mn
  ·by_cases z2:mx<=hi
   ·have j:=J.out;rw[if_pos ⟨HV.out,(Eb _ _).2 (by dsimp only;(have h1:=c6.out;have h2:=c7.out;omega))⟩]at j;subst j;clear J;go_wp2_with (refine(BI _ _ _).mono ?_;rintro e p⟨rfl,rfl⟩);go_ret;exact⟨rfl,o⟩
   ·have j:=J.out;rw[if_neg (fun h=>by have h9:=(Eb _ _).1 h.2;dsimp only at h9;(have h1:=c6.out;have h2:=c7.out;omega))]at j;subst j;clear J;go_wp2_with (refine(BI _ _ _).mono ?_;rintro e p⟨rfl,rfl⟩);go_ret;exact⟨D4 (by rw[aF (by omega)];rfl),o⟩
  ·have j:=J.out;rw[if_neg (fun h=>by have h9:=(Eb _ _).1 h.2;dsimp only at h9;(have h1:=c6.out;have h2:=c7.out;omega))]at j;subst j;clear J;go_wp2_with (refine(BI _ _ _).mono ?_;rintro e p⟨rfl,rfl⟩);go_ret;exact⟨rfl,o⟩
theorem U9 (c:Q.Af) (nm:ByteArray) (ev vv sv tv:Value) (w:World) (h:AQ w w.heap.size ev vv sv tv c) (f:Fit c) (i:Nat) (hi:i<c.Aa.length) :
  Calls prog 96 #[BZ nm ev vv sv tv,.int .i64 (i:Int)] w fun e w'=>e=.returned (.int .i64 (BB c c.Aa[i]))/\Below w.heap.size w w':=by
 obtain⟨SA,sc,rfl,k0,c7⟩:=h.Aa.form;obtain⟨ad,rfl,k1⟩:=c7 i hi;obtain⟨W0,e0⟩:∃W0,w.alloc (.cells #[.string nm,ev,vv,.slice (some ad) c.Aa.length sc,tv] 27)=W0:=⟨_,rfl⟩;obtain⟨o,s0,h0,p0,p1,p2,p3,p4⟩:=Bl h e0;obtain⟨uA,uc,vA,vc,c0,c1,c2,c3,c4,c5,hu,hv⟩:=A5 h0.Aa hi;have hlen:=f.lens _ (bK hi);obtain⟨r,R⟩:∃r,BB c c.Aa[i]=r:=⟨_,rfl⟩;rw[R];generalize c.Aa[i]=s at *;obtain⟨W,e1⟩:∃W,W0.alloc (.cells #[.string s.name,.int .i64 s.kind,.int .i64 s.depth,.string s.initial,.slice uA s.entry.length uc,.slice vA s.exit.length vc] 54)=W:=⟨_,rfl⟩;obtain⟨j,s1,q0,q1,q2,q3,q4,q5⟩:=Ff e1;rw[s0]at q0 q1 q2 q3 q4 q5 s1;have h1:=h0.on j;have a7:=Ab o j;obtain⟨p,b3⟩:=Ae j;rw[s0]at p b3;have g0:W.cell? ⟨w.heap.size,0,none⟩=some (.string nm):=by rw[p _ _ (by omega)];exact p0
 have g1:W.cell? ⟨w.heap.size,1,none⟩=some ev:=by rw[p _ _ (by omega)];exact p1
 have g2:W.cell? ⟨w.heap.size,2,none⟩=some vv:=by rw[p _ _ (by omega)];exact p2
 have g3:W.cell? ⟨w.heap.size,3,none⟩=some (.slice (some ad) c.Aa.length sc):=by rw[p _ _ (by omega)];exact p3
 have g4:W.cell? ⟨w.heap.size,4,none⟩=some tv:=by rw[p _ _ (by omega)];exact p4
 have e3:=hu.on Ax j;have e4:=hv.on Ax j;clear p b3 j q0 q2 q3 p0 p1 p2 p4 hu hv;unfold BB at R;have HR:=jK R;have l1:(i:Int)<(c.Aa.length:Int):=by omega
 clear R;go_enter func96,ntmps96;go_upto_region 2 with(fail)
 clear e0 e1 c0 c1 c2 c3 c4 c5 p3 s0 o h0;have j6:IntKind.i64.wrap ((s.entry.length:Int)+(s.exit.length:Int))=(s.entry.length:Int)+(s.exit.length:Int):=cM _ (by omega);go_wp2_with fail;refine(Ez _ s.kind).mono ?_;rintro e w'⟨rfl,rfl⟩;obtain⟨x,hx⟩:∃x,BR s.kind=x:=⟨_,rfl⟩;rw[hx];have I:=HR.out;rw[hx]at I;clear HR hx;by_cases hA:(x=true/\0<s.entry.length+s.exit.length)\/(s.kind=4/\0<s.exit.length)
 ·rw[if_pos hA]at I;subst I;by_cases U:x=true/\0<s.entry.length+s.exit.length
  ·obtain⟨rfl,e5⟩:=U;have l2:(0:Int)<(s.entry.length:Int)+(s.exit.length:Int):=by omega
   clear hA;go_wp2;go_ret;exact⟨rfl,a7⟩
  ·obtain⟨k4,hex⟩:=hA.resolve_left U;have l3:=Be k4;have j7:(0:Int)<(s.exit.length:Int):=by omega
   clear hA k4;cases x
   ·clear U;go_wp2;go_ret;exact⟨rfl,a7⟩
   ·exfalso;exact U ⟨rfl,by omega⟩
 rw[if_neg hA]at I;have HR:=jK I;clear I;have b5:x=true->¬(0:Int)<(s.entry.length:Int)+(s.exit.length:Int):=fun e h9=>hA (.inl ⟨e,by omega⟩)
 have b6:s.kind=4->¬(0:Int)<(s.exit.length:Int):=fun e h9=>hA (.inr ⟨e,by omega⟩)
 have b7:=jK b5;have b8:=jK b6;clear hA b5 b6;have hk:(s.kind==4)=false\/((s.kind==4)=true/\¬(0:Int)<(s.exit.length:Int)):=by
  by_cases k4:s.kind=4
  ·exact .inr ⟨Be k4,b8.out k4⟩
  ·exact .inl (Bg k4)
 have hx:x=false\/(x=true/\¬(0:Int)<(s.entry.length:Int)+(s.exit.length:Int)):=by
  cases x
  ·exact .inl rfl
  ·exact .inr ⟨rfl,b7.out rfl⟩
 clear b7 b8;rcases hx with rfl|⟨rfl,e5⟩
 all_goals
  rcases hk with hk|⟨hk,l4⟩
  all_goals
   go_wp2_with fail
   (with_reducible refine(CK c nm ev vv _ tv s.entry _ _ h1 e3).mono ?_)
   rintro e w3⟨rfl,J⟩;have a6:=Ab a7 J;have l5:w.heap.size+1<w3.heap.size:=by have:=J.size;omega
   have j8:w.heap.size<w3.heap.size:=by omega
   obtain⟨l6,l7⟩:=Ae J;have h3:=h1.on J;have e9:=e4.on Ax J;obtain⟨b1,j⟩:∃b1,Br c s.entry=b1:=⟨_,rfl⟩;obtain⟨b2,a8⟩:∃b2,Br c s.exit=b2:=⟨_,rfl⟩;have I:=HR.out;unfold Av at I;rw[j,a8]at I;rw[j];have h4:=jK a8;clear j a8;by_cases o:b1=0
   ·rw[if_pos o]at I;have h5:=Bj o;have h6:=jK I;clear I o;go_wp2_with fail
    (with_reducible refine(CK c nm ev vv _ tv s.exit _ w3 h3 e9).mono ?_)
    rintro e w4⟨rfl,h7⟩;have b9:=Ab a6 h7;go_wp2;go_ret;exact⟨D4 (by rw[h4.out,<-h6.out];unfold Av;split<;>rename_i h9<;>first|exact h9|rfl),b9⟩
   ·rw[if_neg o]at I;subst I;have h5:=Bc o;clear o;go_wp2;go_ret;exact⟨rfl,a6⟩
theorem Oh {c:Q.Af} (R:Q.distinct c.An=true) (e:ByteArray) :
  (c.Aa.any fun s=>(decide (s.kind=2)||decide (s.kind=3))&&decide (e.data.toList=DE++s.name.data.toList)) =
   (Lib.hasPrefix e.data.toList DE&&(match place c ⟨(Lib.trimPrefix e.data.toList DE).toArray⟩with
    |some k=>decide (Tr.kd c.Ar k=2)||decide (Tr.kd c.Ar k=3)
    |none=>false)):=by
 rw[cH,gF,aG];constructor
 ·rintro⟨s,U,h⟩;rw[aG,aP]at h;obtain⟨p,he⟩:=h;obtain⟨j,J,rfl⟩:=cU U;have hp:Lib.hasPrefix e.data.toList DE=true:=by
   unfold Lib.hasPrefix;rw[eR,he];exact List.prefix_append _ _
  refine⟨hp,?_⟩;have I:(⟨(Lib.trimPrefix e.data.toList DE).toArray⟩:ByteArray)=c.Aa[j].name:=by
   unfold Lib.trimPrefix;rw[if_pos hp,he,List.drop_left]
  rw[I,Nx R J rfl];dsimp only;rw[Cb c J];exact p
 ·rintro⟨hp,h⟩;cases o:place c ⟨(Lib.trimPrefix e.data.toList DE).toArray⟩with
  |none=>rw[o]at h;cases h
  |some k=>
   rw[o]at h;dsimp only at h;obtain⟨p,hn⟩:=JF o;rw[Cb c p]at h;refine⟨c.Aa[k],bK p,?_⟩;rw[aG,aP];refine⟨h,?_⟩;rw[hn];unfold Lib.hasPrefix at hp;rw[eR]at hp;obtain⟨t,I⟩:=hp;unfold Lib.trimPrefix;rw[if_pos (by unfold Lib.hasPrefix;rw[eR];exact⟨t,I⟩),<-I,List.drop_left]
theorem MS (c:Q.Af) (nm:ByteArray) (ev vv sv tv:Value) (s:ByteArray) (w:World) (h:AQ w w.heap.size ev vv sv tv c) (hd:Q.distinct c.An=true) :
  Calls prog 180 #[BZ nm ev vv sv tv,.string s] w fun e w'=>e=.returned (.bool (FV c s))/\Below w.heap.size w w':=by
 obtain⟨SA,sc,rfl,c4,b4⟩:=h.Aa.form;obtain⟨W0,e0⟩:∃W0,w.alloc (.cells #[.string nm,ev,vv,.slice SA c.Aa.length sc,tv] 27)=W0:=⟨_,rfl⟩;obtain⟨a6,s0,h0,p0,p1,p2,p3,p4⟩:=Bl h e0;obtain⟨r,U⟩:∃r,FV c s=r:=⟨_,rfl⟩;rw[U];unfold FV at U;rw[Oh hd]at U;have I:=jK U;clear U;have b2:=Di s;go_enter func180,ntmps180;by_cases J:s.size=0
 ·rw[aH J]at b2;have j:=I.out;rw[aH J,eI,eI,eI]at j;subst j;clear J I;go_wp2;go_ret;exact⟨rfl,a6⟩
 rw[aF J]at b2;have j:=I.out;rw[aF J,cZ]at j;clear I J;have p:=EO s BJ;rw[show BJ.toList=[101,114,114,111,114]by rw[Dl];rfl]at p;by_cases R:s=BJ
 ·rw[aH R]at p;rw[aH R,eI,eI]at j;subst j;clear R;go_wp2;go_ret;exact⟨rfl,a6⟩
 rw[aF R]at p;rw[aF R,cZ]at j;have I:=jK j;clear j R;have b6:=h0.events;go_wp2_with fail
 (with_reducible refine(EN c.events ev s _ b6).mono ?_)
 rintro e w'⟨rfl,rfl⟩;obtain⟨x,hx⟩:∃x,E5 c.events s=x:=⟨_,rfl⟩;have j:=I.out;rw[hx]at j⊢;clear I hx;cases x;rotate_left
 ·rw[eI]at j;subst j;go_wp2;go_ret;exact⟨rfl,a6⟩
 rw[cZ]at j;have I:=jK j;clear j;go_wp2_with fail;refine(Tryz.strings_CutPrefix s ⟨#[100,111,110,101,46]⟩ _).mono ?_;rintro e w'⟨rfl,rfl⟩;obtain⟨t,ht⟩:∃t:ByteArray,⟨(Lib.trimPrefix s.data.toList DE).toArray⟩=t:=⟨_,rfl⟩;obtain⟨y,hy⟩:∃y,Lib.hasPrefix s.data.toList DE=y:=⟨_,rfl⟩;rw[show(⟨(Lib.trimPrefix s.data.toList (⟨#[100,111,110,101,46]⟩:ByteArray).data.toList).toArray⟩:ByteArray)=t from ht,show Lib.hasPrefix s.data.toList (⟨#[100,111,110,101,46]⟩:ByteArray).data.toList=y from hy];have j:=I.out;rw[ht,hy]at j;clear I ht hy;have I:=jK j;clear j;go_wp2_with fail
 (with_reducible refine(EL c nm t ev vv _ tv _ h0).mono ?_)
 rintro e w3⟨rfl,a7⟩;have o:=Ab a6 a7;have c7:w.heap.size<w3.heap.size:=by have:=a7.size;omega
 obtain⟨c8,c9⟩:=Ae a7;have j:=I.out;rcases CZ c t with⟨hp,a1⟩|⟨k,hp,a1,a8⟩
 ·rw[a1];rw[hp]at j;dsimp only at j;rw[gT]at j;subst j;clear I hp a1;cases y
  all_goals
   go_wp2;go_ret;exact⟨rfl,o⟩
 rw[a1];rw[hp]at j;dsimp only at j;have h3:=h0.on a7;obtain⟨ad,rfl,-⟩:=b4 k a8;obtain⟨_,_,_,_,-,d1,-⟩:=A5 h3.Aa a8;rw[<-Cb c a8]at d1;have e2:(k:Int)<(c.Aa.length:Int):=by omega
 have e3:(0:Int)<=(k:Int):=by omega
 clear I hp a1;cases y
 ·rw[cC]at j;subst j;go_wp2;go_ret;exact⟨rfl,o⟩
 rw[bW]at j;generalize Tr.kd c.Ar k=kd at *;by_cases k2:kd=2
 ·have z2:=Be k2;rw[aH k2,eI]at j;subst j;clear k2;go_wp2;go_ret;exact⟨rfl,o⟩
 have z2:=Bg k2;rw[aF k2,cZ]at j;by_cases k3:kd=3
 ·have z3:=Be k3;rw[aH k3]at j;subst j;clear k2 k3;go_wp2;go_ret;exact⟨rfl,o⟩
 ·have z3:=Bg k3;rw[aF k3]at j;subst j;clear k2 k3;go_wp2;go_ret;exact⟨rfl,o⟩
theorem JM {w:World} {n cp:Nat} {j:Addr} {l:List Q.Trans} {i:Nat} (h:JV w w.heap.size (.slice (some j) n cp) l) (hi:i<l.length) :
  ∃o p I J,w.cell? (j.add (i*5))=some (.int .i64 l[i].FH)/\w.cell? {block:=(j.add (i*5)).block,off:=(j.add (i*5)).off+1}=some (.string l[i].BM)/\
   w.cell? {block:=(j.add (i*5)).block,off:=(j.add (i*5)).off+2}=some (.slice o l[i].guard.length p)/\w.cell? {block:=(j.add (i*5)).block,off:=(j.add (i*5)).off+3}=some (.string l[i].to)/\
   w.cell? {block:=(j.add (i*5)).block,off:=(j.add (i*5)).off+4}=some (.slice I l[i].Ey.length J)/\Bp w w.heap.size (.slice o l[i].guard.length p) l[i].guard/\Cj w w.heap.size (.slice I l[i].Ey.length J) l[i].Ey:=by
 obtain⟨u,v,U,c1,c2,c3,c4,hu,R⟩:=JV.at_ h hi;obtain⟨o,p,rfl,-,-⟩:=hu.form;obtain⟨I,J,rfl,-,-⟩:=R.form;exact⟨o,p,I,J,U,c1,c2,c3,c4,hu,R⟩
theorem Pn {w W:World} {o:Int} {e t:ByteArray} {u v:Value} (x:w.alloc (.cells #[.int .i64 o,.string e,u,.string t,v] 51)=W) :
  Below w.heap.size w W/\W.heap.size=w.heap.size+1/\W.cell? ⟨w.heap.size,0,none⟩=some (.int .i64 o)/\W.cell? ⟨w.heap.size,1,none⟩=some (.string e)/\W.cell? ⟨w.heap.size,2,none⟩=some u/\W.cell? ⟨w.heap.size,3,none⟩=some (.string t)/\W.cell? ⟨w.heap.size,4,none⟩=some v:=by
 obtain⟨p,I,j⟩:=Bi _ _ _ x;exact⟨p,I,j.cell 0,j.cell 1,j.cell 2,j.cell 3,j.cell 4⟩
theorem FY {c:Q.Af} {A:Option Addr} {n cp:Nat} {w:World} (h:A6 w w.heap.size (.slice A n cp) c.Aa) (f:Fit c) (o:Tr.right c.Ar) (i j:Nat) (hi:i<n) (R:j<n) :
  Calls prog 129 #[.slice A n cp,.int .i64 (i:Int),.int .i64 (j:Int)] w fun e p=>e=.returned (.int .i64 (Tr.domain c.Ar i j))/\Below w.heap.size w p:=by
 have I:=I9 o;have U:=QE h;refine(S7 w A n cp c.Ar (CE h) f.wf (by unfold maxLen;omega) i j).mono ?_;rintro e p⟨rfl,J⟩;refine⟨?_,J⟩;unfold Tr.Iy;rw[Fc o (by rw[AI];omega),Fc o (by rw[AI];omega)];rfl
def VZ (c:Q.Af) (t:Q.Trans):Int:=if FV c t.BM=false then 2 else Av [Hr c t.guard,US c t,Br c t.Ey]
def M4 (c:Q.Af) (i:Nat) (t:Q.Trans):Prop:=t.FH<0\/(c.Aa.length:Int)<=t.FH\/(0<i/\t.FH<(c.trans[i-1]?.map fun u=>u.FH).getD 0)\/3<Tr.kd c.Ar t.FH.toNat
theorem DQ {c:Q.Af} {i:Nat} {t:Q.Trans} (h:M4 c i t):CR c i t=1:=by
 unfold CR;exact if_pos h
theorem If {c:Q.Af} {i:Nat} {t:Q.Trans} (h:¬M4 c i t):CR c i t=Go.Proofs.YthbihnpoghlfaaaGreatDoor.VZ c t:=by
 unfold CR;exact if_neg h
theorem UP (c:Q.Af) (nm:ByteArray) (ev vv sv tv rv:Value) (w:World) (h:AQ w w.heap.size ev vv sv tv c) (s5:AE w w.heap.size rv (BN c)) (f:Fit c) (hr:Tr.right c.Ar) (hd:Q.distinct c.An=true) (i:Nat) (hi:i<c.trans.length) :
  Calls prog 98 #[BZ nm ev vv sv tv,.int .i64 (i:Int),rv] w fun e w'=>e=.returned (.int .i64 (CR c i c.trans[i]))/\Below w.heap.size w w':=by
 obtain⟨SA,sc,rfl,y4,s6⟩:=h.Aa.form;obtain⟨TA,tc,rfl,y5,s7⟩:=h.trans.form;obtain⟨VA,q5,rfl,y6,y7⟩:=h.vars.form;obtain⟨b5,rfl,x5⟩:=s7 i hi;have s8:0<c.Aa.length:=by
  have:=hr.1.2.2.1
  rwa[AI]at this
 obtain⟨b6,rfl,x6⟩:=s6 0 s8;obtain⟨W0,e0⟩:∃W0,w.alloc (.cells #[.string nm,ev,.slice VA c.vars.length q5,.slice (some b6) c.Aa.length sc,.slice (some b5) c.trans.length tc] 27)=W0:=⟨_,rfl⟩;obtain⟨q6,s0,h0,p0,p1,p2,p3,p4⟩:=Bl h e0;obtain⟨uA,uc,vA,vc,c0,c1,c2,c3,c4,hu,hv⟩:=JM h0.trans hi;have q7:=f.ZcK _ (bK hi);obtain⟨r,n3⟩:∃r,CR c i c.trans[i]=r:=⟨_,rfl⟩;rw[n3];generalize c.trans[i]=t at *;obtain⟨W,e1⟩:∃W,W0.alloc (.cells #[.int .i64 t.FH,.string t.BM,.slice uA t.guard.length uc,.string t.to,.slice vA t.Ey.length vc] 51)=W:=⟨_,rfl⟩;obtain⟨k2,s1,q0,q1,q2,q3,q4⟩:=Pn e1;rw[s0]at q0 q1 q2 q3 q4 s1;have h1:=h0.on k2;have i1:=Ab q6 k2;obtain⟨i6,q8⟩:=Ae k2;rw[s0]at i6 q8;have g0:W.cell? ⟨w.heap.size,0,none⟩=some (.string nm):=by rw[i6 _ _ (by omega)];exact p0
 have g1:W.cell? ⟨w.heap.size,1,none⟩=some ev:=by rw[i6 _ _ (by omega)];exact p1
 have g2:W.cell? ⟨w.heap.size,2,none⟩=some (.slice VA c.vars.length q5):=by rw[i6 _ _ (by omega)];exact p2
 have g3:W.cell? ⟨w.heap.size,3,none⟩=some (.slice (some b6) c.Aa.length sc):=by rw[i6 _ _ (by omega)];exact p3
 have g4:W.cell? ⟨w.heap.size,4,none⟩=some (.slice (some b5) c.trans.length tc):=by rw[i6 _ _ (by omega)];exact p4
 have n0:=hu.on Aw k2;have n1:=hv.on Ax k2;have j9:=s5.on i1;have A3:(i:Int)<(c.trans.length:Int):=by omega
 have b7:∀x,(b5.add x).block<W.heap.size:=fun x=>by rw[Bz];have:=i1.size;omega
 have b8:∀x,(b6.add x).block<W.heap.size:=fun x=>by rw[Bz];have:=i1.size;omega
 have J:=jK n3;clear n3 i6 q8 k2 p0 p1 p2 p3 hu hv;go_enter func98,ntmps98;go_upto_region 2 with(fail)
 clear e0 e1 c0 c1 c2 c3 c4 p4 q6 h0;have A4:w.heap.size+1<W.heap.size:=by omega
 have y2:w.heap.size<W.heap.size:=by omega
 obtain⟨fr,n5⟩:∃fr,t.FH=fr:=⟨_,rfl⟩;rw[n5]at q0;have e2:=jK n5;clear n5 q7;by_cases a1:fr<0
 ·obtain rfl:r=1:=J.out.symm.trans (DQ (.inl (by rw[e2.out];exact a1)));clear J;refine Aj.AM 37 [] (fun w'=>Below W.heap.size W w') (fun w w'=>Below w.heap.size w w') (by kernel_rfl) (by kernel_rfl) (by kernel_rfl) (by kernel_rfl) (fun _ _ d _ _ h=>by cases d<;>exact h) (aJ _ _).drew ?_;simp only[aM,aT]
  iterate 4 (refine Aj.Ad rfl rfl ?_ ?_ ?_;rotate_left;(focus(intro w1 hI _;obtain⟨c8,_⟩:=Ae hI;have U:=fun x=>hI.cell (p:=b5.add x) (b7 x);have c9:=fun x o=>hI.cell (p:=⟨(b6.add x).block,o,none⟩) (b8 x);go_simp;rfl)))
  iterate 6 (refine Aj.Bb rfl (by kernel_rfl) ?_)
  iterate 2 (refine Aj.Ad rfl rfl ?_ ?_ ?_;rotate_left;(focus(intro w1 hI _;obtain⟨c8,_⟩:=Ae hI;have U:=fun x=>hI.cell (p:=b5.add x) (b7 x);have c9:=fun x o=>hI.cell (p:=⟨(b6.add x).block,o,none⟩) (b8 x);go_simp;rfl)))
  iterate 14 (refine Aj.Bb rfl (by kernel_rfl) ?_)
  iterate 2 (refine Aj.Ad rfl rfl ?_ ?_ ?_;rotate_left;(focus(intro w1 hI _;obtain⟨c8,_⟩:=Ae hI;have U:=fun x=>hI.cell (p:=b5.add x) (b7 x);have c9:=fun x o=>hI.cell (p:=⟨(b6.add x).block,o,none⟩) (b8 x);go_simp;rfl)))
  iterate 8 (refine Aj.Bb rfl (by kernel_rfl) ?_)
  (refine Aj.Ad rfl rfl ?_ ?_ ?_;rotate_left;(focus(intro w1 hI _;obtain⟨c8,_⟩:=Ae hI;have U:=fun x=>hI.cell (p:=b5.add x) (b7 x);have c9:=fun x o=>hI.cell (p:=⟨(b6.add x).block,o,none⟩) (b8 x);go_simp;rfl)))
  refine Aj.Ah (a':=?_) ?_ ?_;rotate_left;(focus(simp only[Act.put,aB,aD,aC];rfl));refine Aj.Ak (fun w6 a7 _=>?_);simp only[aN,aS];have e3:=Ab i1 a7;go_wp2;go_ret;exact⟨rfl,e3⟩
 by_cases a2:(c.Aa.length:Int)<=fr
 ·obtain rfl:r=1:=J.out.symm.trans (DQ (.inr (.inl (by rw[e2.out];exact a2))));clear J;refine Aj.AM 37 [] (fun w'=>Below W.heap.size W w') (fun w w'=>Below w.heap.size w w') (by kernel_rfl) (by kernel_rfl) (by kernel_rfl) (by kernel_rfl) (fun _ _ d _ _ h=>by cases d<;>exact h) (aJ _ _).drew ?_;simp only[aM,aT]
  iterate 12 ((first|refine Aj.Ad rfl rfl ?_ ?_ ?_|refine Aj.Aq rfl (by kernel_rfl) ?_ ?_ ?_);rotate_left;(focus(intro w1 hI _;obtain⟨c8,_⟩:=Ae hI;have U:=fun x=>hI.cell (p:=b5.add x) (b7 x);have c9:=fun x o=>hI.cell (p:=⟨(b6.add x).block,o,none⟩) (b8 x);go_simp;rfl)))
  iterate 14 (refine Aj.Bb rfl (by kernel_rfl) ?_)
  iterate 2 (refine Aj.Ad rfl rfl ?_ ?_ ?_;rotate_left;(focus(intro w1 hI _;obtain⟨c8,_⟩:=Ae hI;have U:=fun x=>hI.cell (p:=b5.add x) (b7 x);have c9:=fun x o=>hI.cell (p:=⟨(b6.add x).block,o,none⟩) (b8 x);go_simp;rfl)))
  iterate 8 (refine Aj.Bb rfl (by kernel_rfl) ?_)
  (refine Aj.Ad rfl rfl ?_ ?_ ?_;rotate_left;(focus(intro w1 hI _;obtain⟨c8,_⟩:=Ae hI;have U:=fun x=>hI.cell (p:=b5.add x) (b7 x);have c9:=fun x o=>hI.cell (p:=⟨(b6.add x).block,o,none⟩) (b8 x);go_simp;rfl)))
  refine Aj.Ah (a':=?_) ?_ ?_;rotate_left;(focus(simp only[Act.put,aB,aD,aC];rfl));refine Aj.Ak (fun w6 a7 _=>?_);simp only[aN,aS];have e3:=Ab i1 a7;go_wp2;go_ret;exact⟨rfl,e3⟩
 obtain⟨fn,rfl⟩:∃fn:Nat,fr=(fn:Int):=⟨fr.toNat,by omega⟩;have k3:fn<c.Aa.length:=by omega
 obtain⟨_,_,_,_,-,d1,-⟩:=A5 h1.Aa k3;rw[<-Cb c k3]at d1;have q9:Tr.kd c.Ar t.FH.toNat=Tr.kd c.Ar fn:=by rw[e2.out,bI]
 have n2:=jK q9;clear q9;obtain⟨kd,k4⟩:∃kd,Tr.kd c.Ar fn=kd:=⟨_,rfl⟩;rw[k4]at d1;have k1:=jK k4;clear k4;have A8:¬(fn:Int)<0:=a1;have A9:decide (c.Aa.length<=fn)=false:=aF (by omega);have B0:(fn:Int)<(c.Aa.length:Int):=by omega
 clear a1 a2;by_cases u2:i=0
 ·have u3:¬(0:Int)<(i:Int):=by omega
  have r0:¬(0<i/\t.FH<(c.trans[i-1]?.map fun u=>u.FH).getD 0):=fun h9=>by omega
  have u4:=jK r0;clear r0;by_cases a4:3<kd
  ·obtain rfl:r=1:=J.out.symm.trans (DQ (.inr (.inr (.inr (by rw[n2.out,k1.out];exact a4)))));clear J;refine Aj.AM 37 [] (fun w'=>Below W.heap.size W w') (fun w w'=>Below w.heap.size w w') (by kernel_rfl) (by kernel_rfl) (by kernel_rfl) (by kernel_rfl) (fun _ _ d _ _ h=>by cases d<;>exact h) (aJ _ _).drew ?_;simp only[aM,aT]
   iterate 15 ((first|refine Aj.Ad rfl rfl ?_ ?_ ?_|refine Aj.Aq rfl (by kernel_rfl) ?_ ?_ ?_);rotate_left;(focus(intro w1 hI _;obtain⟨c8,_⟩:=Ae hI;have U:=fun x=>hI.cell (p:=b5.add x) (b7 x);have c9:=fun x o=>hI.cell (p:=⟨(b6.add x).block,o,none⟩) (b8 x);go_simp;rfl)))
   iterate 10 (refine Aj.Bb rfl (by kernel_rfl) ?_)
   iterate 12 ((first|refine Aj.Ad rfl rfl ?_ ?_ ?_|refine Aj.Aq rfl (by kernel_rfl) ?_ ?_ ?_);rotate_left;(focus(intro w1 hI _;obtain⟨c8,_⟩:=Ae hI;have U:=fun x=>hI.cell (p:=b5.add x) (b7 x);have c9:=fun x o=>hI.cell (p:=⟨(b6.add x).block,o,none⟩) (b8 x);go_simp;rfl)))
   refine Aj.Ah (a':=?_) ?_ ?_;rotate_left;(focus(simp only[Act.put,aB,aD,aC];rfl));refine Aj.Ak (fun w6 a7 _=>?_);simp only[aN,aS];have e3:=Ab i1 a7;go_wp2;go_ret;exact⟨rfl,e3⟩
  have e5:¬M4 c i t:=by
   rintro(h9|h9|h9|h9)
   ·rw[e2.out]at h9;omega
   ·rw[e2.out]at h9;omega
   ·exact u4.out h9
   ·rw[n2.out,k1.out]at h9;exact a4 h9
  have I:=J.out.symm.trans (If e5);clear J e5;have J:=jK I;clear I;refine Aj.AM 37 [] (fun w'=>Below W.heap.size W w') (fun w w'=>Below w.heap.size w w') (by kernel_rfl) (by kernel_rfl) (by kernel_rfl) (by kernel_rfl) (fun _ _ d _ _ h=>by cases d<;>exact h) (aJ _ _).drew ?_;simp only[aM,aT]
  iterate 15 ((first|refine Aj.Ad rfl rfl ?_ ?_ ?_|refine Aj.Aq rfl (by kernel_rfl) ?_ ?_ ?_);rotate_left;(focus(intro w1 hI _;obtain⟨c8,_⟩:=Ae hI;have U:=fun x=>hI.cell (p:=b5.add x) (b7 x);have c9:=fun x o=>hI.cell (p:=⟨(b6.add x).block,o,none⟩) (b8 x);go_simp;rfl)))
  iterate 10 (refine Aj.Bb rfl (by kernel_rfl) ?_)
  iterate 12 ((first|refine Aj.Ad rfl rfl ?_ ?_ ?_|refine Aj.Aq rfl (by kernel_rfl) ?_ ?_ ?_);rotate_left;(focus(intro w1 hI _;obtain⟨c8,_⟩:=Ae hI;have U:=fun x=>hI.cell (p:=b5.add x) (b7 x);have c9:=fun x o=>hI.cell (p:=⟨(b6.add x).block,o,none⟩) (b8 x);go_simp;rfl)))
  refine Aj.Ah (a':=?_) ?_ ?_;rotate_left;(focus(simp only[Act.put,aB,aD,aC];rfl));refine Aj.Ak (fun w6 a7 _=>?_);simp only[aN,aS];have e3:=Ab i1 a7;have k5:=h1.on a7;have n9:=n0.on Aw a7;have o0:=n1.on Ax a7;have o1:=j9.on a7;obtain⟨u5,u6⟩:=Ae a7;have u7:w.heap.size+1<w6.heap.size:=by have:=a7.size;omega
  have r1:w.heap.size<w6.heap.size:=by omega
  clear b7 b8 d1 h1 n0 n1 j9;go_wp2_with fail
  (with_reducible refine(MS c nm ev _ _ _ t.BM _ k5 hd).mono ?_)
  rintro e w7⟨rfl,c6⟩;have i7:=Ab e3 c6;have j0:=k5.on c6;have o2:=n9.on Aw c6;have k6:=o0.on Ax c6;have o3:=o1.on c6;obtain⟨u9,v7⟩:=Ae c6;have v8:w.heap.size+1<w7.heap.size:=by have:=c6.size;omega
  have r3:w.heap.size<w7.heap.size:=by omega
  have I:=J.out;unfold Go.Proofs.YthbihnpoghlfaaaGreatDoor.VZ at I;obtain⟨x,hx⟩:∃x,FV c t.BM=x:=⟨_,rfl⟩;rw[hx]at I⊢;clear hx J;cases x
  ·rw[if_pos rfl]at I;subst I;go_wp2;go_ret;exact⟨rfl,i7⟩
  rw[if_neg Bool.noConfusion]at I;have J:=jK I;clear I;have e6:∀(a b d:Int),a≠0->Av [a,b,d]=a:=fun a b d h=>by unfold Av;rw[if_neg h]
  have e7:∀(b d:Int),Av [0,b,d]=Av [b,d]:=fun b d=>by rw[Av,if_pos rfl]
  rcases(iR (t.guard.length=0)).symm with hg|hg
  ·have o4:(0:Int)<(t.guard.length:Int):=by omega
   have k8:=j0.vars;have HG:=jK hg;clear hg;go_wp2_with fail
   (with_reducible refine(Qh c.vars (BN c) t.guard _ _ rv _ o2 k8 o3).mono ?_)
   rintro e w8⟨rfl,e8⟩;have hB:=Ab i7 e8;have hX:=j0.on e8;have hV:=k6.on Ax e8;obtain⟨w2,w3⟩:=Ae e8;have w4:w.heap.size+1<w8.heap.size:=by have:=e8.size;omega
   have r6:w.heap.size<w8.heap.size:=by omega
   obtain⟨kr,e9⟩:∃kr,kindOf c.vars (BN c) t.guard=kr:=⟨_,rfl⟩;rw[e9];have I:=J.out;unfold Hr at I;rw[if_neg HG.out,e9]at I;clear J;have o5:(∃y,kr=.err y)\/∃kk,kr=.ok kk:=by cases kr with|err y=>exact .inl ⟨y,rfl⟩|ok k=>exact .inr ⟨k,rfl⟩
   rcases o5 with⟨y,rfl⟩|⟨kk,rfl⟩
   ·have hy:=Fv e9;have w5:=Bc hy;dsimp only at I;rw[e6 _ _ _ hy]at I;rw[show Cu (.err y)=.tuple #[.int .i64 0,.int .i64 y]from rfl];clear e9 hy;subst I;go_wp2;go_ret;exact⟨rfl,hB⟩
   dsimp only at I;rw[show Cu (.ok kk)=.tuple #[.int .i64 kk,.int .i64 0]from rfl];clear e9;rcases(iR (kk=2)).symm with U|U
   ·rw[if_neg U,e6 _ _ _ (by decide)]at I;have j3:=Bc U;subst I;clear U;go_wp2;go_ret;exact⟨rfl,hB⟩
   rw[if_pos U,e7]at I;have j3:=Bj U;have J:=jK I;clear I U;go_upto_region 12 with(fail)
   have b4:=Di t.to;have b9:(t.to.toList != [])=!decide (t.to.size=0):=by rw[<-b4];cases t.to.toList<;>rfl
   have a8:∀(b d:Int),b≠0->Av [b,d]=b:=fun b d h=>by unfold Av;rw[if_neg h]
   have b0:∀(d:Int),Av [0,d]=d:=fun d=>by unfold Av;rw[if_pos rfl];unfold Av;split;(rename_i h9;rw[h9];rfl);rfl
   by_cases a6:t.to.size=0;rotate_left
   ·rw[aF a6]at b4 b9;have I:=J.out;unfold US at I;rw[if_neg a6]at I;clear J;have J:=jK I;clear I a6;go_wp2_with fail
    (with_reducible refine(EL c nm t.to ev _ _ _ _ hX).mono ?_)
    rintro e w9⟨rfl,b1⟩;have h2:=Ab hB b1;have h3:=hX.on b1;have j4:=hV.on Ax b1;obtain⟨o7,o8⟩:=Ae b1;have o9:w.heap.size+1<w9.heap.size:=by have:=b1.size;omega
    have l3:w.heap.size<w9.heap.size:=by omega
    have I:=J.out;rcases CZ c t.to with⟨hp,b2⟩|⟨k,hp,b2,j5⟩
    ·rw[b2];rw[hp]at I;dsimp only at I;rw[a8 _ _ (by decide)]at I;subst I;clear J hp b2;go_wp2;go_ret;exact⟨rfl,h2⟩
    rw[b2];rw[hp]at I;dsimp only at I;rw[e2.out,bI]at I;have j3:¬(k:Int)<0:=by omega
    clear J hp b2;have J:=jK I;have j6:=h3.Aa;clear I;go_wp2_with fail
    (with_reducible refine(FY j6 f hr fn k k3 j5).mono ?_)
    rintro e h4⟨rfl,R⟩;have c5:=Ab h2 R;have h5:=h3.on R;have h6:=j4.on Ax R;obtain⟨l4,l5⟩:=Ae R;have l6:w.heap.size+1<h4.heap.size:=by have:=R.size;omega
    have j7:w.heap.size<h4.heap.size:=by omega
    have I:=J.out;clear J;generalize Tr.domain c.Ar fn k=dm at *;by_cases h7:dm<0
    ·rw[if_pos h7,a8 _ _ (by decide)]at I;subst I;go_wp2;go_ret;exact⟨rfl,c5⟩
    rw[if_neg h7,b0]at I;have J:=jK I;clear I;go_wp2_with fail
    (with_reducible refine(CK c nm ev _ _ _ t.Ey _ _ h5 h6).mono ?_)
    rintro e j8⟨rfl,b3⟩;rw[<-J.out];go_wp2;go_ret;exact⟨rfl,Ab c5 b3⟩
   rw[aH a6]at b4 b9;have l7:t.to.toList=[]:=gB.1 b4;have I:=J.out;unfold US at I;rw[if_pos a6,b0]at I;clear J a6;have J:=jK I;clear I;go_wp2_with fail
   (with_reducible refine(CK c nm ev _ _ _ t.Ey _ _ hX hV).mono ?_)
   rintro e j8⟨rfl,b3⟩;rw[<-J.out];go_wp2;go_ret;exact⟨rfl,Ab hB b3⟩
  ·have o4:¬(0:Int)<(t.guard.length:Int):=by omega
   have I:=J.out;unfold Hr at I;rw[if_pos hg,e7]at I;clear J;have J:=jK I;have hB:=i7;have hX:=j0;have hV:=k6;clear I hg;go_upto_region 12 with(fail)
   have b4:=Di t.to;have b9:(t.to.toList != [])=!decide (t.to.size=0):=by rw[<-b4];cases t.to.toList<;>rfl
   have a8:∀(b d:Int),b≠0->Av [b,d]=b:=fun b d h=>by unfold Av;rw[if_neg h]
   have b0:∀(d:Int),Av [0,d]=d:=fun d=>by unfold Av;rw[if_pos rfl];unfold Av;split;(rename_i h9;rw[h9];rfl);rfl
   by_cases a6:t.to.size=0;rotate_left
   ·rw[aF a6]at b4 b9;have I:=J.out;unfold US at I;rw[if_neg a6]at I;clear J;have J:=jK I;clear I a6;go_wp2_with fail
    (with_reducible refine(EL c nm t.to ev _ _ _ _ hX).mono ?_)
    rintro e w9⟨rfl,b1⟩;have h2:=Ab hB b1;have h3:=hX.on b1;have j4:=hV.on Ax b1;obtain⟨o7,o8⟩:=Ae b1;have o9:w.heap.size+1<w9.heap.size:=by have:=b1.size;omega
    have l3:w.heap.size<w9.heap.size:=by omega
    have I:=J.out;rcases CZ c t.to with⟨hp,b2⟩|⟨k,hp,b2,j5⟩
    ·rw[b2];rw[hp]at I;dsimp only at I;rw[a8 _ _ (by decide)]at I;subst I;clear J hp b2;go_wp2;go_ret;exact⟨rfl,h2⟩
    rw[b2];rw[hp]at I;dsimp only at I;rw[e2.out,bI]at I;have j3:¬(k:Int)<0:=by omega
    clear J hp b2;have J:=jK I;have j6:=h3.Aa;clear I;go_wp2_with fail
    (with_reducible refine(FY j6 f hr fn k k3 j5).mono ?_)
    rintro e h4⟨rfl,R⟩;have c5:=Ab h2 R;have h5:=h3.on R;have h6:=j4.on Ax R;obtain⟨l4,l5⟩:=Ae R;have l6:w.heap.size+1<h4.heap.size:=by have:=R.size;omega
    have j7:w.heap.size<h4.heap.size:=by omega
    have I:=J.out;clear J;generalize Tr.domain c.Ar fn k=dm at *;by_cases h7:dm<0
    ·rw[if_pos h7,a8 _ _ (by decide)]at I;subst I;go_wp2;go_ret;exact⟨rfl,c5⟩
    rw[if_neg h7,b0]at I;have J:=jK I;clear I;go_wp2_with fail
    (with_reducible refine(CK c nm ev _ _ _ t.Ey _ _ h5 h6).mono ?_)
    rintro e j8⟨rfl,b3⟩;rw[<-J.out];go_wp2;go_ret;exact⟨rfl,Ab c5 b3⟩
   rw[aH a6]at b4 b9;have l7:t.to.toList=[]:=gB.1 b4;have I:=J.out;unfold US at I;rw[if_pos a6,b0]at I;clear J a6;have J:=jK I;clear I;go_wp2_with fail
   (with_reducible refine(CK c nm ev _ _ _ t.Ey _ _ hX hV).mono ?_)
   rintro e j8⟨rfl,b3⟩;rw[<-J.out];go_wp2;go_ret;exact⟨rfl,Ab hB b3⟩
 ·obtain⟨j,r7⟩:∃j,i=j+1:=⟨i-1,by omega⟩;have u3:(0:Int)<(i:Int):=by omega
  have E0:decide (0<i)=true:=aH (by omega);have r8:j<c.trans.length:=by omega
  have E1:(j:Int)<(c.trans.length:Int):=by omega
  have F0:IntKind.i64.wrap ((i:Int)-1)=(j:Int):=by rw[cM _ (by omega)];omega
  obtain⟨_,_,_,_,m0,-⟩:=JM h1.trans r8;have l8:(c.trans[i-1]?.map fun u=>u.FH).getD 0=c.trans[j].FH:=by
   rw[show i-1=j by omega,aQ r8];rfl
  have r9:=jK l8;have F1:=jK r7;clear l8 r7;obtain⟨pf,p6⟩:∃pf,c.trans[j].FH=pf:=⟨_,rfl⟩;rw[p6]at m0;have s3:=jK p6;clear p6 u2;by_cases a3:(fn:Int)<pf
  ·obtain rfl:r=1:=J.out.symm.trans (DQ (.inr (.inr (.inl ⟨by omega,by rw[r9.out,s3.out,e2.out];exact a3⟩))));clear J;refine Aj.AM 37 [] (fun w'=>Below W.heap.size W w') (fun w w'=>Below w.heap.size w w') (by kernel_rfl) (by kernel_rfl) (by kernel_rfl) (by kernel_rfl) (fun _ _ d _ _ h=>by cases d<;>exact h) (aJ _ _).drew ?_;simp only[aM,aT]
   iterate 28 ((first|refine Aj.Ad rfl rfl ?_ ?_ ?_|refine Aj.Aq rfl (by kernel_rfl) ?_ ?_ ?_);rotate_left;(focus(intro w1 hI _;obtain⟨c8,_⟩:=Ae hI;have U:=fun x=>hI.cell (p:=b5.add x) (b7 x);have c9:=fun x o=>hI.cell (p:=⟨(b6.add x).block,o,none⟩) (b8 x);go_simp;rfl)))
   iterate 8 (refine Aj.Bb rfl (by kernel_rfl) ?_)
   (refine Aj.Ad rfl rfl ?_ ?_ ?_;rotate_left;(focus(intro w1 hI _;obtain⟨c8,_⟩:=Ae hI;have U:=fun x=>hI.cell (p:=b5.add x) (b7 x);have c9:=fun x o=>hI.cell (p:=⟨(b6.add x).block,o,none⟩) (b8 x);go_simp;rfl)))
   refine Aj.Ah (a':=?_) ?_ ?_;rotate_left;(focus(simp only[Act.put,aB,aD,aC];rfl));refine Aj.Ak (fun w6 a7 _=>?_);simp only[aN,aS];have e3:=Ab i1 a7;go_wp2;go_ret;exact⟨rfl,e3⟩
  by_cases a4:3<kd
  ·obtain rfl:r=1:=J.out.symm.trans (DQ (.inr (.inr (.inr (by rw[n2.out,k1.out];exact a4)))));clear J;refine Aj.AM 37 [] (fun w'=>Below W.heap.size W w') (fun w w'=>Below w.heap.size w w') (by kernel_rfl) (by kernel_rfl) (by kernel_rfl) (by kernel_rfl) (fun _ _ d _ _ h=>by cases d<;>exact h) (aJ _ _).drew ?_;simp only[aM,aT]
   iterate 37 ((first|refine Aj.Ad rfl rfl ?_ ?_ ?_|refine Aj.Aq rfl (by kernel_rfl) ?_ ?_ ?_);rotate_left;(focus(intro w1 hI _;obtain⟨c8,_⟩:=Ae hI;have U:=fun x=>hI.cell (p:=b5.add x) (b7 x);have c9:=fun x o=>hI.cell (p:=⟨(b6.add x).block,o,none⟩) (b8 x);go_simp;rfl)))
   refine Aj.Ah (a':=?_) ?_ ?_;rotate_left;(focus(simp only[Act.put,aB,aD,aC];rfl));refine Aj.Ak (fun w6 a7 _=>?_);simp only[aN,aS];have e3:=Ab i1 a7;go_wp2;go_ret;exact⟨rfl,e3⟩
  have e5:¬M4 c i t:=by
   rintro(h9|h9|h9|h9)
   ·rw[e2.out]at h9;omega
   ·rw[e2.out]at h9;omega
   ·have h8:=h9.2;rw[r9.out,s3.out,e2.out]at h8;exact a3 h8
   ·rw[n2.out,k1.out]at h9;exact a4 h9
  have I:=J.out.symm.trans (If e5);clear J e5;have J:=jK I;clear I;refine Aj.AM 37 [] (fun w'=>Below W.heap.size W w') (fun w w'=>Below w.heap.size w w') (by kernel_rfl) (by kernel_rfl) (by kernel_rfl) (by kernel_rfl) (fun _ _ d _ _ h=>by cases d<;>exact h) (aJ _ _).drew ?_;simp only[aM,aT]
  iterate 37 ((first|refine Aj.Ad rfl rfl ?_ ?_ ?_|refine Aj.Aq rfl (by kernel_rfl) ?_ ?_ ?_);rotate_left;(focus(intro w1 hI _;obtain⟨c8,_⟩:=Ae hI;have U:=fun x=>hI.cell (p:=b5.add x) (b7 x);have c9:=fun x o=>hI.cell (p:=⟨(b6.add x).block,o,none⟩) (b8 x);go_simp;rfl)))
  refine Aj.Ah (a':=?_) ?_ ?_;rotate_left;(focus(simp only[Act.put,aB,aD,aC];rfl));refine Aj.Ak (fun w6 a7 _=>?_);simp only[aN,aS];have e3:=Ab i1 a7;have k5:=h1.on a7;have n9:=n0.on Aw a7;have o0:=n1.on Ax a7;have o1:=j9.on a7;obtain⟨u5,u6⟩:=Ae a7;have u7:w.heap.size+1<w6.heap.size:=by have:=a7.size;omega
  have r1:w.heap.size<w6.heap.size:=by omega
  clear b7 b8 d1 h1 n0 n1 j9;go_wp2_with fail
  (with_reducible refine(MS c nm ev _ _ _ t.BM _ k5 hd).mono ?_)
  rintro e w7⟨rfl,c6⟩;have i7:=Ab e3 c6;have j0:=k5.on c6;have o2:=n9.on Aw c6;have k6:=o0.on Ax c6;have o3:=o1.on c6;obtain⟨u9,v7⟩:=Ae c6;have v8:w.heap.size+1<w7.heap.size:=by have:=c6.size;omega
  have r3:w.heap.size<w7.heap.size:=by omega
  have I:=J.out;unfold Go.Proofs.YthbihnpoghlfaaaGreatDoor.VZ at I;obtain⟨x,hx⟩:∃x,FV c t.BM=x:=⟨_,rfl⟩;rw[hx]at I⊢;clear hx J;cases x
  ·rw[if_pos rfl]at I;subst I;go_wp2;go_ret;exact⟨rfl,i7⟩
  rw[if_neg Bool.noConfusion]at I;have J:=jK I;clear I;have e6:∀(a b d:Int),a≠0->Av [a,b,d]=a:=fun a b d h=>by unfold Av;rw[if_neg h]
  have e7:∀(b d:Int),Av [0,b,d]=Av [b,d]:=fun b d=>by rw[Av,if_pos rfl]
  rcases(iR (t.guard.length=0)).symm with hg|hg
  ·have o4:(0:Int)<(t.guard.length:Int):=by omega
   have k8:=j0.vars;have HG:=jK hg;clear hg;go_wp2_with fail
   (with_reducible refine(Qh c.vars (BN c) t.guard _ _ rv _ o2 k8 o3).mono ?_)
   rintro e w8⟨rfl,e8⟩;have hB:=Ab i7 e8;have hX:=j0.on e8;have hV:=k6.on Ax e8;obtain⟨w2,w3⟩:=Ae e8;have w4:w.heap.size+1<w8.heap.size:=by have:=e8.size;omega
   have r6:w.heap.size<w8.heap.size:=by omega
   obtain⟨kr,e9⟩:∃kr,kindOf c.vars (BN c) t.guard=kr:=⟨_,rfl⟩;rw[e9];have I:=J.out;unfold Hr at I;rw[if_neg HG.out,e9]at I;clear J;have o5:(∃y,kr=.err y)\/∃kk,kr=.ok kk:=by cases kr with|err y=>exact .inl ⟨y,rfl⟩|ok k=>exact .inr ⟨k,rfl⟩
   rcases o5 with⟨y,rfl⟩|⟨kk,rfl⟩
   ·have hy:=Fv e9;have w5:=Bc hy;dsimp only at I;rw[e6 _ _ _ hy]at I;rw[show Cu (.err y)=.tuple #[.int .i64 0,.int .i64 y]from rfl];clear e9 hy;subst I;go_wp2;go_ret;exact⟨rfl,hB⟩
   dsimp only at I;rw[show Cu (.ok kk)=.tuple #[.int .i64 kk,.int .i64 0]from rfl];clear e9;rcases(iR (kk=2)).symm with U|U
   ·rw[if_neg U,e6 _ _ _ (by decide)]at I;have j3:=Bc U;subst I;clear U;go_wp2;go_ret;exact⟨rfl,hB⟩
   rw[if_pos U,e7]at I;have j3:=Bj U;have J:=jK I;clear I U;go_upto_region 12 with(fail)
   have b4:=Di t.to;have b9:(t.to.toList != [])=!decide (t.to.size=0):=by rw[<-b4];cases t.to.toList<;>rfl
   have a8:∀(b d:Int),b≠0->Av [b,d]=b:=fun b d h=>by unfold Av;rw[if_neg h]
   have b0:∀(d:Int),Av [0,d]=d:=fun d=>by unfold Av;rw[if_pos rfl];unfold Av;split;(rename_i h9;rw[h9];rfl);rfl
   by_cases a6:t.to.size=0;rotate_left
   ·rw[aF a6]at b4 b9;have I:=J.out;unfold US at I;rw[if_neg a6]at I;clear J;have J:=jK I;clear I a6;go_wp2_with fail
    (with_reducible refine(EL c nm t.to ev _ _ _ _ hX).mono ?_)
    rintro e w9⟨rfl,b1⟩;have h2:=Ab hB b1;have h3:=hX.on b1;have j4:=hV.on Ax b1;obtain⟨o7,o8⟩:=Ae b1;have o9:w.heap.size+1<w9.heap.size:=by have:=b1.size;omega
    have l3:w.heap.size<w9.heap.size:=by omega
    have I:=J.out;rcases CZ c t.to with⟨hp,b2⟩|⟨k,hp,b2,j5⟩
    ·rw[b2];rw[hp]at I;dsimp only at I;rw[a8 _ _ (by decide)]at I;subst I;clear J hp b2;go_wp2;go_ret;exact⟨rfl,h2⟩
    rw[b2];rw[hp]at I;dsimp only at I;rw[e2.out,bI]at I;have j3:¬(k:Int)<0:=by omega
    clear J hp b2;have J:=jK I;have j6:=h3.Aa;clear I;go_wp2_with fail
    (with_reducible refine(FY j6 f hr fn k k3 j5).mono ?_)
    rintro e h4⟨rfl,R⟩;have c5:=Ab h2 R;have h5:=h3.on R;have h6:=j4.on Ax R;obtain⟨l4,l5⟩:=Ae R;have l6:w.heap.size+1<h4.heap.size:=by have:=R.size;omega
    have j7:w.heap.size<h4.heap.size:=by omega
    have I:=J.out;clear J;generalize Tr.domain c.Ar fn k=dm at *;by_cases h7:dm<0
    ·rw[if_pos h7,a8 _ _ (by decide)]at I;subst I;go_wp2;go_ret;exact⟨rfl,c5⟩
    rw[if_neg h7,b0]at I;have J:=jK I;clear I;go_wp2_with fail
    (with_reducible refine(CK c nm ev _ _ _ t.Ey _ _ h5 h6).mono ?_)
    rintro e j8⟨rfl,b3⟩;rw[<-J.out];go_wp2;go_ret;exact⟨rfl,Ab c5 b3⟩
   rw[aH a6]at b4 b9;have l7:t.to.toList=[]:=gB.1 b4;have I:=J.out;unfold US at I;rw[if_pos a6,b0]at I;clear J a6;have J:=jK I;clear I;go_wp2_with fail
   (with_reducible refine(CK c nm ev _ _ _ t.Ey _ _ hX hV).mono ?_)
   rintro e j8⟨rfl,b3⟩;rw[<-J.out];go_wp2;go_ret;exact⟨rfl,Ab hB b3⟩
  ·have o4:¬(0:Int)<(t.guard.length:Int):=by omega
   have I:=J.out;unfold Hr at I;rw[if_pos hg,e7]at I;clear J;have J:=jK I;have hB:=i7;have hX:=j0;have hV:=k6;clear I hg;go_upto_region 12 with(fail)
   have b4:=Di t.to;have b9:(t.to.toList != [])=!decide (t.to.size=0):=by rw[<-b4];cases t.to.toList<;>rfl
   have a8:∀(b d:Int),b≠0->Av [b,d]=b:=fun b d h=>by unfold Av;rw[if_neg h]
   have b0:∀(d:Int),Av [0,d]=d:=fun d=>by unfold Av;rw[if_pos rfl];unfold Av;split;(rename_i h9;rw[h9];rfl);rfl
   by_cases a6:t.to.size=0;rotate_left
   ·rw[aF a6]at b4 b9;have I:=J.out;unfold US at I;rw[if_neg a6]at I;clear J;have J:=jK I;clear I a6;go_wp2_with fail
    (with_reducible refine(EL c nm t.to ev _ _ _ _ hX).mono ?_)
    rintro e w9⟨rfl,b1⟩;have h2:=Ab hB b1;have h3:=hX.on b1;have j4:=hV.on Ax b1;obtain⟨o7,o8⟩:=Ae b1;have o9:w.heap.size+1<w9.heap.size:=by have:=b1.size;omega
    have l3:w.heap.size<w9.heap.size:=by omega
    have I:=J.out;rcases CZ c t.to with⟨hp,b2⟩|⟨k,hp,b2,j5⟩
    ·rw[b2];rw[hp]at I;dsimp only at I;rw[a8 _ _ (by decide)]at I;subst I;clear J hp b2;go_wp2;go_ret;exact⟨rfl,h2⟩
    rw[b2];rw[hp]at I;dsimp only at I;rw[e2.out,bI]at I;have j3:¬(k:Int)<0:=by omega
    clear J hp b2;have J:=jK I;have j6:=h3.Aa;clear I;go_wp2_with fail
    (with_reducible refine(FY j6 f hr fn k k3 j5).mono ?_)
    rintro e h4⟨rfl,R⟩;have c5:=Ab h2 R;have h5:=h3.on R;have h6:=j4.on Ax R;obtain⟨l4,l5⟩:=Ae R;have l6:w.heap.size+1<h4.heap.size:=by have:=R.size;omega
    have j7:w.heap.size<h4.heap.size:=by omega
    have I:=J.out;clear J;generalize Tr.domain c.Ar fn k=dm at *;by_cases h7:dm<0
    ·rw[if_pos h7,a8 _ _ (by decide)]at I;subst I;go_wp2;go_ret;exact⟨rfl,c5⟩
    rw[if_neg h7,b0]at I;have J:=jK I;clear I;go_wp2_with fail
    (with_reducible refine(CK c nm ev _ _ _ t.Ey _ _ h5 h6).mono ?_)
    rintro e j8⟨rfl,b3⟩;rw[<-J.out];go_wp2;go_ret;exact⟨rfl,Ab c5 b3⟩
   rw[aH a6]at b4 b9;have l7:t.to.toList=[]:=gB.1 b4;have I:=J.out;unfold US at I;rw[if_pos a6,b0]at I;clear J a6;have J:=jK I;clear I;go_wp2_with fail
   (with_reducible refine(CK c nm ev _ _ _ t.Ey _ _ hX hV).mono ?_)
   rintro e j8⟨rfl,b3⟩;rw[<-J.out];go_wp2;go_ret;exact⟨rfl,Ab hB b3⟩
end
end Go.Proofs.YthbihnpoghlfaaaGreatDoor
