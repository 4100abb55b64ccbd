import Derived.Test.YthbihnpoghlfaaaGreatDoorZr43
set_option linter.unusedVariables false
set_option linter.unusedSimpArgs false
set_option maxHeartbeats 8000000
set_option maxRecDepth 100000
namespace Go.Proofs.YthbihnpoghlfaaaGreatDoor
open Go.Proofs.Tryz
section
open Go.RowKit Q Go.Lib Go.Shelf
theorem KO (w:World) (A:Option Addr) (n c:Nat) (st:BQ) (h:Tree w w.heap.size A n st) (hn:n<=maxLen) (nb:Tr.NB st) (i:Int) (hi:i<0) (j:Nat) (hj:j<n) :
  Calls prog 167 #[.slice A n c,.int .i64 i,.int .i64 (j:Int)] w fun e w'=>e=.returned (.bool false)/\Below w.heap.size w w':=by
 have hl:=h.1;have o:=fun q=>Tr.OE st q
 go_enter func167,ntmps167;go_wp2_with fail;refine(CD w A n c st h hn nb j hj).mono ?_;rintro e w1⟨rfl,I⟩;go_wp2
 go_loopw [7] (fun v wr=>∃q:Int,v=.int .i64 q/\-1<=q/\q<(n:Int)/\Below w.heap.size w wr) (fun v _=>(intOf v+1).toNat)
 case atStart=>exact⟨Tr.up st j,rfl,(o j).2,by have:=(o j).1;omega,I⟩
 case round=>
  obtain⟨q,rfl,b0,b1,p⟩:=hrel;by_cases b2:q<0
  ·have J:¬(0:Int)<=q:=by omega
   go_wp2;go_ret;exact⟨rfl,p⟩
  ·obtain⟨m,rfl⟩:∃m:Nat,q=(m:Int):=⟨q.toNat,by omega⟩;have J:(0:Int)<=(m:Int):=by omega
   have R:m<n:=by omega
   have b3:¬(m:Int)=i:=by omega
   have U:=o m;go_wp2_with fail;refine(CD _ A n c st ((h.below p).more p.size) hn nb m R).mono ?_;rintro e w3⟨rfl,a1⟩;go_wp2;go_roundw
   case rel=>exact⟨Tr.up st m,rfl,U.2,by omega,p.trans (a1.mono p.size)⟩
   case measure=>simp[intOf];omega
theorem NZ {c:Q.Af} {A:Option Addr} {n cp:Nat} {w:World} (h:A6 w w.heap.size (.slice A n cp) c.Aa) (o:Tr.right c.Ar) (i:Int) (j:Nat) (R:j<n) (hi:i<(n:Int)) :
  Calls prog 167 #[.slice A n cp,.int .i64 i,.int .i64 (j:Int)] w fun e p=>e=.returned (.bool (Tr.Es c.Ar i j))/\Below w.heap.size w p:=by
 have U:=I9 o;have a1:=QE h;by_cases I:i<0
 ·refine(KO w A n cp c.Ar (CE h) (by unfold maxLen;omega) (Tr.Fq o) i I j R).mono ?_;rintro e p⟨rfl,J⟩;refine⟨?_,J⟩;have hf:Tr.hasB c.Ar i=false:=by
   rw[fS];intro e;obtain⟨k,hk,-⟩:=Ek.1 e;omega
  unfold Tr.Es;rw[hf];rfl
 ·obtain⟨m,rfl⟩:∃m:Nat,i=(m:Int):=⟨i.toNat,by omega⟩;refine(MV h o m j R).mono ?_;rintro e p⟨rfl,J⟩;refine⟨Db ?_,J⟩;unfold Tr.Es;rw[Fc o (by rw[AI];omega),Fc o (by rw[AI];omega)];rw[cH];simp
theorem SM (c:Q.Af) (nm:ByteArray) (ev vv sv tv:Value) (w:World) (h:AQ w w.heap.size ev vv sv tv c) (hr:Tr.right c.Ar) (i:Nat) (hi:i<c.Aa.length) :
  Calls prog 71 #[BZ nm ev vv sv tv,.int .i64 (i:Int)] w fun e w'=>e=.returned (.int .i64 (Ew c i c.Aa[i]))/\Below w.heap.size w w':=by
 obtain⟨SA,sc,rfl,l2,h9⟩:=h.Aa.form;obtain⟨ad,rfl,l3⟩:=h9 i hi;obtain⟨W0,e0⟩:∃W0,w.alloc (.cells #[.string nm,ev,vv,.slice (some ad) c.Aa.length sc,tv] 27)=W0:=⟨_,rfl⟩;obtain⟨e4,s0,h0,p0,p1,p2,p3,p4⟩:=Bl h e0;obtain⟨uA,uc,vA,vc,c0,c1,c2,c3,c4,c5,-,-⟩:=A5 h0.Aa hi;obtain⟨r,a6⟩:∃r,Ew c i c.Aa[i]=r:=⟨_,rfl⟩;rw[a6];generalize c.Aa[i]=s at *;obtain⟨W,e1⟩:∃W,W0.alloc (.cells #[.string s.name,.int .i64 s.kind,.int .i64 s.depth,.string s.initial,.slice uA s.entry.length uc,.slice vA s.exit.length vc] 54)=W:=⟨_,rfl⟩;obtain⟨a7,s1,q0,q1,q2,q3,q4,q5⟩:=Ff e1;rw[s0]at q0 q1 q2 q3 q4 q5 s1;have h1:=h0.on a7;have b9:=Ab e4 a7;obtain⟨J,e5⟩:=Ae a7;rw[s0]at J e5;have g0:W.cell? ⟨w.heap.size,0,none⟩=some (.string nm):=by rw[J _ _ (by omega)];exact p0
 have g1:W.cell? ⟨w.heap.size,1,none⟩=some ev:=by rw[J _ _ (by omega)];exact p1
 have g2:W.cell? ⟨w.heap.size,2,none⟩=some vv:=by rw[J _ _ (by omega)];exact p2
 have g3:W.cell? ⟨w.heap.size,3,none⟩=some (.slice (some ad) c.Aa.length sc):=by rw[J _ _ (by omega)];exact p3
 have g4:W.cell? ⟨w.heap.size,4,none⟩=some tv:=by rw[J _ _ (by omega)];exact p4
 clear J e5 a7 q0 q2 q4 q5 p0 p1 p2 p4;unfold Ew at a6;have HR:=jK a6;have n1:(i:Int)<(c.Aa.length:Int):=by omega
 clear a6;go_enter func71,ntmps71;go_upto_region 2 with(fail)
 clear e0 e1 c0 c1 c2 c3 c4 c5 p3 s0 e4 h0;by_cases hA:s.kind≠2/\BR s.kind=false
 ·obtain⟨k2,kp⟩:=hA;have j:=HR.out;rw[if_pos ⟨k2,kp⟩]at j;have z2:=Bc k2;have z5:(s.kind != 5)=true:=Bc fun e=>by rw[e]at kp;exact absurd kp (by decide)
  have z6:(s.kind != 6)=true:=Bc fun e=>by rw[e]at kp;exact absurd kp (by decide)
  have o:=jK j;clear HR j k2 kp;by_cases hz:s.initial.size=0
  ·have j0:¬(0:Int)<(s.initial.size:Int):=by omega
   obtain rfl:r=0:=by rw[<-o.out,if_pos hz]
   go_wp2;go_ret;exact⟨rfl,b9⟩
  ·have j0:(0:Int)<(s.initial.size:Int):=by omega
   obtain rfl:r=1:=by rw[<-o.out,if_neg hz]
   go_wp2;go_ret;exact⟨rfl,b9⟩
 ·have j:=HR.out;rw[if_neg hA]at j;have c7:s.kind=2\/s.kind=5\/s.kind=6:=by
   by_cases k2:s.kind=2
   ·exact .inl k2
   ·have hp:BR s.kind=true:=by
     rw[<-Bool.not_eq_false];exact fun e=>hA ⟨k2,e⟩
    unfold BR at hp;simp at hp;exact .inr hp
  clear HR hA;have HR:=jK j;clear j;have hK:∃z2 z5 z6:Bool,(s.kind != 2)=z2/\(s.kind != 5)=z5/\(s.kind != 6)=z6/\(s.kind==2)=!z2/\(s.kind==5)=!z5/\(s.kind==6)=!z6/\((z2=false/\z5=true/\z6=true)\/(z2=true/\z5=false/\z6=true)\/(z2=true/\z5=true/\z6=false)):=by
   refine⟨_,_,_,rfl,rfl,rfl,?_,?_,?_,?_⟩
   ·cases hh:(s.kind==2)<;>simp[bne,hh]
   ·cases hh:(s.kind==5)<;>simp[bne,hh]
   ·cases hh:(s.kind==6)<;>simp[bne,hh]
   ·rcases c7 with e|e|e<;>rw[e]<;>decide
  obtain⟨z2,z5,z6,b2,b5,b6,d2,d5,d6,hz⟩:=hK;have n3:=jK c7;clear c7;have k4:w.heap.size+1<W.heap.size:=by omega
  rcases hz with⟨rfl,rfl,rfl⟩|⟨rfl,rfl,rfl⟩|⟨rfl,rfl,rfl⟩
  all_goals
   simp only[fA,fM]at d2 d5 d6;go_wp2_with fail;(with_reducible refine(G7 c nm s.initial ev vv _ tv _ h1).mono ?_);rintro e w3⟨rfl,b0⟩;obtain⟨n5,n9⟩:=Ae b0;have o0:w.heap.size+1<w3.heap.size:=by have:=b0.size;omega
   have k6:w.heap.size<w3.heap.size:=by omega
   have h3:=h1.on b0;have R:=Ab b9 b0;rcases CZ c s.initial with⟨hp,U⟩|⟨k,hp,U,b1⟩
   ·rw[U];have j:=HR.out;rw[hp]at j;obtain rfl:r=2:=j.symm;clear HR hp U j;go_wp2;go_ret;exact⟨rfl,R⟩
   rw[U];have j:=HR.out;rw[hp]at j;dsimp only at j;obtain⟨_,_,_,_,-,d1,-⟩:=A5 h3.Aa b1;rw[<-Cb c b1]at d1;have o1:(k:Int)<(c.Aa.length:Int):=by omega
   have o2:¬(k:Int)<0:=by omega
   have o:=jK j;clear HR hp U j;have b3:=fun w1=>EV w1 (Tr.kd c.Ar k)
   rw[Mi]at b3;obtain⟨x,hx⟩:∃x,BR (Tr.kd c.Ar k)=x:=⟨_,rfl⟩;rw[hx]at b3;have HX:=jK hx;clear hx;cases x;rotate_left
   ·have j:=o.out;rw[if_pos HX.out]at j;obtain rfl:r=2:=j.symm;clear j o;go_wp2_with fail;(with_reducible refine(b3 _).mono ?_);rintro e w'⟨rfl,rfl⟩;go_wp2;go_ret;exact⟨rfl,R⟩
   go_wp2_with fail;(with_reducible refine(b3 _).mono ?_);rintro e w'⟨rfl,rfl⟩;go_wp2_with fail;(with_reducible refine(DU h3.Aa hr i hi).mono ?_);rintro e w4⟨rfl,b4⟩;obtain⟨o4,o5⟩:=Ae b4;have o6:w.heap.size+1<w4.heap.size:=by have:=b4.size;omega
   have k8:w.heap.size<w4.heap.size:=by omega
   have h4:=h3.on b4;have e7:=Ab R b4;go_wp2_with fail;(with_reducible refine(DU h4.Aa hr k b1).mono ?_);rintro e w5⟨rfl,b7⟩;obtain⟨o7,o8⟩:=Ae b7;have o9:w.heap.size+1<w5.heap.size:=by have:=b7.size;omega
   have l1:w.heap.size<w5.heap.size:=by omega
   have h5:=h4.on b7;have p:=Ab e7 b7
  ·have I:s.kind=2:=by simpa using d2
   have j:=o.out;rw[if_neg (by rw[HX.out];exact dT),if_pos I]at j;clear o I;by_cases hu:Tr.up c.Ar k=(i:Int)
   ·obtain rfl:r=0:=by rw[<-j,if_pos hu]
    have c8:=Be hu;clear j hu;go_wp2;go_ret;exact⟨rfl,p⟩
   ·obtain rfl:r=2:=by rw[<-j,if_neg hu]
    have c8:=Bg hu;clear j hu;go_wp2;go_ret;exact⟨rfl,p⟩
  ·have I:s.kind≠2:=by simpa using d2
   have a1:s.kind=5:=by simpa using d5
   have j:=o.out;rw[if_neg (by rw[HX.out];exact dT),if_neg I,if_pos a1]at j;clear o I a1;by_cases hu:Tr.up c.Ar k=Tr.up c.Ar i
   ·obtain rfl:r=0:=by rw[<-j,if_pos hu]
    have c8:=Be hu;clear j hu;go_wp2;go_ret;exact⟨rfl,p⟩
   ·obtain rfl:r=2:=by rw[<-j,if_neg hu]
    have c8:=Bg hu;clear j hu;go_wp2;go_ret;exact⟨rfl,p⟩
  ·have I:s.kind≠2:=by simpa using d2
   have a1:s.kind≠5:=by simpa using d5
   have j:=o.out;rw[if_neg (by rw[HX.out];exact dT),if_neg I,if_neg a1]at j;clear o I a1;have j2:=Tr.OE c.Ar i;have e8:=NZ h5.Aa hr (Tr.up c.Ar i) k b1 (by omega);clear j2;obtain⟨x,hx⟩:∃x,Tr.Es c.Ar (Tr.up c.Ar i) k=x:=⟨_,rfl⟩;rw[hx]at e8 j;clear hx;go_wp2_with fail;(with_reducible refine e8.mono ?_);rintro e w6⟨rfl,j3⟩;have b8:=Ab p j3;cases x
   ·obtain rfl:r=2:=j.symm;clear j;go_wp2;go_ret;exact⟨rfl,b8⟩
   ·obtain rfl:r=0:=j.symm;clear j;go_wp2;go_ret;exact⟨rfl,b8⟩
theorem CC (c:Q.Af) (nm:ByteArray) (ev vv sv tv:Value) (l:List Q.Act) (v:Value) (w:World) (h:AQ w w.heap.size ev vv sv tv c) (hl:Cj w w.heap.size v l) (hs:∀a∈l,Ej a.name) :
  Calls prog 74 #[BZ nm ev vv sv tv,v] w fun e w'=>e=.returned (.int .i64 (Br c l))/\Below w.heap.size w w':=by
 obtain⟨A,cp,rfl,hn,hA⟩:=hl.form;obtain⟨eA,ec,rfl,q5,q6⟩:=h.events.form;obtain⟨vA,vc,rfl,q7,l3⟩:=h.vars.form;obtain⟨W0,e0⟩:∃W0,w.alloc (.cells #[.string nm,.slice eA c.events.length ec,.slice vA c.vars.length vc,sv,tv] 27)=W0:=⟨_,rfl⟩;obtain⟨e7,s0,h0,p0,p1,p2,p3,p4⟩:=Bl h e0;obtain⟨r,e8⟩:∃r,Br c l=r:=⟨_,rfl⟩;rw[e8];unfold Br at e8;have HR:=jK e8;clear e8;go_enter func74,ntmps74;by_cases b0:l.length=0
 ·have l5:¬(0:Int)<(l.length:Int):=by omega
  have hR:=HR.out;rw[if_pos b0]at hR;subst hR;clear b0 HR;go_wp2;clear e0
  go_loop [5] (fun v=>v=.int .i64 0) (fun _=>0)
  case atStart=>exact rfl
  case round=>
   obtain rfl:=hrel;go_wp2;go_ret;exact⟨rfl,e7⟩
 have l5:(0:Int)<(l.length:Int):=by omega
 have hR:=HR.out;rw[if_neg b0]at hR;clear HR b0;have b0:=hl.on Ax e7;have h8:=SY l _ W0 b0 hs;obtain⟨x,hx⟩:∃x,FE l=x:=⟨_,rfl⟩;rw[hx]at hR h8;clear hx;go_wp2_with fail;(with_reducible refine h8.mono ?_);rintro e w1⟨rfl,b7⟩;have c5:=Ab e7 b7;clear e0;cases x
 ·rw[if_pos rfl]at hR;subst hR;go_wp2;go_ret;exact⟨rfl,c5⟩
 rw[if_neg Bool.noConfusion]at hR;have HR:=jK hR;clear hR h8;obtain⟨i1,l6⟩:=Ae b7;have q1:w1.cell? ⟨w.heap.size,1,none⟩=some (.slice eA c.events.length ec):=by rw[i1 _ _ (by omega)];exact p1
 have q2:w1.cell? ⟨w.heap.size,2,none⟩=some (.slice vA c.vars.length vc):=by rw[i1 _ _ (by omega)];exact p2
 have l7:=b0.on Ax b7;have h1:=h0.on b7;have i6:w.heap.size<w1.heap.size:=by have:=b7.size;omega
 clear i1 l6 p0 p1 p2 p3 p4 h0 b0 e7 b7 s0 hl;go_wp2
 go_loopw [5] (fun v wr=>∃k:Nat,k<=l.length/\v=.int .i64 (k:Int)/\(∀j (h:j<l.length),j<k->C2 c l[j]=0)/\Below w1.heap.size w1 wr) (fun v _=>l.length-(intOf v).toNat)
 case atStart=>exact⟨0,by omega,rfl,fun j _ hj=>absurd hj (by omega),aJ _ _⟩
 case round=>
  obtain⟨k,hk,rfl,h2,hb⟩:=hrel;have HA:=jK h2;clear h2;by_cases i7:k<l.length
  ·have j7:(k:Int)<(l.length:Int):=by omega
   obtain⟨ad,rfl,o8⟩:=hA k i7;have c6:=Ab c5 hb;obtain⟨uA,uc,c0,c1,c2,hu⟩:=Yv (l7.on Ax hb) i7;have e9:=jK (fun l9=>Cy (E:=C2 c) i7 HA.out l9);have j8:Hid (C2 c l[k]=0->∀j (h:j<l.length),j<k+1->C2 c l[j]=0):=jK (fun e0 j hj r3=>by
    by_cases e:j=k
    ·subst e;exact e0
    ·exact HA.out j hj (by omega))
   generalize l[k]=a at *;have b8:ad.block<wr.heap.size:=by have:=c6.size;omega
   obtain⟨j0,n2⟩:=Ae hb;have r1:wr.cell? ⟨w.heap.size,1,none⟩=some (.slice eA c.events.length ec):=by rw[j0 _ _ i6];exact q1
   have r2:wr.cell? ⟨w.heap.size,2,none⟩=some (.slice vA c.vars.length vc):=by rw[j0 _ _ i6];exact q2
   have h4:w.heap.size<wr.heap.size:=aK i6 hb.size;have hW:=h1.on hb;obtain⟨E,I⟩:∃E,C2 c a=E:=⟨_,rfl⟩;unfold C2 at I;have b1:=jK I;clear I j0 n2 q1 q2;by_cases J:a.kind=1
   ·have z1:=Bj J;have I:=b1.out;rw[if_pos J]at I;have n5:=jK J;clear J;have c7:=fun U (h5:Below wr.heap.size wr U)=>D5 c.vars _ a.name U (hW.on h5).vars
    go_wp2;refine Aj.AF 8 [(7,.int .i64 (ET (named a.name) c.vars))] [(7,fun _ _=>True)] (fun w'=>Below wr.heap.size wr w') (fun w w'=>Below w.heap.size w w') (by kernel_rfl) (by kernel_rfl) (by kernel_rfl) (by kernel_rfl) (fun _ _ d _ _ h=>by cases d<;>exact h) (aJ _ _).drew ?_;simp only[aM,aT]
    iterate 7 (refine Aj.Ad rfl rfl ?_ ?_ ?_;rotate_left;(focus(intro U hI _;obtain⟨J,_⟩:=Ae hI;have c8:=fun x=>hI.cell (p:=ad.add x) (add_lt b8 x);have c9:=fun x o=>hI.cell (p:=⟨(ad.add x).block,o,none⟩) (add_lt b8 x);go_simp;rfl)))
    refine Aj.Ah (a':=?_) ?_ ?_;rotate_left;(focus(simp only[Act.put,aB,aD,aC];rfl));refine Aj.AC (.int .i64 (ET (named a.name) c.vars)) rfl rfl (by kernel_rfl) (fun _ _ _ _ _=>trivial) (fun U hI _ K hK=>?_) ?_
    ·go_simp;(with_reducible refine(c7 U hI).mono ?_);rintro e w6⟨rfl,e6⟩;have a1:Below U.heap.size U w6:=by rw[e6];exact aJ _ _
     exact hK _ _ (by go_simp) trivial (hI.trans (a1.mono hI.size)) a1
    refine Aj.Ah (a':=?_) ?_ ?_;rotate_left;(focus(simp only[Act.put,aB,aD,aC];rfl));refine Aj.Ak (fun w6 a6 _=>?_);simp only[aN,aS];have b2:=Ab c6 a6;have h6:=hW.on a6;have o1:=hu.on Aw a6;obtain⟨j9,_⟩:=Ae a6;have t2:=(j9 _ 2 h4).trans r2;have k0:=aK h4 a6.size;have R:ad.block<w6.heap.size:=aK b8 a6.size;have d2:=(a6.cell (p:=⟨(ad.add (k*3)).block,(ad.add (k*3)).off+2,none⟩) (add_lt b8 _)).trans c2;clear j9 c7;rcases DY (named a.name) c.vars with⟨hi,hf,-⟩|⟨i,k2,hi,hf,-⟩
    ·rw[hi];rw[show(c.vars.find? fun v=>decide (v.name=a.name))=none from hf]at I;have b5:r=2:=by
      have h9:C2 c a=2:=by unfold C2;rw[b1.out];exact I.symm
      rw[<-HR.out,e9.out (by rw[h9];omega),h9]
     subst b5;clear hi hf I;go_wp2;go_ret;exact⟨rfl,b2⟩
    rw[hi];rw[show(c.vars.find? fun v=>decide (v.name=a.name))=some c.vars[i]from hf]at I;dsimp only at I;have HE:=jK I;clear I hi hf;have r6:¬(i:Int)<0:=by omega
    have p8:(i:Int)<(c.vars.length:Int):=by omega
    obtain⟨kr,b9⟩:∃kr,kindOf c.vars [] a.expr=kr:=⟨_,rfl⟩;have I:=HE.out;rw[b9]at I;have e1:=fun w7 (h7:Below w6.heap.size w6 w7)=>GH c.vars [] a.expr _ _ (.slice none 0 0) w7 (o1.on Aw h7) (h6.on h7).vars (SD w7)
    rw[b9]at e1;obtain⟨k3,rfl,q0⟩:=l3 i k2;clear r1 r2 c0 c1 c2;cases kr with
    |err y=>
     have hy:=Fv b9;have r7:=Bc hy;have h9:C2 c a=y:=by unfold C2;rw[b1.out];exact I.symm
     have b5:r=y:=by rw[<-HR.out,e9.out (by rw[h9];exact hy),h9]
     subst b5;clear I b9 h9 HE hy;have e2:∀w7,Below w6.heap.size w6 w7->Calls prog 170 #[.slice uA a.expr.length uc,.slice (some k3) c.vars.length vc,.slice none 0 0] w7 fun e w'=>e=.returned (.tuple #[.int .i64 0,.int .i64 r])/\Below w7.heap.size w7 w':=e1
     clear e1;go_wp2;refine Aj.AF 13 [(7,.tuple #[.int .i64 0,.int .i64 r])] [(7,fun _ _=>True)] (fun w'=>Below w6.heap.size w6 w') (fun w w'=>Below w.heap.size w w') (by kernel_rfl) (by kernel_rfl) (by kernel_rfl) (by kernel_rfl) (fun _ _ d _ _ h=>by cases d<;>exact h) (aJ _ _).drew ?_;simp only[aM,aT]
     iterate 7 (refine Aj.Ad rfl rfl ?_ ?_ ?_;rotate_left;(focus(intro U hI _;obtain⟨J,_⟩:=Ae hI;have c8:=fun x=>hI.cell (p:=ad.add x) (add_lt R x);have c9:=fun x o=>hI.cell (p:=⟨(ad.add x).block,o,none⟩) (add_lt R x);go_simp;rfl)))
     refine Aj.Ah (a':=?_) ?_ ?_;rotate_left;(focus(simp only[Act.put,aB,aD,aC];rfl));refine Aj.AC (.tuple #[.int .i64 0,.int .i64 r]) rfl rfl (by kernel_rfl) (fun _ _ _ _ _=>trivial) (fun U hI _ K hK=>?_) ?_
     ·go_simp;(with_reducible refine(e2 U hI).mono ?_);rintro e w9⟨rfl,a1⟩;exact hK _ _ (by go_simp) trivial (hI.trans (a1.mono hI.size)) a1
     iterate 5 (refine Aj.Ad rfl rfl ?_ ?_ ?_;rotate_left;(focus(intro U hI _;obtain⟨J,_⟩:=Ae hI;have c8:=fun x=>hI.cell (p:=ad.add x) (add_lt R x);have c9:=fun x o=>hI.cell (p:=⟨(ad.add x).block,o,none⟩) (add_lt R x);go_simp;rfl)))
     refine Aj.Ah (a':=?_) ?_ ?_;rotate_left;(focus(simp only[Act.put,aB,aD,aC];rfl));refine Aj.Ak (fun w8 b6 _=>?_);simp only[aN,aS];have e3:=Ab b2 b6;go_wp2;go_ret;exact⟨rfl,e3⟩
    |ok kk=>
     have e2:∀w7,Below w6.heap.size w6 w7->Calls prog 170 #[.slice uA a.expr.length uc,.slice (some k3) c.vars.length vc,.slice none 0 0] w7 fun e w'=>e=.returned (.tuple #[.int .i64 kk,.int .i64 0])/\Below w7.heap.size w7 w':=e1
     clear e1;dsimp only at I;go_wp2;refine Aj.AF 13 [(7,.tuple #[.int .i64 kk,.int .i64 0])] [(7,fun _ _=>True)] (fun w'=>Below w6.heap.size w6 w') (fun w w'=>Below w.heap.size w w') (by kernel_rfl) (by kernel_rfl) (by kernel_rfl) (by kernel_rfl) (fun _ _ d _ _ h=>by cases d<;>exact h) (aJ _ _).drew ?_;simp only[aM,aT]
     iterate 7 (refine Aj.Ad rfl rfl ?_ ?_ ?_;rotate_left;(focus(intro U hI _;obtain⟨J,_⟩:=Ae hI;have c8:=fun x=>hI.cell (p:=ad.add x) (add_lt R x);have c9:=fun x o=>hI.cell (p:=⟨(ad.add x).block,o,none⟩) (add_lt R x);go_simp;rfl)))
     refine Aj.Ah (a':=?_) ?_ ?_;rotate_left;(focus(simp only[Act.put,aB,aD,aC];rfl));refine Aj.AC (.tuple #[.int .i64 kk,.int .i64 0]) rfl rfl (by kernel_rfl) (fun _ _ _ _ _=>trivial) (fun U hI _ K hK=>?_) ?_
     ·go_simp;(with_reducible refine(e2 U hI).mono ?_);rintro e w9⟨rfl,a1⟩;exact hK _ _ (by go_simp) trivial (hI.trans (a1.mono hI.size)) a1
     iterate 5 (refine Aj.Ad rfl rfl ?_ ?_ ?_;rotate_left;(focus(intro U hI _;obtain⟨J,_⟩:=Ae hI;have c8:=fun x=>hI.cell (p:=ad.add x) (add_lt R x);have c9:=fun x o=>hI.cell (p:=⟨(ad.add x).block,o,none⟩) (add_lt R x);go_simp;rfl)))
     refine Aj.Ah (a':=?_) ?_ ?_;rotate_left;(focus(simp only[Act.put,aB,aD,aC];rfl));refine Aj.Ak (fun w8 b6 _=>?_);simp only[aN,aS];have e3:=Ab b2 b6;have k4:=Ab (Ab hb a6) b6;obtain⟨k5,_⟩:=Ae b6;have t8:=(k5 _ 2 k0).trans t2;have s3:=aK k0 b6.size;clear k5;obtain⟨n0,n1,-⟩:=BK.at_ (h6.on b6).vars k2;by_cases c4:kk=c.vars[i].kind
     ·have j7:=Bj c4;rw[if_pos c4]at I;have h9:C2 c a=0:=by unfold C2;rw[b1.out];exact I.symm
      have H9:=jK (j8.out h9);clear h9 I c4 b9 HE;go_wp2;go_roundw
      case rel=>exact⟨k+1,by omega,by go_num,H9.out,k4⟩
      case measure=>simp[intOf];omega
     ·have j7:=Bc c4;rw[if_neg c4]at I;have b5:r=8:=by
       have h9:C2 c a=8:=by unfold C2;rw[b1.out];exact I.symm
       rw[<-HR.out,e9.out (by rw[h9];omega),h9]
      subst b5;clear I c4 b9 HE;go_wp2;go_ret;exact⟨rfl,e3⟩
   ·have z1:=Bc J;have I:=b1.out;rw[if_neg J]at I;have n5:=jK J;clear J;have c7:=fun U (h5:Below wr.heap.size wr U)=>G5 c.events _ a.name U (hW.on h5).events
    go_wp2;refine Aj.AF 8 [(7,.bool (E5 c.events a.name))] [(7,fun _ _=>True)] (fun w'=>Below wr.heap.size wr w') (fun w w'=>Below w.heap.size w w') (by kernel_rfl) (by kernel_rfl) (by kernel_rfl) (by kernel_rfl) (fun _ _ d _ _ h=>by cases d<;>exact h) (aJ _ _).drew ?_;simp only[aM,aT]
    iterate 7 (refine Aj.Ad rfl rfl ?_ ?_ ?_;rotate_left;(focus(intro U hI _;obtain⟨J,_⟩:=Ae hI;have c8:=fun x=>hI.cell (p:=ad.add x) (add_lt b8 x);have c9:=fun x o=>hI.cell (p:=⟨(ad.add x).block,o,none⟩) (add_lt b8 x);go_simp;rfl)))
    refine Aj.Ah (a':=?_) ?_ ?_;rotate_left;(focus(simp only[Act.put,aB,aD,aC];rfl));refine Aj.AC (.bool (E5 c.events a.name)) rfl rfl (by kernel_rfl) (fun _ _ _ _ _=>trivial) (fun U hI _ K hK=>?_) ?_
    ·go_simp;(with_reducible refine(c7 U hI).mono ?_);rintro e w6⟨rfl,e6⟩;have a1:Below U.heap.size U w6:=by rw[e6];exact aJ _ _
     exact hK _ _ (by go_simp) trivial (hI.trans (a1.mono hI.size)) a1
    refine Aj.Ah (a':=?_) ?_ ?_;rotate_left;(focus(simp only[Act.put,aB,aD,aC];rfl));refine Aj.Ak (fun w6 a6 _=>?_);simp only[aN,aS];have b2:=Ab c6 a6;have k6:=Ab hb a6;clear c7;obtain⟨y,hy⟩:∃y,E5 c.events a.name=y:=⟨_,rfl⟩;rw[hy]at I⊢;clear hy;cases y
    ·have b5:r=2:=by
      have h9:C2 c a=2:=by unfold C2;rw[b1.out];exact I.symm
      rw[<-HR.out,e9.out (by rw[h9];omega),h9]
     subst b5;clear I;go_wp2;go_ret;exact⟨rfl,b2⟩
    ·have h9:C2 c a=0:=by unfold C2;rw[b1.out];exact I.symm
     have H9:=jK (j8.out h9);clear h9 I;go_wp2;go_roundw
     case rel=>exact⟨k+1,by omega,by go_num,H9.out,k6⟩
     case measure=>simp[intOf];omega
  ·obtain rfl:k=l.length:=by omega
   have s4:¬(l.length:Int)<(l.length:Int):=by omega
   obtain rfl:r=0:=by rw[<-HR.out];exact FU fun j hj=>HA.out j hj hj
   go_wp2;go_ret;exact⟨rfl,Ab c5 hb⟩
end
section
open Go.RowKit Q Go.Lib
theorem LN {c:Q.Af} {A:Option Addr} {n cp:Nat} {w:World} (h:A6 w w.heap.size (.slice A n cp) c.Aa) (o:Tr.right c.Ar) (i j:Nat) (hi:i<n) (p:j<n) :
  Calls prog 171 #[.slice A n cp,.int .i64 (i:Int),.int .i64 (j:Int)] w fun e I=>e=.returned (.int .i64 (Tr.domain c.Ar i j))/\Below w.heap.size w I:=by
 have J:=I9 o;have R:=QE h;exact Oq w A n cp c.Ar (CE h) (by unfold maxLen;omega) (Tr.Fq o) i j hi p
def PV (c:Q.Af) (i:Nat) (t:Q.Trans):Prop:=t.FH<0\/(c.Aa.length:Int)<=t.FH\/(0<i/\t.FH<(c.trans[i-1]?.map fun u=>u.FH).getD 0)
instance (c:Q.Af) (i:Nat) (t:Q.Trans):Decidable (PV c i t):=by unfold PV;infer_instance
def evB (c:Q.Af) (e:ByteArray):Bool:=decide (e.size=0)||decide (e=BJ)||E5 c.events e
def X3 (e:ByteArray) (s:Q.State):Bool:=(decide (s.kind=2)||decide (s.kind=3))&&decide (e.data.toList=DE++s.name.data.toList)
theorem ZD (e n:ByteArray):decide (e.data.toList=DE++n.data.toList)=decide (e=(⟨#[100,111,110,101,46]⟩:ByteArray)++n):=by
 rw[cH,aP,aP];constructor
 ·intro h;apply gO;rw[ByteArray.data_append];apply fT;rw[h];simp[DE]
 ·intro h;rw[h,ByteArray.data_append];simp[DE]
theorem YK {α:Type} (l:List α) (f:α->Bool) {k:Nat} (j:k<l.length):(l.take (k+1)).any f=((l.take k).any f||f l[k]):=by
 rw[bM j,List.any_append];simp
theorem Z7 (a b d:Int) (h:a≠0):Av [a,b,d]=a:=by unfold Av;rw[if_neg h]
theorem Zm (b d:Int):Av [0,b,d]=Av [b,d]:=by rw[Av,if_pos rfl]
theorem JA (b d:Int) (h:b≠0):Av [b,d]=b:=by unfold Av;rw[if_neg h]
theorem JG (d:Int):Av [0,d]=d:=by unfold Av;rw[if_pos rfl];unfold Av;split;(rename_i j;rw[j];rfl);rfl
theorem PF (c:Q.Af) (nm:ByteArray) (ev vv sv tv:Value) (w:World) (h:AQ w w.heap.size ev vv sv tv c) (f:Fit c) (hr:Tr.right c.Ar) (w4:∀s∈c.Aa,s.name.size<=12) (i:Nat) (hi:i<c.trans.length) (aj:c.trans.length<=1000000) :
  Calls prog 75 #[BZ nm ev vv sv tv,.int .i64 (i:Int)] w fun e R=>e=.returned (.int .i64 (CR c i c.trans[i]))/\Below w.heap.size w R:=by
 obtain⟨EA,ec,rfl,ak,al⟩:=h.events.form;obtain⟨SA,sc,rfl,an,F3⟩:=h.Aa.form;obtain⟨TA,tc,rfl,ao,F5⟩:=h.trans.form;obtain⟨VA,w7,rfl,ap,aq⟩:=h.vars.form;obtain⟨c8,rfl,V5⟩:=F5 i hi;have ar:=I9 hr;have F7:0<c.Aa.length:=by
  have:=hr.1.2.2.1
  rwa[AI]at this
 obtain⟨a6,rfl,V6⟩:=F3 0 F7;obtain⟨W0,e0⟩:∃W0,w.alloc (.cells #[.string nm,.slice EA c.events.length ec,.slice VA c.vars.length w7,.slice (some a6) c.Aa.length sc,.slice (some c8) c.trans.length tc] 27)=W0:=⟨_,rfl⟩;obtain⟨l1,s0,h0,p0,p1,p2,p3,p4⟩:=Bl h e0;obtain⟨uA,uc,vA,vc,c0,c1,c2,c3,c4,hu,hv⟩:=JM h0.trans hi;have w8:=f.ZcK _ (bK hi);have x5:=f.Zc0 _ (bK hi);obtain⟨r,r3⟩:∃r,CR c i c.trans[i]=r:=⟨_,rfl⟩;rw[r3];generalize c.trans[i]=t at *;obtain⟨W,e1⟩:∃W,W0.alloc (.cells #[.int .i64 t.FH,.string t.BM,.slice uA t.guard.length uc,.string t.to,.slice vA t.Ey.length vc] 51)=W:=⟨_,rfl⟩;obtain⟨l2,s1,q0,q1,q2,q3,q4⟩:=Pn e1;rw[s0]at q0 q1 q2 q3 q4 s1;have h1:=h0.on l2;have r4:=Ab l1 l2;obtain⟨k5,x6⟩:=Ae l2;rw[s0]at k5 x6;have g0:W.cell? ⟨w.heap.size,0,none⟩=some (.string nm):=by rw[k5 _ _ (by omega)];exact p0
 have g1:W.cell? ⟨w.heap.size,1,none⟩=some (.slice EA c.events.length ec):=by rw[k5 _ _ (by omega)];exact p1
 have g2:W.cell? ⟨w.heap.size,2,none⟩=some (.slice VA c.vars.length w7):=by rw[k5 _ _ (by omega)];exact p2
 have g3:W.cell? ⟨w.heap.size,3,none⟩=some (.slice (some a6) c.Aa.length sc):=by rw[k5 _ _ (by omega)];exact p3
 have g4:W.cell? ⟨w.heap.size,4,none⟩=some (.slice (some c8) c.trans.length tc):=by rw[k5 _ _ (by omega)];exact p4
 have x7:=hu.on Aw l2;have x8:=hv.on Ax l2;have az:(i:Int)<(c.trans.length:Int):=by omega
 have h6:∀x,(c8.add x).block<W.heap.size:=fun x=>by rw[Bz];have:=r4.size;omega
 have e9:∀x,(a6.add x).block<W.heap.size:=fun x=>by rw[Bz];have:=r4.size;omega
 have HR:=jK r3;clear r3 k5 x6 l2 p0 p1 p2 p3 hu hv;go_enter func75,ntmps75;go_upto_region 2 with(fail)
 clear e0 e1 c0 c1 c2 c3 c4 p4 l1 h0;have l8:w.heap.size+1<W.heap.size:=by omega
 have j1:w.heap.size<W.heap.size:=by omega
 obtain⟨fr,r5⟩:∃fr,t.FH=fr:=⟨_,rfl⟩;rw[r5]at q0;have c5:=jK r5;have H3:=jK x7;have H4:=jK x8;have H1:=jK h1;have p6:=jK x5;have H5:=jK w4;clear r5 w8 x7 x8 x5 w4
 go_cut [42]from 16 (fun v wx=>∃b:Bool,v=.bool b/\(b=true↔PV c i t)/\Below W.heap.size W wx)
 case first=>
  by_cases a1:fr<0
  ·have HB:=jK (show PV c i t from .inl (by rw[c5.out];exact a1));refine Aj.AM 27 [] (fun R=>Below W.heap.size W R) (fun w R=>Below w.heap.size w R) (by kernel_rfl) (by kernel_rfl) (by kernel_rfl) (by kernel_rfl) (fun _ _ d _ _ h=>by cases d<;>exact h) (aJ _ _).drew ?_;simp only[aM,aT]
   iterate 4 (refine Aj.Ad rfl rfl ?_ ?_ ?_;rotate_left;(focus(intro w1 hI _;obtain⟨b4,_⟩:=Ae hI;have b1:=fun x=>hI.cell (p:=c8.add x) (h6 x);have c6:=fun x o=>hI.cell (p:=⟨(a6.add x).block,o,none⟩) (e9 x);go_simp;rfl)))
   iterate 6 (refine Aj.Bb rfl (by kernel_rfl) ?_)
   iterate 2 (refine Aj.Ad rfl rfl ?_ ?_ ?_;rotate_left;(focus(intro w1 hI _;obtain⟨b4,_⟩:=Ae hI;have b1:=fun x=>hI.cell (p:=c8.add x) (h6 x);have c6:=fun x o=>hI.cell (p:=⟨(a6.add x).block,o,none⟩) (e9 x);go_simp;rfl)))
   iterate 14 (refine Aj.Bb rfl (by kernel_rfl) ?_)
   (refine Aj.Ad rfl rfl ?_ ?_ ?_;rotate_left;(focus(intro w1 hI _;obtain⟨b4,_⟩:=Ae hI;have b1:=fun x=>hI.cell (p:=c8.add x) (h6 x);have c6:=fun x o=>hI.cell (p:=⟨(a6.add x).block,o,none⟩) (e9 x);go_simp;rfl)))
   refine Aj.Ah (a':=?_) ?_ ?_;rotate_left;(focus(simp only[Act.put,aB,aD,aC];rfl));refine Aj.Ak (fun w6 b8 _=>?_);simp only[aN,aS];go_wp2;go_meet
   case rel=>exact⟨true,rfl,⟨fun _=>HB.out,fun _=>rfl⟩,b8⟩
  by_cases a2:(c.Aa.length:Int)<=fr
  ·have HB:=jK (show PV c i t from .inr (.inl (by rw[c5.out];exact a2)));refine Aj.AM 27 [] (fun R=>Below W.heap.size W R) (fun w R=>Below w.heap.size w R) (by kernel_rfl) (by kernel_rfl) (by kernel_rfl) (by kernel_rfl) (fun _ _ d _ _ h=>by cases d<;>exact h) (aJ _ _).drew ?_;simp only[aM,aT]
   iterate 12 ((first|refine Aj.Ad rfl rfl ?_ ?_ ?_|refine Aj.Aq rfl (by kernel_rfl) ?_ ?_ ?_);rotate_left;(focus(intro w1 hI _;obtain⟨b4,_⟩:=Ae hI;have b1:=fun x=>hI.cell (p:=c8.add x) (h6 x);have c6:=fun x o=>hI.cell (p:=⟨(a6.add x).block,o,none⟩) (e9 x);go_simp;rfl)))
   iterate 14 (refine Aj.Bb rfl (by kernel_rfl) ?_)
   (refine Aj.Ad rfl rfl ?_ ?_ ?_;rotate_left;(focus(intro w1 hI _;obtain⟨b4,_⟩:=Ae hI;have b1:=fun x=>hI.cell (p:=c8.add x) (h6 x);have c6:=fun x o=>hI.cell (p:=⟨(a6.add x).block,o,none⟩) (e9 x);go_simp;rfl)))
   refine Aj.Ah (a':=?_) ?_ ?_;rotate_left;(focus(simp only[Act.put,aB,aD,aC];rfl));refine Aj.Ak (fun w6 b8 _=>?_);simp only[aN,aS];go_wp2;go_meet
   case rel=>exact⟨true,rfl,⟨fun _=>HB.out,fun _=>rfl⟩,b8⟩
  obtain⟨fn,rfl⟩:∃fn:Nat,fr=(fn:Int):=⟨fr.toNat,by omega⟩;have l6:fn<c.Aa.length:=by omega
  have aA:¬(fn:Int)<0:=a1;have aE:decide (c.Aa.length<=fn)=false:=aF (by omega);have H7:(fn:Int)<(c.Aa.length:Int):=by omega
  clear a1 a2;by_cases y6:i=0
  ·have H8:¬(0:Int)<(i:Int):=by omega
   have l9:¬PV c i t:=fun h9=>by
    rcases h9 with h9|h9|h9
    ·rw[c5.out]at h9;omega
    ·rw[c5.out]at h9;omega
    ·omega
   have r6:=jK l9;have H9:decide (0<i)=false:=aF (by omega);clear l9 y6;refine Aj.AM 27 [] (fun R=>Below W.heap.size W R) (fun w R=>Below w.heap.size w R) (by kernel_rfl) (by kernel_rfl) (by kernel_rfl) (by kernel_rfl) (fun _ _ d _ _ h=>by cases d<;>exact h) (aJ _ _).drew ?_;simp only[aM,aT]
   iterate 15 ((first|refine Aj.Ad rfl rfl ?_ ?_ ?_|refine Aj.Aq rfl (by kernel_rfl) ?_ ?_ ?_);rotate_left;(focus(intro w1 hI _;obtain⟨b4,_⟩:=Ae hI;have b1:=fun x=>hI.cell (p:=c8.add x) (h6 x);have c6:=fun x o=>hI.cell (p:=⟨(a6.add x).block,o,none⟩) (e9 x);go_simp;rfl)))
   iterate 10 (refine Aj.Bb rfl (by kernel_rfl) ?_)
   iterate 2 ((first|refine Aj.Ad rfl rfl ?_ ?_ ?_|refine Aj.Aq rfl (by kernel_rfl) ?_ ?_ ?_);rotate_left;(focus(intro w1 hI _;obtain⟨b4,_⟩:=Ae hI;have b1:=fun x=>hI.cell (p:=c8.add x) (h6 x);have c6:=fun x o=>hI.cell (p:=⟨(a6.add x).block,o,none⟩) (e9 x);go_simp;rfl)))
   refine Aj.Ah (a':=?_) ?_ ?_;rotate_left;(focus(simp only[Act.put,aB,aD,aC];rfl));refine Aj.Ak (fun w6 b8 _=>?_);simp only[aN,aS];go_wp2;go_meet
   case rel=>exact⟨false,rfl,⟨fun h=>(by cases h),fun h=>absurd h r6.out⟩,b8⟩
  obtain⟨j,y7⟩:∃j,i=j+1:=⟨i-1,by omega⟩;have H8:(0:Int)<(i:Int):=by omega
  have H9:decide (0<i)=true:=aH (by omega);have y8:j<c.trans.length:=by omega
  have ba:(j:Int)<(c.trans.length:Int):=by omega
  have L0:IntKind.i64.wrap ((i:Int)-1)=(j:Int):=by rw[cM _ (by omega)];omega
  obtain⟨_,_,_,_,m0,-⟩:=JM h1.trans y8;have n0:(c.trans[i-1]?.map fun u=>u.FH).getD 0=c.trans[j].FH:=by
   rw[show i-1=j by omega,aQ y8];rfl
  have y9:=jK n0;have bb:=jK y7;clear n0 y7;obtain⟨pf,r7⟩:∃pf,c.trans[j].FH=pf:=⟨_,rfl⟩;rw[r7]at m0;have z6:=jK r7;clear r7 y6;by_cases a3:(fn:Int)<pf
  ·have HB:=jK (show PV c i t from .inr (.inr ⟨by omega,by rw[y9.out,z6.out,c5.out];exact a3⟩));refine Aj.AM 27 [] (fun R=>Below W.heap.size W R) (fun w R=>Below w.heap.size w R) (by kernel_rfl) (by kernel_rfl) (by kernel_rfl) (by kernel_rfl) (fun _ _ d _ _ h=>by cases d<;>exact h) (aJ _ _).drew ?_;simp only[aM,aT]
   iterate 27 ((first|refine Aj.Ad rfl rfl ?_ ?_ ?_|refine Aj.Aq rfl (by kernel_rfl) ?_ ?_ ?_);rotate_left;(focus(intro w1 hI _;obtain⟨b4,_⟩:=Ae hI;have b1:=fun x=>hI.cell (p:=c8.add x) (h6 x);have c6:=fun x o=>hI.cell (p:=⟨(a6.add x).block,o,none⟩) (e9 x);go_simp;rfl)))
   refine Aj.Ah (a':=?_) ?_ ?_;rotate_left;(focus(simp only[Act.put,aB,aD,aC];rfl));refine Aj.Ak (fun w6 b8 _=>?_);simp only[aN,aS];go_wp2;go_meet
   case rel=>exact⟨true,rfl,⟨fun _=>HB.out,fun _=>rfl⟩,b8⟩
  have l9:¬PV c i t:=fun h9=>by
   rcases h9 with h9|h9|h9
   ·rw[c5.out]at h9;omega
   ·rw[c5.out]at h9;omega
   ·have h8:=h9.2;rw[y9.out,z6.out,c5.out]at h8;exact a3 h8
  have r6:=jK l9;clear l9;refine Aj.AM 27 [] (fun R=>Below W.heap.size W R) (fun w R=>Below w.heap.size w R) (by kernel_rfl) (by kernel_rfl) (by kernel_rfl) (by kernel_rfl) (fun _ _ d _ _ h=>by cases d<;>exact h) (aJ _ _).drew ?_;simp only[aM,aT]
  iterate 27 ((first|refine Aj.Ad rfl rfl ?_ ?_ ?_|refine Aj.Aq rfl (by kernel_rfl) ?_ ?_ ?_);rotate_left;(focus(intro w1 hI _;obtain⟨b4,_⟩:=Ae hI;have b1:=fun x=>hI.cell (p:=c8.add x) (h6 x);have c6:=fun x o=>hI.cell (p:=⟨(a6.add x).block,o,none⟩) (e9 x);go_simp;rfl)))
  refine Aj.Ah (a':=?_) ?_ ?_;rotate_left;(focus(simp only[Act.put,aB,aD,aC];rfl));refine Aj.Ak (fun w6 b8 _=>?_);simp only[aN,aS];go_wp2;go_meet
  case rel=>exact⟨false,rfl,⟨fun h=>(by cases h),fun h=>absurd h r6.out⟩,b8⟩
 case rest=>
  obtain⟨b,rfl,hb,hI⟩:=hcut;have k6:=jK hb;clear hb;have r8:=Ab r4 hI;cases b with
  |true=>
   have J:r=1:=by
    rw[<-HR.out];refine DQ ?_;rcases k6.out.1 rfl with h9|h9|h9
    ·exact .inl h9
    ·exact .inr (.inl h9)
    ·exact .inr (.inr (.inl h9))
   subst J;clear HR;go_wp2;go_ret;exact⟨rfl,r8⟩
  |false=>
  have p7:¬PV c i t:=fun h9=>by have:=k6.out.2 h9;cases this
  have R1:∃fn:Nat,fr=(fn:Int)/\fn<c.Aa.length:=by
   have h8:¬fr<0:=fun h=>p7 (.inl (by rw[c5.out];exact h))
   have h9:¬(c.Aa.length:Int)<=fr:=fun h=>p7 (.inr (.inl (by rw[c5.out];exact h)))
   exact⟨fr.toNat,by omega,by omega⟩
  obtain⟨fn,rfl,l6⟩:=R1;have r9:=jK p7;clear p7 k6;have H7:(fn:Int)<(c.Aa.length:Int):=by omega
  have bc:(0:Int)<=(fn:Int):=by omega
  obtain⟨a7,s3⟩:=Ae hI;have t0:=(a7 _ 0 j1).trans g0;have t4:=(a7 _ 4 j1).trans g4;have t1:=(a7 _ 1 j1).trans g1;have t2:=(a7 _ 2 j1).trans g2;have t3:=(a7 _ 3 j1).trans g3;have u0:=(a7 _ 0 l8).trans q0;have u1:=(a7 _ 1 l8).trans q1;have u2:=(a7 _ 2 l8).trans q2;have u3:=(a7 _ 3 l8).trans q3;have u4:=(a7 _ 4 l8).trans q4;have p8:=H1.out.on hI;obtain⟨_,_,_,_,-,d1,-⟩:=A5 p8.Aa l6;rw[<-Cb c l6]at d1;have z8:Tr.kd c.Ar t.FH.toNat=Tr.kd c.Ar fn:=by rw[c5.out,bI]
  have h2:=(Tr.NB.dp (Tr.Fq hr) (i:=fn) (by rw[AI];exact l6)).2.2;have A0:=jK z8;clear z8 a7 s3;obtain⟨kd,n1⟩:∃kd,Tr.kd c.Ar fn=kd:=⟨_,rfl⟩;rw[n1]at d1 h2;have n2:=jK n1;clear n1;have bd:=hI.size;have j2:w.heap.size+1<wc.heap.size:=by omega
  have e2:w.heap.size<wc.heap.size:=by omega
  go_upto_region 4 with(fail)
  go_cut [70]from 43 (fun v wx=>∃b:Bool,v=.bool b/\(b=true↔3<kd)/\wc=wx)
  case first=>
   by_cases k1:kd=1
   ·have z1:=Bj k1;have HK:=jK k1;clear k1;go_wp2;go_meet
    case rel=>exact⟨false,rfl,⟨fun h=>(by cases h),fun h=>by have:=HK.out;omega⟩,rfl⟩
   have z1:=Bc k1;by_cases k2:kd=2
   ·have z2:=Bj k2;have HK:=jK k2;clear k2 k1;go_wp2;go_meet
    case rel=>exact⟨false,rfl,⟨fun h=>(by cases h),fun h=>by have:=HK.out;omega⟩,rfl⟩
   have z2:=Bc k2;by_cases k3:kd=3
   ·have z3:=Bj k3;have HK:=jK k3;clear k3 k2 k1;go_wp2;go_meet
    case rel=>exact⟨false,rfl,⟨fun h=>(by cases h),fun h=>by have:=HK.out;omega⟩,rfl⟩
   have z3:=Bc k3;have HK:=jK (show 3<kd by omega);clear k1 k2 k3 h2;go_wp2;go_meet
   case rel=>exact⟨true,rfl,⟨fun _=>HK.out,fun _=>rfl⟩,rfl⟩
  case rest=>
  obtain⟨b,rfl,hb,s5⟩:=hcut;subst s5;have k6:=jK hb;clear hb;cases b with
  |true=>
   have J:r=1:=by
    rw[<-HR.out];refine DQ (.inr (.inr (.inr ?_)));rw[A0.out,n2.out];exact k6.out.1 rfl
   subst J;clear HR;go_wp2;go_ret;exact⟨rfl,r8⟩
  |false=>
  have n3:¬M4 c i t:=by
   rintro(h9|h9|h9|h9)
   ·exact r9.out (.inl h9)
   ·exact r9.out (.inr (.inl h9))
   ·exact r9.out (.inr (.inr h9))
   ·rw[A0.out,n2.out]at h9;have:=k6.out.2 h9;cases this
  have J:=HR.out.symm.trans (If n3);clear HR n3 k6;have HR:=jK J;clear J;have A1:=G5 c.events (.slice EA c.events.length ec) t.BM _ p8.events;have e3:=EO t.BM BJ;rw[show BJ.toList=[101,114,114,111,114]by rw[Dl];rfl]at e3;go_upto_region 6 with(fail)
  go_cut [6]from 71 (fun v wx=>v=.bool (evB c t.BM)/\wc=wx)
  case first=>
   by_cases k1:t.BM.size=0
   ·have z1:=Be (show((t.BM.size:Nat):Int)=0 by omega);have HK:=jK (show Value.bool true=.bool (evB c t.BM)by unfold evB;rw[aH k1];rfl);clear e3;go_wp2;go_meet
    case rel=>exact⟨HK.out,rfl⟩
   have z1:=Bg (show((t.BM.size:Nat):Int)≠0 by omega);by_cases k2:t.BM=BJ
   ·rw[aH k2]at e3;have HK:=jK (show Value.bool true=.bool (evB c t.BM)by unfold evB;rw[aH k2,iS];rfl);clear k2;go_wp2;go_meet
    case rel=>exact⟨HK.out,rfl⟩
   rw[aF k2]at e3;have HK:=jK (show Value.bool (E5 c.events t.BM)=.bool (evB c t.BM)by unfold evB;rw[aF k1,aF k2];rfl);clear k2;go_wp2_with fail;(with_reducible refine A1.mono ?_);rintro e R⟨rfl,rfl⟩;go_wp2;go_meet
   case rel=>exact⟨HK.out,rfl⟩
  case rest=>
  obtain⟨rfl,s5⟩:=hcut;subst s5;clear e3 A1;obtain⟨b0,l1⟩:∃b0,evB c t.BM=b0:=⟨_,rfl⟩;rw[l1];have A3:=jK l1;clear l1;clear g0 g1 g2 g3 g4 q0 q1 q2 q3 q4 d1 h2 n2;have be:=jK p8;go_wp2_with fail
  go_loopw [7,6] (fun u kv wr=>∃k:Nat,k<=c.Aa.length/\u=.int .i64 (k:Int)/\kv=.bool (b0||(c.Aa.take k).any (X3 t.BM))/\Below wc.heap.size wc wr) (fun u _ _=>c.Aa.length-(intOf u).toNat)
  case atStart=>exact⟨0,by omega,rfl,by simp,aJ _ _⟩
  case round=>
   obtain⟨k,hk,rfl,rfl,h7⟩:=hrel;obtain⟨a7,s3⟩:=Ae h7;have r0:=(a7 _ 0 e2).trans t0;have r1:=(a7 _ 4 e2).trans t4;have v1:=(a7 _ 1 e2).trans t1;have v2:=(a7 _ 2 e2).trans t2;have v3:=(a7 _ 3 e2).trans t3;have x0:=(a7 _ 0 j2).trans u0;have x1:=(a7 _ 1 j2).trans u1;have x2:=(a7 _ 2 j2).trans u2;have x3:=(a7 _ 3 j2).trans u3;have x4:=(a7 _ 4 j2).trans u4;have bg:=h7.size;have h5:w.heap.size+1<wr.heap.size:=by omega
   have b2:w.heap.size<wr.heap.size:=by omega
   have h4:∀x,(a6.add x).block<wr.heap.size:=fun x=>by have:=e9 x;omega
   have p9:=p8.on h7;clear a7 s3;by_cases s6:k<c.Aa.length
   ·have q5:(k:Int)<(c.Aa.length:Int):=by omega
    obtain⟨_,_,_,_,d0,d1,-⟩:=A5 p9.Aa s6;have bh:=H5.out _ (bK s6);have HT:=jK (YK c.Aa (X3 t.BM) s6);have HE:=jK (show X3 t.BM c.Aa[k]=((decide (c.Aa[k].kind=2)||decide (c.Aa[k].kind=3))&&decide (t.BM=(⟨#[100,111,110,101,46]⟩:ByteArray)++c.Aa[k].name))by unfold X3;rw[ZD]);have W8:¬(9223372036854775807:Int)<((5+c.Aa[k].name.size:Nat):Int):=by omega
    have W9:((5+c.Aa[k].name.size:Nat):Int)<=(9223372036854775807:Int):=by omega
    have aa:(5:Int)+(c.Aa[k].name.size:Int)<=(9223372036854775807:Int):=by omega
    have ab:¬9223372036854775807<5+c.Aa[k].name.size:=by omega
    have R2:=EO t.BM ((⟨#[100,111,110,101,46]⟩:ByteArray)++c.Aa[k].name);generalize X3 t.BM c.Aa[k]=ex at *;generalize c.Aa[k].name=sn at *;generalize c.Aa[k].kind=sk at *;obtain⟨y,hy⟩:∃y,decide (t.BM=(⟨#[100,111,110,101,46]⟩:ByteArray)++sn)=y:=⟨_,rfl⟩;rw[hy]at R2;have hE:=HE.out;rw[hy]at hE;clear HE hy;have HE:=jK hE;clear hE p9;generalize (c.Aa.take k).any (X3 t.BM)=a0 at *;by_cases k2:sk=2
    ·have z2:=Be k2;have HY:=jK (show(c.Aa.take (k+1)).any (X3 t.BM)=(a0||y)by rw[HT.out,HE.out,aH k2];simp);clear k2 HT HE;go_upto_region 10 with(fail)
     refine Aj.AM 28 [] (fun R=>Below wr.heap.size wr R) (fun w R=>Below w.heap.size w R) (by kernel_rfl) (by kernel_rfl) (by kernel_rfl) (by kernel_rfl) (fun _ _ d _ _ h=>by cases d<;>exact h) (aJ _ _).drew ?_;simp only[aM,aT]
     iterate 8 (refine Aj.Ad rfl rfl ?_ ?_ ?_;rotate_left;(focus(intro w1 hI _;obtain⟨b4,_⟩:=Ae hI;have b1:=fun x=>hI.cell (p:=a6.add x) (h4 x);have c6:=fun x o=>hI.cell (p:=⟨(a6.add x).block,o,none⟩) (h4 x);go_simp;rfl)))
     iterate 7 (refine Aj.Bb rfl (by kernel_rfl) ?_)
     iterate 13 ((first|refine Aj.Ad rfl rfl ?_ ?_ ?_|refine Aj.Aq rfl (by kernel_rfl) ?_ ?_ ?_);rotate_left;(focus(intro w1 hI _;obtain⟨b4,_⟩:=Ae hI;have b1:=fun x=>hI.cell (p:=a6.add x) (h4 x);have c6:=fun x o=>hI.cell (p:=⟨(a6.add x).block,o,none⟩) (h4 x);go_simp;rfl)))
     refine Aj.Ah (a':=?_) ?_ ?_;rotate_left;(focus(simp only[Act.put,aB,aD,aC];rfl));refine Aj.Ak (fun w6 b8 _=>?_);simp only[aN,aS];have U:=Ab h7 b8;cases y
     ·go_wp2;go_roundw
      case rel=>exact⟨k+1,by omega,by go_num,by rw[HY.out,Bool.or_false],U⟩
      case measure=>simp[intOf];omega
     ·go_wp2;go_roundw
      case rel=>exact⟨k+1,by omega,by go_num,by rw[HY.out,iS,iS],U⟩
      case measure=>simp[intOf];omega
    have z2:=Bg k2;by_cases k3:sk=3
    ·have z3:=Be k3;have HY:=jK (show(c.Aa.take (k+1)).any (X3 t.BM)=(a0||y)by rw[HT.out,HE.out,aH k3];simp);clear k3 k2 HT HE;go_upto_region 10 with(fail)
     refine Aj.AM 28 [] (fun R=>Below wr.heap.size wr R) (fun w R=>Below w.heap.size w R) (by kernel_rfl) (by kernel_rfl) (by kernel_rfl) (by kernel_rfl) (fun _ _ d _ _ h=>by cases d<;>exact h) (aJ _ _).drew ?_;simp only[aM,aT]
     iterate 28 ((first|refine Aj.Ad rfl rfl ?_ ?_ ?_|refine Aj.Aq rfl (by kernel_rfl) ?_ ?_ ?_);rotate_left;(focus(intro w1 hI _;obtain⟨b4,_⟩:=Ae hI;have b1:=fun x=>hI.cell (p:=a6.add x) (h4 x);have c6:=fun x o=>hI.cell (p:=⟨(a6.add x).block,o,none⟩) (h4 x);go_simp;rfl)))
     refine Aj.Ah (a':=?_) ?_ ?_;rotate_left;(focus(simp only[Act.put,aB,aD,aC];rfl));refine Aj.Ak (fun w6 b8 _=>?_);simp only[aN,aS];have U:=Ab h7 b8;cases y
     ·go_wp2;go_roundw
      case rel=>exact⟨k+1,by omega,by go_num,by rw[HY.out,Bool.or_false],U⟩
      case measure=>simp[intOf];omega
     ·go_wp2;go_roundw
      case rel=>exact⟨k+1,by omega,by go_num,by rw[HY.out,iS,iS],U⟩
      case measure=>simp[intOf];omega
    have z3:=Bg k3;have HY:=jK (show(c.Aa.take (k+1)).any (X3 t.BM)=a0 by rw[HT.out,HE.out,aF k2,aF k3];simp);clear k3 k2 HT HE;go_upto_region 10 with(fail)
    refine Aj.AM 28 [] (fun R=>Below wr.heap.size wr R) (fun w R=>Below w.heap.size w R) (by kernel_rfl) (by kernel_rfl) (by kernel_rfl) (by kernel_rfl) (fun _ _ d _ _ h=>by cases d<;>exact h) (aJ _ _).drew ?_;simp only[aM,aT]
    iterate 17 ((first|refine Aj.Ad rfl rfl ?_ ?_ ?_|refine Aj.Aq rfl (by kernel_rfl) ?_ ?_ ?_);rotate_left;(focus(intro w1 hI _;obtain⟨b4,_⟩:=Ae hI;have b1:=fun x=>hI.cell (p:=a6.add x) (h4 x);have c6:=fun x o=>hI.cell (p:=⟨(a6.add x).block,o,none⟩) (h4 x);go_simp;rfl)))
    iterate 10 (refine Aj.Bb rfl (by kernel_rfl) ?_)
    (refine Aj.Ad rfl rfl ?_ ?_ ?_;rotate_left;(focus(intro w1 hI _;obtain⟨b4,_⟩:=Ae hI;have b1:=fun x=>hI.cell (p:=a6.add x) (h4 x);have c6:=fun x o=>hI.cell (p:=⟨(a6.add x).block,o,none⟩) (h4 x);go_simp;rfl)))
    refine Aj.Ah (a':=?_) ?_ ?_;rotate_left;(focus(simp only[Act.put,aB,aD,aC];rfl));refine Aj.Ak (fun w6 b8 _=>?_);simp only[aN,aS];have U:=Ab h7 b8;go_wp2;go_roundw
    case rel=>exact⟨k+1,by omega,by go_num,by rw[HY.out],U⟩
    case measure=>simp[intOf];omega
   ·obtain rfl:k=c.Aa.length:=by omega
    have bj:¬(c.Aa.length:Int)<(c.Aa.length:Int):=by omega
    rw[bT];have A4:FV c t.BM=(b0||c.Aa.any (X3 t.BM)):=by
     rw[<-A3.out];rfl
    have J:=HR.out;unfold Go.Proofs.YthbihnpoghlfaaaGreatDoor.VZ at J;rw[A4]at J;clear HR A4;have n5:Below w.heap.size w wr:=Ab r8 h7;obtain⟨x,hx⟩:∃x,(b0||c.Aa.any (X3 t.BM))=x:=⟨_,rfl⟩;rw[hx]at J⊢;clear hx A3;have hU:=(H3.out.on Aw hI).on Aw h7;have hV:=(H4.out.on Ax hI).on Ax h7;cases x
    ·rw[if_pos rfl]at J;subst J;go_wp2;go_ret;exact⟨rfl,n5⟩
    rw[if_neg Bool.noConfusion]at J;have HR:=jK J;clear J;have j3:=jK p9;have s9:=jK hU;have A8:=jK hV;have q8:=jK n5;clear p9 hU hV n5;have v0:=r0;have v4:=r1;clear r0 r1;rcases(iR (t.guard.length=0)).symm with hg|hg
    ·have R5:(0:Int)<(t.guard.length:Int):=by omega
     obtain⟨kr,h2⟩:∃kr,kindOf c.vars (BN c) t.guard=kr:=⟨_,rfl⟩;have J:=HR.out;unfold Hr at J;rw[if_neg hg,h2]at J;clear HR hg;have R7:(∃y,kr=.err y)\/∃kk,kr=.ok kk:=by cases kr with|err y=>exact .inl ⟨y,rfl⟩|ok k=>exact .inr ⟨k,rfl⟩
     rcases R7 with⟨y,rfl⟩|⟨kk,rfl⟩
     ·have hy:=Fv h2;have bk:=Bc hy;dsimp only at J;rw[Z7 _ _ _ hy]at J;have q9:=jK (show Cu (kindOf c.vars (BN c) t.guard)=.tuple #[.int .i64 0,.int .i64 y]by rw[h2];rfl);clear h2 hy;subst J;go_upto_region 15 with(fail)
      refine Aj.AF 12 [(6,.tuple #[.int .i64 0,.int .i64 r])] [(5,fun v R=>AE R R.heap.size v (BN c)),(6,fun _ _=>True)] (fun R=>Below wr.heap.size wr R) (fun w R=>Below w.heap.size w R) (by kernel_rfl) (by kernel_rfl) (by kernel_rfl) (by kernel_rfl) (fun _ _ d _ _ h=>by cases d<;>exact h) (aJ _ _).drew ?_;simp only[aM,aT]
      iterate 5 (refine Aj.Ad rfl rfl ?_ ?_ ?_;rotate_left;(focus(intro w5 hI _;have b4:=(Ae hI).1;go_simp;rfl)))
      refine Aj.Ah (a':=?_) ?_ ?_;rotate_left;(focus(simp only[Act.put,aB,aD,aC];rfl));refine Aj.Bh rfl (by kernel_rfl) (fun v wa wb hs hE=>AE.on hE hs) (fun w5 hI _ K hK=>?_) (fun v5=>?_)
      ·have n9:=Ec c nm _ _ _ _ false w5 (j3.out.on hI) (by omega);have HK:=jK hK;have b5:=jK hI;clear hI hK;go_simp;refine n9.mono ?_;rintro e w6⟨V,rfl,U,ho⟩;exact HK.out V _ _ (by go_simp) (AE.BL ho (by have h8:=G3 c.Aa false c.Aa.length;rw[bT]at h8;exact aV (show(BN c).length<=c.Aa.length from h8) (by omega))) (b5.out.trans (U.mono b5.out.size)) U
      refine Aj.AC (.tuple #[.int .i64 0,.int .i64 r]) rfl rfl (by kernel_rfl) (fun _ _ _ _ _=>trivial) (fun w5 hI hF K hK=>?_) ?_
      ·have j6:AE w5 w5.heap.size v5 (BN c):=hF _ (aR ..) (by kernel_rfl);have j7:=GH c.vars (BN c) t.guard _ _ v5 w5 (s9.out.on Aw hI) (j3.out.on hI).vars j6;rw[q9.out]at j7;have HK:=jK hK;have b5:=jK hI;clear hI hK hF j6;go_simp;refine j7.mono ?_;rintro e w6⟨rfl,U⟩;exact HK.out _ _ (by go_simp) trivial (b5.out.trans (U.mono b5.out.size)) U
      iterate 5 (refine Aj.Ad rfl rfl ?_ ?_ ?_;rotate_left;(focus(intro w5 hI _;have b4:=(Ae hI).1;go_simp;rfl)))
      refine Aj.Ah (a':=?_) ?_ ?_;rotate_left;(focus(simp only[Act.put,aB,aD,aC];rfl));refine Aj.Ak (fun wz e5 _=>?_);simp only[aN,aS];have e6:=jK e5;have i6:=jK (Ab q8.out e5);clear e5;have u5:=i6.out;go_wp2;go_ret;exact⟨rfl,u5⟩
     dsimp only at J;have q9:=jK (show Cu (kindOf c.vars (BN c) t.guard)=.tuple #[.int .i64 kk,.int .i64 0]by rw[h2];rfl);clear h2;rcases(iR (kk=2)).symm with b1|b1
     ·rw[if_neg b1,Z7 _ _ _ (by decide)]at J;have q5:=Bc b1;subst J;clear b1;go_upto_region 15 with(fail)
      refine Aj.AF 12 [(6,.tuple #[.int .i64 kk,.int .i64 0])] [(5,fun v R=>AE R R.heap.size v (BN c)),(6,fun _ _=>True)] (fun R=>Below wr.heap.size wr R) (fun w R=>Below w.heap.size w R) (by kernel_rfl) (by kernel_rfl) (by kernel_rfl) (by kernel_rfl) (fun _ _ d _ _ h=>by cases d<;>exact h) (aJ _ _).drew ?_;simp only[aM,aT]
      iterate 5 (refine Aj.Ad rfl rfl ?_ ?_ ?_;rotate_left;(focus(intro w5 hI _;have b4:=(Ae hI).1;go_simp;rfl)))
      refine Aj.Ah (a':=?_) ?_ ?_;rotate_left;(focus(simp only[Act.put,aB,aD,aC];rfl));refine Aj.Bh rfl (by kernel_rfl) (fun v wa wb hs hE=>AE.on hE hs) (fun w5 hI _ K hK=>?_) (fun v5=>?_)
      ·have n9:=Ec c nm _ _ _ _ false w5 (j3.out.on hI) (by omega);have HK:=jK hK;have b5:=jK hI;clear hI hK;go_simp;refine n9.mono ?_;rintro e w6⟨V,rfl,U,ho⟩;exact HK.out V _ _ (by go_simp) (AE.BL ho (by have h8:=G3 c.Aa false c.Aa.length;rw[bT]at h8;exact aV (show(BN c).length<=c.Aa.length from h8) (by omega))) (b5.out.trans (U.mono b5.out.size)) U
      refine Aj.AC (.tuple #[.int .i64 kk,.int .i64 0]) rfl rfl (by kernel_rfl) (fun _ _ _ _ _=>trivial) (fun w5 hI hF K hK=>?_) ?_
      ·have j6:AE w5 w5.heap.size v5 (BN c):=hF _ (aR ..) (by kernel_rfl);have j7:=GH c.vars (BN c) t.guard _ _ v5 w5 (s9.out.on Aw hI) (j3.out.on hI).vars j6;rw[q9.out]at j7;have HK:=jK hK;have b5:=jK hI;clear hI hK hF j6;go_simp;refine j7.mono ?_;rintro e w6⟨rfl,U⟩;exact HK.out _ _ (by go_simp) trivial (b5.out.trans (U.mono b5.out.size)) U
      iterate 5 (refine Aj.Ad rfl rfl ?_ ?_ ?_;rotate_left;(focus(intro w5 hI _;have b4:=(Ae hI).1;go_simp;rfl)))
      refine Aj.Ah (a':=?_) ?_ ?_;rotate_left;(focus(simp only[Act.put,aB,aD,aC];rfl));refine Aj.Ak (fun wz e5 _=>?_);simp only[aN,aS];have e6:=jK e5;have i6:=jK (Ab q8.out e5);clear e5;have u5:=i6.out;go_wp2;go_ret;exact⟨rfl,u5⟩
     rw[if_pos b1,Zm]at J;have q5:=Bj b1;have HR:=jK J;clear J b1;go_upto_region 15 with(fail)
     refine Aj.AF 12 [(6,.tuple #[.int .i64 kk,.int .i64 0])] [(5,fun v R=>AE R R.heap.size v (BN c)),(6,fun _ _=>True)] (fun R=>Below wr.heap.size wr R) (fun w R=>Below w.heap.size w R) (by kernel_rfl) (by kernel_rfl) (by kernel_rfl) (by kernel_rfl) (fun _ _ d _ _ h=>by cases d<;>exact h) (aJ _ _).drew ?_;simp only[aM,aT]
     iterate 5 (refine Aj.Ad rfl rfl ?_ ?_ ?_;rotate_left;(focus(intro w5 hI _;have b4:=(Ae hI).1;go_simp;rfl)))
     refine Aj.Ah (a':=?_) ?_ ?_;rotate_left;(focus(simp only[Act.put,aB,aD,aC];rfl));refine Aj.Bh rfl (by kernel_rfl) (fun v wa wb hs hE=>AE.on hE hs) (fun w5 hI _ K hK=>?_) (fun v5=>?_)
     ·have n9:=Ec c nm _ _ _ _ false w5 (j3.out.on hI) (by omega);have HK:=jK hK;have b5:=jK hI;clear hI hK;go_simp;refine n9.mono ?_;rintro e w6⟨V,rfl,U,ho⟩;exact HK.out V _ _ (by go_simp) (AE.BL ho (by have h8:=G3 c.Aa false c.Aa.length;rw[bT]at h8;exact aV (show(BN c).length<=c.Aa.length from h8) (by omega))) (b5.out.trans (U.mono b5.out.size)) U
     refine Aj.AC (.tuple #[.int .i64 kk,.int .i64 0]) rfl rfl (by kernel_rfl) (fun _ _ _ _ _=>trivial) (fun w5 hI hF K hK=>?_) ?_
     ·have j6:AE w5 w5.heap.size v5 (BN c):=hF _ (aR ..) (by kernel_rfl);have j7:=GH c.vars (BN c) t.guard _ _ v5 w5 (s9.out.on Aw hI) (j3.out.on hI).vars j6;rw[q9.out]at j7;have HK:=jK hK;have b5:=jK hI;clear hI hK hF j6;go_simp;refine j7.mono ?_;rintro e w6⟨rfl,U⟩;exact HK.out _ _ (by go_simp) trivial (b5.out.trans (U.mono b5.out.size)) U
     iterate 5 (refine Aj.Ad rfl rfl ?_ ?_ ?_;rotate_left;(focus(intro w5 hI _;have b4:=(Ae hI).1;go_simp;rfl)))
     refine Aj.Ah (a':=?_) ?_ ?_;rotate_left;(focus(simp only[Act.put,aB,aD,aC];rfl));refine Aj.Ak (fun wz e5 _=>?_);simp only[aN,aS];have e6:=jK e5;have i6:=jK (Ab q8.out e5);clear e5;have I:=(Ae e6.out).1;have y2:=(I _ 2 b2).trans v2;have y0:=(I _ 0 b2).trans v0;have y1:=(I _ 1 b2).trans v1;have y3:=(I _ 3 b2).trans v3;have y4:=(I _ 4 b2).trans v4;have k0:=(I _ 0 h5).trans x0;have k3:=(I _ 3 h5).trans x3;have k4:=(I _ 4 h5).trans x4;have k7:=j3.out.on e6.out;have o0:=A8.out.on Ax e6.out;have bl:=e6.out.size;have k8:w.heap.size+1<wz.heap.size:=by omega
     have b3:w.heap.size<wz.heap.size:=by omega
     clear I;by_cases i7:t.to.size=0
     ·have u6:¬(0:Int)<(t.to.size:Int):=by omega
      have J:=HR.out;unfold US at J;rw[if_pos i7,JG]at J;clear HR i7;have HR:=jK J;clear J;have k9:=CC c nm _ _ _ _ t.Ey _ wz k7 o0 p6.out;go_wp2_with fail;(with_reducible refine k9.mono ?_);rintro e u7⟨rfl,e7⟩;rw[<-HR.out];go_wp2;go_ret;exact⟨rfl,Ab i6.out e7⟩
     have u6:(0:Int)<(t.to.size:Int):=by omega
     have J:=HR.out;unfold US at J;rw[if_neg i7]at J;clear HR;have HR:=jK J;clear J i7;have o1:=G7 c nm t.to _ _ _ _ wz k7;go_wp2_with fail;(with_reducible refine o1.mono ?_);rintro e w9⟨rfl,c7⟩;have o2:=Ab i6.out c7;have o3:=k7.on c7;have u9:=o0.on Ax c7;have I:=(Ae c7).1;have z0:=(I _ 0 b3).trans y0;have z1:=(I _ 1 b3).trans y1;have z2:=(I _ 2 b3).trans y2;have z3:=(I _ 3 b3).trans y3;have z4:=(I _ 4 b3).trans y4;have j0:=(I _ 0 k8).trans k0;have j4:=(I _ 4 k8).trans k4;clear I o1;have J:=HR.out;rcases CZ c t.to with⟨hp,e8⟩|⟨kk,hp,e8,v7⟩
     ·rw[e8];rw[hp]at J;dsimp only at J;rw[JA _ _ (by decide)]at J;subst J;clear HR hp e8;go_wp2;go_ret;exact⟨rfl,o2⟩
     rw[e8];rw[hp]at J;dsimp only at J;rw[c5.out,bI]at J;have q5:¬(kk:Int)<0:=by omega
     clear HR hp e8;have HR:=jK J;clear J;have o4:=LN o3.Aa hr fn kk l6 v7;go_wp2_with fail;(with_reducible refine o4.mono ?_);rintro e v8⟨rfl,b9⟩;have b6:=aK b3 c7.size;have o5:=aK k8 c7.size;have j8:=Ab o2 b9;have o6:=o3.on b9;have o7:=u9.on Ax b9;have I:=(Ae b9).1;have i0:=(I _ 0 b6).trans z0;have i1:=(I _ 1 b6).trans z1;have i2:=(I _ 2 b6).trans z2;have i3:=(I _ 3 b6).trans z3;have i4:=(I _ 4 b6).trans z4;have l4:=(I _ 4 o5).trans j4;clear I o4;have J:=HR.out;clear HR;generalize Tr.domain c.Ar fn kk=dm at *;by_cases o8:dm<0
     ·rw[if_pos o8,JA _ _ (by decide)]at J;subst J;go_wp2;go_ret;exact⟨rfl,j8⟩
     rw[if_neg o8,JG]at J;have HR:=jK J;clear J;have k9:=CC c nm _ _ _ _ t.Ey _ v8 o6 o7 p6.out;go_wp2_with fail;(with_reducible refine k9.mono ?_);rintro e u7⟨rfl,e7⟩;rw[<-HR.out];go_wp2;go_ret;exact⟨rfl,Ab j8 e7⟩
    have R5:¬(0:Int)<(t.guard.length:Int):=by omega
    have J:=HR.out;unfold Hr at J;rw[if_pos hg,Zm]at J;clear HR hg;have HR:=jK J;clear J;have e6:=jK (show Below wr.heap.size wr wr from aJ _ _);have i6:=jK q8.out;have I:=(Ae e6.out).1;have y2:=(I _ 2 b2).trans v2;have y0:=(I _ 0 b2).trans v0;have y1:=(I _ 1 b2).trans v1;have y3:=(I _ 3 b2).trans v3;have y4:=(I _ 4 b2).trans v4;have k0:=(I _ 0 h5).trans x0;have k3:=(I _ 3 h5).trans x3;have k4:=(I _ 4 h5).trans x4;have k7:=j3.out.on e6.out;have o0:=A8.out.on Ax e6.out;have L0:=e6.out.size;have k8:w.heap.size+1<wr.heap.size:=by omega
    have b3:w.heap.size<wr.heap.size:=by omega
    clear I;by_cases i7:t.to.size=0
    ·have u6:¬(0:Int)<(t.to.size:Int):=by omega
     have J:=HR.out;unfold US at J;rw[if_pos i7,JG]at J;clear HR i7;have HR:=jK J;clear J;have k9:=CC c nm _ _ _ _ t.Ey _ wr k7 o0 p6.out;go_wp2_with fail;(with_reducible refine k9.mono ?_);rintro e u7⟨rfl,e7⟩;rw[<-HR.out];go_wp2;go_ret;exact⟨rfl,Ab i6.out e7⟩
    have u6:(0:Int)<(t.to.size:Int):=by omega
    have J:=HR.out;unfold US at J;rw[if_neg i7]at J;clear HR;have HR:=jK J;clear J i7;have o1:=G7 c nm t.to _ _ _ _ wr k7;go_wp2_with fail;(with_reducible refine o1.mono ?_);rintro e w9⟨rfl,c7⟩;have o2:=Ab i6.out c7;have o3:=k7.on c7;have u9:=o0.on Ax c7;have I:=(Ae c7).1;have z0:=(I _ 0 b3).trans y0;have z1:=(I _ 1 b3).trans y1;have z2:=(I _ 2 b3).trans y2;have z3:=(I _ 3 b3).trans y3;have z4:=(I _ 4 b3).trans y4;have j0:=(I _ 0 k8).trans k0;have j4:=(I _ 4 k8).trans k4;clear I o1;have J:=HR.out;rcases CZ c t.to with⟨hp,e8⟩|⟨kk,hp,e8,v7⟩
    ·rw[e8];rw[hp]at J;dsimp only at J;rw[JA _ _ (by decide)]at J;subst J;clear HR hp e8;go_wp2;go_ret;exact⟨rfl,o2⟩
    rw[e8];rw[hp]at J;dsimp only at J;rw[c5.out,bI]at J;have q5:¬(kk:Int)<0:=by omega
    clear HR hp e8;have HR:=jK J;clear J;have o4:=LN o3.Aa hr fn kk l6 v7;go_wp2_with fail;(with_reducible refine o4.mono ?_);rintro e v8⟨rfl,b9⟩;have b6:=aK b3 c7.size;have o5:=aK k8 c7.size;have j8:=Ab o2 b9;have o6:=o3.on b9;have o7:=u9.on Ax b9;have I:=(Ae b9).1;have i0:=(I _ 0 b6).trans z0;have i1:=(I _ 1 b6).trans z1;have i2:=(I _ 2 b6).trans z2;have i3:=(I _ 3 b6).trans z3;have i4:=(I _ 4 b6).trans z4;have l4:=(I _ 4 o5).trans j4;clear I o4;have J:=HR.out;clear HR;generalize Tr.domain c.Ar fn kk=dm at *;by_cases o8:dm<0
    ·rw[if_pos o8,JA _ _ (by decide)]at J;subst J;go_wp2;go_ret;exact⟨rfl,j8⟩
    rw[if_neg o8,JG]at J;have HR:=jK J;clear J;have k9:=CC c nm _ _ _ _ t.Ey _ v8 o6 o7 p6.out;go_wp2_with fail;(with_reducible refine k9.mono ?_);rintro e u7⟨rfl,e7⟩;rw[<-HR.out];go_wp2;go_ret;exact⟨rfl,Ab j8 e7⟩
end
end Go.Proofs.YthbihnpoghlfaaaGreatDoor
