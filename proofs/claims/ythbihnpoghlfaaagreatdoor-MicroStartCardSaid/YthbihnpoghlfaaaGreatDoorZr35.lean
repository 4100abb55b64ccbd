import Derived.Test.YthbihnpoghlfaaaGreatDoorZr31
set_option linter.unusedVariables false
set_option linter.unusedSimpArgs false
set_option maxHeartbeats 8000000
set_option maxRecDepth 100000
namespace Go.Proofs.YthbihnpoghlfaaaGreatDoor
open Go.Proofs.Tryz
section
open Go.RowKit Q Go.Lib
theorem WV {c:Q.Af} (v:Valid c) {k:Nat} (o:k<c.Aa.length) (J:c.Aa[k].kind=2):∃j:Nat,Is c c.Aa[k].initial=(j:Int)/\Q.lead c k=[j]/\k<j/\j<c.Aa.length:=by
 have p:Tr.kd c.Ar k=2:=by rw[Cb c o];exact J
 have hi:=v.init k o;unfold Ew at hi;rw[if_neg (by rintro⟨U,_⟩;exact U J)]at hi;rcases CZ c c.Aa[k].initial with⟨hp,_⟩|⟨j,hp,I,hj⟩
 ·rw[hp]at hi;dsimp only at hi;omega
 ·have R:Q.lead c k=[j]:=by
   unfold Q.lead;rw[if_pos p,K7 c o,hp]
  have:=v.lead.gt (i:=k) (by rw[AI];exact o) (k:=j) (by rw[R];exact dH.2 rfl);exact⟨j,I,R,this.1,hj⟩
theorem Wr {c:Q.Af} {k:Nat} (o:k<c.Aa.length) (p:c.Aa[k].kind=3):Q.lead c k=Tr.kids c.Ar k:=by
 have j:Tr.kd c.Ar k=3:=by rw[Cb c o];exact p
 unfold Q.lead;rw[if_neg (by omega),if_pos j]
theorem Zam {c:Q.Af} {k:Nat} (j:k<c.Aa.length) (o:c.Aa[k].kind≠2) (p:c.Aa[k].kind≠3):Q.lead c k=[]:=by
 unfold Q.lead;rw[Cb c j,if_neg o,if_neg p]
theorem ZbX {c:Q.Af} (v:Valid c) {k:Nat} (o:k<c.Aa.length):DH c k=k::(Q.lead c k).flatMap (DH c):=by
 rw[Hu,QF v.lead (by rw[AI];exact o)];congr 1;exact JD fun j _=>(Hu c j).symm
theorem GK {w:World} {B n:Nat} {A:Option Addr} {l:List Nat} (h:Reads w B 1 A n (ints l)) (J:l.length=n) {k:Nat} (o:k<l.length):∃j,A=some j/\j.block<B/\w.cell? (j.add k)=some (.int .i64 (l[k]:Int)):=by
 obtain⟨j,e,p,I⟩:=h.2 (by omega);exact⟨j,e,p,I k _ (by unfold ints;rw[cN,aQ o];rfl)⟩
theorem MA (c:Q.Af) (nm:ByteArray) (ev vv sv tv:Value) (v:Valid c) (f:Fit c) (B0 B P O Dn:Nat):∀(m k:Nat),c.Aa.length-k<=m->k<c.Aa.length->∀(w:World) (rv:Value) (L:List Nat),
  Je w B0 B P O Dn nm ev vv sv tv (.func (.func 195) #[] #[.pointer (some ⟨O,0,none⟩),.pointer (some ⟨P,0,none⟩),.pointer (some ⟨Dn,0,none⟩)]) c->Ig w B O rv L->(L++DH c k).length<=1000000->
  Calls prog 195 #[.int .i64 (k:Int),.pointer (some ⟨O,0,none⟩),.pointer (some ⟨P,0,none⟩),.pointer (some ⟨Dn,0,none⟩)] w fun e w'=>e=.returned (.tuple #[])/\CF w B O rv (L++DH c k) w'
 | 0,k,h,hk=>absurd h (by omega)
 |m+1,k,hm,hk=>by
  intro w rv L hX hA hlen;have ih:=fun j (h1:k<j) (h2:j<c.Aa.length)=>MA c nm ev vv sv tv v f B0 B P O Dn m j (by omega) h2
  obtain⟨i0,k5,k6,k7,k8⟩:=dC Fg;have eg:=enters_of func195 (by decide) rfl;generalize hg:(195:Nat)=g at hX ih eg;have HB:=jK (ZbX v hk);have h5:L.length+1+((Q.lead c k).flatMap (DH c)).length<=1000000:=by
   rw[HB.out,aO,bP]at hlen;omega
  obtain⟨SA,sc,k9,o8,h6⟩:=hX.at_.Aa.form;obtain⟨ad,rfl,o9⟩:=h6 k hk;subst k9;obtain⟨rA,rc,rfl⟩:=Al hA.row;have qO:w.cell? ⟨O,0,none⟩=some (.slice rA L.length rc):=hA.Bq.cell 0;have c8:=hA.row;have h7:∀u∈[Value.int .i64 (k:Int)],u.oneCell'=true:=by simp[Value.oneCell']
  have p5:=hX.bw;have HX:=jK hX;have HA:=jK hA;clear hX hA h6;rw[<-hg];go_enter func195,ntmps195;go_wp2_with (at_builtin;refine Ap _ rfl _ _ 28 rfl B 3 i0 _ 1 8 underlying28 k5 k6 k7 k8 rfl (by decide) _ _ _ rfl (c8.alloc _) _ (some ⟨w.heap.size,0,none⟩) 1 1 _ rfl (Bt w (.int .i64 (k:Int)) 3 _ rfl) h7 ?c3 ?c4 ?c5 ?_)
  case c3=>unfold maxLen;omega
  case c4=>omega
  case c5=>(try simp);omega
  intro v' w2 R h8 b2
  (try rw[aW]at b2)
  obtain⟨A2,ac2,rfl⟩:=Al R;obtain⟨a1,a6⟩:=HA.out.push k R h8 b2;have i1:w2.cell? ⟨O,0,none⟩=some (.slice rA L.length rc):=a6.cell 0;have i6:=a6.frozen 0;have i7:=a6.lt;obtain⟨J,e3⟩:∃J,w2.setCell ⟨O,0,none⟩ (.slice A2 (L.length+1) ac2)=J:=⟨_,rfl⟩;rw[e3]at a1;obtain⟨e0,j0,t3,f3⟩:=a1;have o:=HX.out.OG HA.out.ge t3;have p0:J.cell? ⟨P,0,none⟩=some (.string nm):=o.pp.cell 0;have p1:J.cell? ⟨P,1,none⟩=some ev:=o.pp.cell 1;have p2:J.cell? ⟨P,2,none⟩=some vv:=o.pp.cell 2;have p3:J.cell? ⟨P,3,none⟩=some (.slice (some ad) c.Aa.length sc):=o.pp.cell 3;have p4:J.cell? ⟨P,4,none⟩=some tv:=o.pp.cell 4;have qD:J.cell? ⟨Dn,0,none⟩=some (.func (.func g) #[] #[.pointer (some ⟨O,0,none⟩),.pointer (some ⟨P,0,none⟩),.pointer (some ⟨Dn,0,none⟩)]):=o.dd.cell 0;have p8:=o.pp.lt;have p9:=o.dd.lt;obtain⟨uA,uc,zA,zc,c0,c1,c2,c3,c4,c5,-,-⟩:=A5 (c:=c) o.at_.Aa hk;have a7:=jK j0;have j1:=jK o;have e1:=jK t3;have e2:=jK f3;have b3:=o.at_;have q0:=t3.size;have q1:(k:Int)<(c.Aa.length:Int):=by omega
  clear j0 o t3 f3 a6 R h8 b2 c8;by_cases h2:c.Aa[k].kind=2
  ·obtain⟨j,hj,hl,l1,b4⟩:=WV v hk h2;have b8:=fun(w5:World) (b0:Below J.heap.size J w5)=>EL c nm c.Aa[k].initial ev vv _ tv w5 (b3.on b0)
   rw[hj]at b8;rw[h2]at c1;generalize c.Aa[k]=x at c0 c1 c2 c3 c4 c5 b8;clear h2 hj b3;go_upto_region 3 with(fail)
   have j3:=fun(w5:World) (b0:Below J.heap.size J w5)=>ih j l1 b4 w5 e0 (L++[k]) (j1.out.on b0) (a7.out.on b0) (by
    rw[hl,eQ]at h5;rw[aO,aO,cR];omega)
   have c9:=fun(w5:World) (b0:Below J.heap.size J w5)=>b8 w5 b0
   have j4:(ad.add (k*6)).block<J.heap.size:=by rw[Bz];omega
   clear e3 i1 i6 i7 c0 c1 c2 c4 c5 b8;refine Aj.AF 9 [(8,.int .i64 (j:Int))] [(8,fun _ _=>True)] (fun w'=>Below J.heap.size J w') (fun w w'=>Below w.heap.size w w') (by kernel_rfl) (by kernel_rfl) (by kernel_rfl) (by kernel_rfl) (fun _ _ d _ _ h=>by cases d<;>exact h) (aJ _ _).drew ?_;simp only[aM,aT]
   iterate 8 (refine Aj.Ad rfl rfl ?_ ?_ ?_;rotate_left;(focus(intro w5 hI _;obtain⟨j5,_⟩:=Ae hI;have q2:=hI.cell (p:={block:=(ad.add (k*6)).block,off:=(ad.add (k*6)).off+3,spot:=none}) j4;go_simp;rfl)))
   refine Aj.Ah (a':=?_) ?_ ?_;rotate_left;(focus(simp only[Act.put,aB,aD,aC];rfl));refine Aj.AC (.int .i64 (j:Int)) rfl rfl (by kernel_rfl) (fun _ _ _ _ _=>trivial) (fun w5 hI _ K hK=>?_) ?_
   ·go_simp;(with_reducible refine(c9 w5 hI).mono ?_);rintro e w6⟨rfl,j6⟩;exact hK _ _ (by go_simp) trivial (hI.trans (j6.mono hI.size)) j6
   refine Aj.Ah (a':=?_) ?_ ?_;rotate_left;(focus(simp only[Act.put,aB,aD,aC];rfl));refine Aj.Ak (fun w4 b1 _=>?_);simp only[aN,aS];have hc:=j3 w4 b1;clear j3 c9 p0 p1 p2 p3 p4 c3 qD;go_wp2_with (go_at_fn g;refine hc.mono ?_;rintro e w5⟨rfl,I⟩)
   (first|go_end0|refine aI (cO rfl _ _ _) rfl ?_)
   refine⟨rfl,?_⟩;rw[HB.out,hl,eQ];refine CF.FM e1.out e2.out (CF.ahead b1 ?_);rw[dG]at I;exact I
  have z2:=Bg h2;by_cases h3:c.Aa[k].kind=3;rotate_left
  ·have z3:=Bg h3;have hl:=Zam hk h2 h3;generalize c.Aa[k]=x at *;clear h2 h3 b3;go_wp2
   (first|go_end0|refine aI (cO rfl _ _ _) rfl ?_)
   refine⟨rfl,?_⟩;rw[HB.out,hl,List.flatMap_nil];exact⟨e0,a7.out,e1.out,e2.out⟩
  have hl:=Wr hk h3;rw[h3]at c1;have j7:=Ow (c:=c) b3.Aa f v.tree k hk;have j8:∀j∈Tr.kids c.Ar k,k<j/\j<c.Aa.length:=fun j hj=>by
   have:=v.lead.gt (i:=k) (by rw[AI];exact hk) (k:=j) (by rw[hl];exact hj);exact⟨this.1,by have:=this.2.2;rwa[AI]at this⟩
  have l4:(Tr.kids c.Ar k).length<=40:=by
   have:=Tr.Ld c.Ar (k:Int);unfold Tr.EW at this;rw[Fc v.tree (by rw[AI];exact hk)]at this;exact this
  rw[hl]at h5 HB;generalize c.Aa[k]=x at c0 c1 c2 c3 c4 c5;clear h2 h3 b3 z2;generalize Tr.kids c.Ar k=K at *;go_wp2_with fail;(with_reducible refine j7.mono ?_);rintro e w4⟨kv,rfl,b1,U⟩;clear e3 i1 i6 i7 p0 p1 p2 p3 p4 c0 c1 c2 c3 c4 c5 j7 qD;obtain⟨kA,kc,rfl⟩:=Al U;have e5:=jK U;have l5:=jK (j1.out.on b1);have l6:=jK (a7.out.on b1);clear U;go_wp2
  go_loopw [36] (fun u wr=>∃j:Nat,j<=K.length/\u=.int .i64 (j:Int)/\CF w4 B O e0 (L++k::(K.take j).flatMap (DH c)) wr) (fun u _=>K.length-(intOf u).toNat)
  case atStart=>exact⟨0,by omega,rfl,CF.refl l6.out⟩
  case round=>
   obtain⟨j,hj,rfl,a1⟩:=hrel;obtain⟨j9,b9,tj,fj⟩:=a1;have b5:=tj.own e5.out (fun b hb=>by
    rintro(h9|h9)
    ·have:=(Bd e5.out hb).2;have:=a7.out.Bq.lt;omega
    ·have:=(Bd e5.out hb).2;have:=(Bd a7.out.row h9).1;omega)
   have c6:=l5.out.OG a7.out.ge tj;have q4:wr.cell? ⟨Dn,0,none⟩=some (.func (.func g) #[] #[.pointer (some ⟨O,0,none⟩),.pointer (some ⟨P,0,none⟩),.pointer (some ⟨Dn,0,none⟩)]):=c6.dd.cell 0;have q5:=c6.dd.lt;by_cases b4:j<K.length
   ·have q6:(j:Int)<(K.length:Int):=by omega
    obtain⟨ka,rfl,q7,l8⟩:=GK (Reads.BL b5) rfl b4;obtain⟨j5,l9⟩:=j8 _ (bK b4);have e6:=Xo (f:=DH c) b4;have k1:=Od K (DH c) (j+1);have hc:=ih K[j] j5 l9 wr j9 (L++k::(K.take j).flatMap (DH c)) c6 b9 (by
     rw[e6,aO]at k1;simp only[aO,bP];omega)
    have n0:=jK e6;have n1:=jK tj;have n2:=jK fj;clear e6 k1 tj fj c6 b9 b5;generalize K[j]=y at *;go_wp2_with (go_at_fn g;refine hc.mono ?_;rintro e w5⟨rfl,I⟩);go_roundw
    case rel=>
     refine⟨j+1,by omega,by go_num,CF.FM n1.out n2.out ?_⟩;rw[n0.out];rw[dG,gE]at I;exact I
    case measure=>simp[intOf];omega
   ·obtain rfl:j=K.length:=by omega
    have q8:¬(K.length:Int)<(K.length:Int):=by omega
    rw[bT]at b9;go_wp2
    (first|go_end0|refine aI (cO rfl _ _ _) rfl ?_)
    refine⟨rfl,?_⟩;rw[HB.out];exact CF.FM e1.out e2.out (CF.ahead b1 ⟨j9,b9,tj,fj⟩)
theorem Fo (l:List Nat):ints l=Gf (Co l):=by
 unfold ints Gf Co;rw[fI];rfl
theorem Wt {l:List Nat} (h:l.Pairwise (·<·)):(Co l).mergeSort leI=Co l:=Px (List.Perm.refl _) h
theorem N9 (c:Q.Af) (nm:ByteArray) (ev vv sv tv:Value) (w:World) (h:AQ w w.heap.size ev vv sv tv c) (v:Valid c) (f:Fit c) (i:Nat) (hi:i<c.Aa.length) :
  Calls prog 114 #[BZ nm ev vv sv tv,.int .i64 (i:Int)] w fun e w'=>∃V,e=.returned V/\Below w.heap.size w w'/\w'.ownsRow w.heap.size 3 1 V (DH c i).length (ints (DH c i)):=by
 obtain⟨o,e0⟩:∃o,w.alloc (.cells #[.string nm,ev,vv,sv,tv] 27)=o:=⟨_,rfl⟩;obtain⟨b4,s0,k0⟩:=Bi _ _ _ e0;obtain⟨j,e1⟩:∃j,o.alloc (.cells #[.slice none 0 0] 28)=j:=⟨_,rfl⟩;obtain⟨a7,s1,k1⟩:=Bi _ _ _ e1;obtain⟨W2,e2⟩:∃W2,j.alloc (.cells #[.nilFunc] 191)=W2:=⟨_,rfl⟩;obtain⟨U,s2,k2⟩:=Bi _ _ _ e2;obtain⟨I,e3⟩:∃I,W2.setCell ⟨j.heap.size,0,none⟩ (.func (.func 195) #[] #[.pointer (some ⟨o.heap.size,0,none⟩),.pointer (some ⟨w.heap.size,0,none⟩),.pointer (some ⟨j.heap.size,0,none⟩)])=I:=⟨_,rfl⟩;have hl:=v.Md hi;have j2:w.heap.size<o.heap.size:=by omega
 have j3:o.heap.size<j.heap.size:=by omega
 have j4:j.heap.size<W2.heap.size:=by omega
 have s3:I.heap.size=W2.heap.size:=by rw[<-e3,eK]
 have a6:=Ab (Ab b4 a7) U;have J:Below w.heap.size w I:=by rw[<-e3];exact a6.setCell (p:=⟨j.heap.size,0,none⟩) (by show w.heap.size<=j.heap.size;omega) _
 have tD:Touch (fun k=>k=j.heap.size) W2 I:=by rw[<-e3];exact Touch.C8 _ _ rfl
 have kP:=tD.Bq ((Touch.AK (S:=fun _=>False) (Ab a7 U)).Bq k0 id) (by show ¬w.heap.size=j.heap.size;omega);have kO:=tD.Bq ((Touch.AK (S:=fun _=>False) U).Bq k1 id) (by show ¬o.heap.size=j.heap.size;omega);have kD:Bw I j.heap.size 191 #[.func (.func 195) #[] #[.pointer (some ⟨o.heap.size,0,none⟩),.pointer (some ⟨w.heap.size,0,none⟩),.pointer (some ⟨j.heap.size,0,none⟩)]]:=by rw[<-e3];exact k2.BF 0 _
 have hX:Je I w.heap.size I.heap.size w.heap.size o.heap.size j.heap.size nm ev vv sv tv (.func (.func 195) #[] #[.pointer (some ⟨o.heap.size,0,none⟩),.pointer (some ⟨w.heap.size,0,none⟩),.pointer (some ⟨j.heap.size,0,none⟩)]) c:=
  ⟨by omega,by omega,by omega,by omega,by omega,by omega,aL _,h.below J,kP,kD⟩
 have hA:Ig I I.heap.size o.heap.size (.slice none 0 0) []:=⟨by omega,kO,bL _ _ _ _⟩;have hc:=MA c nm ev vv sv tv v f w.heap.size I.heap.size w.heap.size o.heap.size j.heap.size c.Aa.length i (by omega) hi I (.slice none 0 0) [] hX hA (by simp;omega);have c2:=k2.cell 0;have z2:=k2.frozen 0;have cD:=kD.cell 0;have HO:=jK (show o.heap.size<I.heap.size by omega);have HS:=jK s3;have eg:=enters_of func195 (by decide) rfl;generalize hg:(195:Nat)=g at hc eg cD e3;clear hX hA kP kO kD tD b4 a7 U s0 s1 s2 s3 k0 k1 k2 a6 h;go_enter func114,ntmps114;rw[hg];go_wp2_with (go_at_fn g;refine hc.mono ?_;rintro e w5⟨rfl,j7,h5,t5,f5⟩;rw[eH]at h5;obtain⟨rA,rc,rfl⟩:=Al h5.row;have c5:w5.cell? ⟨o.heap.size,0,none⟩=some (.slice rA (DH c i).length rc):=h5.Bq.cell 0);have R:=h5.row;rw[Fo,<-Dj (DH c i)]at R;have a1:=Pm w5 I.heap.size _ _ R (by rw[Dj];omega);rw[Wt (v.Jl hi)]at a1;have b5:Below w.heap.size w w5:=J.trans (t5.below (by have:=HS.out;omega) fun k hk=>by
  rcases hk with e|e
  ·omega
  ·cases e)
 have H5:=jK h5;have b7:=jK b5;clear h5 t5 f5 hc eg cD c2 z2 e0 e1 e2 e3 R b5 J;rw[Dj]at a1;go_wp2_with fail;(with_reducible refine a1.mono ?_);rintro e w6⟨rfl,a8,b0⟩;have b8:(Value.slice rA (DH c i).length rc).ownBlock≠some o.heap.size:=fun e=>by
  have:=(Bd H5.out.row e).2;have:=HO.out;omega
 have k6:=(Touch.Dt (S:=fun k=>(Value.slice rA (DH c i).length rc).ownBlock=some k) b0 fun k hk=>hk).Bq H5.out.Bq b8;have c6:w6.cell? ⟨o.heap.size,0,none⟩=some (.slice rA (DH c i).length rc):=k6.cell 0;have b9:Below w.heap.size w w6:=b7.out.grown b0 b7.out.size fun k hk=>by
  have:=(Bd H5.out.row hk).2;have:=HO.out;omega
 rw[<-Fo]at a8;have e6:=jK (Bk a8 (show w.heap.size<=I.heap.size by have:=HO.out;omega));have e7:=jK b9;clear a8 b0 b8 k6 a1 c5 b9;go_wp2;go_ret;exact⟨_,rfl,e7.out,e6.out⟩
theorem NP (l:List Nat):∀u∈ints l,u.oneCell'=true:=fun u hu=>by
 obtain⟨s,_,rfl⟩:=dF.1 hu;rfl
theorem Oi (c:Q.Af) (nm:ByteArray) (ev vv sv tv:Value) (w:World) (h:AQ w w.heap.size ev vv sv tv c) (e9:nm=c.name) (v:Valid c) (hE:DL c=0) (f:Fit c) :
  Calls prog 40 #[BZ nm ev vv sv tv] w fun e w'=>∃V,e=.returned V/\Below w.heap.size w w'/\w'.ownsRow w.heap.size 3 1 V (CO c).length (ints (CO c)):=by
 subst e9;obtain⟨i0,h3,h4,h5,h6⟩:=dC Fg;obtain⟨SA,sc,rfl,k1,h7⟩:=h.Aa.form;obtain⟨W0,e0⟩:∃W0,w.alloc (.cells #[.string c.name,ev,vv,.slice SA c.Aa.length sc,tv] 27)=W0:=⟨_,rfl⟩;obtain⟨c6,s0,h0,p0,p1,p2,p3,p4⟩:=Bl h e0;have o:w.heap.size<W0.heap.size:=by omega
 have n1:=v.events;have n2:=v.vars;have n3:=v.Aa;have n4:=v.trans;have b7:=Ob c c.name ev vv _ tv W0 h0 rfl f (by simp[Af.AN,Af.An];omega) (by omega);rw[aH hE]at b7;clear s0 h hE;go_enter func40,ntmps40;go_wp2_with fail;(with_reducible refine b7.mono ?_);rintro e W1⟨rfl,a6⟩;have h1:=h0.on a6;have p:=aK o a6.size;obtain⟨U,-⟩:=Ae a6;have q0:=(U _ 0 o).trans p0;have q1:=(U _ 1 o).trans p1;have q2:=(U _ 2 o).trans p2;have q3:=(U _ 3 o).trans p3;have q4:=(U _ 4 o).trans p4;have a7:=Ab c6 a6;clear e0 p0 p1 p2 p3 p4 U b7 h0 c6 a6;go_wp2
 go_loopw [12,3] (fun u V wr=>∃k:Nat,k<=c.Aa.length/\u=.int .i64 (k:Int)/\wr.ownsRow W1.heap.size 3 1 V ((Ct c k).flatMap (DH c)).length (ints ((Ct c k).flatMap (DH c)))/\Below W1.heap.size W1 wr) (fun u _ _=>c.Aa.length-(intOf u).toNat)
 case atStart=>exact⟨0,by omega,rfl,by simpa[Ct,ints]using bL _ _ _ _,aJ _ _⟩
 case round=>
  obtain⟨k,hk,rfl,a8,hb⟩:=hrel;have h9:=hb.size;obtain⟨a1,-⟩:=Ae hb;have g0:=(a1 _ 0 p).trans q0;have g1:=(a1 _ 1 p).trans q1;have g2:=(a1 _ 2 p).trans q2;have g3:=(a1 _ 3 p).trans q3;have g4:=(a1 _ 4 p).trans q4;have R:=aK p hb.size;have hlen:=v.Lz hk;by_cases b0:k<c.Aa.length
  ·have l0:(k:Int)<(c.Aa.length:Int):=by omega
   obtain⟨ad,rfl,l1⟩:=h7 k b0;obtain⟨uA,uc,zA,zc,c0,c1,c2,c3,c4,c5,-,-⟩:=A5 (c:=c) (h1.Aa.on AU hb) b0;have c8:=jK (J7 c k);have c9:=K2 c b0;rw[<-c9]at c2;clear c9;generalize Tr.dp c.Ar k=dp at *;generalize c.Aa[k]=x at *;obtain⟨W2,e2⟩:∃W2,wr.alloc (.cells #[.string x.name,.int .i64 x.kind,.int .i64 dp,.string x.initial,.slice uA x.entry.length uc,.slice zA x.exit.length zc] 54)=W2:=⟨_,rfl⟩;obtain⟨b6,s2,k2⟩:=Bi _ _ _ e2;have b2:W2.cell? ⟨wr.heap.size,2,none⟩=some (.int .i64 dp):=k2.cell 2;have j6:wr.heap.size<W2.heap.size:=by omega
   have h2:=(h1.on hb).on b6;obtain⟨I,-⟩:=Ae b6;have x0:=(I _ 0 R).trans g0;have x1:=(I _ 1 R).trans g1;have x2:=(I _ 2 R).trans g2;have x3:=(I _ 3 R).trans g3;have x4:=(I _ 4 R).trans g4;have b1:=hb.trans (b6.mono h9);have b3:=AG a8 b6;have l7:=jK k2;clear s2 k2 a1 I;by_cases hd:dp=0
   ·have hz:=Be hd;have i6:=N9 c c.name ev vv _ tv W2 h2 v f k b0;have b9:=c8.out;rw[if_pos hd]at b9;have l9:=v.Md b0;clear hd;go_wp2_with fail;(with_reducible refine i6.mono ?_);rintro e w5⟨V5,rfl,e4,e5⟩;obtain⟨BA,bc,rfl⟩:=Al e5;have b4:=AG b3 e4;have b5:=b1.trans (e4.mono b1.size);have e6:=NP (DH c k);have i7:Reads w5 w5.heap.size 1 BA (DH c k).length (ints (DH c k)):=Reads.BL e5;clear e2;go_wp2_with (at_builtin;refine Ap _ rfl _ _ 28 rfl W1.heap.size 3 i0 _ 1 8 underlying28 h3 h4 h5 h6 rfl (by decide) _ _ _ rfl b4 _ BA (DH c k).length bc _ rfl i7 e6 ?c3 ?c4 ?c5 ?_)
    case c3=>unfold maxLen;omega
    case c4=>omega
    case c5=>exact b5.size
    intro v' w6 J e7 _;have j0:=b5.grown e7 b5.size fun j hj=>(Bd b4 hj).2
    have HO:Hid (w6.ownsRow W1.heap.size 3 1 v' ((Ct c (k+1)).flatMap (DH c)).length (ints ((Ct c (k+1)).flatMap (DH c)))):=jK (by
     rw[b9,aO,SH]
     first
      |exact J
      |(rw[<-List.length_flatMap]at J;exact J))
    clear J e7 b9;go_wp2;go_roundw
    case rel=>exact⟨k+1,by omega,by go_num,HO.out,j0⟩
    case measure=>simp[intOf];omega
   ·have hz:=Bg hd;go_wp2;go_roundw
    case rel=>exact⟨k+1,by omega,by go_num,by rw[c8.out,if_neg hd,cP];exact b3,b1⟩
    case measure=>simp[intOf];omega
  ·obtain rfl:k=c.Aa.length:=by omega
   have o2:¬(c.Aa.length:Int)<(c.Aa.length:Int):=by omega
   rw[LL]at a8;go_wp2;go_ret;exact⟨_,rfl,a7.trans (hb.mono a7.size),Bk a8 a7.size⟩
theorem I6 (c:Q.Af) (nm:ByteArray) (ev vv sv tv:Value) (v:Valid c) (i:Nat) (hi:i<c.Aa.length):∀(m j:Nat),j<m->j<c.Aa.length->∀(w:World),AQ w w.heap.size ev vv sv tv c->
  Calls prog 197 #[BZ nm ev vv sv tv,.int .i64 (i:Int),.int .i64 (j:Int)] w fun e w'=>e=.returned (.bool ((DH c i).contains j))/\Below w.heap.size w w'
 | 0,j,hm,_=>absurd hm (by omega)
 |m+1,j,hm,hj=>by
  intro w h;have ih:=fun p (h1:p<j)=>I6 c nm ev vv sv tv v i hi m p (by omega) (by omega)
  obtain⟨SA,sc,rfl,h4,c5⟩:=h.Aa.form;obtain⟨ad,rfl,h6⟩:=c5 j hj;obtain⟨W0,e0⟩:∃W0,w.alloc (.cells #[.string nm,ev,vv,.slice (some ad) c.Aa.length sc,tv] 27)=W0:=⟨_,rfl⟩;obtain⟨b4,s0,h0,p0,p1,p2,p3,p4⟩:=Bl h e0;have R:w.heap.size<W0.heap.size:=by omega
  clear s0;by_cases b1:i=j
  ·have hz:=Be (show(i:Int)=(j:Int)by omega);have hs:(DH c i).contains j=true:=by rw[<-b1];exact v.QO hi
   rw[hs];clear hs b1 p0 p1 p2 p3 p4 h0;go_enter func197,ntmps197;go_wp2;go_ret;exact⟨rfl,b4⟩
  have hz:=Bg (show(i:Int)≠(j:Int)by omega);have o:=v.Sg hi hj b1;obtain⟨r,c0⟩:∃r,(DH c i).contains j=r:=⟨_,rfl⟩;rw[c0]at o⊢;have a7:=DU (c:=c) h0.Aa v.tree j hj;clear c0 b1;rcases Tr.Ep c.Ar j with⟨hu,-⟩|⟨p,hu,c7,-⟩
  ·rw[hu]at a7 o;have hr:r=false:=by rw[o];rfl
   subst hr;clear o hu ih;go_enter func197,ntmps197;go_wp2_with fail;(with_reducible refine a7.mono ?_);rintro e w1⟨rfl,U⟩;go_wp2;go_ret;exact⟨rfl,Ab b4 U⟩
  rw[hu]at a7 o;rw[bI,aH (Int.natCast_nonneg p),bW]at o;have b5:p<c.Aa.length:=by omega
  have h9:¬(p:Int)<0:=by omega
  have HS:=jK o;clear o hu;go_enter func197,ntmps197;go_wp2_with fail;(with_reducible refine a7.mono ?_);rintro e w1⟨rfl,U⟩;obtain⟨a6,-⟩:=Ae U;have q0:=(a6 _ 0 R).trans p0;have q1:=(a6 _ 1 R).trans p1;have q2:=(a6 _ 2 R).trans p2;have q3:=(a6 _ 3 R).trans p3;have q4:=(a6 _ 4 R).trans p4;have b2:=aK R U.size;have h1:=h0.on U;have b6:=ih p c7 w1 h1;have b3:=Ab b4 U;obtain⟨x,hx⟩:∃x,(DH c i).contains p=x:=⟨_,rfl⟩;rw[hx]at b6;have J:=HS.out;rw[hx]at J;clear HS hx;have HS:=jK J;clear J a6 p0 p1 p2 p3 p4 a7 ih e0 h0;go_wp2_with fail;(with_reducible refine b6.mono ?_);rintro e w2⟨rfl,a8⟩;cases x
  ·have hr:r=false:=by rw[HS.out];rfl
   subst hr;go_wp2;go_ret;exact⟨rfl,Ab b3 a8⟩
  obtain⟨c2,-⟩:=Ae a8;have g3:=(c2 _ 3 b2).trans q3;have e4:=aK b2 a8.size;have h2:=h1.on a8;have I:=Ab b3 a8;obtain⟨_,_,_,_,a0,a1,a2,a3,-⟩:=A5 (c:=c) h2.Aa b5;obtain⟨_,_,_,_,d0,d1,d2,d3,-⟩:=A5 (c:=c) h2.Aa hj;have e5:(p:Int)<(c.Aa.length:Int):=by omega
  have e6:(j:Int)<(c.Aa.length:Int):=by omega
  rw[<-Cb c b5]at a1;rw[<-K7 c b5]at a3;rw[<-LX c hj]at d0;have J:=HS.out;rw[bW]at J;have j2:=EO (G4 c p) (Qk c j);generalize Tr.kd c.Ar p=kp at *;generalize G4 c p=si at *;generalize Qk c j=sn at *;clear HS q0 q1 q2 q3 q4 c2 b6 h1 h2;by_cases h3:kp=3
  ·have z3:=Be h3;have hr:r=true:=by rw[J,aH h3];rfl
   subst hr;clear J h3;go_wp2;go_ret;exact⟨rfl,I⟩
  have z3:=Bg h3;rw[aF h3,cZ]at J;by_cases h2:kp=2
  ·have z2:=Be h2;rw[aH h2,bW]at J;have HX:=jK J;clear J h2 h3;go_wp2_with fail
   go_quiet (fail)
   go_wp2;go_ret;exact⟨Db (by rw[HX.out]),⟨I.os,I.tape,I.output,I.size,I.block⟩⟩
  ·have z2:=Bg h2;rw[aF h2,cC]at J;subst J;clear h2 h3;go_wp2_with fail
   go_quiet (fail)
   go_wp2;go_ret;exact⟨rfl,⟨I.os,I.tape,I.output,I.size,I.block⟩⟩
theorem Qp (c:Q.Af) (nm:ByteArray) (ev vv sv tv:Value) (w:World) (h:AQ w w.heap.size ev vv sv tv c) (v:Valid c) (i:Nat) (hi:i<c.Aa.length) (b0:BR (Tr.kd c.Ar i)=false) :
  Calls prog 117 #[BZ nm ev vv sv tv,.int .i64 (i:Int)] w fun e w'=>∃V,e=.returned V/\Below w.heap.size w w'/\w'.ownsRow w.heap.size 3 1 V (DH c i).length (ints (DH c i)):=by
 obtain⟨i0,b6,b7,b8,b9⟩:=dC Fg;obtain⟨SA,sc,rfl,h1,c0⟩:=h.Aa.form;obtain⟨ad,rfl,h3⟩:=c0 i hi;obtain⟨W0,e0⟩:∃W0,w.alloc (.cells #[.string nm,ev,vv,.slice (some ad) c.Aa.length sc,tv] 27)=W0:=⟨_,rfl⟩;obtain⟨a7,s0,h0,p0,p1,p2,p3,p4⟩:=Bl h e0;have p:w.heap.size<W0.heap.size:=by omega
 obtain⟨_,_,_,_,-,d1,-⟩:=A5 (c:=c) h0.Aa hi;rw[<-Cb c hi]at d1;have h5:¬(i:Int)<0:=by omega
 have e4:¬(c.Aa.length:Int)<=(i:Int):=by omega
 have e5:(i:Int)<(c.Aa.length:Int):=by omega
 have hq:=fun w1=>EV w1 (Tr.kd c.Ar i)
 rw[Mi,b0]at hq;generalize Tr.kd c.Ar i=kd at *;have e6:=v.Aa;clear s0 h b0;go_enter func117,ntmps117;go_wp2_with fail;(with_reducible refine(hq _).mono ?_);rintro e w5⟨rfl,rfl⟩;clear e0 hq d1;go_wp2
 go_loopw [6,5] (fun u V wr=>∃k:Nat,k<=c.Aa.length/\u=.int .i64 (k:Int)/\wr.ownsRow w5.heap.size 3 1 V ((List.range k).filter fun j=>(DH c i).contains j).length (ints ((List.range k).filter fun j=>(DH c i).contains j))/\Below w5.heap.size w5 wr) (fun u _ _=>c.Aa.length-(intOf u).toNat)
 case atStart=>exact⟨0,by omega,rfl,by simpa[ints]using bL _ _ _ _,aJ _ _⟩
 case round=>
  obtain⟨k,hk,rfl,J,hb⟩:=hrel;have c6:=hb.size;obtain⟨R,-⟩:=Ae hb;have g0:=(R _ 0 p).trans p0;have g1:=(R _ 1 p).trans p1;have g2:=(R _ 2 p).trans p2;have g3:=(R _ 3 p).trans p3;have g4:=(R _ 4 p).trans p4;have h7:=EC (fun j=>(DH c i).contains j) k;by_cases c7:k<c.Aa.length
  ·have h8:(k:Int)<(c.Aa.length:Int):=by omega
   have b2:=I6 c nm ev vv _ tv v i hi (k+1) k (by omega) c7 wr (h0.on hb);have U:=jK (El (fun j=>(DH c i).contains j) k);obtain⟨x,hx⟩:∃x,(DH c i).contains k=x:=⟨_,rfl⟩;rw[hx]at b2;have a6:=U.out
   (try dsimp only at a6)
   rw[hx]at a6;clear U hx;have U:=jK a6;clear a6;generalize (List.range k).filter (fun j=>(DH c i).contains j)=M at *;go_wp2_with fail;(with_reducible refine b2.mono ?_);rintro e w6⟨rfl,b3⟩;have I:=hb.trans (b3.mono c6);have o:=AG J b3;cases x
   ·go_wp2;go_roundw
    case rel=>exact⟨k+1,by omega,by go_num,by rw[U.out];simpa using o,I⟩
    case measure=>simp[intOf];omega
   ·have b4:∀u∈[Value.int .i64 (k:Int)],u.oneCell'=true:=by simp[Value.oneCell']
    go_wp2_with (at_builtin;refine Ap _ rfl _ _ 28 rfl w5.heap.size 3 i0 _ 1 8 underlying28 b6 b7 b8 b9 rfl (by decide) _ _ _ rfl (o.alloc _) _ (some ⟨w6.heap.size,0,none⟩) 1 1 _ rfl (Bt w6 (.int .i64 (k:Int)) 3 _ rfl) b4 ?c3 ?c4 ?c5 ?_)
    case c3=>unfold maxLen;omega
    case c4=>omega
    case c5=>simp;have:=I.size;omega
    intro v' w2 a1 b5 _;have c9:Below w5.heap.size w5 w2:=(I.alloc I.size (.cells #[.int .i64 (k:Int)] 3)).grown b5 (by simp;have:=I.size;omega) (fun j hj=>(Bd o hj).2);have HO:Hid (w2.ownsRow w5.heap.size 3 1 v' ((List.range (k+1)).filter fun j=>(DH c i).contains j).length (ints ((List.range (k+1)).filter fun j=>(DH c i).contains j))):=jK (by
     rw[U.out];simp only[if_true,if_pos];rw[aO,Mu];exact a1)
    clear a1 b5 J o;go_wp2;go_roundw
    case rel=>exact⟨k+1,by omega,by go_num,HO.out,c9⟩
    case measure=>simp[intOf];omega
  ·obtain rfl:k=c.Aa.length:=by omega
   have i7:¬(c.Aa.length:Int)<(c.Aa.length:Int):=by omega
   rw[v.GB hi]at J;go_wp2;go_ret;exact⟨_,rfl,a7.trans (hb.mono a7.size),Bk J a7.size⟩
theorem XP {c:Q.Af} (v:Valid c) {k:Nat} (j:k<c.Aa.length) (I:Tr.dp c.Ar k=0):BR (Tr.kd c.Ar k)=false:=by
 by_cases o:Tr.kd c.Ar k=2
 ·rw[o];rfl
 ·obtain⟨p,hp,_⟩:=v.KA j o;have:=(v.nb.PY (i:=k) (by rw[AI];exact j)).2 I;omega
theorem QC (c:Q.Af) (nm:ByteArray) (ev vv sv tv:Value) (w:World) (h:AQ w w.heap.size ev vv sv tv c) (v:Valid c) :
  Calls prog 45 #[BZ nm ev vv sv tv] w fun e w'=>∃V,e=.returned V/\Below w.heap.size w w'/\w'.ownsRow w.heap.size 3 1 V (CO c).length (ints (CO c)):=by
 obtain⟨i0,b7,b8,b9,c6⟩:=dC Fg;obtain⟨SA,sc,rfl,h2,c7⟩:=h.Aa.form;obtain⟨W0,e0⟩:∃W0,w.alloc (.cells #[.string nm,ev,vv,.slice SA c.Aa.length sc,tv] 27)=W0:=⟨_,rfl⟩;obtain⟨b1,s0,h0,p0,p1,p2,p3,p4⟩:=Bl h e0;have p:w.heap.size<W0.heap.size:=by omega
 have e6:=v.Aa;clear s0 h;go_enter func45,ntmps45;go_wp2;clear e0
 go_loopw [4,3] (fun u V wr=>∃k:Nat,k<=c.Aa.length/\u=.int .i64 (k:Int)/\wr.ownsRow W0.heap.size 3 1 V ((Ct c k).flatMap (DH c)).length (ints ((Ct c k).flatMap (DH c)))/\Below W0.heap.size W0 wr) (fun u _ _=>c.Aa.length-(intOf u).toNat)
 case atStart=>exact⟨0,by omega,rfl,by simpa[Ct,ints]using bL _ _ _ _,aJ _ _⟩
 case round=>
  obtain⟨k,hk,rfl,J,hb⟩:=hrel;have h5:=hb.size;obtain⟨U,-⟩:=Ae hb;have g0:=(U _ 0 p).trans p0;have g1:=(U _ 1 p).trans p1;have g2:=(U _ 2 p).trans p2;have g3:=(U _ 3 p).trans p3;have g4:=(U _ 4 p).trans p4;have hlen:=v.Lz hk;by_cases R:k<c.Aa.length
  ·have h6:(k:Int)<(c.Aa.length:Int):=by omega
   obtain⟨ad,rfl,h7⟩:=c7 k R;obtain⟨uA,uc,zA,zc,c0,c1,c2,c3,c4,c5,-,-⟩:=A5 (c:=c) (h0.Aa.on AU hb) R;have a7:=jK (J7 c k);rw[<-K2 c R]at c2;by_cases hd:Tr.dp c.Ar k=0
   ·have hz:=Be hd;have c8:=Qp c nm ev vv _ tv wr (h0.on hb) v k R (XP v R hd);have I:=a7.out;rw[if_pos hd]at I;have h9:=v.Md R;generalize Tr.dp c.Ar k=dp at *;clear hd a7;go_wp2_with fail;(with_reducible refine c8.mono ?_);rintro e w5⟨V5,rfl,b3,b4⟩;obtain⟨BA,bc,rfl⟩:=Al b4;have a1:=AG J b3;have a6:=hb.trans (b3.mono hb.size);have b5:=NP (DH c k);have c9:Reads w5 w5.heap.size 1 BA (DH c k).length (ints (DH c k)):=Reads.BL b4;go_wp2_with (at_builtin;refine Ap _ rfl _ _ 28 rfl W0.heap.size 3 i0 _ 1 8 underlying28 b7 b8 b9 c6 rfl (by decide) _ _ _ rfl a1 _ BA (DH c k).length bc _ rfl c9 b5 ?c3 ?c4 ?c5 ?_)
    case c3=>unfold maxLen;omega
    case c4=>omega
    case c5=>exact a6.size
    intro v' w6 o b6 _;have e1:=a6.grown b6 a6.size fun j hj=>(Bd a1 hj).2
    have HO:Hid (w6.ownsRow W0.heap.size 3 1 v' ((Ct c (k+1)).flatMap (DH c)).length (ints ((Ct c (k+1)).flatMap (DH c)))):=jK (by
     rw[I,aO,SH]
     first
      |exact o
      |(rw[<-List.length_flatMap]at o;exact o))
    clear o b6 I;go_wp2;go_roundw
    case rel=>exact⟨k+1,by omega,by go_num,HO.out,e1⟩
    case measure=>simp[intOf];omega
   ·have hz:=Bg hd;have I:=a7.out;rw[if_neg hd,cP]at I;have e2:=jK I;clear a7 I;generalize Tr.dp c.Ar k=dp at *;clear hd;go_wp2;go_roundw
    case rel=>exact⟨k+1,by omega,by go_num,by rw[e2.out];exact J,hb⟩
    case measure=>simp[intOf];omega
  ·obtain rfl:k=c.Aa.length:=by omega
   have j2:¬(c.Aa.length:Int)<(c.Aa.length:Int):=by omega
   rw[LL]at J;go_wp2;go_ret;exact⟨_,rfl,b1.trans (hb.mono b1.size),Bk J b1.size⟩
end
end Go.Proofs.YthbihnpoghlfaaaGreatDoor
