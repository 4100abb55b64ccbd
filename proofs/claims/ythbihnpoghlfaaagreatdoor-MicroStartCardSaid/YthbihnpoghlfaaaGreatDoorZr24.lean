import Derived.Test.YthbihnpoghlfaaaGreatDoorZr23
set_option linter.unusedVariables false
set_option linter.unusedSimpArgs false
set_option maxHeartbeats 8000000
set_option maxRecDepth 100000
namespace Go.Proofs.YthbihnpoghlfaaaGreatDoor
open Go.Proofs.Tryz
section
open Go.RowKit Q Fl Go.Lib
structure OfW (w W:World) (op a:Int) (nm:ByteArray):Prop where
 below:Below w.heap.size w W
 size:W.heap.size=w.heap.size+1+1
 KN:Bw W w.heap.size 60 #[.int .i64 0,.int .i64 0,.int .i64 0]
 cell:Bw W (w.heap.size+1) 248 #[.int .i64 op,.int .i64 a,.string nm]
theorem ofW (w W:World) (op a:Int) (nm:ByteArray) (h:(w.alloc (.cells #[.int .i64 0,.int .i64 0,.int .i64 0] 60)).alloc (.cells #[.int .i64 op,.int .i64 a,.string nm] 248)=W):OfW w W op a nm:=by
 subst h;refine⟨Bx w _ _,by simp,(Bw.new w _ _).alloc _,?_⟩;have:=Bw.new (w.alloc (.cells #[.int .i64 0,.int .i64 0,.int .i64 0] 60)) 248 #[.int .i64 op,.int .i64 a,.string nm];simpa only[aW]using this
theorem CW {w j:World} (h:Below w.heap.size w j) (a b c:Value):Below w.heap.size w (((j.setCell ⟨w.heap.size,0,none⟩ a).setCell ⟨w.heap.size,1,none⟩ b).setCell ⟨w.heap.size,2,none⟩ c):=
 (((h.setCell (p:=⟨w.heap.size,0,none⟩) (aL _) a).setCell (p:=⟨w.heap.size,1,none⟩) (aL _) b).setCell (p:=⟨w.heap.size,2,none⟩) (aL _) c)
theorem OfW.facts {w W j:World} {op a:Int} {nm:ByteArray} (h:OfW w W op a nm) (I:Below W.heap.size W j) :
  Below w.heap.size w j/\(j.cell? ⟨w.heap.size,0,none⟩=some (.int .i64 0)/\j.cell? ⟨w.heap.size,1,none⟩=some (.int .i64 0)/\j.cell? ⟨w.heap.size,2,none⟩=some (.int .i64 0)/\∀i,j.frozen? ⟨w.heap.size,i,none⟩=false)/\
  j.cell? ⟨w.heap.size+1,0,none⟩=some (.int .i64 op)/\j.cell? ⟨w.heap.size+1,1,none⟩=some (.int .i64 a)/\j.cell? ⟨w.heap.size+1,2,none⟩=some (.string nm)/\w.heap.size+1<j.heap.size:=by
 have J:=h.size;have o:=h.KN.below I (by omega);have p:=h.cell.below I (by omega);refine⟨Ab h.below I,⟨?_,?_,?_,o.frozen⟩,?_,?_,?_,p.lt⟩
 ·rw[o.cell 0];rfl
 ·rw[o.cell 1];rfl
 ·rw[o.cell 2];rfl
 ·rw[p.cell 0];rfl
 ·rw[p.cell 1];rfl
 ·rw[p.cell 2];rfl
theorem SJ (vars:List Q.Var) (Ac:List BS) (j:List ByteArray) (l:List Cell) (v vs xs az:Value) (c:Cell) (h0:B7 c=0) (i:Nat) (a7:i<l.length) (a8:l[i]=c) (w:World)
  (hc:Bp w w.heap.size v l) (hv:BK w w.heap.size vs vars) (hx:Ci w w.heap.size xs Ac) (ha:AE w w.heap.size az j) (hl:vars.length=Ac.length) :
  Calls prog 323 #[v,.int .i64 (i:Int),vs,xs,az] w fun e w'=>e=.returned (Am (EY vars Ac j c))/\Below w.heap.size w w':=by
 obtain⟨A,cp,rfl,hn,hA⟩:=hc.form;obtain⟨XA,h4,rfl,h5,c5⟩:=hx.form;obtain⟨ad,rfl,h6⟩:=hA i a7;obtain⟨c0,c1,c2⟩:=Bp.at_ (hc.on Aw (AT w (.cells #[.int .i64 0,.int .i64 0,.int .i64 0] 60))) a7;rw[a8]at c0 c1 c2;obtain⟨op,a,nm⟩:=c;dsimp only at c0 c1 c2;have h7:(i:Int)<(l.length:Int):=by omega
 obtain⟨W,hW⟩:∃W,(w.alloc (.cells #[.int .i64 0,.int .i64 0,.int .i64 0] 60)).alloc (.cells #[.int .i64 op,.int .i64 a,.string nm] 248)=W:=⟨_,rfl⟩;have R:=jK (ofW w W op a nm hW);have ho:=Lb h0;dsimp only at ho;have H0:=jK h0;have b0:=hv.on AL R.out.below;have b1:=ha.on R.out.below;have q:=R.out.facts (aJ _ _);obtain⟨_,_,q1,q2,q3,q4⟩:=q;clear h0 a8;go_enter func323,ntmps323;go_wp2_with fail;refine(B5 ⟨op,a,nm⟩ W).mono ?_;rintro e w1⟨rfl,o⟩;rw[H0.out];clear hW c0 c1 c2 q1 q2 q3;obtain⟨f1,⟨f2,f3,f4,f5⟩,f6,f7,f8,f9⟩:=R.out.facts o;have F1:=jK f1;have b3:=b0.on AL o;have c8:=b1.on o;have U:=jK o;clear f1 o b0 b1;have h3:op=1\/op=2\/op=3\/op=4\/op=5\/op=6:=by omega
 rcases h3 with rfl|rfl|rfl|rfl|rfl|rfl
 ·go_wp2;refine aI (v:=Am (.ok ⟨1,a,0⟩)) (by simp[results,results323,go_sem,Am,As,f2,f3,f4,f5]) rfl ⟨rfl,?_⟩;exact CW F1.out _ _ _
 ·go_wp2;refine aI (v:=Am (.ok ⟨3,0,a⟩)) (by simp[results,results323,go_sem,Am,As,f2,f3,f4,f5]) rfl ⟨rfl,?_⟩;exact CW F1.out _ _ _
 ·go_wp2_with fail;refine(AW true _).mono ?_;rintro e w2⟨rfl,p⟩;obtain⟨g1,⟨g2,g3,g4,g5⟩,_⟩:=R.out.facts (Ab U.out p);clear f2 f3 f4 f5 f6 f7 f8;unfold As A7;go_wp2;refine aI (v:=Am (.ok ⟨2,1,0⟩)) (by simp[results,results323,go_sem,Am,As,g2,g3,g4,g5]) rfl ⟨rfl,?_⟩;exact CW g1 _ _ _
 ·go_wp2_with fail;refine(AW false _).mono ?_;rintro e w2⟨rfl,p⟩;obtain⟨g1,⟨g2,g3,g4,g5⟩,_⟩:=R.out.facts (Ab U.out p);clear f2 f3 f4 f5 f6 f7 f8;unfold As A7;go_wp2;refine aI (v:=Am (.ok ⟨2,0,0⟩)) (by simp[results,results323,go_sem,Am,As,g2,g3,g4,g5]) rfl ⟨rfl,?_⟩;exact CW g1 _ _ _
 ·have J:EY vars Ac j ⟨5,a,nm⟩=match vars.findIdx? (named nm)with
   |none=>.err 2
   |some i=>match Ac[i]? with
    |some v=>.ok v
    |none=>.err (-1):=rfl
  rcases DY (named nm) vars with⟨i1,i2,i3⟩|⟨ix,c9,i1,i2,i3⟩
  ·rw[i3]at J;dsimp only at J;have HE:=jK J;have HI:=jK i1;clear J i1 i2 i3;go_wp2_with fail;refine(D5 vars vs nm w1 b3).mono ?_;rintro e w2⟨rfl,rfl⟩;rw[HI.out];go_wp2;refine aI (v:=Am (.err 2)) (by simp[results,results323,go_sem,Am,As,AD,f2,f3,f4,f5]) rfl ⟨by rw[HE.out],?_⟩;exact CW F1.out _ _ _
  ·have I:ix<Ac.length:=by rw[<-hl];exact c9
   rw[i3]at J;dsimp only at J;rw[aQ I]at J;dsimp only at J;obtain⟨j2,rfl,e6⟩:=c5 ix I;have e7:(ix:Int)<(Ac.length:Int):=by omega
   obtain⟨y1,y2,y3⟩:=Ci.at_ (hx.on BV F1.out) I;generalize Ac[ix]=vx at *;obtain⟨xk,xa,xb⟩:=vx;dsimp only at y1 y2 y3;have HE:=jK J;have HI:=jK i1;clear J i1 i2 i3;go_wp2_with fail;refine(D5 vars vs nm w1 b3).mono ?_;rintro e w2⟨rfl,rfl⟩;rw[HI.out];go_wp2;refine aI (v:=Am (.ok ⟨xk,xa,xb⟩)) (by simp[results,results323,go_sem,Am,As,f2,f3,f4,f5]) rfl ⟨by rw[HE.out],?_⟩;exact CW F1.out _ _ _
 ·obtain⟨bh,a1⟩:∃bh,E5 j nm=bh:=⟨_,rfl⟩;obtain⟨tv,a6⟩:=AJ bh;have HE:=jK (show EY vars Ac j ⟨6,a,nm⟩=.ok ⟨2,tv,0⟩by rw[<-a6,<-a1];rfl);have e1:=jK a1;have e2:=jK a6;clear a1 a6;go_wp2_with fail;refine(G5 j az nm w1 c8).mono ?_;rintro e w2⟨rfl,rfl⟩;rw[e1.out];go_wp2_with fail;refine(AW bh _).mono ?_;rintro e w3⟨rfl,p⟩;rw[e2.out];obtain⟨g1,⟨g2,g3,g4,g5⟩,_⟩:=R.out.facts (Ab U.out p);clear f2 f3 f4 f5 f6 f7 f8;unfold As;go_wp2;refine aI (v:=Am (.ok ⟨2,tv,0⟩)) (by simp[results,results323,go_sem,Am,As,g2,g3,g4,g5]) rfl ⟨by rw[HE.out],?_⟩;exact CW g1 _ _ _
theorem Jm {vars:List Var} {Ac:List BS} {j:List ByteArray} (o:∀x∈Ac,FL x):∀(t:T) {v:BS},t.wf->(Dq vars Ac j).ev t=.ok v->FL v
 |.leaf c,v,hw,h=>Q9 hw o h
 |.one c t,v,hw,h=>by
  rw[Lg]at h;cases e:(Dq vars Ac j).ev t with
  |err x=>rw[e]at h;cases h
  |ok x=>rw[e]at h;exact Wh (Im hw.1) (Jm o t hw.2 e) h
 |.two c s t,v,hw,h=>by
  rw[Lo]at h;cases e:(Dq vars Ac j).ev s with
  |err x=>rw[e]at h;cases h
  |ok x=>
   cases p:(Dq vars Ac j).ev t with
   |err y=>rw[e,p]at h;cases h
   |ok y=>rw[e,p]at h;exact Wn (J5 hw.1) (Jm o s hw.2.1 e) (Jm o t hw.2.2 p) h
theorem Iz {vars:List Var} {Ac:List BS} {j:List ByteArray} (o:vars.length=Ac.length):∀(t:T),Yg ((Dq vars Ac j).ev t)
 |.leaf c=>fun x h=>by
  have:=WR o h;omega
 |.one c t=>fun x h=>by
  rw[Lg]at h;cases e:(Dq vars Ac j).ev t with
  |err y=>rw[e]at h;injection h with h;subst h;exact Iz o t _ e
  |ok y=>rw[e]at h;exact MM h
 |.two c s t=>fun x h=>by
  rw[Lo]at h;cases e:(Dq vars Ac j).ev s with
  |err y=>rw[e]at h;injection h with h;subst h;exact Iz o s _ e
  |ok y=>
   cases p:(Dq vars Ac j).ev t with
   |err z=>rw[e,p]at h;injection h with h;subst h;exact Iz o t _ p
   |ok z=>rw[e,p]at h;exact NX h
theorem Uv (vars:List Q.Var) (Ac:List BS) (j:List ByteArray) (l:List Cell) (l7:l.length<=32) (a8:∀x∈Ac,FL x) (hl:vars.length=Ac.length) (v vs xs az:Value):∀(t:T),t.wf->∀(pre post:List Cell),l=pre++(t.flat++post)->∀(i:Nat),i=pre.length+t.flat.length-1->∀(w:World),Bp w w.heap.size v l->BK w w.heap.size vs vars->Ci w w.heap.size xs Ac->AE w w.heap.size az j->
  Calls prog 323 #[v,.int .i64 (i:Int),vs,xs,az] w fun e w'=>e=.returned (Am ((Dq vars Ac j).ev t))/\Below w.heap.size w w':=by
 intro t
 induction t with
 |leaf c=>
  intro hw pre post p i hi w hc hv hx ha;obtain⟨I,J⟩:=KR p;rw[<-hi]at I;simp only[<-hi]at J;exact SJ vars Ac j l v vs xs az c hw i I J w hc hv hx ha hl
 |one c t ih=>
  obtain⟨op,a,nm⟩:=c;intro hw pre post p i hi w hc hv hx ha;obtain⟨I,J⟩:=KR p;rw[<-hi]at I;obtain⟨A,cp,rfl,hn,hA⟩:=hc.form;obtain⟨ad,rfl,n1⟩:=hA i I;obtain⟨c0,c1,c2⟩:=Bp.at_ (hc.on Aw (AT w (.cells #[.int .i64 0,.int .i64 0,.int .i64 0] 60))) I;simp only[<-hi]at J;rw[J]at c0 c1 c2;dsimp only[T.top]at c0 c1 c2;have n2:(i:Int)<(l.length:Int):=by omega
  obtain⟨W,hW⟩:∃W,(w.alloc (.cells #[.int .i64 0,.int .i64 0,.int .i64 0] 60)).alloc (.cells #[.int .i64 op,.int .i64 a,.string nm] 248)=W:=⟨_,rfl⟩;have HO:=jK (ofW w W op a nm hW);have q:=HO.out.facts (aJ _ _);obtain⟨_,_,q1,q2,q3,q4⟩:=q;unfold T.wf at hw;have HW:=jK hw.1;have ho:=Im hw.1;dsimp only at ho;have e7:=jK hw.2;have o1:=Dc t;have IH:=jK (ih hw.2 pre (⟨op,a,nm⟩::post) (by rw[p];simp[T.flat]) (i-1) (by rw[hi];simp[T.flat]));have q5:1<=i:=by rw[hi];simp[T.flat];omega
  obtain⟨R,hR⟩:∃R,(Dq vars Ac j).ev (.one ⟨op,a,nm⟩ t)=R:=⟨_,rfl⟩;rw[hR];rw[Lg]at hR;have HR:=jK hR;obtain⟨K,AA,B,X,b0⟩:=Ck R;rw[b0];have HV:=jK b0;clear hi hw J p ih hR b0;go_enter func323,ntmps323;go_wp2_with fail;refine(B5 ⟨op,a,nm⟩ W).mono ?_;rintro e w1⟨rfl,b1⟩;rw[HW.out];clear hW c0 c1 c2 q1 q2 q3;have hf:=HO.out.facts b1;have a6:=hf.1;have b8:=hc.on Aw a6;have i1:=hv.on AL a6;have i6:=hx.on BV a6;have i7:=ha.on a6;have a7:(i:Int)-1=((i-1:Nat):Int):=by omega
  have H1:=jK a7;have e8:=jK b1;clear b1 a7 hf a6;go_wp2_with fail;rw[H1.out];refine(IH.out _ b8 i1 i6 i7).mono ?_;rintro e w2⟨rfl,b9⟩;have a1:=jK (Ab e8.out b9);clear b9 b8 i1 i6 i7;cases U:(Dq vars Ac j).ev t with
  |err x=>
   have h0:=Iz hl t x U;have j0:(x==0)=false:=by simpa using h0
   have e4:(x != 0)=true:=by simpa using h0
   have o:=HR.out;rw[U]at o;have b2:=jK (show Rs.err x=R from o);have hf:=HO.out.facts (a1.out.alloc a1.out.size (.cells #[.int .i64 0,.int .i64 0,.int .i64 0] 60));obtain⟨f1,⟨f2,f3,f4,f5⟩,_⟩:=hf;have F1:=jK f1;clear U h0 HR f1 o;unfold Am As AD;go_wp2;refine aI (v:=Am (.err x)) (by simp[results,results323,go_sem,Am,As,AD,f2,f3,f4,f5]) rfl ⟨by rw[b2.out,HV.out],?_⟩;exact CW F1.out _ _ _
  |ok x=>
   have c4:=Jm a8 t e7.out U;have o:=HR.out;rw[U]at o;have e5:Ou op x=R:=o;obtain⟨xk,xa,xb⟩:=x;have b4:=jK e5;have e9:=jK c4;have hf:=HO.out.facts (a1.out.alloc a1.out.size (.cells #[.int .i64 xk,.int .i64 xa,.int .i64 xb] 60));obtain⟨f1,⟨f2,f3,f4,f5⟩,f6,f7,f8,_⟩:=hf;clear U HR o e5 f1 c4;unfold Am As;dsimp only;go_wp2_with fail;refine(UR op ⟨xk,xa,xb⟩ ho e9.out _).mono ?_;rintro e w3⟨rfl,j3⟩;rw[b4.out,HV.out];have c5:=Ab (a1.out.alloc a1.out.size (.cells #[.int .i64 xk,.int .i64 xa,.int .i64 xb] 60)) j3;obtain⟨g1,⟨g2,g3,g4,g5⟩,_⟩:=HO.out.facts c5;have G1:=jK g1;clear f2 f3 f4 f5 f6 f7 f8 g1 j3 c5;go_wp2;refine aI (v:=.tuple #[.agg #[.int .i64 K,.int .i64 AA,.int .i64 B],.int .i64 X]) (by simp[results,results323,go_sem,g2,g3,g4,g5]) rfl ⟨rfl,?_⟩;exact CW G1.out _ _ _
 |two c s t j4 j5=>
  obtain⟨op,a,nm⟩:=c;intro hw pre post p i hi w hc hv hx ha;obtain⟨I,J⟩:=KR p;rw[<-hi]at I;obtain⟨A,cp,rfl,hn,hA⟩:=hc.form;obtain⟨ad,rfl,n1⟩:=hA i I;obtain⟨c0,c1,c2⟩:=Bp.at_ (hc.on Aw (AT w (.cells #[.int .i64 0,.int .i64 0,.int .i64 0] 60))) I;simp only[<-hi]at J;rw[J]at c0 c1 c2;dsimp only[T.top]at c0 c1 c2;have n2:(i:Int)<(l.length:Int):=by omega
  obtain⟨W,hW⟩:∃W,(w.alloc (.cells #[.int .i64 0,.int .i64 0,.int .i64 0] 60)).alloc (.cells #[.int .i64 op,.int .i64 a,.string nm] 248)=W:=⟨_,rfl⟩;have HO:=jK (ofW w W op a nm hW);have q:=HO.out.facts (aJ _ _);obtain⟨_,_,q1,q2,q3,q4⟩:=q;unfold T.wf at hw;have HW:=jK hw.1;have ho:=J5 hw.1;dsimp only at ho;have o4:=jK hw.2.1;have e7:=jK hw.2.2;have o1:=Dc t;have q8:=Dc s;have hlen:i=pre.length+(s.flat.length+(t.flat.length+1))-1:=by rw[hi];simp[T.flat]
  have q9:2<=i:=by omega
  have o5:=jK (j5 hw.2.2 (pre++s.flat) (⟨op,a,nm⟩::post) (by rw[p];simp[T.flat]) (i-1) (by rw[hlen,aO];omega));have o6:=jK (j4 hw.2.1 pre (t.flat++⟨op,a,nm⟩::post) (by rw[p];simp[T.flat]) (pre.length+s.flat.length-1) rfl);have j6:Hd l (i-1) 1=some (pre.length+s.flat.length):=by
   have h1:=Gn t hw.2.2 (pre++s.flat) (⟨op,a,nm⟩::post) 0;unfold My at h1;rw[if_pos rfl,aO]at h1;have h2:l=pre++s.flat++(t.flat++⟨op,a,nm⟩::post):=by rw[p];simp[T.flat]
   rw[h2,<-h1];congr 1;rw[hlen];omega
  have o8:=jK j6;have r1:pre.length+s.flat.length<i:=by omega
  have j7:((pre.length+s.flat.length:Nat):Int)-1=((pre.length+s.flat.length-1:Nat):Int):=by omega
  have o9:=jK j7;obtain⟨R,hR⟩:∃R,(Dq vars Ac j).ev (.two ⟨op,a,nm⟩ s t)=R:=⟨_,rfl⟩;rw[hR];rw[Lo]at hR;have HR:=jK hR;obtain⟨K,AA,B,X,b0⟩:=Ck R;rw[b0];have HV:=jK b0;generalize hq:pre.length+s.flat.length=q at *;clear hi hw J p j4 j5 hR j6 j7 hlen hq b0;go_enter func323,ntmps323;go_wp2_with fail;refine(B5 ⟨op,a,nm⟩ W).mono ?_;rintro e w1⟨rfl,b1⟩;rw[HW.out];clear hW c0 c1 c2 q1 q2 q3;have a6:=(HO.out.facts b1).1;have b8:=hc.on Aw a6;have a7:(i:Int)-1=((i-1:Nat):Int):=by omega
  have H1:=jK a7;have e8:=jK b1;clear b1 a7 a6;go_wp2_with fail;rw[H1.out];refine(OZ l _ _ b8 l7 (i-1) q (by omega) o8.out).mono ?_;rintro e w2⟨rfl,b9⟩;have a1:=jK (Ab e8.out b9);have c6:=(HO.out.facts a1.out).1;have j8:=hc.on Aw c6;have j9:=hv.on AL c6;have k0:=hx.on BV c6;have k4:=ha.on c6;clear b9 b8 c6;go_wp2_with fail;rw[o9.out];refine(o6.out _ j8 j9 k0 k4).mono ?_;rintro e w3⟨rfl,c5⟩;have e3:=jK (Ab a1.out c5);clear c5 j8 j9 k0 k4;cases U:(Dq vars Ac j).ev s with
  |err x=>
   have h0:=Iz hl s x U;have j0:(x==0)=false:=by simpa using h0
   have e4:(x != 0)=true:=by simpa using h0
   have o:=HR.out;rw[U]at o;have b2:=jK (show Rs.err x=R from o);have hf:=HO.out.facts (e3.out.alloc e3.out.size (.cells #[.int .i64 0,.int .i64 0,.int .i64 0] 60));obtain⟨f1,⟨f2,f3,f4,f5⟩,_⟩:=hf;have F1:=jK f1;clear U h0 HR f1 o;unfold Am As AD;go_wp2;refine aI (v:=Am (.err x)) (by simp[results,results323,go_sem,Am,As,AD,f2,f3,f4,f5]) rfl ⟨by rw[b2.out,HV.out],?_⟩;exact CW F1.out _ _ _
  |ok x=>
   have c4:=Jm a8 s o4.out U;have o:=HR.out;rw[U]at o;have b4:=jK (show(((Dq vars Ac j).ev t).bind fun y=>DC op x y)=R from o);obtain⟨xk,xa,xb⟩:=x;have e9:=jK c4;have h3:=e3.out.alloc e3.out.size (.cells #[.int .i64 xk,.int .i64 xa,.int .i64 xb] 60);have c7:=(HO.out.facts h3).1;have k5:=hc.on Aw c7;have k6:=hv.on AL c7;have k7:=hx.on BV c7;have k8:=ha.on c7;have p0:=jK h3;clear U HR o c4 h3 c7;unfold Am As;dsimp only;go_wp2_with fail;rw[H1.out];refine(o5.out _ k5 k6 k7 k8).mono ?_;rintro e w4⟨rfl,h4⟩;have b5:=jK (Ab p0.out h4);have kx:=(Bw.new w3 60 #[.int .i64 xk,.int .i64 xa,.int .i64 xb]).below h4 (by simp);have r3:=kx.lt;have k1:w4.cell? ⟨w3.heap.size,0,none⟩=some (.int .i64 xk):=by rw[kx.cell 0];rfl
   have k2:w4.cell? ⟨w3.heap.size,1,none⟩=some (.int .i64 xa):=by rw[kx.cell 1];rfl
   have k3:w4.cell? ⟨w3.heap.size,2,none⟩=some (.int .i64 xb):=by rw[kx.cell 2];rfl
   clear h4 k5 k6 k7 k8 kx;cases U:(Dq vars Ac j).ev t with
   |err y=>
    have h0:=Iz hl t y U;have j0:(y==0)=false:=by simpa using h0
    have e4:(y != 0)=true:=by simpa using h0
    have o:=b4.out;rw[U]at o;have b2:=jK (show Rs.err y=R from o);have hf:=HO.out.facts (b5.out.alloc b5.out.size (.cells #[.int .i64 0,.int .i64 0,.int .i64 0] 60));obtain⟨f1,⟨f2,f3,f4,f5⟩,_⟩:=hf;have F1:=jK f1;clear U h0 b4 f1 o k1 k2 k3;unfold Am As AD;go_wp2;refine aI (v:=Am (.err y)) (by simp[results,results323,go_sem,Am,As,AD,f2,f3,f4,f5]) rfl ⟨by rw[b2.out,HV.out],?_⟩;exact CW F1.out _ _ _
   |ok y=>
    have l0:=Jm a8 t e7.out U;have o:=b4.out;rw[U]at o;obtain⟨yk,ya,yb⟩:=y;have b2:=jK (show DC op ⟨xk,xa,xb⟩ ⟨yk,ya,yb⟩=R from o);have p2:=jK l0;have hf:=HO.out.facts (b5.out.alloc b5.out.size (.cells #[.int .i64 yk,.int .i64 ya,.int .i64 yb] 60));obtain⟨f1,⟨f2,f3,f4,f5⟩,f6,f7,f8,_⟩:=hf;clear U b4 o l0 f1;unfold Am As;dsimp only;go_wp2_with fail;refine(MX op ⟨xk,xa,xb⟩ ⟨yk,ya,yb⟩ ho e9.out p2.out _).mono ?_;rintro e w5⟨rfl,l1⟩;rw[b2.out,HV.out];have l2:=Ab (b5.out.alloc b5.out.size (.cells #[.int .i64 yk,.int .i64 ya,.int .i64 yb] 60)) l1;obtain⟨g1,⟨g2,g3,g4,g5⟩,_⟩:=HO.out.facts l2;have G1:=jK g1;clear f2 f3 f4 f5 f6 f7 f8 g1 l1 l2 k1 k2 k3;go_wp2;refine aI (v:=.tuple #[.agg #[.int .i64 K,.int .i64 AA,.int .i64 B],.int .i64 X]) (by simp[results,results323,go_sem,g2,g3,g4,g5]) rfl ⟨rfl,?_⟩;exact CW G1.out _ _ _
theorem VH (x y:BS) (w:World):(Op.equalIn 10000 60 (As x) (As y)).run prog w=.ok (decide (x.kind=y.kind/\x.a=y.a/\x.b=y.b)) w:=by
 unfold As;have j:prog.underlying 60=some (.struct (prog.fieldsOf 60)):=by kernel_rfl
 have o:prog.stoodInHeld 60=false:=by kernel_rfl
 rw[show(10000:Nat)=9999+1 from rfl,run_equalIn_struct _ _ _ _ _ j o];rw[show(9999:Nat)=9998+1 from rfl];by_cases p:x.kind=y.kind<;>by_cases I:x.a=y.a<;>by_cases J:x.b=y.b<;>
  simp[go_sem,underlying60,underlying3,underlying2,Tryz.isAgg3,Tryz.isAgg2,Op.eqFields,p,I,J]
theorem Jj (v:BS) (w:World):Calls prog 36 #[As v] w fun e w'=>e=.returned (.bool (decide (By v)))/\Below w.heap.size w w':=by
 obtain⟨r,hr⟩:∃r,decide (By v)=r:=⟨_,rfl⟩;rw[hr];obtain⟨k,a,b⟩:=v;have p:=jK hr;have j:=AT w (.cells #[.int .i64 k,.int .i64 a,.int .i64 b] 60);clear hr;show Calls _ _ #[.agg #[.int .i64 k,.int .i64 a,.int .i64 b]] _ _;by_cases h3:k=3
 ·subst h3;by_cases ha:Bo a
  ·by_cases o:Bo b
   ·obtain rfl:r=true:=by rw[<-p.out,aP];exact .inr (.inr ⟨rfl,ha,o⟩)
    have HA:=jK (aH ha);have HB:=jK (aH o);clear ha o;go_enter func36,ntmps36;go_wp2_with fail;refine(CY a _).mono ?_;rintro e w'⟨rfl,rfl⟩;rw[HA.out];go_wp2_with fail;refine(CY b _).mono ?_;rintro e w'⟨rfl,rfl⟩;rw[HB.out];go_wp2;go_ret;exact⟨rfl,j⟩
   ·obtain rfl:r=false:=by
     rw[<-p.out,bD];rintro(⟨h,_⟩|⟨h,_⟩|⟨_,_,h⟩)
     ·cases h
     ·cases h
     ·exact o h
    have HA:=jK (aH ha);have HB:=jK (aF o);clear ha o;go_enter func36,ntmps36;go_wp2_with fail;refine(CY a _).mono ?_;rintro e w'⟨rfl,rfl⟩;rw[HA.out];go_wp2_with fail;refine(CY b _).mono ?_;rintro e w'⟨rfl,rfl⟩;rw[HB.out];go_wp2;go_ret;exact⟨rfl,j⟩
  ·obtain rfl:r=false:=by
    rw[<-p.out,bD];rintro(⟨h,_⟩|⟨h,_⟩|⟨_,h,_⟩)
    ·cases h
    ·cases h
    ·exact ha h
   have HA:=jK (aF ha);clear ha;go_enter func36,ntmps36;go_wp2_with fail;refine(CY a _).mono ?_;rintro e w'⟨rfl,rfl⟩;rw[HA.out];go_wp2;go_ret;exact⟨rfl,j⟩
 ·have I:(k==3)=false:=by simpa using h3
  by_cases h2:k=2
  ·subst h2;have R:=fun w=>VH ⟨2,a,b⟩ ⟨2,0,0⟩ w
   have U:=fun w=>VH ⟨2,a,b⟩ ⟨2,1,0⟩ w
   unfold As at R U;dsimp only at R U;by_cases o:b=0
   ·by_cases h0:a=0
    ·obtain rfl:r=true:=by rw[<-p.out,aP];exact .inr (.inl ⟨rfl,o,.inl h0⟩)
     subst o;subst h0;simp only[and_self,decide_true]at R;clear U h3 I;go_enter func36,ntmps36;go_wp2;go_ret;exact⟨rfl,j⟩
    ·by_cases J:a=1
     ·obtain rfl:r=true:=by rw[<-p.out,aP];exact .inr (.inl ⟨rfl,o,.inr J⟩)
      subst o;subst J;rw[show decide ((2:Int)=2/\(1:Int)=0/\(0:Int)=0)=false by decide]at R;rw[show decide ((2:Int)=2/\(1:Int)=1/\(0:Int)=0)=true by decide]at U;clear h3 I h0;go_enter func36,ntmps36;go_wp2;go_ret;exact⟨rfl,j⟩
     ·obtain rfl:r=false:=by
       rw[<-p.out,bD];rintro(⟨h,_⟩|⟨_,_,h⟩|⟨h,_⟩)
       ·cases h
       ·rcases h with h|h
        ·exact h0 h
        ·exact J h
       ·cases h
      have E0:∀w,(Op.equalIn 10000 60 (.agg #[.int .i64 2,.int .i64 a,.int .i64 b]) (.agg #[.int .i64 2,.int .i64 0,.int .i64 0])).run prog w=.ok false w:=fun w=>by rw[R w,aF (fun h=>h0 h.2.1)]
      have E1:∀w,(Op.equalIn 10000 60 (.agg #[.int .i64 2,.int .i64 a,.int .i64 b]) (.agg #[.int .i64 2,.int .i64 1,.int .i64 0])).run prog w=.ok false w:=fun w=>by rw[U w,aF (fun h=>J h.2.1)]
      clear R U h3 I h0 J;subst o;go_enter func36,ntmps36;go_wp2;go_ret;exact⟨rfl,j⟩
   ·obtain rfl:r=false:=by
     rw[<-p.out,bD];rintro(⟨h,_⟩|⟨_,h,_⟩|⟨h,_⟩)
     ·cases h
     ·exact o h
     ·cases h
    have E0:∀w,(Op.equalIn 10000 60 (.agg #[.int .i64 2,.int .i64 a,.int .i64 b]) (.agg #[.int .i64 2,.int .i64 0,.int .i64 0])).run prog w=.ok false w:=fun w=>by rw[R w,aF (fun h=>o h.2.2)]
    have E1:∀w,(Op.equalIn 10000 60 (.agg #[.int .i64 2,.int .i64 a,.int .i64 b]) (.agg #[.int .i64 2,.int .i64 1,.int .i64 0])).run prog w=.ok false w:=fun w=>by rw[U w,aF (fun h=>o h.2.2)]
    clear R U h3 I;go_enter func36,ntmps36;go_wp2;go_ret;exact⟨rfl,j⟩
  ·have b5:(k==2)=false:=by simpa using h2
   by_cases J:k=1
   ·subst J;by_cases o:b=0
    ·obtain rfl:r=true:=by rw[<-p.out,aP];exact .inl ⟨rfl,o⟩
     subst o;go_enter func36,ntmps36;go_wp2;go_ret;exact⟨rfl,j⟩
    ·obtain rfl:r=false:=by
      rw[<-p.out,bD];rintro(⟨_,h⟩|⟨h,_⟩|⟨h,_⟩)
      ·exact o h
      ·cases h
      ·cases h
     have b6:(b==0)=false:=by simpa using o
     go_enter func36,ntmps36;go_wp2;go_ret;exact⟨rfl,j⟩
   ·have b7:(k==1)=false:=by simpa using J
    obtain rfl:r=false:=by
     rw[<-p.out,bD];rintro(⟨h,_⟩|⟨h,_⟩|⟨h,_⟩)
     ·exact J h
     ·exact h2 h
     ·exact h3 h
    go_enter func36,ntmps36;go_wp2;go_ret;exact⟨rfl,j⟩
theorem Zci {α:Type} {p:α->Bool} {l:List α} {k:Nat} (h:k<l.length) (hp:p l[k]=true):l.any p=true:=gF.2 ⟨_,bK h,hp⟩
theorem Zcz {α:Type} {p:α->Bool} {l:List α} (h:∀j (o:j<l.length),j<l.length->p l[j]=false):l.any p=false:=by
 rw[gS];intro x I;obtain⟨j,o,rfl⟩:=cU I;rw[h j o o];exact Bool.noConfusion
theorem UW (vars:List Var) (Ac:List BS) (o:List ByteArray) (l:List Cell) (v vs xs az:Value) (w:World) (hc:Bp w w.heap.size v l) (hv:BK w w.heap.size vs vars) (hx:Ci w w.heap.size xs Ac) (ha:AE w w.heap.size az o) (h5:∀x∈Ac,AP x.a) :
  Calls prog 276 #[v,vs,xs,az] w fun e w'=>e=.returned (Am (Kv vars Ac o l))/\Below w.heap.size w w':=by
 obtain⟨A,cp,rfl,hn,hA⟩:=hc.form;obtain⟨VA,k0,rfl,k1,k2⟩:=hv.form;obtain⟨XA,k3,rfl,k4,h6⟩:=hx.form;obtain⟨b,hb⟩:∃b,BC l=b:=⟨_,rfl⟩;obtain⟨R,J⟩:∃R,Kv vars Ac o l=R:=⟨_,rfl⟩;rw[J];unfold Kv at J;have e1:=AT w (.cells #[.int .i64 0,.int .i64 0,.int .i64 0] 60);have e2:Bw (w.alloc (.cells #[.int .i64 0,.int .i64 0,.int .i64 0] 60)) w.heap.size 60 #[.int .i64 0,.int .i64 0,.int .i64 0]:=Bw.new w _ _;have HB:=jK hb;have HR:=jK J;have h7:=jK e2;clear hb J e2;go_enter func276,ntmps276;go_wp2_with fail;refine(JE l _ _ (hc.on Aw e1)).mono ?_;rintro e w1⟨rfl,e3⟩;rw[HB.out];have b2:=Ab e1 e3;have p:=h7.out.below e3 (by simp);have h8:=p.lt;cases b with
 |false=>
  have q1:=p.cell 0;have q2:=p.cell 1;have q3:=p.cell 2;have q4:=p.frozen;simp only[cI,cF,cG]at q1 q2 q3;have J:=HR.out;rw[HB.out,if_neg (by decide)]at J;subst J;clear HR;go_wp2;refine aI (v:=Am (.err 1)) (by simp[results,results276,go_sem,Am,As,AD,q1,q2,q3,q4]) rfl ⟨rfl,?_⟩;exact EM b2 _ _ _
 |true=>
  have J:=HR.out;rw[HB.out,if_pos rfl]at J;have b3:=jK J;clear J HR;by_cases hl:vars.length=Ac.length;rotate_left
  ·have k5:((vars.length:Int) != (Ac.length:Int))=true:=by simp;omega
   have j3:((vars.length:Int)==(Ac.length:Int))=false:=by simp;omega
   have J:=b3.out;rw[if_neg (fun h=>hl h.1)]at J;subst J;have q1:=p.cell 0;have q2:=p.cell 1;have q3:=p.cell 2;have q4:=p.frozen;simp only[cI,cF,cG]at q1 q2 q3;clear hl b3;go_wp2;refine aI (v:=Am (.err 12)) (by simp[results,results276,go_sem,Am,As,AD,q1,q2,q3,q4]) rfl ⟨rfl,?_⟩;exact EM b2 _ _ _
  ·have HL:=jK hl;rw[hl]at hv⊢;clear hl;have h9:=jK p;clear p;go_wp2
   go_loopw [10] (fun v wr=>∃k:Nat,k<=Ac.length/\v=.int .i64 (k:Int)/\(∀j (h:j<Ac.length),j<k->(!decide (By Ac[j]))=false)/\Below w1.heap.size w1 wr) (fun v _=>Ac.length-(intOf v).toNat)
   case atStart=>exact⟨0,by omega,rfl,fun j _ hj=>absurd hj (by omega),aJ _ _⟩
   case round=>
    obtain⟨k,hk,rfl,b4,c3⟩:=hrel;have U:=Ab b2 c3;have a8:=h9.out.below c3 h8;have b5:=a8.lt;have b6:=jK b4;clear b4;by_cases c4:k<Ac.length
    ·have k6:(k:Int)<(Ac.length:Int):=by omega
     obtain⟨ad,rfl,k7⟩:=h6 k c4;obtain⟨c0,c1,c2⟩:=Ci.at_ (hx.on BV U) c4;have c5:=jK a8;clear a8;obtain⟨vb,e5⟩:∃vb,decide (By Ac[k])=vb:=⟨_,rfl⟩;have c6:=jK e5;clear e5;go_wp2_with fail;refine(Jj Ac[k] wr).mono ?_;rintro e w3⟨rfl,b0⟩;rw[c6.out];have b7:=Ab c3 b0;cases vb with
     |true=>
      clear c0 c1 c2;go_wp2;go_roundw
      case rel=>exact⟨k+1,by omega,by go_num,fun j hj k9=>by
       by_cases e:j=k
       ·subst e;rw[c6.out];rfl
       ·exact b6.out j hj (by omega),b7⟩
      case measure=>simp[intOf];omega
     |false=>
      have I:=c5.out.below b0 b5;have q1:=I.cell 0;have q2:=I.cell 1;have q3:=I.cell 2;have q4:=I.frozen;simp only[cI,cF,cG]at q1 q2 q3;have J:=b3.out;rw[if_neg (fun h=>by
       rw[Zci c4 (by rw[c6.out];rfl)]at h;exact Bool.noConfusion h.2)]at J
      have c7:=jK J;clear J I c0 c1 c2;go_wp2;refine aI (v:=Am (.err 12)) (by simp[results,results276,go_sem,Am,As,AD,q1,q2,q3,q4]) rfl ⟨by rw[<-c7.out],?_⟩;exact EM (Ab b2 b7) _ _ _
    ·obtain rfl:k=Ac.length:=by omega
     have j6:¬(Ac.length:Int)<(Ac.length:Int):=by omega
     have b1:(Ac.any fun v=>!decide (By v))=false:=Zcz b6.out;have b8:∀x∈Ac,FL x:=fun x hx=>by
      have:=gS.1 b1 x hx;exact⟨by simpa using this,h5 x hx⟩
     have J:=b3.out;rw[if_pos ⟨HL.out,b1⟩]at J;obtain⟨t,ht,rfl⟩:=CE HB.out;have c7:=jK (show(Dq vars Ac o).ev t=R by rw[<-J];exact(Mf _ ht HB.out).symm);have i7:t.flat.length<=32:=by
      have:=HB.out;unfold BC at this;simp only[aG,aP]at this;exact this.1
     have hp:=Dc t;have hz:(t.flat.length:Int)-1=((t.flat.length-1:Nat):Int):=by omega
     have HZ:=jK hz;have e6:=jK b8;have c5:=jK a8;have e7:=hc.on Aw U;have e8:=hx.on BV U;have e9:=ha.on U;have h0:=hv.on AL U;clear hz J b1 b8 a8;go_wp2_with fail;rw[HZ.out];refine(Uv vars Ac o t.flat i7 e6.out HL.out _ _ _ az t ht [] [] (by simp) _ (by simp) _ e7 h0 e8 e9).mono ?_;rintro e w3⟨rfl,b0⟩;rw[c7.out];obtain⟨K,AA,B,X,c8⟩:=Ck R;have HV:=jK c8;rw[c8];have I:=c5.out.below b0 b5;have q1:=I.cell 0;have q2:=I.cell 1;have q3:=I.cell 2;have q4:=I.frozen;simp only[cI,cF,cG]at q1 q2 q3;clear I c8 e7 e8 e9 h0;go_wp2;refine aI (v:=.tuple #[.agg #[.int .i64 K,.int .i64 AA,.int .i64 B],.int .i64 X]) (by simp[results,results276,go_sem,q1,q2,q3,q4]) rfl ⟨by rw[HV.out],?_⟩;exact EM (Ab U b0) _ _ _
end
end Go.Proofs.YthbihnpoghlfaaaGreatDoor
