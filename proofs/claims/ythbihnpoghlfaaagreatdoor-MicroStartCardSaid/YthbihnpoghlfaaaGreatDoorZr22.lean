import Derived.Test.YthbihnpoghlfaaaGreatDoorZr21
set_option linter.unusedVariables false
set_option linter.unusedSimpArgs false
set_option maxHeartbeats 8000000
set_option maxRecDepth 100000
namespace Go.Proofs.YthbihnpoghlfaaaGreatDoor
open Go.Proofs.Tryz
section
open Go.RowKit Q Fl Go.Lib
theorem S8 (vars:List Var) (Ac:List BS) (j:List ByteArray) (l:List Cell) (v vs xs az:Value) (w:World) (hc:Bp w w.heap.size v l) (hv:BK w w.heap.size vs vars) (hx:Ci w w.heap.size xs Ac) (ha:AE w w.heap.size az j) (v7:∀x∈Ac,AP x.a) :
  Calls prog 202 #[v,vs,xs,az] w fun e w'=>e=.returned (Am (Kv vars Ac j l))/\Below w.heap.size w w':=by
 obtain⟨i0,F9,G1,G2,H0⟩:=dC Hp;obtain⟨A,cp,rfl,hn,hA⟩:=hc.form;obtain⟨VA,ak,rfl,al,an⟩:=hv.form;obtain⟨XA,ao,rfl,ap,H2⟩:=hx.form;obtain⟨b,hb⟩:∃b,BC l=b:=⟨_,rfl⟩;obtain⟨R,hR⟩:∃R,Kv vars Ac j l=R:=⟨_,rfl⟩;rw[hR];unfold Kv at hR;have v8:=AT w (.cells #[.int .i64 0,.int .i64 0,.int .i64 0] 60);have w0:Bw (w.alloc (.cells #[.int .i64 0,.int .i64 0,.int .i64 0] 60)) w.heap.size 60 #[.int .i64 0,.int .i64 0,.int .i64 0]:=Bw.new w _ _;have HB:=jK hb;have HR:=jK hR;have H3:=jK w0;clear hb hR w0;go_enter func202,ntmps202;go_wp2_with fail;refine(P7 l _ _ (hc.on Aw v8)).mono ?_;rintro e w1⟨rfl,r1⟩;rw[HB.out];have h7:=Ab v8 r1;have b5:=H3.out.below r1 (by simp);have w6:=b5.lt;cases b with
 |false=>
  have q1:=b5.cell 0;have q2:=b5.cell 1;have q3:=b5.cell 2;have q4:=b5.frozen;simp only[cI,cF,cG]at q1 q2 q3;have hR:=HR.out;rw[HB.out,if_neg (by decide)]at hR;subst hR;clear HR;go_wp2;refine aI (v:=Am (.err 1)) (by simp[results,results202,go_sem,Am,As,AD,q1,q2,q3,q4]) rfl ⟨rfl,?_⟩;exact EM h7 _ _ _
 |true=>
  have hR:=HR.out;rw[HB.out,if_pos rfl]at hR;have o4:=hx.on BV h7;have H4:∀(B:Bool),((Ac.any fun v=>!decide (By v))=B)->True:=fun _ _=>trivial
  obtain⟨bad,l5⟩:∃bad,(Ac.any fun v=>!decide (By v))=bad:=⟨_,rfl⟩;rw[l5]at hR;have p6:=jK l5;have k5:=jK hR;clear l5 hR HR H4;by_cases hl:vars.length=Ac.length;rotate_left
  ·have aq:((vars.length:Int) != (Ac.length:Int))=true:=by simp;omega
   have W3:((vars.length:Int)==(Ac.length:Int))=false:=by simp;omega
   have hR:=k5.out;rw[if_neg (fun h=>hl h.1)]at hR;subst hR;have q1:=b5.cell 0;have q2:=b5.cell 1;have q3:=b5.cell 2;have q4:=b5.frozen;simp only[cI,cF,cG]at q1 q2 q3;clear hl k5;go_wp2;refine aI (v:=Am (.err 12)) (by simp[results,results202,go_sem,Am,As,AD,q1,q2,q3,q4]) rfl ⟨rfl,?_⟩;exact EM h7 _ _ _
  ·have HL:=jK hl;rw[hl]at hv⊢;clear hl;go_wp2_with fail;refine(Sf Ac _ _ o4).mono ?_;rintro e w2⟨rfl,J⟩;rw[p6.out];have w8:=Ab h7 J;have i7:=b5.below J w6;have p7:=i7.lt;cases bad with
   |true=>
    have hR:=k5.out;rw[if_neg (fun h=>Bool.noConfusion h.2)]at hR;subst hR;have q1:=i7.cell 0;have q2:=i7.cell 1;have q3:=i7.cell 2;have q4:=i7.frozen;simp only[cI,cF,cG]at q1 q2 q3;clear k5;go_wp2;refine aI (v:=Am (.err 12)) (by simp[results,results202,go_sem,Am,As,AD,q1,q2,q3,q4]) rfl ⟨rfl,?_⟩;exact EM w8 _ _ _
   |false=>
    have hR:=k5.out;rw[if_pos ⟨HL.out,rfl⟩]at hR;have p8:∀x∈Ac,FL x:=fun x hx=>by
     have:=gS.1 p6.out x hx;exact⟨by simpa using this,v7 x hx⟩
    have r2:=HB.out;unfold BC at r2;simp only[aG,aP]at r2;obtain⟨ar,p9⟩:=r2;obtain⟨RR,r3⟩:∃RR,(Dq vars Ac j).run l []=RR:=⟨_,rfl⟩;have HK:=jK (show ZK RR=R by rw[<-hR,<-r3];unfold C4;rw[of_run _ HB.out]);have w9:=jK p9;have H6:=jK r3;have x0:=jK p8;clear p9 r3 hR k5 p8 v7 o4 r1 J b5 w6;have H7:=jK i7;clear i7;go_wp2
    go_loopw [33,10] (fun v u wr=>∃(i:Nat) (o:List BS),i<=l.length/\o.length<=i/\v=.int .i64 (i:Int)/\wr.ownsRow (w.heap.size+1) 60 3 u o.length (Lr o)/\(∀x∈o,FL x)/\Kw o.length (l.drop i)=some 1/\(Dq vars Ac j).run (l.drop i) o=RR/\Below w.heap.size w wr/\Bw wr w.heap.size 60 #[.int .i64 0,.int .i64 0,.int .i64 0]) (fun v _ _=>l.length-(intOf v).toNat)
    case atStart=>exact⟨0,[],by omega,by simp,rfl,bL _ _ _ _,fun k hk=>(by cases hk),w9.out,H6.out,w8,H7.out⟩
    case round=>
     obtain⟨i,o,hi,x4,rfl,k4,k6,b6,a7,j0,h8⟩:=hrel;obtain⟨SA,x5,hu⟩:=Al k4;subst hu;by_cases r4:i<l.length
     ·have au:(i:Int)<(l.length:Int):=by omega
      obtain⟨ad,rfl,av⟩:=hA i r4;have H9:=hc.on Aw j0;obtain⟨c0,c1,c2⟩:=Bp.at_ H9 r4;rw[drop_at r4]at b6 a7;generalize l[i]=cc at *;obtain⟨op,a,nm⟩:=cc;obtain⟨n0,n1,n2⟩:=QU b6;dsimp only at c0 c1 c2;have x6:=jK h8;have q0:=jK a7;have b7:=jK k6;have x7:=h8.lt;clear b6 a7 k6 h8;obtain⟨W,hW⟩:∃W,(wr.alloc (.cells #[.int .i64 op,.int .i64 a,.string nm] 248)).alloc (.cells #[.int .i64 0,.int .i64 0,.int .i64 0] 60)=W:=⟨_,rfl⟩;have b2:Below wr.heap.size wr W:=by rw[<-hW];exact Bx wr _ _
      have o6:W.heap.size=wr.heap.size+1+1:=by rw[<-hW];simp
      have k1:Bw W wr.heap.size 248 #[.int .i64 op,.int .i64 a,.string nm]:=by rw[<-hW];exact(Bw.new wr _ _).alloc _
      have k2:Bw W (wr.heap.size+1) 60 #[.int .i64 0,.int .i64 0,.int .i64 0]:=by
       rw[<-hW];have:=Bw.new (wr.alloc (.cells #[.int .i64 op,.int .i64 a,.string nm] 248)) 60 #[.int .i64 0,.int .i64 0,.int .i64 0];simpa only[aW]using this
      have q1:W.cell? ⟨wr.heap.size,0,none⟩=some (.int .i64 op):=by rw[k1.cell 0];rfl
      have q2:W.cell? ⟨wr.heap.size,1,none⟩=some (.int .i64 a):=by rw[k1.cell 1];rfl
      have q3:W.cell? ⟨wr.heap.size,2,none⟩=some (.string nm):=by rw[k1.cell 2];rfl
      have q4:W.cell? ⟨wr.heap.size+1,0,none⟩=some (.int .i64 0):=by rw[k2.cell 0];rfl
      have q5:W.cell? ⟨wr.heap.size+1,1,none⟩=some (.int .i64 0):=by rw[k2.cell 1];rfl
      have q6:W.cell? ⟨wr.heap.size+1,2,none⟩=some (.int .i64 0):=by rw[k2.cell 2];rfl
      have q7:∀i,W.frozen? ⟨wr.heap.size+1,i,none⟩=false:=k2.frozen;have b4:=jK k4;have c8:=jK k2;clear k1 k2 k4
      go_upto_block 2 with fail
      clear hW c0 c1 c2
      go_cut [10,15,33]from 33 to 125 (fun u ev iv wx=>iv=.int .i64 (i:Int)/\∃(r:Rs BS) (c9:List BS),ev=.int .i64 (match r with|.ok _=>0|.err e=>e)/\(∀e,r=.err e->e≠0)/\(Dq vars Ac j).step ⟨op,a,nm⟩ o=r.bind (fun v=>.ok (v::c9))/\
       c9.length<=o.length/\Kw (c9.length+1) (l.drop (i+1))=some 1/\(∀x∈c9,FL x)/\wx.ownsRow (w.heap.size+1) 60 3 u c9.length (Lr c9)/\Below wr.heap.size wr wx/\W.heap.size<=wx.heap.size/\
       ∀v,r=.ok v->FL v/\Bw wx (wr.heap.size+1) 60 (BU v).toArray)
      case first=>
       rcases GY ⟨op,a,nm⟩with h0|h0|h0|h0
       ·exfalso;omega
       ·have ho:=Lb h0;dsimp only at ho;have b8:(Dq vars Ac j).step ⟨op,a,nm⟩ o=(EY vars Ac j ⟨op,a,nm⟩).bind fun v=>.ok (v::o):=by unfold Hi.step;rw[if_pos h0];rfl
        rw[h0]at n2;replace n2:Kw (o.length+1) (l.drop (i+1))=some 1:=by simpa using n2
        have b9:=jK b8;have c7:=jK n2;have x9:∀v,EY vars Ac j ⟨op,a,nm⟩=.ok v->FL v:=fun v hv=>Q9 h0 x0.out hv
        have k7:=jK x9;clear b8 n2 n1 n0 h0 x9;by_cases h1:op=1
        ·subst h1;have hE:EY vars Ac j ⟨1,a,nm⟩=.ok (num a):=rfl;have HE:=jK hE;clear hE;go_wp2_with fail;refine(FB a W).mono ?_;rintro e w3⟨rfl,J⟩;obtain⟨o9,p0⟩:=Ae J;have hs:=J.size;have b1:=c8.out.below J (by omega);have HX:=jK (GJ 1 a 0 b1 (Ab b2 J));clear b1;unfold As num;go_wp2;go_meet
         case rel=>
          obtain⟨x1,x2,x3⟩:=HX.out;exact⟨rfl,.ok ⟨1,a,0⟩,o,rfl,fun e h=>(by cases h),by rw[b9.out,HE.out]<;>rfl,aL _,c7.out,b7.out,AG b4.out x1,x1,by omega,fun v hv=>by injection hv with hv;subst hv;exact⟨k7.out _ HE.out,x3⟩⟩
        ·by_cases h2:op=2
         ·subst h2;have HE:=jK (show EY vars Ac j ⟨2,a,nm⟩=.ok ⟨3,0,a⟩from rfl);have HX:=jK (GJ 3 0 a c8.out b2);go_wp2;go_meet
          case rel=>
           obtain⟨x1,x2,x3⟩:=HX.out;exact⟨rfl,.ok ⟨3,0,a⟩,o,rfl,fun e h=>(by cases h),by rw[b9.out,HE.out]<;>rfl,aL _,c7.out,b7.out,AG b4.out x1,x1,by omega,fun v hv=>by injection hv with hv;subst hv;exact⟨k7.out _ HE.out,x3⟩⟩
         by_cases h3:op=3
         ·subst h3;have HE:=jK (show EY vars Ac j ⟨3,a,nm⟩=.ok (A7 true)from rfl);go_wp2_with fail;refine(BG true W).mono ?_;rintro e w3⟨rfl,J⟩;obtain⟨o9,p0⟩:=Ae J;have hs:=J.size;have b1:=c8.out.below J (by omega);have HX:=jK (GJ 2 1 0 b1 (Ab b2 J));clear b1;unfold As A7;go_wp2;go_meet
          case rel=>
           obtain⟨x1,x2,x3⟩:=HX.out;exact⟨rfl,.ok ⟨2,1,0⟩,o,rfl,fun e h=>(by cases h),by rw[b9.out,HE.out]<;>rfl,aL _,c7.out,b7.out,AG b4.out x1,x1,by omega,fun v hv=>by injection hv with hv;subst hv;exact⟨k7.out _ HE.out,x3⟩⟩
         by_cases h4:op=4
         ·subst h4;have HE:=jK (show EY vars Ac j ⟨4,a,nm⟩=.ok (A7 false)from rfl);go_wp2_with fail;refine(BG false W).mono ?_;rintro e w3⟨rfl,J⟩;obtain⟨o9,p0⟩:=Ae J;have hs:=J.size;have b1:=c8.out.below J (by omega);have HX:=jK (GJ 2 0 0 b1 (Ab b2 J));clear b1;unfold As A7;go_wp2;go_meet
          case rel=>
           obtain⟨x1,x2,x3⟩:=HX.out;exact⟨rfl,.ok ⟨2,0,0⟩,o,rfl,fun e h=>(by cases h),by rw[b9.out,HE.out]<;>rfl,aL _,c7.out,b7.out,AG b4.out x1,x1,by omega,fun v hv=>by injection hv with hv;subst hv;exact⟨k7.out _ HE.out,x3⟩⟩
         have r5:=hv.on AL (Ab j0 b2);have y0:=ha.on (Ab j0 b2);by_cases h6:op=6
         ·subst h6;obtain⟨bh,r6⟩:∃bh,E5 j nm=bh:=⟨_,rfl⟩;obtain⟨tv,r7⟩:=AJ bh;have HE:=jK (show EY vars Ac j ⟨6,a,nm⟩=.ok ⟨2,tv,0⟩by rw[<-r7,<-r6];rfl);have R5:=jK r6;have R7:=jK r7;clear r6 r7 h1 h2 h3 h4 r5;go_wp2_with fail;refine(EN j az nm W y0).mono ?_;rintro e w3⟨rfl,rfl⟩;rw[R5.out];go_wp2_with fail;refine(BG bh w3).mono ?_;rintro e w4⟨rfl,J⟩;rw[R7.out];obtain⟨o9,p0⟩:=Ae J;have hs:=J.size;have b1:=c8.out.below J (by omega);have HX:=jK (GJ 2 tv 0 b1 (Ab b2 J));clear b1;unfold As;go_wp2;go_meet
          case rel=>
           obtain⟨x1,x2,x3⟩:=HX.out;exact⟨rfl,.ok ⟨2,tv,0⟩,o,rfl,fun e h=>(by cases h),by rw[b9.out,HE.out]<;>rfl,aL _,c7.out,b7.out,AG b4.out x1,x1,by omega,fun v hv=>by injection hv with hv;subst hv;exact⟨k7.out _ HE.out,x3⟩⟩
         obtain rfl:op=5:=by omega
         clear h1 h2 h3 h4 h6 y0;have hE:EY vars Ac j ⟨5,a,nm⟩=match vars.findIdx? (named nm)with
          |none=>.err 2
          |some i=>match Ac[i]? with
           |some v=>.ok v
           |none=>.err (-1):=rfl
         rcases DY (named nm) vars with⟨i1,i2,i3⟩|⟨ix,R8,i1,i2,i3⟩
         ·rw[i3]at hE;dsimp only at hE;have HE:=jK hE;have HI:=jK i1;clear hE i1 i2 i3;go_wp2_with fail;refine(EK (s:=nm) (enters_of func263 (by decide) rfl) r5 (Ja nm wr.heap.size W (by omega) q3)).mono ?_;rintro e w3⟨rfl,J⟩;rw[HI.out];have l6:=Ab j0 (Ab b2 J);have b3:=x6.out.below (Ab b2 J) x7;have z1:=b3.cell 0;have z2:=b3.cell 1;have z3:=b3.cell 2;have z4:=b3.frozen;simp only[cI,cF,cG]at z1 z2 z3;have p1:=c8.out.below J (by omega);have y1:=p1.cell 0;have y2:=p1.cell 1;have y3:=p1.cell 2;simp only[cI,cF,cG]at y1 y2 y3;have hR:=HK.out;have a7:=q0.out;have l0:((Dq vars Ac j).step ⟨5,a,nm⟩ o).bind (fun o=>(Dq vars Ac j).run (l.drop (i+1)) o)=RR:=a7;rw[b9.out,HE.out]at l0;rw[<-show Rs.err 2=RR from l0]at hR;have e8:=jK (show Rs.err 2=R from hR);clear hR a7 l0 b3 p1;go_wp2;refine aI (v:=Am (.err 2)) (by simp[results,results202,go_sem,Am,As,AD,z1,z2,z3,z4]) rfl ⟨by rw[e8.out],?_⟩;exact EM l6 _ _ _
         ·have l7:ix<Ac.length:=by rw[<-HL.out];exact R8
          rw[i3]at hE;dsimp only at hE;rw[aQ l7]at hE;dsimp only at hE;obtain⟨ay,rfl,W9⟩:=H2 ix l7;have aa:(ix:Int)<(Ac.length:Int):=by omega
          have HI:=jK i1;clear i1 i2 i3;go_wp2_with fail;refine(EK (s:=nm) (enters_of func263 (by decide) rfl) r5 (Ja nm wr.heap.size W (by omega) q3)).mono ?_;rintro e w3⟨rfl,J⟩;rw[HI.out];have l6:=Ab j0 (Ab b2 J);obtain⟨y1,y2,y3⟩:=Ci.at_ (hx.on BV l6) l7;generalize Ac[ix]=vx at *;obtain⟨xk,xa,xb⟩:=vx;dsimp only at y1 y2 y3;have HE:=jK hE;obtain⟨o9,p0⟩:=Ae J;have hs:=J.size;have b1:=c8.out.below J (by omega);have HX:=jK (GJ xk xa xb b1 (Ab b2 J));clear b1 hE;go_wp2;go_meet
          case rel=>
           obtain⟨x1,x2,x3⟩:=HX.out;exact⟨rfl,.ok ⟨xk,xa,xb⟩,o,rfl,fun e h=>(by cases h),by rw[b9.out,HE.out]<;>rfl,aL _,c7.out,b7.out,AG b4.out x1,x1,by omega,fun v hv=>by injection hv with hv;subst hv;exact⟨k7.out _ HE.out,x3⟩⟩
       ·have ho:=Im h0;dsimp only at ho;rw[h0]at n1 n2;cases o with
        |nil=>simp at n1
        |cons x o=>
        obtain⟨g,c,l8,y5,c6,p2,y6,I,y7,hcut⟩:=Et b4.out (by simp);injection l8 with e1 _ e3
        subst e1;subst e3;have b8:(Dq vars Ac j).step ⟨op,a,nm⟩ (x::o)=(Ou op x).bind fun v=>.ok (v::o):=by unfold Hi.step;rw[if_neg (by rw[h0];omega),if_pos h0];rfl
        replace n2:Kw (o.length+1) (l.drop (i+1))=some 1:=by simpa using n2
        have j9:=b7.out x (aR ..);obtain⟨r,hr⟩:∃r,Ou op x=r:=⟨_,rfl⟩;have l9:∀v,r=.ok v->FL v:=fun v hv=>Wh ho j9 (hr.trans hv)
        have n3:∀e,r=.err e->e≠0:=fun e he=>MM (hr.trans he)
        have t1:=I (o.length*3+0) _ ((Dv x o 0 (by omega)).trans rfl);have t2:=I (o.length*3+1) _ ((Dv x o 1 (by omega)).trans rfl);have t3:=I (o.length*3+2) _ ((Dv x o 2 (by omega)).trans rfl);have U:=hcut o.length (by simp);rw[RS]at U;have S0:(x::o).length=o.length+1:=rfl;have h9:∀z∈o,FL z:=fun z hz=>b7.out z (bA _ hz)
        obtain⟨xk,xa,xb⟩:=x;obtain⟨K,A,B,X,hv⟩:=Ck r;have y8:o.length<=32:=by simp at x4;omega
        have S1:(o.length:Int)<=(x5:Int):=by simp at p2;omega
        have r9:=jK l9;have e8:=jK n3;have b9:=jK b8;have c7:=jK n2;have s0:=jK j9;have n5:=jK hr;have i6:=jK h9;have k0:=jK U;have HV:=jK hv;have n9:(o.length:Int)<(o.length:Int)+1:=by omega
        have s4:IntKind.i64.wrap (o.length:Int)=(o.length:Int):=cM _ (by omega);have s5:=jK o6;have s6:=jK (show ∀w1,Eo wr W w1->w1.cell? ⟨wr.heap.size,0,none⟩=some (.int .i64 op)/\w1.cell? ⟨g,o.length*3,none⟩=some (.int .i64 xk)/\w1.cell? ⟨g,o.length*3+1,none⟩=some (.int .i64 xa)/\w1.cell? ⟨g,o.length*3+2,none⟩=some (.int .i64 xb)from
         fun w1 hI=>⟨(Pu hI.2.2.1 0).trans q1,(hI.1.cell (p:=⟨g,o.length*3,none⟩) c6).trans t1,(hI.1.cell (p:=⟨g,o.length*3+1,none⟩) c6).trans t2,(hI.1.cell (p:=⟨g,o.length*3+2,none⟩) c6).trans t3⟩)
        clear t1 t2 t3 l9 n3 b8 n2 n1 n0 h0 j9 hr h9 U hcut I hv;have g1:¬op=1:=by omega
        have hg:(op==1)=false/\(op==2)=false/\(op==3)=false/\(op==4)=false/\(op==5)=false/\(op==6)=false:=by simp;omega
        obtain⟨f1,f2,f3,f4,f5,f6⟩:=hg;have HQ:op=7\/op=8\/op=9\/op=10:=by omega
        clear g1;rcases HQ with rfl|rfl|rfl|rfl
        all_goals
         go_wp2_with fail;clear o6;refine Aj.AF 12 [(7,.tuple #[.agg #[.int .i64 K,.int .i64 A,.int .i64 B],.int .i64 X])] [(7,fun _ _=>True),(11,fun _ w'=>Bw w' (wr.heap.size+1) 60 (BU ⟨K,A,B⟩).toArray)] (Eo wr W)
          (fun w w'=>Bw w (wr.heap.size+1) 60 (BU ⟨K,A,B⟩).toArray->Bw w' (wr.heap.size+1) 60 (BU ⟨K,A,B⟩).toArray) (by kernel_rfl) (by kernel_rfl) (by kernel_rfl) (by kernel_rfl) (fun _ _ d _ _ h=>by cases d<;>exact h) ⟨b2.drew,aL _,rfl,_,_,_,c8.out⟩ ?_
         simp only[aM,aT]
         repeat(refine Aj.Ad rfl rfl ?_ ?_ ?_;rotate_left;(focus(intro w1 hI _;obtain⟨e1,e2,e3,e4⟩:=s6.out w1 hI;go_simp;rfl)))
         refine Aj.AC (.tuple #[.agg #[.int .i64 K,.int .i64 A,.int .i64 B],.int .i64 X]) rfl rfl rfl (fun _ _ _ _ _=>trivial) (fun w1 hI _ K' e9=>?_) ?_
         ·go_simp;refine(Zan _ ⟨xk,xa,xb⟩ ho s0.out w1).mono ?_;rintro e w2⟨rfl,h7⟩;rw[n5.out,HV.out];obtain⟨j1,j2⟩:=Eo.call s5.out hI h7;exact e9 _ _ (by go_simp) trivial j1 (j2 _)
         repeat(refine Aj.Ad rfl rfl ?_ ?_ ?_;rotate_left;(focus(intro w1 hI _;go_simp;rfl)))
         simp only[Act.put,aB,aD,aC];refine Aj.Bh rfl (by kernel_rfl) (fun _ _ _ hs h=>hs h) (fun w1 hI _ K' e9=>?_) (fun v=>?_)
         ·obtain⟨T5,x,y,z,T6,o4,T7⟩:=hI.facts;have HJ:=jK (hI.store K A B);have s9:=jK e9;clear hI e9;go_simp;obtain⟨j1,j2⟩:=HJ.out;exact s9.out undef _ _ rfl j2 j1 (fun _=>j2)
         simp only[Act.put,aB,aD,aC];refine Aj.Ak (fun w4 hI hF=>?_);simp only[aN,aS];have k3:=hF _ (aR ..);dsimp only at k3;obtain⟨x1,x2,_,_⟩:=hI;have HX:=jK (And.intro x1 (And.intro x2 k3));clear hF k3 x1 x2 s4 n9;go_wp2;go_meet
         case rel=>
          obtain⟨x1,x2,x3⟩:=HX.out;have a1:=HV.out;refine⟨rfl,r,o,?_,e8.out,by rw[b9.out,n5.out],by simp,c7.out,i6.out,AG k0.out x1,x1,by omega,fun v hv=>⟨r9.out v hv,?_⟩⟩
          ·cases r with
           |ok v=>injection a1 with a1;simp at a1;simp[a1]
           |err e=>injection a1 with a1;simp at a1;simp[a1]
          ·subst hv;injection a1 with a1
           simp[As]at a1;obtain⟨⟨e1,e2,e3⟩,_⟩:=a1;obtain⟨vk,va,vb⟩:=v;dsimp only at e1 e2 e3;subst e1;subst e2;subst e3;exact x3
       ·have ho:=J5 h0;dsimp only at ho;rw[h0]at n1 n2;cases o with
        |nil=>simp at n1
        |cons y o=>
        cases o with
        |nil=>simp at n1
        |cons x o=>
        obtain⟨g,c,l8,y5,c6,p2,y6,I,y7,hcut⟩:=Et b4.out (by simp);injection l8 with e1 _ e3
        subst e1;subst e3;have b8:(Dq vars Ac j).step ⟨op,a,nm⟩ (y::x::o)=(DC op x y).bind fun v=>.ok (v::o):=by unfold Hi.step;rw[if_neg (by rw[h0];omega),if_neg (by rw[h0];omega)];rfl
        replace n2:Kw (o.length+1) (l.drop (i+1))=some 1:=by rw[<-n2];congr 1
        have u0:=b7.out y (by simp);have j9:=b7.out x (by simp);obtain⟨r,hr⟩:∃r,DC op x y=r:=⟨_,rfl⟩;have l9:∀v,r=.ok v->FL v:=fun v hv=>Wn ho j9 u0 (hr.trans hv)
        have n3:∀e,r=.err e->e≠0:=fun e he=>NX (hr.trans he)
        have s1:=I ((o.length+1)*3+0) _ ((Dv y (x::o) 0 (by omega)).trans rfl);have s2:=I ((o.length+1)*3+1) _ ((Dv y (x::o) 1 (by omega)).trans rfl);have s3:=I ((o.length+1)*3+2) _ ((Dv y (x::o) 2 (by omega)).trans rfl);have t1:=I (o.length*3+0) _ ((MW x y o 0 (by omega)).trans rfl);have t2:=I (o.length*3+1) _ ((MW x y o 1 (by omega)).trans rfl);have t3:=I (o.length*3+2) _ ((MW x y o 2 (by omega)).trans rfl);have U:=hcut o.length (by simp;omega);rw[XI]at U;have S0:(y::x::o).length=o.length+1+1:=rfl;have h9:∀z∈o,FL z:=fun z hz=>b7.out z (by simp[hz])
        obtain⟨yk,ya,yb⟩:=y;obtain⟨xk,xa,xb⟩:=x;obtain⟨K,A,B,X,hv⟩:=Ck r;have y8:o.length<=32:=by simp at x4;omega
        have S1:(o.length:Int)<=(x5:Int):=by simp at p2;omega
        have r9:=jK l9;have e8:=jK n3;have b9:=jK b8;have c7:=jK n2;have s0:=jK j9;have n5:=jK hr;have i6:=jK h9;have k0:=jK U;have HV:=jK hv;have n9:(o.length:Int)<(o.length:Int)+1:=by omega
        have s4:IntKind.i64.wrap (o.length:Int)=(o.length:Int):=cM _ (by omega);have T9:=jK u0;have z7:(o.length:Int)+1+1-2=(o.length:Int):=by omega
        have z8:((o.length:Int)+1).toNat=o.length+1:=by omega
        have p7:(o.length:Int)<(o.length:Int)+1+1:=by omega
        have q9:(o.length:Int)+1<(o.length:Int)+1+1:=by omega
        have A0:0<=(o.length:Int)+1:=by omega
        have A1:IntKind.i64.wrap ((o.length:Int)+1)=(o.length:Int)+1:=cM _ (by omega);have s5:=jK o6;have s6:=jK (show ∀w1,Eo wr W w1->w1.cell? ⟨wr.heap.size,0,none⟩=some (.int .i64 op)/\w1.cell? ⟨g,o.length*3,none⟩=some (.int .i64 xk)/\w1.cell? ⟨g,o.length*3+1,none⟩=some (.int .i64 xa)/\w1.cell? ⟨g,o.length*3+2,none⟩=some (.int .i64 xb)/\
          w1.cell? ⟨g,(o.length+1)*3,none⟩=some (.int .i64 yk)/\w1.cell? ⟨g,(o.length+1)*3+1,none⟩=some (.int .i64 ya)/\w1.cell? ⟨g,(o.length+1)*3+2,none⟩=some (.int .i64 yb)from
         fun w1 hI=>⟨(Pu hI.2.2.1 0).trans q1,(hI.1.cell (p:=⟨g,o.length*3,none⟩) c6).trans t1,(hI.1.cell (p:=⟨g,o.length*3+1,none⟩) c6).trans t2,(hI.1.cell (p:=⟨g,o.length*3+2,none⟩) c6).trans t3,
          (hI.1.cell (p:=⟨g,(o.length+1)*3,none⟩) c6).trans s1,(hI.1.cell (p:=⟨g,(o.length+1)*3+1,none⟩) c6).trans s2,(hI.1.cell (p:=⟨g,(o.length+1)*3+2,none⟩) c6).trans s3⟩)
        clear t1 t2 t3 s1 s2 s3 l9 n3 b8 n2 n1 n0 h0 j9 u0 hr h9 U hcut I hv;have hg:(op==1)=false/\(op==2)=false/\(op==3)=false/\(op==4)=false/\(op==5)=false/\(op==6)=false/\(op==7)=false/\(op==8)=false/\(op==9)=false/\(op==10)=false:=by simp;omega
        obtain⟨f1,f2,f3,f4,f5,f6,f7,f8,f9,f10⟩:=hg;go_wp2_with fail;clear o6;refine Aj.AF 17 [(12,.tuple #[.agg #[.int .i64 K,.int .i64 A,.int .i64 B],.int .i64 X])] [(12,fun _ _=>True),(16,fun _ w'=>Bw w' (wr.heap.size+1) 60 (BU ⟨K,A,B⟩).toArray)] (Eo wr W)
         (fun w w'=>Bw w (wr.heap.size+1) 60 (BU ⟨K,A,B⟩).toArray->Bw w' (wr.heap.size+1) 60 (BU ⟨K,A,B⟩).toArray) (by kernel_rfl) (by kernel_rfl) (by kernel_rfl) (by kernel_rfl) (fun _ _ d _ _ h=>by cases d<;>exact h) ⟨b2.drew,aL _,rfl,_,_,_,c8.out⟩ ?_
        simp only[aM,aT]
        repeat(refine Aj.Ad rfl rfl ?_ ?_ ?_;rotate_left;(focus(intro w1 hI _;obtain⟨e1,e2,e3,e4,e5,e6,e7⟩:=s6.out w1 hI;go_simp;rfl)))
        refine Aj.AC (.tuple #[.agg #[.int .i64 K,.int .i64 A,.int .i64 B],.int .i64 X]) rfl rfl rfl (fun _ _ _ _ _=>trivial) (fun w1 hI _ K' e9=>?_) ?_
        ·go_simp;refine(Wb op ⟨xk,xa,xb⟩ ⟨yk,ya,yb⟩ ho s0.out T9.out w1).mono ?_;rintro e w2⟨rfl,h7⟩;rw[n5.out,HV.out];obtain⟨j1,j2⟩:=Eo.call s5.out hI h7;exact e9 _ _ (by go_simp) trivial j1 (j2 _)
        repeat(refine Aj.Ad rfl rfl ?_ ?_ ?_;rotate_left;(focus(intro w1 hI _;go_simp;rfl)))
        simp only[Act.put,aB,aD,aC];refine Aj.Bh rfl (by kernel_rfl) (fun _ _ _ hs h=>hs h) (fun w1 hI _ K' e9=>?_) (fun v=>?_)
        ·obtain⟨T5,x,y,z,T6,o4,T7⟩:=hI.facts;have HJ:=jK (hI.store K A B);have s9:=jK e9;clear hI e9;go_simp;obtain⟨j1,j2⟩:=HJ.out;exact s9.out undef _ _ rfl j2 j1 (fun _=>j2)
        simp only[Act.put,aB,aD,aC];refine Aj.Ak (fun w4 hI hF=>?_);simp only[aN,aS];have k3:=hF _ (aR ..);dsimp only at k3;obtain⟨x1,x2,_,_⟩:=hI;have HX:=jK (And.intro x1 (And.intro x2 k3));clear hF k3 x1 x2 s4 A1 z7 z8 n9 p7 q9 A0;go_wp2;go_meet
        case rel=>
         obtain⟨x1,x2,x3⟩:=HX.out;have a1:=HV.out;refine⟨rfl,r,o,?_,e8.out,by rw[b9.out,n5.out],by simp;omega,c7.out,i6.out,AG k0.out x1,x1,by omega,fun v hv=>⟨r9.out v hv,?_⟩⟩
         ·cases r with
          |ok v=>injection a1 with a1;simp at a1;simp[a1]
          |err e=>injection a1 with a1;simp at a1;simp[a1]
         ·subst hv;injection a1 with a1
          simp[As]at a1;obtain⟨⟨e1,e2,e3⟩,_⟩:=a1;obtain⟨vk,va,vb⟩:=v;dsimp only at e1 e2 e3;subst e1;subst e2;subst e3;exact x3
      case rest=>
       obtain⟨rfl,r,c9,rfl,u1,b8,y8,b6,k6,U,A2,bb,u2⟩:=hcut;obtain⟨UA,bc,hu⟩:=Al U;subst hu;have o0:=Ab j0 A2;have a7:=q0.out;have b3:=x6.out.below A2 x7;have ah:=b3.lt;have l0:(r.bind fun v=>Rs.ok (v::c9)).bind (fun o=>(Dq vars Ac j).run (l.drop (i+1)) o)=RR:=by rw[<-a7,<-b8];rfl
       have r0:=jK l0;have V1:=jK b6;have i6:=jK k6;clear b8 a7 b6 k6 l0;cases r with
       |err x=>
        have u3:=u1 x rfl;have bd:(x==0)=false:=by simpa using u3
        have ai:(x != 0)=true:=by simpa using u3
        have z1:=b3.cell 0;have z2:=b3.cell 1;have z3:=b3.cell 2;have z4:=b3.frozen;simp only[cI,cF,cG]at z1 z2 z3;have hR:=HK.out;rw[<-show Rs.err x=RR from r0.out]at hR;have e8:=jK (show Rs.err x=R from hR);clear u3 u1 hR u2;go_wp2;refine aI (v:=Am (.err x)) (by simp[results,results202,go_sem,Am,As,AD,z1,z2,z3,z4]) rfl ⟨by rw[e8.out],?_⟩;exact EM o0 _ _ _
       |ok v=>
        obtain⟨A3,p5⟩:=u2 v rfl;obtain⟨vk,va,vb⟩:=v;have z1:=p5.cell 0;have z2:=p5.cell 1;have z3:=p5.cell 2;simp only[BU,cI,cF,cG]at z1 z2 z3;have V2:=o0.size;have V5:=jK A3;have V6:=jK b3;clear A3 p5 u2 u1 b3;dsimp only;go_wp2_with (at_builtin;refine gR _ rfl _ _ 30 rfl (w.heap.size+1) 60 i0 _ 3 24 underlying30 F9 G1 G2 H0 rfl (by decide) _ _ _ rfl (U.alloc _) ⟨wc.heap.size,0,none⟩ 1 1 (BU ⟨vk,va,vb⟩) rfl rfl ?c1 ?c2 ?c3 ?c4 ?c5 ?_)
        case c1=>exact Dm _ _ rfl _ _
        case c2=>intro u hu;simp[BU]at hu;rcases hu with rfl|rfl|rfl<;>rfl
        case c3=>unfold maxLen;omega
        case c4=>omega
        case c5=>simp;omega
        intro v' w3 u4 hg _;have V7:Below w.heap.size w w3:=(o0.alloc V2 _).grown hg (by simp;omega) (fun k hk=>by have:=(U.lt k hk).1;omega);have W0:Bw w3 w.heap.size 60 #[.int .i64 0,.int .i64 0,.int .i64 0]:=(V6.out.alloc _).grown hg (by
         intro e;have:=(U.lt w.heap.size e.symm).1;omega)
        go_wp2;go_roundw
        case rel=>exact⟨i+1,⟨vk,va,vb⟩::c9,by omega,by simp;omega,by go_num,by rw[Gv];exact u4,fun z hz=>by rcases bJ.1 hz with rfl|hz;exact V5.out;exact i6.out z hz,V1.out,r0.out,V7,W0⟩
        case measure=>simp[intOf];omega
     ·obtain rfl:i=l.length:=by omega
      have q9:¬(l.length:Int)<(l.length:Int):=by omega
      rw[eL,Kw]at b6;rw[eL]at a7;injection b6 with b6
      match o,b6 with
      | [x],_=>
       obtain⟨g,c,l8,y5,c6,p2,y6,I,y7,hcut⟩:=Et k4 (by simp);injection l8 with e1 _ e3
       subst e1;subst e3;obtain⟨xk,xa,xb⟩:=x;have y1:=I 0 _ (Dv ⟨xk,xa,xb⟩ [] 0 (by omega));have y2:=I 1 _ (Dv ⟨xk,xa,xb⟩ [] 1 (by omega));have y3:=I 2 _ (Dv ⟨xk,xa,xb⟩ [] 2 (by omega));have z1:=h8.cell 0;have z2:=h8.cell 1;have z3:=h8.cell 2;have z4:=h8.frozen;simp only[cI,cF,cG]at z1 z2 z3;have hR:=HK.out;rw[<-show Rs.ok [⟨xk,xa,xb⟩]=RR from a7]at hR;have e8:=jK (show Rs.ok ⟨xk,xa,xb⟩=R from hR);clear hR a7 b6 I hcut h8 k6;go_wp2;refine aI (v:=Am (.ok ⟨xk,xa,xb⟩)) (by simp[results,results202,go_sem,Am,As,z1,z2,z3,z4]) rfl ⟨by rw[e8.out],?_⟩;exact EM j0 _ _ _
end
section
open Go.RowKit Q Go.Lib
theorem LM (v:Q.Var) (x:BS) (w:World) :
  Calls prog 37 #[Nu v,As x] w fun e w'=>e=.returned (.bool (fits v x))/\Below w.heap.size w w':=by
 obtain⟨nm,k,lo,hi,⟨i1,i2,i3⟩⟩:=v;obtain⟨p,I,xb⟩:=x;unfold Nu As;dsimp only;obtain⟨r,U⟩:∃r,fits ⟨nm,k,lo,hi,⟨i1,i2,i3⟩⟩ ⟨p,I,xb⟩=r:=⟨_,rfl⟩;rw[U];unfold fits at U;dsimp only at U;have HR:=jK U;clear U;have a7:=AT w (.cells #[.string nm,.int .i64 k,.int .i64 lo,.int .i64 hi,.int .i64 i1,.int .i64 i2,.int .i64 i3] 66);have o:=Ab a7 (AT _ (.cells #[.int .i64 p,.int .i64 I,.int .i64 xb] 60));go_enter func37,ntmps37;by_cases J:k=p
 ·have z1:(k != p)=false:=by simpa using J
  have j:=HR.out;rw[aH J,bW]at j;have HE:=jK J;clear J HR;by_cases e2:I<lo
  ·have z2:¬lo<=I:=by omega
   obtain rfl:r=false:=by rw[<-j,aF z2];rfl
   clear j;go_wp2;go_ret;exact⟨rfl,o⟩
  ·have z2:lo<=I:=by omega
   rw[aH z2,bW]at j;by_cases e3:hi<I
   ·have z3:¬I<=hi:=by omega
    obtain rfl:r=false:=by rw[<-j,aF z3];rfl
    clear j;go_wp2;go_ret;exact⟨rfl,o⟩
   ·have z3:I<=hi:=by omega
    rw[aH z3,bW]at j;by_cases R:p=3
    ·have z4:(p != 3)=false:=by simpa using R
     rw[aH R,fA,cZ]at j;have b4:=jK R;clear R;by_cases e5:lo<=xb
     ·rw[aH e5,bW]at j;by_cases e6:xb<=hi
      ·obtain rfl:r=true:=by rw[<-j];exact aH e6
       clear j;go_wp2;go_ret;exact⟨rfl,o⟩
      ·obtain rfl:r=false:=by rw[<-j];exact aF e6
       clear j;go_wp2;go_ret;exact⟨rfl,o⟩
     ·obtain rfl:r=false:=by rw[<-j,aF e5];rfl
      clear j;go_wp2;go_ret;exact⟨rfl,o⟩
    ·have z4:(p != 3)=true:=by simpa using R
     obtain rfl:r=true:=by rw[<-j,aF R];rfl
     clear j R;go_wp2;go_ret;exact⟨rfl,o⟩
 ·have z1:(k != p)=true:=by simpa using J
  obtain rfl:r=false:=by rw[<-HR.out,aF J];rfl
  clear J HR;go_wp2;go_ret;exact⟨rfl,o⟩
theorem ZY (v:Q.Var) (x:BS) (w:World) :
  Calls prog 223 #[Nu v,As x] w fun e w'=>e=.returned (.bool (fits v x))/\Below w.heap.size w w':=by
 obtain⟨nm,k,lo,hi,⟨i1,i2,i3⟩⟩:=v;obtain⟨o,xa,xb⟩:=x;unfold Nu As;dsimp only;obtain⟨r,hr⟩:∃r,fits ⟨nm,k,lo,hi,⟨i1,i2,i3⟩⟩ ⟨o,xa,xb⟩=r:=⟨_,rfl⟩;rw[hr];unfold fits at hr;dsimp only at hr;have HR:=jK hr;clear hr;obtain⟨W,hW⟩:∃W,(w.alloc (.cells #[.string nm,.int .i64 k,.int .i64 lo,.int .i64 hi,.int .i64 i1,.int .i64 i2,.int .i64 i3] 66)).alloc (.cells #[.int .i64 o,.int .i64 xa,.int .i64 xb] 60)=W:=⟨_,rfl⟩;have c7:Below w.heap.size w W:=by rw[<-hW];exact Ab (AT _ _) (AT _ _)
 have h2:W.heap.size=w.heap.size+1+1:=by rw[<-hW];simp
 have q1:W.cell? ⟨w.heap.size,1,none⟩=some (.int .i64 k):=by subst hW;go_simp
 have q2:W.cell? ⟨w.heap.size,2,none⟩=some (.int .i64 lo):=by subst hW;go_simp
 have q3:W.cell? ⟨w.heap.size,3,none⟩=some (.int .i64 hi):=by subst hW;go_simp
 have q4:W.cell? ⟨w.heap.size+1,0,none⟩=some (.int .i64 o):=by subst hW;go_simp
 have q5:W.cell? ⟨w.heap.size+1,1,none⟩=some (.int .i64 xa):=by subst hW;go_simp
 have q6:W.cell? ⟨w.heap.size+1,2,none⟩=some (.int .i64 xb):=by subst hW;go_simp
 go_enter func223,ntmps223;go_wp2_with fail;clear hW;refine Aj.AM 6 [] (fun w'=>Below W.heap.size W w') (fun w w'=>Below w.heap.size w w') (by kernel_rfl) (by kernel_rfl) (by kernel_rfl) (by kernel_rfl) (fun _ _ d _ _ h=>by cases d<;>exact h) (aJ _ _).drew ?_;simp only[aM,aT]
 repeat(refine Aj.Ad rfl rfl ?_ ?_ ?_;rotate_left;(focus(intro w1 hI _;obtain⟨hk,_⟩:=Ae hI;go_simp;rfl)))
 simp only[Act.put,aB,aD,aC];refine Aj.Ak (fun w4 hI _=>?_);simp only[aN,aS];obtain⟨J,c8⟩:=Ae hI;have hs:=hI.size;have c1:w4.cell? ⟨w.heap.size,1,none⟩=some (.int .i64 k):=by rw[J _ _ (by omega)];exact q1
 have c2:w4.cell? ⟨w.heap.size,2,none⟩=some (.int .i64 lo):=by rw[J _ _ (by omega)];exact q2
 have c3:w4.cell? ⟨w.heap.size,3,none⟩=some (.int .i64 hi):=by rw[J _ _ (by omega)];exact q3
 have c4:w4.cell? ⟨w.heap.size+1,0,none⟩=some (.int .i64 o):=by rw[J _ _ (by omega)];exact q4
 have c6:w4.cell? ⟨w.heap.size+1,2,none⟩=some (.int .i64 xb):=by rw[J _ _ (by omega)];exact q6
 have R:=Ab c7 hI;have h7:w.heap.size+1<w4.heap.size:=by omega
 clear J c8 q1 q2 q3 q4 q5 q6 hs hI;by_cases e4:o=3
 ·have z4:(o==3)=true:=by simpa using e4
  have c9:=jK e4;clear e4;go_wp2_with fail;refine Aj.AM 10 [] (fun w'=>Below w4.heap.size w4 w') (fun w w'=>Below w.heap.size w w') (by kernel_rfl) (by kernel_rfl) (by kernel_rfl) (by kernel_rfl) (fun _ _ d _ _ h=>by cases d<;>exact h) (aJ _ _).drew ?_;simp only[aM,aT];have h8:w.heap.size+1<w4.heap.size:=by omega
  repeat(refine Aj.Ad rfl rfl ?_ ?_ ?_;rotate_left;(focus(intro w1 hI _;obtain⟨hk,_⟩:=Ae hI;go_simp;rfl)))
  simp only[Act.put,aB,aD,aC];refine Aj.Ak (fun w5 b1 _=>?_);simp only[aN,aS];obtain⟨U,e0⟩:=Ae b1;have d1:w5.cell? ⟨w.heap.size,1,none⟩=some (.int .i64 k):=by rw[U _ _ (by omega)];exact c1
  have d2:w5.cell? ⟨w.heap.size,2,none⟩=some (.int .i64 lo):=by rw[U _ _ (by omega)];exact c2
  have d3:w5.cell? ⟨w.heap.size,3,none⟩=some (.int .i64 hi):=by rw[U _ _ (by omega)];exact c3
  have d4:w5.cell? ⟨w.heap.size+1,0,none⟩=some (.int .i64 o):=by rw[U _ _ (by omega)];exact c4
  have a8:=Ab R b1;have p:=HR.out;rw[aH c9.out,fA,cZ]at p;obtain⟨mn,b2⟩:∃mn,min xa xb=mn:=⟨_,rfl⟩;obtain⟨mx,b3⟩:∃mx,max xa xb=mx:=⟨_,rfl⟩;have j:(decide (k=o)&&(decide (lo<=mn)&&decide (mx<=hi)))=r:=by
   rw[<-p,<-b2,<-b3,cH];simp only[aG,aP];omega
  rw[b2,b3];clear p b2 b3 HR U e0 c1 c2 c3 c4 c6 b1;by_cases I:k=o
  ·have z1:(k==o)=true:=by simpa using I
   rw[aH I,bW]at j;have HE:=jK I;clear I;by_cases e2:lo<=mn
   ·rw[aH e2,bW]at j;by_cases e3:mx<=hi
    ·obtain rfl:r=true:=by rw[<-j];exact aH e3
     clear j;go_wp2;go_ret;exact⟨rfl,a8⟩
    ·obtain rfl:r=false:=by rw[<-j];exact aF e3
     clear j;go_wp2;go_ret;exact⟨rfl,a8⟩
   ·obtain rfl:r=false:=by rw[<-j,aF e2];rfl
    clear j;go_wp2;go_ret;exact⟨rfl,a8⟩
  ·have z1:(k==o)=false:=by simpa using I
   obtain rfl:r=false:=by rw[<-j,aF I];rfl
   clear I j;go_wp2;go_ret;exact⟨rfl,a8⟩
 ·have z4:(o==3)=false:=by simpa using e4
  have p:=HR.out;rw[aF e4,fM,eI,Bool.and_true]at p;clear e4;by_cases I:k=o
  ·have z1:(k==o)=true:=by simpa using I
   rw[aH I,bW]at p;have HE:=jK I;clear I HR;by_cases e2:lo<=xa
   ·rw[aH e2,bW]at p;by_cases e3:xa<=hi
    ·obtain rfl:r=true:=by rw[<-p];exact aH e3
     clear p;go_wp2;go_ret;exact⟨rfl,R⟩
    ·obtain rfl:r=false:=by rw[<-p];exact aF e3
     clear p;go_wp2;go_ret;exact⟨rfl,R⟩
   ·obtain rfl:r=false:=by rw[<-p,aF e2];rfl
    clear p;go_wp2;go_ret;exact⟨rfl,R⟩
  ·have z1:(k==o)=false:=by simpa using I
   obtain rfl:r=false:=by rw[<-p,aF I];rfl
   clear I HR p;go_wp2;go_ret;exact⟨rfl,R⟩
theorem SN (s:ByteArray) (b:Nat) (w:World) (I:b<w.heap.size) (J:w.cell? ⟨b,1,none⟩=some (.string s)):JT 222 #[.pointer (some ⟨b,0,none⟩)] s w:=fun W x j=>by
 have R:W.cell? ⟨b,1,none⟩=some (.string s):=(j.cell (p:=⟨b,1,none⟩) I).trans J;have U:b<W.heap.size:=aK I j.size;have a1:b≠W.heap.size:=by omega
 obtain⟨r,o⟩:∃r,named s x=r:=⟨_,rfl⟩;rw[o];have HR:=jK o;show Calls prog 222 #[.agg #[.string x.name,.int .i64 x.kind,.int .i64 x.lo,.int .i64 x.hi,.int .i64 x.init.kind,.int .i64 x.init.a,.int .i64 x.init.b],.pointer (some ⟨b,0,none⟩)] W _;clear o J;go_enter func222,ntmps222;go_wp2;go_ret;exact⟨Db (by rw[<-HR.out];exact Gh s x),j.alloc j.size _⟩
theorem ZG {α:Type} {k:Nat} {E:Rel α} (hk:0<k) (f:α->List Value) (J:∀a,(f a).length=k) (hE:∀w B a j u,j<k->E w B a j u->(f a)[j]?=some u) {w:World} {B n c:Nat} {A:Option Addr} {l:List α} (h:Cq k E w B (.slice A n c) l) :
  Reads w B k A n (l.flatMap f):=by
 obtain⟨A',n',c',e,h2,h3,h4⟩:=h;injection e with e1 e2 e3
 subst e1 e2;refine⟨by rw[J0 f J,h2],fun hn=>?_⟩;obtain⟨ad,e4,e5,_⟩:=h4 0 (by omega);refine⟨ad,e4,e5,fun m u hu=>?_⟩;have hm:m<l.length*k:=by rw[<-J0 f J];exact(bC.1 hu).1
 have hi:m / k<l.length:=(Nat.div_lt_iff_lt_mul hk).2 hm;have R:m % k<k:=Nat.mod_lt _ hk;obtain⟨b5,p,_,e7⟩:=h4 (m / k) hi;rw[e4]at p;injection p with p
 subst p;obtain⟨u',o,U⟩:=e7 (m % k) R;rw[Ca,jG]at o;have I:=hE _ _ _ _ _ R U;rw[<-IT f J l (m / k) (m % k) hi R,jG,hu]at I;injection I with I
 rw[I];exact o
theorem Mq {w:World} {B n c:Nat} {A:Option Addr} {l:List BS} (h:Ci w B (.slice A n c) l):Reads w B 3 A n (l.flatMap BU):=
 ZG (by omega) BU (fun _=>rfl) (fun w B a j u o p=>by
  match j,o,p with
  | 0,_,h=>rw[show u=_ from h];rfl
  | 1,_,h=>rw[show u=_ from h];rfl
  | 2,_,h=>rw[show u=_ from h];rfl) h
theorem Oe (w:World) (v:Value) (l:List BS) (h:Ci w w.heap.size v l) (hn:l.length<=1000000) :
  Calls prog 119 #[v] w fun e w'=>∃I,e=.returned I/\Below w.heap.size w w'/\w'.ownsRow w.heap.size 60 3 I l.length (l.flatMap BU):=by
 obtain⟨i0,R,U,a1,a6⟩:=dC Hp;obtain⟨A,c,rfl,b2,hA⟩:=h.form;have hr:=Mq h;have o:∀x∈l.flatMap BU,x.oneCell'=true:=by
  intro x J;obtain⟨a,_,J⟩:=eC.1 J;simp[BU]at J;rcases J with rfl|rfl|rfl<;>rfl
 cases A with
 |none=>
  have a7:l=[]:=by
   cases l with
   |nil=>rfl
   |cons a l=>obtain⟨ad,e,_⟩:=hA 0 (by simp);cases e
  subst a7;have p:=fun w=>Lib.run_eql_slice_nil (P:=prog) w 30 60 none 0 c 0 0 underlying30
  go_enter func119,ntmps119;go_wp2;go_ret;exact⟨_,rfl,aJ _ _,bL _ _ _ _⟩
 |some ad=>
  have p:=fun w=>Lib.run_eql_slice_nil (P:=prog) w 30 60 (some ad) l.length c 0 0 underlying30
  go_enter func119,ntmps119;go_wp2_with (at_builtin;refine Ap _ rfl _ _ 30 rfl w.heap.size 60 i0 _ 3 24 underlying30 R U a1 a6 rfl (by decide) _ 0 [] rfl (World.ownsRow_made w #[] 0 (aL _) (eN _) rfl) w.heap.size (some ad) l.length c _ rfl (hr.alloc (aL _) _) o ?c3 ?c4 ?c5 ?_)
  case c3=>unfold maxLen;omega
  case c4=>omega
  case c5=>simp
  intro I w1 j hg _;have hb:Below w.heap.size w w1:=((aJ _ w).alloc (aL _) _).grown hg (by simp) (fun k hk=>by
   have:w.heap.size=k:=by simpa[Value.ownBlock]using hk
   omega)
  have HO:=jK j;clear j hg;go_wp2;go_ret;exact⟨I,rfl,hb,by simpa using HO.out⟩
end
end Go.Proofs.YthbihnpoghlfaaaGreatDoor
