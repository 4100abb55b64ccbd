import Derived.Test.YthbihnpoghlfaaaGreatDoorZr34
import Derived.Test.YthbihnpoghlfaaaGreatDoorZr39
set_option linter.unusedVariables false
set_option linter.unusedSimpArgs false
set_option maxHeartbeats 8000000
set_option maxRecDepth 100000
namespace Go.Proofs.YthbihnpoghlfaaaGreatDoor
open Go.Proofs.Tryz
section
open Go.RowKit Q Go.Lib
def Lu (B:Nat) (x:BS) (w j:World):Prop:=Below B w j/\(∀b,B<=b->(∃o p I,Bw w b 60 #[o,p,I])->∃o p I,Bw j b 60 #[o,p,I])/\∀b,Bw w b 60 #[.int .i64 x.kind,.int .i64 x.a,.int .i64 x.b]->Bw j b 60 #[.int .i64 x.kind,.int .i64 x.a,.int .i64 x.b]
theorem Lu.AK {B:Nat} {x:BS} {w o:World} (p:B<=w.heap.size) (h:Below w.heap.size w o):Lu B x w o:=
 ⟨h.mono p,fun b _ ⟨I,J,R,j⟩=>⟨I,J,R,(Touch.AK (S:=fun _=>False) h).Bq j id⟩,fun b j=>(Touch.AK (S:=fun _=>False) h).Bq j id⟩
theorem Lu.YU {J I:World} {x:BS} {b:Nat} {y0 y1 y2:Value} (hI:Below J.heap.size J I) (j:J.heap.size<=b) (U:Bw I b 60 #[y0,y1,y2]) :
  Below J.heap.size J (((I.setCell ⟨b,0,none⟩ (.int .i64 x.kind)).setCell ⟨b,1,none⟩ (.int .i64 x.a)).setCell ⟨b,2,none⟩ (.int .i64 x.b))/\Lu J.heap.size x I (((I.setCell ⟨b,0,none⟩ (.int .i64 x.kind)).setCell ⟨b,1,none⟩ (.int .i64 x.a)).setCell ⟨b,2,none⟩ (.int .i64 x.b))/\
  Bw (((I.setCell ⟨b,0,none⟩ (.int .i64 x.kind)).setCell ⟨b,1,none⟩ (.int .i64 x.a)).setCell ⟨b,2,none⟩ (.int .i64 x.b)) b 60 #[.int .i64 x.kind,.int .i64 x.a,.int .i64 x.b]:=by
 have R:=((U.BF 0 (.int .i64 x.kind)).BF 1 (.int .i64 x.a)).BF 2 (.int .i64 x.b);simp only[aB,aD,aC]at R;have st:∀ {a:World} (i:Nat) (u:Value),Touch (fun k=>k=b) I a->Touch (fun k=>k=b) I (a.setCell ⟨b,i,none⟩ u):=fun i u h=>h.trans (Touch.C8 (S:=fun k=>k=b) ⟨b,i,none⟩ u rfl) fun k U=>.inl U
 have hT:=st 2 (.int .i64 x.b) (st 1 (.int .i64 x.a) (st 0 (.int .i64 x.kind) (Touch.refl _ I)));have o:∀ {B:Nat} {a c:World} (i:Nat) (u:Value),B<=b->Below B a c->Below B a (c.setCell ⟨b,i,none⟩ u):=fun i u hB h=>h.setCell (p:=⟨b,i,none⟩) hB u
 refine⟨o 2 _ j (o 1 _ j (o 0 _ j hI)),⟨o 2 _ j (o 1 _ j (o 0 _ j (aJ _ _))),fun b' _ ⟨z0,z1,z2,hz⟩=>?_,fun b' hz=>?_⟩,R⟩
 ·by_cases e:b'=b
  ·subst e;exact⟨_,_,_,R⟩
  ·exact⟨z0,z1,z2,hT.Bq hz e⟩
 ·by_cases e:b'=b
  ·subst e;exact R
  ·exact hT.Bq hz e
def Zde (vars:List Q.Var) (l:List Q.Act) (d D:N7):Prop:=(d.ok=true/\I1 vars l d=D)\/(d.ok=false/\D={d with raised:=d.raised++[BJ],ok:=false})
theorem ZaP (vars:List Q.Var) (Ac:List BS) (l:List Q.Act) (v vs xs:Value) (w:World) (hc:Cj w w.heap.size v l) (hv:BK w w.heap.size vs vars) (hx:Ci w w.heap.size xs Ac)
  (hlen:vars.length=Ac.length) (y9:∀y∈Ac,FL y) (T2:∀a∈l,a.kind=1->BC a.expr=true) (h8:l.length<=1000) (dO:Ac.length<=1000000) :
  Calls prog 229 #[v,vs,xs] w fun e w'=>∃V R S,e=.returned (.agg #[V,R,S,.bool (I1 vars l ⟨Ac,[],[],true⟩).ok])/\F6 w.heap.size V R S (I1 vars l ⟨Ac,[],[],true⟩) w'/\Below w.heap.size w w':=by
 obtain⟨i0,v7,v8,w0,w1⟩:=dC BX;obtain⟨j0,bo,bp,bq,br⟩:=dC Hp;obtain⟨A,c,rfl,hn,hA⟩:=hc.form;obtain⟨VA,vc,rfl,df,bt⟩:=hv.form;obtain⟨XA,xc,rfl,dh,ec⟩:=hx.form;obtain⟨D,hD⟩:∃D,I1 vars l ⟨Ac,[],[],true⟩=D:=⟨_,rfl⟩;rw[hD];have HD:=jK hD;have x8:=jK hlen;clear hD hlen;obtain⟨J,e0⟩:∃J,w.alloc (.cells #[.slice none 0 0,.slice none 0 0,.slice none 0 0,.bool false] 219)=J:=⟨_,rfl⟩;obtain⟨b6,s0,k0⟩:=Bi _ _ _ e0;have p4:w.heap.size<J.heap.size:=by omega
 obtain⟨W1,e1⟩:∃W1,J.alloc (.cells #[.slice none 0 0,.slice none 0 0,.slice none 0 0,.bool true] 219)=W1:=⟨_,rfl⟩;obtain⟨z6,s1,k1⟩:=Bi _ _ _ e1;have p9:BW W1 J.heap.size J.heap.size (.slice none 0 0) (.slice none 0 0) (.slice none 0 0) ⟨[],[],[],true⟩:=by
  refine⟨aL _,k1,fun x hx=>?_,fun x hx=>?_,fun i j x y hi hj ed k hk=>?_⟩
  ·rcases bJ.1 hx with rfl|hx
   ·exact bL _ _ _ _
   ·rcases bJ.1 hx with rfl|hx
    ·exact bL _ _ _ _
    ·rcases bJ.1 hx with rfl|hx
     ·exact bL _ _ _ _
     ·cases hx
  ·rcases bJ.1 hx with rfl|hx
   ·exact fun h=>by cases h
   ·rcases bJ.1 hx with rfl|hx
    ·exact fun h=>by cases h
    ·rcases bJ.1 hx with rfl|hx
     ·exact fun h=>by cases h
     ·cases hx
  ·have hx:=bR hi;rcases bJ.1 hx with rfl|hx
   ·cases hk
   ·rcases bJ.1 hx with rfl|hx
    ·cases hk
    ·rcases bJ.1 hx with rfl|hx
     ·cases hk
     ·cases hx
 have bw:=hc.on Ax b6;have T7:=hv.on AL b6;have bx:=hx.on BV b6;have T8:Reads W1 W1.heap.size 3 XA Ac.length (Ac.flatMap BU):=Mq (bx.on BV z6);have k4:∀u∈Ac.flatMap BU,u.oneCell'=true:=fun u hu=>by
  obtain⟨y,_,hy⟩:=eC.1 hu;simp only[BU,bJ,eS,iG]at hy;rcases hy with rfl|rfl|rfl<;>rfl
 obtain⟨X,hX⟩:∃X,X=J.heap.size:=⟨_,rfl⟩;have q1:=k1.cell 0;have z1:=k1.frozen 0;have l1:=k1.lt;have q4:=p9.Ac;have T9:=jK p9;have z8:=jK k0;clear s0 s1 k0 k1 p9 hc hv hx;go_enter func229,ntmps229;go_wp2_with (at_builtin;refine Ap _ rfl _ _ 30 rfl J.heap.size 60 j0 _ 3 24 underlying30 bo bp bq br rfl (by decide) _ _ _ rfl q4 _ XA Ac.length xc _ rfl T8 k4 ?c3 ?c4 ?c5 ?_)
 case c3=>unfold maxLen;simp;omega
 case c4=>(try simp);omega
 case c5=>omega
 intro V2 w2 b3 i7 b8;obtain⟨A2,ac2,rfl⟩:=Al b3;obtain⟨x9,k5⟩:=T9.out.PQ (V':=.slice A2 Ac.length ac2) (Ac:=Ac) (Touch.Dt i7 fun k h=>h) b3 (fun k hk=>by
  rcases b8 with e|e
  ·exact .inl (e.symm.trans hk)
  ·rw[e]at hk;injection hk with hk
   exact .inr (by omega))
 have g2:=k5.cell 0;have z2:=k5.frozen 0;have l2:=k5.lt;have V1:Below J.heap.size J (w2.setCell ⟨J.heap.size,0,none⟩ (.slice A2 Ac.length ac2)):=(z6.grown i7 z6.size fun k hk=>(Bd T9.out.Ac hk).2).setCell (p:=⟨J.heap.size,0,none⟩) (aL _) _;have bB:=jK x9;have ca:=jK V1;clear x9 V1 k5 b3 i7 b8 q4 T8 k4 q1 z1 l1;go_wp2;clear e0 e1 g2 z2 l2
 go_loopw [8] (fun u wr=>∃(k:Nat) (d:N7) (V Rr S:Value),k<=l.length/\u=.int .i64 (k:Int)/\BW wr J.heap.size J.heap.size V Rr S d/\Zde vars (l.drop k) d D/\d.Ac.length=Ac.length/\(∀y∈d.Ac,FL y)/\d.raised.length<=k/\d.Ao.length<=k/\Below J.heap.size J wr) (fun u _=>l.length-(intOf u).toNat)
 case atStart=>exact⟨0,⟨Ac,[],[],true⟩,_,_,_,by omega,rfl,bB.out,.inl ⟨rfl,HD.out⟩,rfl,y9,by simp,by simp,ca.out⟩
 case round=>
  obtain⟨k,d,V,Rr,S,hk,rfl,o,A1,q5,k6,ef,eg,hb⟩:=hrel;have q6:=hb.size;obtain⟨q0,q1,q2,q3⟩:=o.cells;have V5:=o.Bq.lt;have HL:=jK q5;clear q5;rcases A1 with⟨h7,hD⟩|⟨h7,hD⟩;rotate_left
  ·have V6:=jK hD;rw[h7]at q3;clear hD;by_cases q9:k<l.length
   ·have A3:(k:Int)<(l.length:Int):=by omega
    go_upto_region 20 with(fail)
    have a1:=o.raised;obtain⟨rA,rc,i1⟩:=Al a1;rw[i1]at q1;have k4:=BE [BJ];rw[i1]at a1;have b7:=jK o;have r4:=jK i1;clear o i1;go_wp2_with (at_builtin;refine Ap _ rfl _ _ 22 rfl J.heap.size 9 i0 _ 1 16 underlying22 v7 v8 w0 w1 rfl (by decide) _ _ _ rfl (a1.alloc _) _ (some ⟨wr.heap.size,0,none⟩) 1 1 _ rfl (Bt wr (.string BJ) 9 _ rfl) k4 ?c3 ?c4 ?c5 ?_)
    case c3=>unfold maxLen;omega
    case c4=>omega
    case c5=>(try simp);omega
    intro v' w2 b3 i7 b8
    (try rw[aW]at b8)
    rw[<-r4.out]at i7 b8;obtain⟨o1,l0⟩:=GA i7 b8;obtain⟨A9,o2,rfl⟩:=Al b3;obtain⟨o,a6⟩:=b7.out.raise (s:=BJ) o1 (by rw[M7];exact b3) l0;have g1:=a6.cell 1;rw[show(Dh V Rr S d).toArray[1]?=some Rr from rfl,r4.out]at g1;have cb:=a6.frozen 1;have cc:=a6.lt;have l3:Below J.heap.size J w2:=hb.trans (o1.below hb.size fun k hk=>(Bd b7.out.raised hk).2);obtain⟨W9,e9⟩:∃W9,w2.setCell ⟨J.heap.size,1,none⟩ (.slice A9 (d.raised.length+1) o2)=W9:=⟨_,rfl⟩;have hb:Below J.heap.size J W9:=by rw[<-e9];exact l3.setCell (p:=⟨J.heap.size,1,none⟩) (aL _) _
    rw[e9]at o;have q6:=hb.size;clear q0 q1 q2 q3 a1 b3 i7 b8 o1 l0 a6 l3;obtain⟨q0,q1,q2,q3⟩:=o.cells;rw[show({d with raised:=d.raised++[BJ]}:N7).ok=false from h7]at q3;obtain⟨vA,r5,e4⟩:=Al o.Ac;obtain⟨sA,sc,l4⟩:=Al o.Ao;have a8:=o.done p4 q6;have kZ:=z8.out.below hb p4;have W6:=kZ.cell 0;have aa:=kZ.cell 1;have ab:=kZ.cell 2;have ae:=kZ.cell 3;have af:=kZ.frozen 0;have ag:=kZ.frozen 1;have ah:=kZ.frozen 2;have ai:=kZ.frozen 3;have zl:=kZ.lt;have E1:=o.Bq.lt;have c8:=((((b6.trans (hb.mono b6.size)).setCell (p:=⟨w.heap.size,0,none⟩) (aL _) V).setCell (p:=⟨w.heap.size,1,none⟩) (aL _) (.slice A9 (d.raised.length+1) o2)).setCell (p:=⟨w.heap.size,2,none⟩) (aL _) S).setCell (p:=⟨w.heap.size,3,none⟩) (aL _) (.bool false);rw[show({d with raised:=d.raised++[BJ]}:N7).ok=false from h7]at a8;rw[e4]at q0 a8 c8;rw[l4]at q2 a8 c8;have HF:=jK a8;have r6:=jK c8;have r7:=jK ((((kZ.BF 0 (.slice vA d.Ac.length r5)).BF 1 (.slice A9 (d.raised.length+1) o2)).BF 2 (.slice sA d.Ao.length sc)).BF 3 (.bool false));clear a8 c8 kZ o e4 l4;go_wp2
    (try simp only[Exit.inBlock,Exit.then])
    refine aI (GL rfl rfl (gJ _ _ _ _ _ _ _ r7.out underlying219 rfl (by kernel_rfl))) rfl ?_;rw[V6.out];exact⟨_,_,_,rfl,⟨Bk HF.out.Ac b6.size,Bk HF.out.raised b6.size,Bk HF.out.Ao b6.size,HF.out.apart⟩,r6.out⟩
   ·have A3:¬(k:Int)<(l.length:Int):=by omega
    go_upto_region 20 with(fail)
    have a1:=o.raised;obtain⟨rA,rc,i1⟩:=Al a1;rw[i1]at q1;have k4:=BE [BJ];rw[i1]at a1;have b7:=jK o;have r4:=jK i1;clear o i1;go_wp2_with (at_builtin;refine Ap _ rfl _ _ 22 rfl J.heap.size 9 i0 _ 1 16 underlying22 v7 v8 w0 w1 rfl (by decide) _ _ _ rfl (a1.alloc _) _ (some ⟨wr.heap.size,0,none⟩) 1 1 _ rfl (Bt wr (.string BJ) 9 _ rfl) k4 ?c3 ?c4 ?c5 ?_)
    case c3=>unfold maxLen;omega
    case c4=>omega
    case c5=>(try simp);omega
    intro v' w2 b3 i7 b8
    (try rw[aW]at b8)
    rw[<-r4.out]at i7 b8;obtain⟨o1,l0⟩:=GA i7 b8;obtain⟨A9,o2,rfl⟩:=Al b3;obtain⟨o,a6⟩:=b7.out.raise (s:=BJ) o1 (by rw[M7];exact b3) l0;have g1:=a6.cell 1;rw[show(Dh V Rr S d).toArray[1]?=some Rr from rfl,r4.out]at g1;have cb:=a6.frozen 1;have cc:=a6.lt;have l3:Below J.heap.size J w2:=hb.trans (o1.below hb.size fun k hk=>(Bd b7.out.raised hk).2);obtain⟨W9,e9⟩:∃W9,w2.setCell ⟨J.heap.size,1,none⟩ (.slice A9 (d.raised.length+1) o2)=W9:=⟨_,rfl⟩;have hb:Below J.heap.size J W9:=by rw[<-e9];exact l3.setCell (p:=⟨J.heap.size,1,none⟩) (aL _) _
    rw[e9]at o;have q6:=hb.size;clear q0 q1 q2 q3 a1 b3 i7 b8 o1 l0 a6 l3;obtain⟨q0,q1,q2,q3⟩:=o.cells;rw[show({d with raised:=d.raised++[BJ]}:N7).ok=false from h7]at q3;obtain⟨vA,r5,e4⟩:=Al o.Ac;obtain⟨sA,sc,l4⟩:=Al o.Ao;have a8:=o.done p4 q6;have kZ:=z8.out.below hb p4;have W6:=kZ.cell 0;have aa:=kZ.cell 1;have ab:=kZ.cell 2;have ae:=kZ.cell 3;have af:=kZ.frozen 0;have ag:=kZ.frozen 1;have ah:=kZ.frozen 2;have ai:=kZ.frozen 3;have zl:=kZ.lt;have E1:=o.Bq.lt;have c8:=((((b6.trans (hb.mono b6.size)).setCell (p:=⟨w.heap.size,0,none⟩) (aL _) V).setCell (p:=⟨w.heap.size,1,none⟩) (aL _) (.slice A9 (d.raised.length+1) o2)).setCell (p:=⟨w.heap.size,2,none⟩) (aL _) S).setCell (p:=⟨w.heap.size,3,none⟩) (aL _) (.bool false);rw[show({d with raised:=d.raised++[BJ]}:N7).ok=false from h7]at a8;rw[e4]at q0 a8 c8;rw[l4]at q2 a8 c8;have HF:=jK a8;have r6:=jK c8;have r7:=jK ((((kZ.BF 0 (.slice vA d.Ac.length r5)).BF 1 (.slice A9 (d.raised.length+1) o2)).BF 2 (.slice sA d.Ao.length sc)).BF 3 (.bool false));clear a8 c8 kZ o e4 l4;go_wp2
    (try simp only[Exit.inBlock,Exit.then])
    refine aI (GL rfl rfl (gJ _ _ _ _ _ _ _ r7.out underlying219 rfl (by kernel_rfl))) rfl ?_;rw[V6.out];exact⟨_,_,_,rfl,⟨Bk HF.out.Ac b6.size,Bk HF.out.raised b6.size,Bk HF.out.Ao b6.size,HF.out.apart⟩,r6.out⟩
  have l5:=jK h7;rw[h7]at q3;clear h7;by_cases q9:k<l.length;rotate_left
  ·have A3:¬(k:Int)<(l.length:Int):=by omega
   have cd:d=D:=by
    rw[show l.drop k=[]from List.drop_eq_nil_of_le (by omega)]at hD;exact hD
   subst cd;go_upto_region 21 with(fail)
   obtain⟨vA,r5,e4⟩:=Al o.Ac;obtain⟨rA,rc,i1⟩:=Al o.raised;obtain⟨sA,sc,l4⟩:=Al o.Ao;have a8:=o.done p4 q6;have kZ:=z8.out.below hb p4;have W6:=kZ.cell 0;have aa:=kZ.cell 1;have ab:=kZ.cell 2;have ae:=kZ.cell 3;have af:=kZ.frozen 0;have ag:=kZ.frozen 1;have ah:=kZ.frozen 2;have ai:=kZ.frozen 3;have zl:=kZ.lt;have c8:=((((b6.trans (hb.mono b6.size)).setCell (p:=⟨w.heap.size,0,none⟩) (aL _) V).setCell (p:=⟨w.heap.size,1,none⟩) (aL _) Rr).setCell (p:=⟨w.heap.size,2,none⟩) (aL _) S).setCell (p:=⟨w.heap.size,3,none⟩) (aL _) (.bool true);rw[l5.out]at a8;rw[e4]at q0 a8 c8;rw[i1]at q1 a8 c8;rw[l4]at q2 a8 c8;have HF:=jK a8;have r6:=jK c8;have r7:=jK ((((kZ.BF 0 (.slice vA d.Ac.length r5)).BF 1 (.slice rA d.raised.length rc)).BF 2 (.slice sA d.Ao.length sc)).BF 3 (.bool true));clear a8 c8 kZ o e4 i1 l4;go_wp2
   (try simp only[Exit.inBlock,Exit.then])
   refine aI (GL rfl rfl (gJ _ _ _ _ _ _ _ r7.out underlying219 rfl (by kernel_rfl))) rfl ?_;exact⟨_,_,_,by rw[l5.out];rfl,⟨Bk HF.out.Ac b6.size,Bk HF.out.raised b6.size,Bk HF.out.Ao b6.size,HF.out.apart⟩,r6.out⟩
  have A3:(k:Int)<(l.length:Int):=by omega
  obtain⟨ad,rfl,o3⟩:=hA k q9;replace o3:ad.block<J.heap.size:=aK o3 b6.size;have o4:J.heap.size<wr.heap.size:=V5;obtain⟨u,c0,c1,c2,hu⟩:=Cj.at_ ((bw.below Ax hb).keep Ax hb.size (fun _ _=>rfl)) q9;obtain⟨uA,uc,rfl,ej,-⟩:=hu.form;have hex:=T2 _ (bK q9);rw[dV q9]at hD;generalize l[k]=a at *;have l7:=jK hD;have l8:=jK hex;clear hD HD hex;by_cases h2:a.kind=2
  ·rw[h2]at c0;have cf:=jK h2;clear h2 l8;go_upto_region 9 with(fail)
   have a1:=o.raised;have r8:=Al a1;obtain⟨rA,rc,F1⟩:=r8;have r9:Rr.ownBlock≠some J.heap.size:=o.off ⟨9,1,Rr,d.raised.length,strs d.raised⟩ (bA _ (aR ..));have U:∀w3,Touch (fun k=>Rr.ownBlock=some k) wr w3->w3.cell? ⟨J.heap.size,1,none⟩=some (.slice rA d.raised.length rc):=fun w3 ht=>by
    rw[<-F1];exact(ht.Bq o.Bq r9).cell 1
   have b4:∀w3,Touch (fun k=>Rr.ownBlock=some k) wr w3->w3.cell? {block:=(ad.add (k*3)).block,off:=(ad.add (k*3)).off+1}=some (.string a.name):=fun w3 ht=>by
    have F3:(ad.add (k*3)).block<J.heap.size:=add_lt o3 _;have F5:=ht.below (B:=J.heap.size) hb.size (fun k hk=>(Bd a1 hk).2);rw[<-c1];exact F5.cell (p:={block:=(ad.add (k*3)).block,off:=(ad.add (k*3)).off+1,spot:=none}) F3
   have b7:=jK o;have j4:=jK a1;have o5:=jK F1;have F7:J.heap.size<=wr.heap.size:=hb.size;clear o a1 F1 r9 c0 c1 c2 q0 q1 q2 q3;refine RegP.AM 10 [(7,NO wr a.name),(8,Yu wr J.heap.size Rr d.raised.length (strs (d.raised++[a.name])))] [7,8] (fun w'=>Touch (fun k=>Rr.ownBlock=some k) wr w') (Qe wr 7 8) (fun _ _=>False) (fun _ wa wb=>Touch (fun k=>Rr.ownBlock=some k) wa wb) (by kernel_rfl) (by kernel_rfl) (by kernel_rfl) rfl (by kernel_rfl) (by kernel_rfl) (fun _ _ _ _ _ h=>h.elim) ((Touch.refl _ _).drewN 1) ?hpre (by decide) ?_
   case hpre=>
    intro k hk;have G1:k=7:=by simpa using hk.symm
    subst G1;exact(Touch.refl _ _).drewN 1
   simp only[aM,aT]
   iterate 7 (refine RegP.Ad rfl rfl ?_ ?_ ?_;rotate_left;(focus(intro w3 hI _;have G2:=U _ hI;have H0:=b4 _ hI;clear hI;go_simp;rfl)))
   simp only[Act.put,aB,aD,aC];refine RegP.Bh rfl rfl (fun _ _ _ _ _ _ hs h=>h.keep j4.out hs) (fun w3 hI hP _ KK o6=>?_) (fun v9=>?_)
   ·have e5:Touch (fun _=>False) wr w3:=hP;have o7:=(aJ w3.heap.size w3).alloc (aL _) (.cells #[.string a.name] 9);have HA:=jK (show NO wr a.name (.slice (some ⟨w3.heap.size,0,none⟩) 1 1) (w3.alloc (.cells #[.string a.name] 9))from⟨_,rfl,e5.size,Bw.new _ _ _⟩);have H3:=jK (show Qe wr 7 8 8 (w3.alloc (.cells #[.string a.name] 9))from e5.trans (Touch.AK (S:=fun _=>False) o7) (fun _ h=>h.elim));clear hP U b4;go_simp;exact o6 _ _ _ (by go_simp) HA.out (hI.trans (Touch.AK (S:=fun _=>False) o7) (fun _ h=>h.elim)) (Touch.AK o7) H3.out
   refine RegP.Bh rfl rfl (fun j v wa wb hj H4 _ _=>(H4 (by simp only[Aj.KE];rw[if_neg (by omega),if_neg (by omega)])).elim) (fun w3 hI hP hF KK o6=>?_) (fun v10=>?_)
   ·have e5:Touch (fun _=>False) wr w3:=hP;have f9:=hF _ (aR ..) (by kernel_rfl);dsimp only at f9;obtain⟨g,rfl,hg,H5⟩:=f9;have b0:=e5.own j4.out (fun _ _ h=>h);have H6:Reads w3 (g+1) 1 (some ⟨g,0,none⟩) 1 (strs [a.name]):=⟨rfl,fun _=>⟨_,rfl,eB _,fun j u hu=>by
     rw[show(⟨g,0,none⟩:Addr).add j=⟨g,j,none⟩by unfold Addr.add;split<;>simp_all,H5.cell j];simpa[strs]using hu⟩⟩
    have aj:J.heap.size<=w3.heap.size:=aV F7 e5.size;rw[o5.out]at b0;clear U b4 hF hP;refine C0 _ _ _ _ rfl J.heap.size 9 i0 _ 1 16 underlying22 v7 v8 w0 w1 rfl (by decide) _ _ _ (by go_simp) b0 _ (some ⟨g,0,none⟩) 1 1 _ (by go_simp) H6 (BE _) ?c3 ?c4 ?c5 ?_
    case c3=>unfold maxLen;omega
    case c4=>omega
    case c5=>omega
    intro v' w4 j5 s5 j6;rw[<-o5.out]at s5 j6;have s6:Touch (fun k=>Rr.ownBlock=some k) w3 w4:=Touch.Dt s5 (fun k h=>h);refine o6 v' _ _ (by go_simp) ⟨by unfold strs at j5⊢;rw[bN];exact j5,fun k hk=>?_⟩ (hI.trans s6 (fun k h=>.inl h)) s6 trivial;rcases j6 with h|h
    ·exact .inl (h.symm.trans hk)
    ·rw[h]at hk;injection hk with hk
     have:=e5.size;exact .inr (by omega)
   (refine RegP.Ad rfl rfl ?_ ?_ ?_;rotate_left;(focus(intro w3 hI _;have G2:=U _ hI;have H0:=b4 _ hI;clear hI;go_simp;rfl)))
   simp only[Act.put,aB,aD,aC];refine RegP.Ak (fun w3 hI hF=>?_);have f10:=hF _ (aR ..);dsimp only at f10;obtain⟨b0,j6⟩:=f10;clear hF U b4;simp only[aN,aS];obtain⟨A',c',rfl⟩:=Al b0;obtain⟨h4,a6⟩:=b7.out.raise hI b0 j6;have g1:=a6.cell 1;have z1:=a6.frozen 1;have l1:=a6.lt;have s7:Below J.heap.size J w3:=hb.trans (hI.below hb.size fun k hk=>(Bd j4.out hk).2);have s8:=jK h4;have e6:=jK (s7.setCell (p:=⟨J.heap.size,1,none⟩) (aL _) (.slice A' (d.raised.length+1) c'));clear h4 a6 b0 j6 hI s7;rw[show(Dh V Rr S d).toArray[1]?=some Rr from rfl,o5.out]at g1;go_wp2;refine RegP.Qg.normal ?_;go_wp2;go_roundw
   case rel=>exact⟨k+1,{d with raised:=d.raised++[a.name]},V,_,S,by omega,by go_num,s8.out,.inl ⟨l5.out,OW l7.out cf.out⟩,HL.out,k6,by simp;omega,by show d.Ao.length<=k+1;omega,e6.out⟩
   case measure=>simp[intOf];omega
  have z2:=Bg h2;by_cases h3:a.kind=3
  ·rw[h3]at c0;have cm:=jK h3;clear h3 h2 z2 l8;go_upto_region 11 with(fail)
   have a1:=o.Ao;have r8:=Al a1;obtain⟨rA,rc,Se⟩:=r8;have r9:S.ownBlock≠some J.heap.size:=o.off ⟨9,1,S,d.Ao.length,strs d.Ao⟩ (bA _ (bA _ (aR ..)));have U:∀w3,Touch (fun k=>S.ownBlock=some k) wr w3->w3.cell? ⟨J.heap.size,2,none⟩=some (.slice rA d.Ao.length rc):=fun w3 ht=>by
    rw[<-Se];exact(ht.Bq o.Bq r9).cell 2
   have b4:∀w3,Touch (fun k=>S.ownBlock=some k) wr w3->w3.cell? {block:=(ad.add (k*3)).block,off:=(ad.add (k*3)).off+1}=some (.string a.name):=fun w3 ht=>by
    have F3:(ad.add (k*3)).block<J.heap.size:=add_lt o3 _;have F5:=ht.below (B:=J.heap.size) hb.size (fun k hk=>(Bd a1 hk).2);rw[<-c1];exact F5.cell (p:={block:=(ad.add (k*3)).block,off:=(ad.add (k*3)).off+1,spot:=none}) F3
   have b7:=jK o;have j4:=jK a1;have o5:=jK Se;have F7:J.heap.size<=wr.heap.size:=hb.size;clear o a1 Se r9 c0 c1 c2 q0 q1 q2 q3;refine RegP.AM 10 [(7,NO wr a.name),(8,Yu wr J.heap.size S d.Ao.length (strs (d.Ao++[a.name])))] [7,8] (fun w'=>Touch (fun k=>S.ownBlock=some k) wr w') (Qe wr 7 8) (fun _ _=>False) (fun _ wa wb=>Touch (fun k=>S.ownBlock=some k) wa wb) (by kernel_rfl) (by kernel_rfl) (by kernel_rfl) rfl (by kernel_rfl) (by kernel_rfl) (fun _ _ _ _ _ h=>h.elim) ((Touch.refl _ _).drewN 1) ?hpre (by decide) ?_
   case hpre=>
    intro k hk;have G1:k=7:=by simpa using hk.symm
    subst G1;exact(Touch.refl _ _).drewN 1
   simp only[aM,aT]
   iterate 7 (refine RegP.Ad rfl rfl ?_ ?_ ?_;rotate_left;(focus(intro w3 hI _;have G2:=U _ hI;have H0:=b4 _ hI;clear hI;go_simp;rfl)))
   simp only[Act.put,aB,aD,aC];refine RegP.Bh rfl rfl (fun _ _ _ _ _ _ hs h=>h.keep j4.out hs) (fun w3 hI hP _ KK o6=>?_) (fun v9=>?_)
   ·have e5:Touch (fun _=>False) wr w3:=hP;have o7:=(aJ w3.heap.size w3).alloc (aL _) (.cells #[.string a.name] 9);have HA:=jK (show NO wr a.name (.slice (some ⟨w3.heap.size,0,none⟩) 1 1) (w3.alloc (.cells #[.string a.name] 9))from⟨_,rfl,e5.size,Bw.new _ _ _⟩);have H3:=jK (show Qe wr 7 8 8 (w3.alloc (.cells #[.string a.name] 9))from e5.trans (Touch.AK (S:=fun _=>False) o7) (fun _ h=>h.elim));clear hP U b4;go_simp;exact o6 _ _ _ (by go_simp) HA.out (hI.trans (Touch.AK (S:=fun _=>False) o7) (fun _ h=>h.elim)) (Touch.AK o7) H3.out
   refine RegP.Bh rfl rfl (fun j v wa wb hj H4 _ _=>(H4 (by simp only[Aj.KE];rw[if_neg (by omega),if_neg (by omega)])).elim) (fun w3 hI hP hF KK o6=>?_) (fun v10=>?_)
   ·have e5:Touch (fun _=>False) wr w3:=hP;have f9:=hF _ (aR ..) (by kernel_rfl);dsimp only at f9;obtain⟨g,rfl,hg,H5⟩:=f9;have b0:=e5.own j4.out (fun _ _ h=>h);have H6:Reads w3 (g+1) 1 (some ⟨g,0,none⟩) 1 (strs [a.name]):=⟨rfl,fun _=>⟨_,rfl,eB _,fun j u hu=>by
     rw[show(⟨g,0,none⟩:Addr).add j=⟨g,j,none⟩by unfold Addr.add;split<;>simp_all,H5.cell j];simpa[strs]using hu⟩⟩
    have aj:J.heap.size<=w3.heap.size:=aV F7 e5.size;rw[o5.out]at b0;clear U b4 hF hP;refine C0 _ _ _ _ rfl J.heap.size 9 i0 _ 1 16 underlying22 v7 v8 w0 w1 rfl (by decide) _ _ _ (by go_simp) b0 _ (some ⟨g,0,none⟩) 1 1 _ (by go_simp) H6 (BE _) ?c3 ?c4 ?c5 ?_
    case c3=>unfold maxLen;omega
    case c4=>omega
    case c5=>omega
    intro v' w4 j5 s5 j6;rw[<-o5.out]at s5 j6;have s6:Touch (fun k=>S.ownBlock=some k) w3 w4:=Touch.Dt s5 (fun k h=>h);refine o6 v' _ _ (by go_simp) ⟨by unfold strs at j5⊢;rw[bN];exact j5,fun k hk=>?_⟩ (hI.trans s6 (fun k h=>.inl h)) s6 trivial;rcases j6 with h|h
    ·exact .inl (h.symm.trans hk)
    ·rw[h]at hk;injection hk with hk
     have:=e5.size;exact .inr (by omega)
   (refine RegP.Ad rfl rfl ?_ ?_ ?_;rotate_left;(focus(intro w3 hI _;have G2:=U _ hI;have H0:=b4 _ hI;clear hI;go_simp;rfl)))
   simp only[Act.put,aB,aD,aC];refine RegP.Ak (fun w3 hI hF=>?_);have f10:=hF _ (aR ..);dsimp only at f10;obtain⟨b0,j6⟩:=f10;clear hF U b4;simp only[aN,aS];obtain⟨A',c',rfl⟩:=Al b0;obtain⟨h4,a6⟩:=b7.out.tell hI b0 j6;have g1:=a6.cell 2;have z1:=a6.frozen 2;have l1:=a6.lt;have s7:Below J.heap.size J w3:=hb.trans (hI.below hb.size fun k hk=>(Bd j4.out hk).2);have s8:=jK h4;have e6:=jK (s7.setCell (p:=⟨J.heap.size,2,none⟩) (aL _) (.slice A' (d.Ao.length+1) c'));clear h4 a6 b0 j6 hI s7;rw[show(Dh V Rr S d).toArray[2]?=some S from rfl,o5.out]at g1;go_wp2;refine RegP.Qg.normal ?_;go_wp2;go_roundw
   case rel=>exact⟨k+1,{d with Ao:=d.Ao++[a.name]},V,Rr,_,by omega,by go_num,s8.out,.inl ⟨l5.out,RM l7.out cm.out⟩,HL.out,k6,by show d.raised.length<=k+1;omega,by simp;omega,e6.out⟩
   case measure=>simp[intOf];omega
  have z3:=Bg h3;by_cases h1:a.kind=1;rotate_left
  ·have z1:=Bg h1;have j7:=E3 l7.out h2 h3 (fun e=>absurd e h1);have o8:=jK j7;have y3:=o.okd false;have b7:=jK y3;have e6:=jK (hb.setCell (p:=⟨J.heap.size,3,none⟩) (aL _) (.bool false));have f3:=o.frozen 3;generalize a.kind=ak at *;clear h1 h2 h3 j7 y3 o l8 l7;go_wp2;go_roundw
   case rel=>exact⟨k+1,{d with ok:=false},V,Rr,S,by omega,by go_num,b7.out,.inr ⟨rfl,o8.out⟩,HL.out,k6,by show d.raised.length<=k+1;omega,by show d.Ao.length<=k+1;omega,e6.out⟩
   case measure=>simp[intOf];omega
  rw[h1]at c0;have co:=l8.out h1;have o9:=jK h1;clear h1 h2 h3 z2 z3 l8;have w7:BK wr wr.heap.size (.slice VA vars.length vc) vars:=(T7.below AL hb).keep AL hb.size (fun _ _=>rfl);have al:=D5 vars _ a.name wr w7;go_wp2_with fail;(with_reducible refine al.mono ?_);rintro e w3⟨rfl,rfl⟩;obtain⟨I,hI⟩:∃I,ET (named a.name) vars=I:=⟨_,rfl⟩;rw[hI];have HI:=jK hI;clear hI al;have cp:=HL.out;have p2:Ci w3 w3.heap.size V d.Ac:=D1 o.Ac (by omega);have an:AE w3 w3.heap.size (.slice none 0 0) []:=⟨none,0,0,rfl,rfl,by omega,Reads.none_⟩;have y4:∀x∈d.Ac,AP x.a:=fun x hx=>(k6 x hx).2
  obtain⟨gA,gc,e4⟩:=Al o.Ac;rw[e4]at q0;have H8:∀w5,Below w3.heap.size w3 w5->Calls prog 276 #[.slice uA a.expr.length uc,.slice VA vars.length vc,.slice gA d.Ac.length gc,.slice none 0 0] w5 fun e w'=>e=.returned (Am (C4 vars d.Ac [] a.expr))/\Below w5.heap.size w5 w':=fun w5 h5=>by
   have h9:=UW vars d.Ac [] a.expr _ _ V (.slice none 0 0) w5 (hu.on Aw h5) (w7.on AL h5) (p2.on BV h5) (an.on h5) y4;rw[Sx co (x8.out.trans HL.out.symm) k6,e4]at h9;exact h9
  obtain⟨x,y,ao,ap⟩:=Mn (C4 vars d.Ac [] a.expr);rw[ao]at H8;have aq:=jK ap;have ar:=jK e4;clear ao ap cp p2 an y4 e4;go_upto_region 14 with(fail)
  refine RegD.AM 15 [(8,.tuple #[.agg #[.int .i64 x.kind,.int .i64 x.a,.int .i64 x.b],.int .i64 y])] [⟨8,[],fun _ _=>True⟩,⟨12,[12],fun vs w'=>∃b,vs=[.pointer (some ⟨b,0,none⟩)]/\w3.heap.size<=b/\∃y0 y1 y2,Bw w' b 60 #[y0,y1,y2]⟩,⟨13,[12],fun vs w'=>∃b,vs=[.pointer (some ⟨b,0,none⟩)]/\Bw w' b 60 #[.int .i64 x.kind,.int .i64 x.a,.int .i64 x.b]⟩] (fun w'=>Below w3.heap.size w3 w') (Lu w3.heap.size x) (by kernel_rfl) (by kernel_rfl) (by kernel_rfl) (by kernel_rfl) (fun _ _ d _ _ h=>by cases d<;>exact h) (aJ _ _).drew ?_;simp only[aM,aT]
  iterate 8 (refine RegD.Ad rfl rfl ?_ ?_ ?_;rotate_left;(focus(intro w5 hI _;obtain⟨j8,_⟩:=Ae hI;have au:=hI.cell (p:={block:=(ad.add (k*3)).block,off:=(ad.add (k*3)).off+2,spot:=none}) (Nat.lt_trans (add_lt o3 _) o4);go_simp;rfl)))
  refine RegD.Ah (a':=?_) ?_ ?_;rotate_left;(focus(simp only[Act.put,aB,aD,aC];rfl));refine RegD.AC (.tuple #[.agg #[.int .i64 x.kind,.int .i64 x.a,.int .i64 x.b],.int .i64 y]) rfl rfl (by kernel_rfl) (fun _ _ _ _ _=>trivial) (fun w5 hI _ K hK=>?_) ?_
  ·go_simp;(with_reducible refine(H8 w5 hI).mono ?_);rintro e w6⟨rfl,s9⟩;exact hK _ _ (by go_simp) trivial (hI.trans (s9.mono hI.size)) (Lu.AK hI.size s9)
  iterate 3 (refine RegD.Ad rfl rfl ?_ ?_ ?_;rotate_left;(focus(intro w5 hI _;obtain⟨j8,_⟩:=Ae hI;have au:=hI.cell (p:={block:=(ad.add (k*3)).block,off:=(ad.add (k*3)).off+2,spot:=none}) (Nat.lt_trans (add_lt o3 _) o4);go_simp;rfl)))
  refine RegD.Ah (a':=?_) ?_ ?_;rotate_left;(focus(simp only[Act.put,aB,aD,aC];rfl));refine RegD.Bh rfl (by kernel_rfl) (fun v wa wb hs hE=>by obtain⟨b,e,h1,h2⟩:=hE;exact⟨b,e,h1,hs.2.1 b h1 h2⟩) (fun w5 hI _ K hK=>?_) (fun v12=>?_)
  ·have H9:=jK (Bi w5 #[.int .i64 0,.int .i64 0,.int .i64 0] 60 rfl);have w8:=jK hI;clear hI;go_simp;exact hK (.pointer (some ⟨w5.heap.size,0,none⟩)) _ _ (by go_simp) ⟨w5.heap.size,by simp[RegD.IG],w8.out.size,_,_,_,H9.out.2.2⟩ (w8.out.trans (H9.out.1.mono w8.out.size)) (Lu.AK w8.out.size H9.out.1)
  refine RegD.Ah (a':=?_) ?_ ?_;rotate_left;(focus(simp only[Act.put,aB,aD,aC];rfl));refine RegD.Bh rfl (by kernel_rfl) (fun v wa wb hs hE=>by obtain⟨b,e,h2⟩:=hE;exact⟨b,e,hs.2.2 b h2⟩) (fun w5 hI hF K hK=>?_) (fun eo=>?_)
  ·obtain⟨b,e,cr,y0,y1,y2,i6⟩:=hF _ (aR ..) (by kernel_rfl);have x4:v12=.pointer (some ⟨b,0,none⟩):=by simpa[RegD.IG]using e
   subst x4;have c0:=i6.cell 0;have c1:=i6.cell 1;have c2:=i6.cell 2;have f0:=i6.frozen 0;have f1:=i6.frozen 1;have f2:=i6.frozen 2;have hl:=i6.lt;have HJ:=jK (Lu.YU (x:=x) hI cr i6);have HK:=jK hK;clear hI hF hK i6 e;go_simp;obtain⟨j1,j2,j3⟩:=HJ.out;exact HK.out undef _ _ rfl ⟨b,by simp[RegD.IG],j3⟩ j1 j2
  refine RegD.Ah (a':=?_) ?_ ?_;rotate_left;(focus(simp only[Act.put,aB,aD,aC];rfl))
  (refine RegD.Ad rfl rfl ?_ ?_ ?_;rotate_left;(focus(intro w5 hI _;obtain⟨j8,_⟩:=Ae hI;have au:=hI.cell (p:={block:=(ad.add (k*3)).block,off:=(ad.add (k*3)).off+2,spot:=none}) (Nat.lt_trans (add_lt o3 _) o4);go_simp;rfl)))
  refine RegD.Ah (a':=?_) ?_ ?_;rotate_left;(focus(simp only[Act.put,aB,aD,aC];rfl));refine RegD.Ak (fun W7 p3 hF=>?_);simp only[aN,aS];obtain⟨b,x4,i6⟩:=hF _ (aR ..);obtain⟨b',aw,dv,-⟩:=hF _ (bA _ (aR ..));have ax:v12=.pointer (some ⟨b,0,none⟩):=by simpa[RegD.IG]using x4
  have p0:v12=.pointer (some ⟨b',0,none⟩):=by simpa[RegD.IG]using aw
  obtain rfl:b=b':=by rw[ax]at p0;injection p0 with p0;injection p0 with p0;injection p0
  subst ax;clear hF H8 x4 aw p0;have k7:Bw W7 b 60 #[.int .i64 x.kind,.int .i64 x.a,.int .i64 x.b]:=i6;have l9:=o.below p3;have ay:=hb.trans (p3.mono hb.size);have ew:=jK (w7.on AL p3);have cs:=jK k7;have u3:=jK l9;have L0:=jK ay;obtain⟨r0,r1,r2,r3⟩:=l9.cells;rw[ar.out]at r0;rw[show d.ok=true from l5.out]at r3;have fX:=l9.frozen 3;have lX:=l9.Bq.lt;clear i6 o l9 ay p3 k7 w7 hu c0 c1 c2 q0 q1 q2 q3;rcases DY (named a.name) vars with⟨hi,-,u4⟩|⟨i,u5,hi,-,u4⟩
  ·have cv:I=-1:=HI.out.symm.trans hi;subst cv;have HS:=jK (Pp (Ac:=d.Ac) u4);clear hi u4;obtain⟨W8,e8⟩:∃W8,W7.setCell ⟨J.heap.size,3,none⟩ (.bool false)=W8:=⟨_,rfl⟩;have b5:BW W8 J.heap.size J.heap.size V Rr S {d with ok:=false}:=by rw[<-e8];exact u3.out.okd false
   have k3:Below J.heap.size J W8:=by rw[<-e8];exact L0.out.setCell (p:=⟨J.heap.size,3,none⟩) (aL _) _
   obtain⟨t0,t1,t2,t3⟩:=b5.cells;have tX:=b5.Bq.lt;have n9:=jK b5;have o0:=jK k3;clear b5 k3;go_upto_region 16 with(fail)
   clear e8 r0 r1 r2 r3 fX lX;refine Aj.AM 11 [] (fun w'=>Below W8.heap.size W8 w') (fun w w'=>Below w.heap.size w w') (by kernel_rfl) (by kernel_rfl) (by kernel_rfl) (by kernel_rfl) (fun _ _ d _ _ h=>by cases d<;>exact h) (aJ _ _).drew ?_;simp only[aM,aT]
   iterate 3 (refine Aj.Ad rfl rfl ?_ ?_ ?_;rotate_left;(focus(intro w5 hI _;obtain⟨j8,_⟩:=Ae hI;go_simp;rfl)))
   refine Aj.Ah (a':=?_) ?_ ?_;rotate_left;(focus(simp only[Act.put,aB,aD,aC];rfl))
   iterate 6 (refine Aj.Bb rfl (by kernel_rfl) ?_)
   iterate 2 (refine Aj.Ad rfl rfl ?_ ?_ ?_;rotate_left;(focus(intro w5 hI _;obtain⟨j8,_⟩:=Ae hI;go_simp;rfl)))
   refine Aj.Ah (a':=?_) ?_ ?_;rotate_left;(focus(simp only[Act.put,aB,aD,aC];rfl));refine Aj.Ak (fun w9 c9 _=>?_);simp only[aN,aS];have b2:=n9.out.below c9;obtain⟨x0,x1,x2,x3⟩:=b2.cells;have fX:=b2.frozen 3;have lX:=b2.Bq.lt;have b7:=jK (b2.okd false);have e6:=jK ((o0.out.trans (c9.mono o0.out.size)).setCell (p:=⟨J.heap.size,3,none⟩) (aL _) (.bool false));have j7:=E3 l7.out (by rw[o9.out];omega) (by rw[o9.out];omega) (fun _=>HS.out);have o8:=jK j7;clear b2 c9 t0 t1 t2 t3 tX j7;go_wp2;go_roundw
   case rel=>exact⟨k+1,{d with ok:=false},V,Rr,S,by omega,by go_num,b7.out,.inr ⟨rfl,o8.out⟩,HL.out,k6,by show d.raised.length<=k+1;omega,by show d.Ao.length<=k+1;omega,e6.out⟩
   case measure=>simp[intOf];omega
  have cy:I=(i:Int):=HI.out.symm.trans hi;subst cy;have dy:(0:Int)<=(i:Int):=by omega
  have ey:=jK u5;have cz:=jK u4;clear hi u4;by_cases hy:y=0;rotate_left
  ·have ez:=Bg hy;have HS:Hid (C5 vars d.Ac a=none):=jK (by
    rcases aq.out with⟨_,e⟩|e
    ·exact absurd e hy
    ·exact M1 e)
   clear hy;obtain⟨W8,e8⟩:∃W8,W7.setCell ⟨J.heap.size,3,none⟩ (.bool false)=W8:=⟨_,rfl⟩;have b5:BW W8 J.heap.size J.heap.size V Rr S {d with ok:=false}:=by rw[<-e8];exact u3.out.okd false
   have k3:Below J.heap.size J W8:=by rw[<-e8];exact L0.out.setCell (p:=⟨J.heap.size,3,none⟩) (aL _) _
   obtain⟨t0,t1,t2,t3⟩:=b5.cells;have tX:=b5.Bq.lt;have n9:=jK b5;have o0:=jK k3;clear b5 k3;go_upto_region 16 with(fail)
   clear e8 r0 r1 r2 r3 fX lX;refine Aj.AM 11 [] (fun w'=>Below W8.heap.size W8 w') (fun w w'=>Below w.heap.size w w') (by kernel_rfl) (by kernel_rfl) (by kernel_rfl) (by kernel_rfl) (fun _ _ d _ _ h=>by cases d<;>exact h) (aJ _ _).drew ?_;simp only[aM,aT]
   iterate 3 (refine Aj.Ad rfl rfl ?_ ?_ ?_;rotate_left;(focus(intro w5 hI _;obtain⟨j8,_⟩:=Ae hI;go_simp;rfl)))
   refine Aj.Ah (a':=?_) ?_ ?_;rotate_left;(focus(simp only[Act.put,aB,aD,aC];rfl))
   iterate 6 (refine Aj.Bb rfl (by kernel_rfl) ?_)
   iterate 2 (refine Aj.Ad rfl rfl ?_ ?_ ?_;rotate_left;(focus(intro w5 hI _;obtain⟨j8,_⟩:=Ae hI;go_simp;rfl)))
   refine Aj.Ah (a':=?_) ?_ ?_;rotate_left;(focus(simp only[Act.put,aB,aD,aC];rfl));refine Aj.Ak (fun w9 c9 _=>?_);simp only[aN,aS];have b2:=n9.out.below c9;obtain⟨x0,x1,x2,x3⟩:=b2.cells;have fX:=b2.frozen 3;have lX:=b2.Bq.lt;have b7:=jK (b2.okd false);have e6:=jK ((o0.out.trans (c9.mono o0.out.size)).setCell (p:=⟨J.heap.size,3,none⟩) (aL _) (.bool false));have j7:=E3 l7.out (by rw[o9.out];omega) (by rw[o9.out];omega) (fun _=>HS.out);have o8:=jK j7;clear b2 c9 t0 t1 t2 t3 tX j7;go_wp2;go_roundw
   case rel=>exact⟨k+1,{d with ok:=false},V,Rr,S,by omega,by go_num,b7.out,.inr ⟨rfl,o8.out⟩,HL.out,k6,by show d.raised.length<=k+1;omega,by show d.Ao.length<=k+1;omega,e6.out⟩
   case measure=>simp[intOf];omega
  subst hy;have h7:C4 vars d.Ac [] a.expr=.ok x:=by
   rcases aq.out with⟨e,_⟩|e
   ·exact e
   ·exact absurd rfl (NF e)
  have HS:=jK (Nt u5 cz.out h7);clear h7;obtain⟨ft,aE⟩:∃ft,fits vars[i] x=ft:=⟨_,rfl⟩;have L1:=jK aE;obtain⟨cA,rfl,dz⟩:=bt i u5;have dA:(i:Int)<(vars.length:Int):=by omega
  clear aE;obtain⟨W8,e8⟩:∃W8,W7.setCell ⟨J.heap.size,3,none⟩ (.bool true)=W8:=⟨_,rfl⟩;have b5:BW W8 J.heap.size J.heap.size V Rr S {d with ok:=true}:=by rw[<-e8];exact u3.out.okd true
  have y6:Below J.heap.size W7 W8:=by rw[<-e8];exact(aJ _ _).setCell (p:=⟨J.heap.size,3,none⟩) (aL _) _
  have k3:=L0.out.trans y6;have k8:Bw W8 b 60 #[.int .i64 x.kind,.int .i64 x.a,.int .i64 x.b]:=by
   rw[<-e8];exact(Touch.C8 (S:=fun k=>k=J.heap.size) ⟨J.heap.size,3,none⟩ (.bool true) rfl).Bq cs.out (by show ¬b=J.heap.size;omega)
  have v0:W8.cell? ⟨b,0,none⟩=some (.int .i64 x.kind):=k8.cell 0;have v1:W8.cell? ⟨b,1,none⟩=some (.int .i64 x.a):=k8.cell 1;have v2:W8.cell? ⟨b,2,none⟩=some (.int .i64 x.b):=k8.cell 2;have vl:=k8.lt;have bb:BK W8 W8.heap.size (.slice (some cA) vars.length vc) vars:=(T7.below AL k3).keep AL k3.size (fun _ _=>rfl);obtain⟨t0,t1,t2,t3⟩:=b5.cells;have tX:=b5.Bq.lt;have n9:=jK b5;have o0:=jK k3;have cB:=jK k8;clear b5 y6 k3 k8;go_upto_region 16 with(fail)
  clear e8 r0 r1 r2 r3 fX lX;refine Aj.AF 11 [(8,.bool ft)] [(8,fun _ _=>True)] (fun w'=>Below W8.heap.size W8 w') (fun w w'=>Below w.heap.size w w') (by kernel_rfl) (by kernel_rfl) (by kernel_rfl) (by kernel_rfl) (fun _ _ d _ _ h=>by cases d<;>exact h) (aJ _ _).drew ?_;simp only[aM,aT]
  iterate 3 (refine Aj.Ad rfl rfl ?_ ?_ ?_;rotate_left;(focus(intro w5 hI _;obtain⟨j8,_⟩:=Ae hI;go_simp;rfl)))
  refine Aj.Ah (a':=?_) ?_ ?_;rotate_left;(focus(simp only[Act.put,aB,aD,aC];rfl))
  iterate 3 (refine Aj.Aq rfl (by kernel_rfl) ?_ ?_ ?_;rotate_left;(focus(intro w5 hI _;obtain⟨j8,_⟩:=Ae hI;go_simp;rfl)))
  (refine Aj.Aq rfl (by kernel_rfl) ?_ ?_ ?_;rotate_left;(focus(intro w5 hI _;obtain⟨j8,_⟩:=Ae hI;obtain⟨n0,n1,n2,n3,n4,n5,n6⟩:=BK.at_ (bb.on AL hI) u5;go_simp;rfl)))
  (refine Aj.Aq rfl (by kernel_rfl) ?_ ?_ ?_;rotate_left;(focus(intro w5 hI _;obtain⟨j8,_⟩:=Ae hI;go_simp;rfl)))
  refine Aj.Ah (a':=?_) ?_ ?_;rotate_left;(focus(simp only[Act.put,aB,aD,aC];rfl));refine Aj.AC (.bool ft) rfl rfl (by kernel_rfl) (fun _ _ _ _ _=>trivial) (fun w5 hI _ K hK=>?_) ?_
  ·go_simp;refine(LM vars[i] x w5).mono ?_;rintro e w6⟨rfl,s9⟩;rw[L1.out];exact hK _ _ (by go_simp) trivial (hI.trans (s9.mono hI.size)) s9
  iterate 2 (refine Aj.Ad rfl rfl ?_ ?_ ?_;rotate_left;(focus(intro w5 hI _;obtain⟨j8,_⟩:=Ae hI;go_simp;rfl)))
  refine Aj.Ah (a':=?_) ?_ ?_;rotate_left;(focus(simp only[Act.put,aB,aD,aC];rfl));refine Aj.Ak (fun w9 c9 _=>?_);simp only[aN,aS];have eA:=c9.size;have cD:=jK ((Touch.AK (S:=fun _=>False) c9).Bq cB.out id);have b2:=n9.out.below c9;obtain⟨x0,x1,x2,x3⟩:=b2.cells;have fX:=b2.frozen 3;have lX:=b2.Bq.lt;have bc:=jK (o0.out.trans (c9.mono o0.out.size));have y7:=jK b2;obtain⟨x5,-⟩:=Ae c9;have u0:=(x5 _ 0 vl).trans v0;have u1:=(x5 _ 1 vl).trans v1;have u2:=(x5 _ 2 vl).trans v2;have ul:=aK vl c9.size;rw[ar.out]at x0;clear b2 c9 x5 v0 v1 v2 vl t0 t1 t2 t3 tX bb;cases ft
  ·have x6:Hid (C5 vars d.Ac a=none):=jK (by rw[HS.out];exact if_neg (fun e=>Bool.noConfusion (L1.out.symm.trans e)));have j7:=E3 l7.out (by rw[o9.out];omega) (by rw[o9.out];omega) (fun _=>x6.out);have o8:=jK j7;have b7:=jK (y7.out.okd false);have e6:=jK (bc.out.setCell (p:=⟨J.heap.size,3,none⟩) (aL _) (.bool false));clear j7;go_wp2;go_roundw
   case rel=>exact⟨k+1,{d with ok:=false},V,Rr,S,by omega,by go_num,b7.out,.inr ⟨rfl,o8.out⟩,HL.out,k6,by show d.raised.length<=k+1;omega,by show d.Ao.length<=k+1;omega,e6.out⟩
   case measure=>simp[intOf];omega
  have x6:Hid (C5 vars d.Ac a=some (d.Ac.set i x)):=jK (by rw[HS.out];exact if_pos L1.out);have bd:i<d.Ac.length:=by rw[HL.out,<-x8.out];exact u5
  have dB:(i:Int)<(d.Ac.length:Int):=by omega
  obtain⟨j9,R1⟩:∃j9,w9.setCell ⟨J.heap.size,3,none⟩ (.bool true)=j9:=⟨_,rfl⟩;have k2:BW j9 J.heap.size J.heap.size V Rr S {d with ok:=true}:=by rw[<-R1];exact y7.out.okd true
  have y8:Below J.heap.size J j9:=by rw[<-R1];exact bc.out.setCell (p:=⟨J.heap.size,3,none⟩) (aL _) _
  have da:b≠J.heap.size:=by omega
  have R2:Bw j9 b 60 #[.int .i64 x.kind,.int .i64 x.a,.int .i64 x.b]:=by
   rw[<-R1];exact(Touch.C8 (S:=fun k=>k=J.heap.size) ⟨J.heap.size,3,none⟩ (.bool true) rfl).Bq cD.out da
  have eW:j9.cell? ⟨b,0,none⟩=some (.int .i64 x.kind):=R2.cell 0;have eX:j9.cell? ⟨b,1,none⟩=some (.int .i64 x.a):=R2.cell 1;have fa:j9.cell? ⟨b,2,none⟩=some (.int .i64 x.b):=R2.cell 2;obtain⟨s0,s1,s2,s3⟩:=k2.cells;obtain⟨g,cg,db,R5,fb,dc,dE,U,x7,-⟩:=Et k2.Ac (by show 0<d.Ac.length;omega);rw[db]at s0 k2;have hx:=fun j (hj:j<3)=>IT BU (fun _=>rfl) d.Ac i j bd hj
  have x0:j9.cell? ⟨g,i*3,none⟩=some (.int .i64 d.Ac[i].kind):=U _ _ (hx 0 (by omega));have x1:j9.cell? ⟨g,i*3+1,none⟩=some (.int .i64 d.Ac[i].a):=U _ _ (hx 1 (by omega));have x2:j9.cell? ⟨g,i*3+2,none⟩=some (.int .i64 d.Ac[i].b):=U _ _ (hx 2 (by omega));have f0:=x7 (i*3);have f1:=x7 (i*3+1);have f2:=x7 (i*3+2);have h4:=k2.put x bd;have b7:=jK h4;have e6:=jK (((y8.setCell (p:=⟨g,i*3,none⟩) R5 (.int .i64 x.kind)).setCell (p:=⟨g,i*3+1,none⟩) R5 (.int .i64 x.a)).setCell (p:=⟨g,i*3+2,none⟩) R5 (.int .i64 x.b));have be:=Vs l7.out o9.out x6.out;have dd:=jK be;have bf:=jK (KY k6 x6.out);clear be h4 hx U x7 k2 y8 u0 u1 u2;go_wp2;go_roundw
  case rel=>exact⟨k+1,{d with Ac:=d.Ac.set i x},_,Rr,S,by omega,by go_num,by have:=b7.out;rw[show d={d with ok:=true}from by cases d;simp at l5;simp[l5.out]] ;exact this,.inl ⟨l5.out,dd.out⟩,bf.out.1.trans HL.out,bf.out.2,by show d.raised.length<=k+1;omega,by show d.Ao.length<=k+1;omega,e6.out⟩
  case measure=>simp[intOf];omega
end
section
open Go.RowKit Q Go.Lib Go.Shelf
theorem Ha {w:World} {B e k n t X:Nat} {u:Value} {xs:List Value} {p:Array Value} (h:w.ownsRow B e k u n xs) (I:Bw w X t p) (o:e≠t):u.ownBlock≠some X:=by
 intro hu;rcases h.2 with⟨rfl,_⟩|⟨g,cap,J,rfl,_,R,_⟩
 ·cases hu
 ·obtain rfl:g=X:=by simpa[Value.ownBlock]using hu
  have j:w.heap[g]?=some (.cells p t (0,0)):=I;rw[R]at j;injection j with j
  injection j with _ U
  exact o U
theorem Ay.ZcO {w o:World} {B p t:Nat} {D:DV} {R:RV} {cl:List Nat} {d:Wk} (h:Ay w B p t D R cl d) {j:Value} {l:List ByteArray} (U:Touch (fun k=>R.vS.ownBlock=some k) w o) (I:o.ownsRow B 9 1 j (d.Ao.length+l.length) (strs d.Ao++strs l)) (J:∀k,j.ownBlock=some k->R.vS.ownBlock=some k\/w.heap.size<=k) :
  Ay (o.setCell ⟨p,13,none⟩ j) B p t D {R with vS:=j} cl {d with Ao:=d.Ao++l}/\Touch (AX p R) w (o.setCell ⟨p,13,none⟩ j)/\(∀k,AX p {R with vS:=j} k->AX p R k\/w.heap.size<=k)/\Bw o p t (Ei D R d).toArray:=by
 refine h.IZ 3 13 ⟨9,1,R.vS,d.Ao.length,strs d.Ao⟩ ⟨9,1,j,d.Ao.length+l.length,strs d.Ao++strs l⟩ rfl U I J ?_ rfl;unfold DF;simp only[aD,aC,Rp,aO]
theorem TV {w:World} {B p:Nat} {D:DV} {R:RV} {cl:List Nat} {d:Wk} {c:Q.Af} (h:Ay w B p 82 D R cl d) (hB:B<=w.heap.size) (hC:AQ w B D.ev D.vv D.sv D.tv c) (l:List Q.Act) (v:Value) (hl:Cj w w.heap.size v l) (j2:Ke l)
  {m:Nat} (hd:Wk.Ok c m d) (hm:m<=100000) (A2:c.vars.length<=1000) :
  Calls prog 150 #[.pointer (some ⟨p,0,none⟩),v] w fun e w'=>e=.returned (.tuple #[])/\AR w B p 82 D R cl (Wk.block c d l) w':=by
 obtain⟨i0,q3,q4,q5,q6⟩:=dC BX;have e2:=hd.Ac;obtain⟨o,j4⟩:∃o,I1 c.vars l ⟨d.Ac,[],[],true⟩=o:=⟨_,rfl⟩;obtain⟨r1,r2,r3,r4⟩:=KW (vars:=c.vars) l ⟨d.Ac,[],[],true⟩ hd.vok;rw[j4]at r1 r2 r3 r4;have A3:=j2.len;have A4:=hd.Ao;have q7:=hd.queue;have q8:=hd.lost;simp only[dX,bO]at r1 r3 r4;have h3:Wk.block c d l=Wk.C1 {d with Ac:=o.Ac,Ao:=d.Ao++o.Ao} o.raised:=by
  unfold Wk.block;rw[j4]
 have l6:Cj w w.heap.size v l:=hl;have l8:BK w w.heap.size D.vv c.vars:=hC.vars.keep AL hB (fun _ _=>rfl);have l9:Ci w w.heap.size R.vV d.Ac:=D1 h.Ac (by omega);have j5:∀w5,Below w.heap.size w w5->Calls prog 229 #[v,D.vv,R.vV] w5 fun e w'=>∃V Rr S,e=.returned (.agg #[V,Rr,S,.bool o.ok])/\F6 w.heap.size V Rr S o w'/\Below w5.heap.size w5 w':=fun w5 hI=>by
  have:=ZaP c.vars d.Ac l v D.vv R.vV w5 (l6.on Ax hI) (l8.on AL hI) (l9.on BV hI) e2.symm hd.vok j2.expr (by omega) (by omega);rw[j4]at this;refine this.mono ?_;rintro e w6⟨V,Rr,S,rfl,hD,hb⟩;exact⟨V,Rr,S,rfl,⟨Bk hD.Ac hI.size,Bk hD.raised hI.size,Bk hD.Ao hI.size,hD.apart⟩,hb⟩
 obtain⟨vA,vc,e3⟩:=Al h.Ac;obtain⟨sA,sc,j6⟩:=Al h.Ao;obtain⟨DA,dc,j7,-,-⟩:=hC.vars.form;obtain⟨LA,lc,rfl,-,-⟩:=hl.form;obtain⟨-,-,c2,-,-,-,-,c7,-,-,-,-,-,r5⟩:=h.cells;rw[e3]at c7;rw[j7]at c2;rw[e3,j7]at j5;rw[j6]at r5;have r6:=h.Bq.lt;have E1:=jK e2;have F0:=jK r1;have h5:Wk.Ok c (m+8) {d with Ac:=o.Ac,Ao:=d.Ao++o.Ao}:=⟨q7,q8,r1.trans e2,r2,by simp only[aO];omega⟩;have r7:=jK h5;clear h5;have HH:=jK h;have HB:=jK h3;have HS:=jK j6;have HV:=jK e3;clear e2 r1 h h3 j6 e3 j7 l6 l8 l9 hl hC j2 hd;go_enter func150,ntmps150;go_upto_region 0 with(fail)
 refine Aj.AM 13 [(11,fun v w'=>∃V Rr S,v=.agg #[V,Rr,S,.bool o.ok]/\F6 w.heap.size V Rr S o w'),(12,fun v w'=>∃b,v=.pointer (some ⟨b,0,none⟩)/\w.heap.size<=b/\Bw w' b 219 #[.slice none 0 0,.slice none 0 0,.slice none 0 0,.bool false])] (fun w'=>Below w.heap.size w w') (fun w w'=>Below w.heap.size w w') (by kernel_rfl) (by kernel_rfl) (by kernel_rfl) (by kernel_rfl) (fun _ _ d _ _ h=>by cases d<;>exact h) (aJ _ _).drew ?_;simp only[aM,aT]
 iterate 11 (refine Aj.Ad rfl rfl ?_ ?_ ?_;rotate_left;(focus(intro w5 hI _;obtain⟨F3,_⟩:=Ae hI;go_simp;rfl)))
 refine Aj.Ah (a':=?_) ?_ ?_;rotate_left;(focus(simp only[Act.put,aB,aD,aC];rfl));refine Aj.Bh rfl (by kernel_rfl) (fun v wa wb hs hE=>by obtain⟨V,Rr,S,e,hD⟩:=hE;exact⟨V,Rr,S,e,hD.below hs⟩) (fun w5 hI _ K hK=>?_) (fun v7=>?_)
 ·go_simp;(with_reducible refine(j5 w5 hI).mono ?_);rintro e w6⟨V,Rr,S,rfl,hD,n0⟩;exact hK _ _ _ (by go_simp) ⟨V,Rr,S,rfl,hD⟩ (hI.trans (n0.mono hI.size)) n0
 refine Aj.Ah (a':=?_) ?_ ?_;rotate_left;(focus(simp only[Act.put,aB,aD,aC];rfl));refine Aj.Bh rfl (by kernel_rfl) (fun v wa wb hs hE=>by obtain⟨b,e,h1,h2⟩:=hE;exact⟨b,e,h1,(Touch.AK (S:=fun _=>False) hs).Bq h2 id⟩) (fun w5 hI _ K hK=>?_) (fun v12=>?_)
 ·have j9:=jK (Bi w5 #[.slice none 0 0,.slice none 0 0,.slice none 0 0,.bool false] 219 rfl);have k0:=jK hI;clear hI;go_simp;exact hK (.pointer (some ⟨w5.heap.size,0,none⟩)) _ _ (by go_simp) ⟨w5.heap.size,rfl,k0.out.size,j9.out.2.2⟩ (k0.out.trans (j9.out.1.mono k0.out.size)) j9.out.1
 refine Aj.Ah (a':=?_) ?_ ?_;rotate_left;(focus(simp only[Act.put,aB,aD,aC];rfl));refine Aj.Ak (fun w5 k1 hF=>?_);simp only[aN,aS];obtain⟨X,rfl,y9,J⟩:=hF _ (aR ..);obtain⟨V,Rr,S,rfl,I⟩:=hF _ (bA _ (aR ..));clear hF j5;obtain⟨VA,U,rfl⟩:=Al I.Ac;obtain⟨QA,b2,rfl⟩:=Al I.raised;obtain⟨SA,b3,rfl⟩:=Al I.Ao;have s3:=J.cell 0;have s4:=J.cell 1;have s5:=J.cell 2;have s6:=J.cell 3;have s7:=J.frozen 0;have s8:=J.frozen 1;have s9:=J.frozen 2;have u0:=J.frozen 3;have xl:=J.lt;obtain⟨w6,e6⟩:∃w6,(((w5.setCell ⟨X,0,none⟩ (.slice VA o.Ac.length U)).setCell ⟨X,1,none⟩ (.slice QA o.raised.length b2)).setCell ⟨X,2,none⟩ (.slice SA o.Ao.length b3)).setCell ⟨X,3,none⟩ (.bool o.ok)=w6:=⟨_,rfl⟩;have st:∀ {a:World} (i:Nat) (u:Value),Touch (fun k=>k=X) w5 a->Touch (fun k=>k=X) w5 (a.setCell ⟨X,i,none⟩ u):=fun i u h=>h.trans (Touch.C8 (S:=fun k=>k=X) ⟨X,i,none⟩ u rfl) fun k hk=>.inl hk
 have tX:Touch (fun k=>k=X) w5 w6:=by rw[<-e6];exact st 3 _ (st 2 _ (st 1 _ (st 0 _ (Touch.refl _ w5))))
 have k3:Bw w6 X 219 #[.slice VA o.Ac.length U,.slice QA o.raised.length b2,.slice SA o.Ao.length b3,.bool o.ok]:=by
  have hb:=(((J.BF 0 (.slice VA o.Ac.length U)).BF 1 (.slice QA o.raised.length b2)).BF 2 (.slice SA o.Ao.length b3)).BF 3 (.bool o.ok);simp only[aB,aD,aC]at hb;rw[<-e6];exact hb
 have u2:Below w.heap.size w w6:=k1.trans (tX.below k1.size fun k hk=>by have n2:k=X:=hk;omega);have a1:F6 w.heap.size (.slice VA o.Ac.length U) (.slice QA o.raised.length b2) (.slice SA o.Ao.length b3) o w6:=
  ⟨tX.own I.Ac (fun b hb e=>Ha I.Ac J (by decide) (e▸hb)),tX.own I.raised (fun b hb e=>Ha I.raised J (by decide) (e▸hb)),tX.own I.Ao (fun b hb e=>Ha I.Ao J (by decide) (e▸hb)),I.apart⟩
 have n3:X≠p:=by omega
 have u3:=Ha I.Ac J (by decide);have x0:w6.cell? ⟨X,0,none⟩=some (.slice VA o.Ac.length U):=k3.cell 0;have u4:=jK k3;clear st tX I J k3 k1;obtain⟨h7,t7,f7,k7⟩:=HH.out.PQ hB u2 a1.Ac;have g7:w6.cell? ⟨p,7,none⟩=some (.slice vA d.Ac.length vc):=by rw[<-HV.out];exact k7.cell 7
 have z7:=k7.frozen 7;have l7:=k7.lt;obtain⟨W7,e7⟩:∃W7,w6.setCell ⟨p,7,none⟩ (.slice VA o.Ac.length U)=W7:=⟨_,rfl⟩;rw[e7]at h7 t7;have g13:W7.cell? ⟨p,13,none⟩=some (.slice sA d.Ao.length sc):=by rw[<-HS.out];exact h7.Bq.cell 13
 have u5:=h7.Bq.lt;have tP:Touch (fun k=>k=p) w6 W7:=by rw[<-e7];exact Touch.C8 _ _ rfl
 have k4:∀ {u:Value} {e k n xs},w6.ownsRow w.heap.size e k u n xs->∀b,u.ownBlock=some b->¬b=p:=fun ho b hb e=>by
  have:=(Bd ho hb).2;omega
 have k5:=tP.own a1.Ao (k4 a1.Ao);have n5:=tP.own a1.raised (k4 a1.raised);have b6:=h7.Ao;have u7:Reads W7 W7.heap.size 1 SA o.Ao.length (strs o.Ao):=Reads.BL k5;have i6:=BE o.Ao;have H4:=a1.apart;have u9:=Fm a1.Ac a1.raised (by decide);have H7:=jK h7;have T7:=jK t7;have F7:=jK f7;have n9:B<=W7.heap.size:=aV hB t7.size;have H9:w.heap.size<=W7.heap.size:=t7.size;dsimp only at b6;rw[HS.out]at b6;have e5:=(show Touch (fun k=>k=p) w6 W7 from by rw[<-e7];exact Touch.C8 _ _ rfl).Bq u4.out n3;have x2:W7.cell? ⟨X,2,none⟩=some (.slice SA o.Ao.length b3):=e5.cell 2;have z1:=e5.lt;have i7:=jK e5;clear e5;have w0:=jK a1.raised;have w1:=w0;have o0:=jK n5;have w7:=jK k5;clear h7 t7 f7 k7 a1 k5 n5 tP k4;have b7:∀w3,Touch (fun k=>R.vS.ownBlock=some k) W7 w3->w3.cell? ⟨p,13,none⟩=some (.slice sA d.Ao.length sc):=fun w3 ht=>by
  rw[<-HS.out];exact(ht.Bq H7.out.Bq (Ay.L7 H7.out (i:=3) rfl)).cell 13
 have w8:R.vS.ownBlock≠some X:=fun e=>by
  have:=(HH.out.Dx (.inr (.inr (.inr (.inr e))))).2;omega
 have b8:∀w3,Touch (fun k=>R.vS.ownBlock=some k) W7 w3->w3.cell? ⟨X,2,none⟩=some (.slice SA o.Ao.length b3):=fun w3 ht=>(ht.Bq i7.out w8).cell 2
 have k6:∀w3,Touch (fun _=>False) W7 w3->Reads w3 w3.heap.size 1 SA o.Ao.length (strs o.Ao):=fun w3 ht=>Reads.BL (ht.own w7.out (fun _ _ h=>h))
 have o2:=jK (show W7.ownsRow B 9 1 R.vS d.Ao.length (strs d.Ao)by rw[HS.out];exact b6);clear b6 u7;go_upto_region 2 with(fail)
 clear e6 x0 s3 s4 s5 s6 s7 s8 s9 u0 xl g7 z7 l7 e7;refine RegP.AM 10 [(7,fun v w'=>w'.ownsRow B 9 1 v (d.Ao.length+o.Ao.length) (strs d.Ao++strs o.Ao)/\∀k,v.ownBlock=some k->R.vS.ownBlock=some k\/W7.heap.size<=k)] [7] (fun w'=>Touch (fun k=>R.vS.ownBlock=some k) W7 w') (Qe W7 7 7) (fun _ _=>False) (fun _ wa wb=>Touch (fun k=>R.vS.ownBlock=some k) wa wb) (by kernel_rfl) (by kernel_rfl) (by kernel_rfl) rfl (by kernel_rfl) (by kernel_rfl) (fun _ _ _ _ _ h=>h.elim) ((Touch.refl _ _).drewN 1) ?hpre (by decide) ?_
 case hpre=>
  intro k hk;have n2:k=7:=by simpa using hk.symm
  subst n2;exact(Touch.refl _ _).drewN 1
 simp only[aM,aT]
 iterate 7 (refine RegP.Ad rfl rfl ?_ ?_ ?_;rotate_left;(focus(intro w3 hI _;have w9:=b7 _ hI;have x3:=b8 _ hI;clear hI;go_simp;rfl)))
 simp only[Act.put,aB,aD,aC];refine RegP.Bh rfl rfl (fun j v wa wb hj x4 _ _=>(x4 (by simp only[Aj.KE];rw[if_neg (by omega)])).elim) (fun w3 hI hP hF KK x5=>?_) (fun v10=>?_)
 ·have e9:Touch (fun _=>False) W7 w3:=hP;have c1:=e9.own o2.out (fun _ _ h=>h);have x6:=k6 w3 e9;have z8:B<=w3.heap.size:=aV n9 e9.size;rw[HS.out]at c1;clear hF hP b7 b8 k6;refine C0 _ _ _ _ rfl B 9 i0 _ 1 16 underlying22 q3 q4 q5 q6 rfl (by decide) _ _ _ (by go_simp) c1 _ SA o.Ao.length b3 _ (by go_simp) x6 i6 ?c3 ?c4 ?c5 ?_
  case c3=>unfold maxLen;omega
  case c4=>omega
  case c5=>omega
  intro v' w4 k9 o3 o4;rw[<-HS.out]at o3 o4;have o5:Touch (fun k=>R.vS.ownBlock=some k) w3 w4:=Touch.Dt o3 (fun k h=>h);refine x5 v' _ _ (by go_simp) ⟨k9,fun k hk=>?_⟩ (hI.trans o5 (fun k h=>.inl h)) o5 trivial;rcases o4 with h|h
  ·exact .inl (h.symm.trans hk)
  ·rw[h]at hk;injection hk with hk
   have:=e9.size;exact .inr (by omega)
 iterate 2 (refine RegP.Ad rfl rfl ?_ ?_ ?_;rotate_left;(focus(intro w3 hI _;have w9:=b7 _ hI;have x3:=b8 _ hI;clear hI;go_simp;rfl)))
 simp only[Act.put,aB,aD,aC];refine RegP.Ak (fun w2 hI hF=>?_);obtain⟨b4,j0⟩:=hF _ (aR ..);clear hF b7 b8 k6;simp only[aN,aS];obtain⟨h8,t8,f8,k8⟩:=Ay.ZcO H7.out hI b4 j0;have x8:=hI;obtain⟨A8,h0,rfl⟩:=Al b4;have o6:w2.cell? ⟨p,13,none⟩=some (.slice sA d.Ao.length sc):=by rw[<-HS.out];exact k8.cell 13
 have z138:=k8.frozen 13;have o7:=k8.lt;obtain⟨W8,e8⟩:∃W8,w2.setCell ⟨p,13,none⟩ (.slice A8 (d.Ao.length+o.Ao.length) h0)=W8:=⟨_,rfl⟩;rw[e8]at h8 t8;have l0:∀b,(Value.slice QA o.raised.length b2).ownBlock=some b->¬AX p {R with vV:=.slice VA o.Ac.length U} b:=by
  intro b hb hf;have h1:=(Bd w1.out hb).2;rcases hf with e|e|e|e|e
  ·omega
  ·have:=(HH.out.Dx (.inr (.inl e))).2;omega
  ·rcases u9 with e0|e0
   ·rw[e0]at e;cases e
   ·exact e0 (e.trans hb.symm)
  ·have:=(HH.out.Dx (.inr (.inr (.inr (.inl e))))).2;omega
  ·have:=(HH.out.Dx (.inr (.inr (.inr (.inr e))))).2;omega
 have o9:=t8.own o0.out l0;have j1:∀b,(Value.slice QA o.raised.length b2).ownBlock=some b->¬AX p {R with vV:=.slice VA o.Ac.length U,vS:=.slice A8 (d.Ao.length+o.Ao.length) h0} b:=by
  intro b hb hf;rcases f8 b hf with e|e
  ·exact l0 b hb e
  ·have:=(Bd o0.out hb).1;omega
 have y0:=jK o9;have y1:=jK j1;have H8:=jK h8;have T8:=jK t8;have F8:=jK f8;have y2:B<=W8.heap.size:=aV n9 t8.size;have c6:¬AX p {R with vV:=.slice VA o.Ac.length U} X:=by
  rintro(e|e|e|e|e)
  ·exact n3 e
  ·have:=(HH.out.Dx (.inr (.inl e))).2;omega
  ·exact u3 e
  ·have:=(HH.out.Dx (.inr (.inr (.inr (.inl e))))).2;omega
  ·have:=(HH.out.Dx (.inr (.inr (.inr (.inr e))))).2;omega
 have p0:=jK (t8.Bq i7.out c6);have p1:¬AX p {R with vV:=.slice VA o.Ac.length U,vS:=.slice A8 (d.Ao.length+o.Ao.length) h0} X:=fun hf=>by
  rcases f8 X hf with e|e
  ·exact c6 e
  ·omega
 clear h8 t8 f8 k8 b4 x8 j0 o9 j1 l0 i6 c6;go_wp2;refine RegP.Qg.normal ?_;go_wp2;clear e8 o6 z138 o7 g13 u5 x2
 go_loopw [5] (fun u wr=>∃j:Nat,j<=o.raised.length/\u=.int .i64 (j:Int)/\AR W8 B p 82 D {R with vV:=.slice VA o.Ac.length U,vS:=.slice A8 (d.Ao.length+o.Ao.length) h0} cl (Wk.C1 {d with Ac:=o.Ac,Ao:=d.Ao++o.Ao} (o.raised.take j)) wr) (fun u _=>o.raised.length-(intOf u).toNat)
 case atStart=>exact⟨0,by omega,rfl,AR.refl H8.out⟩
 case round=>
  obtain⟨j,hj,rfl,R9,h9,t9,f9⟩:=hrel;have l1:=t9.own y0.out y1.out;have p3:=t9.Bq p0.out p1;have x1:wr.cell? ⟨X,1,none⟩=some (.slice QA o.raised.length b2):=p3.cell 1;clear p3;by_cases l2:j<o.raised.length
  ·have S1:(j:Int)<(o.raised.length:Int):=by omega
   obtain⟨qa,rfl,T2,c8⟩:=Fj (Reads.BL l1) rfl l2;have qc:=c8 j l2;have c9:=r7.out.C1 (o.raised.take j);have y3:=jK (LI {d with Ac:=o.Ac,Ao:=d.Ao++o.Ao} l2);have y4:=Jy h9 (aV y2 t9.size) c9.queue c9.lost o.raised[j];have T9:=jK t9;have F9:=jK f9;generalize o.raised[j]=s at *;clear t9 f9 h9 l1 c8 c9;go_wp2_with fail;(with_reducible refine y4.mono ?_);rintro e w3⟨rfl,l3⟩;go_wp2;go_roundw
   case rel=>exact⟨j+1,by omega,by go_num,by rw[<-y3.out];exact AR.FM T9.out F9.out l3⟩
   case measure=>simp[intOf];omega
  ·obtain rfl:j=o.raised.length:=by omega
   have r6:¬(o.raised.length:Int)<(o.raised.length:Int):=by omega
   rw[bT]at h9;have HE:=jK (show AR w B p 82 D R cl (Wk.block c d l) wr by
    rw[HB.out];exact AR.FM T7.out F7.out (AR.FM T8.out F8.out ⟨R9,h9,t9,f9⟩))
   clear h9 t9 f9 l1;go_wp2
   (first|go_end0|refine aI (cO rfl _ _ _) rfl ?_)
   exact⟨rfl,HE.out⟩
end
end Go.Proofs.YthbihnpoghlfaaaGreatDoor
