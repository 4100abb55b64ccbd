import Derived.Test.YthbihnpoghlfaaaGreatDoorZr32
import Derived.Test.YthbihnpoghlfaaaGreatDoorZr33
set_option linter.unusedVariables false
set_option linter.unusedSimpArgs false
set_option maxHeartbeats 8000000
set_option maxRecDepth 100000
namespace Go.Proofs.YthbihnpoghlfaaaGreatDoor
open Go.Proofs.Tryz
section
open Q
theorem KW {vars:List Q.Var}:∀(l:List Q.Act) (d:N7),(∀y∈d.Ac,FL y)->(I1 vars l d).Ac.length=d.Ac.length/\(∀y∈(I1 vars l d).Ac,FL y)/\(I1 vars l d).Ao.length<=d.Ao.length+l.length/\(I1 vars l d).raised.length<=d.raised.length+l.length
 | [],d,h=>⟨rfl,h,aL _,aL _⟩
 |a::l,d,h=>by
  unfold I1;split
  ·obtain⟨j,o,p,I⟩:=KW (vars:=vars) l {d with raised:=d.raised++[a.name]} h;simp only[aO,bP,dX]at j p I⊢;exact⟨j,o,by omega,by omega⟩
  ·split
   ·obtain⟨j,o,p,I⟩:=KW (vars:=vars) l {d with Ao:=d.Ao++[a.name]} h;simp only[aO,bP,dX]at j p I⊢;exact⟨j,o,by omega,by omega⟩
   ·split
    ·rename_i Ac J;have R:C5 vars d.Ac a=some Ac:=by
      split at J
      ·exact J
      ·cases J
     obtain⟨g1,g2⟩:=KY h R;obtain⟨j,o,p,I⟩:=KW (vars:=vars) l {d with Ac:=Ac} g2;simp only[bP]at j p I⊢;exact⟨j.trans g1,o,by omega,by omega⟩
    ·refine⟨rfl,h,?_,?_⟩<;>simp only[aO,bP,dX]<;>omega
namespace Q
theorem Wk.Ok.block {c:Af} {m:Nat} {d:Wk} (h:Wk.Ok c m d) {l:List Act} (I:l.length<=8):Wk.Ok c (m+8) (Wk.block c d l):=by
 unfold Wk.block;obtain⟨j,o,p,J⟩:=KW (vars:=c.vars) l ⟨d.Ac,[],[],true⟩ h.vok;refine Wk.Ok.C1 _ ⟨h.queue,h.lost,j.trans h.Ac,o,?_⟩;have:=h.Ao;simp only[dX]at p;simp only[aO];omega
theorem Wk.Ok.C3 {c:Af} (v:Valid c) {m:Nat} {d:Wk} (h:Wk.Ok c m d) {i:Nat} (hi:i<c.Aa.length):Wk.Ok c (m+8) (Wk.C3 c d i):=by
 have j:Wk.Ok c (m+8) (Wk.block c {d with Ag:=Ce c.Aa.length d.Ag i} (CB c i)):=by
  refine Wk.Ok.block (d:={d with Ag:=Ce c.Aa.length d.Ag i}) ⟨h.queue,h.lost,h.Ac,h.vok,h.Ao⟩ ?_;rw[JC c hi];exact(v.Eh (bK hi)).1.len
 unfold Wk.C3;dsimp only;split
 ·exact Wk.Ok.N4 _ _ (j.raise _)
 ·exact j
theorem Wk.Ok.enter {c:Af} (v:Valid c):∀(l:List Nat) {m:Nat} {d:Wk},Wk.Ok c m d->(∀i∈l,i<c.Aa.length)->Wk.Ok c (m+8*l.length) (Wk.enter c d l)
 | [],m,d,h,_=>h
 |i::l,m,d,h,o=>by
  have p:=Wk.Ok.enter v l (h.C3 v (o i (aR ..))) fun j I=>o j (bA _ I)
  exact p.more (by simp only[bP];omega)
end Q
end
section
open Go.RowKit Q Go.Lib Go.Shelf
def LB (v:Value) (i:Nat):Value:=match v with
 |.tuple j=>j.getD i .nilFunc
 |_=>v
theorem Zbp (a b c d:Value):LB (.tuple #[a,b,c,d]) 0=a:=rfl
theorem Zbo (a b c d:Value):LB (.tuple #[a,b,c,d]) 1=b:=rfl
theorem Zbc (a b c d:Value):LB (.tuple #[a,b,c,d]) 2=c:=rfl
theorem Zaw (a b c d:Value):LB (.tuple #[a,b,c,d]) 3=d:=rfl
theorem UL {w:World} {B p:Nat} {D:DV} {R:RV} {cl:List Nat} {d:Wk} {c:Q.Af} (h:Ay w B p 75 D R cl d) (hB:B<=w.heap.size) (hC:AQ w B D.ev D.vv D.sv D.tv c) (l:List Q.Act) (v:Value) (hl:Cj w w.heap.size v l) (c8:Ke l)
  {m:Nat} (hd:Wk.Ok c m d) (hm:m<=100000) (q4:c.vars.length<=1000) :
  Calls prog 53 #[.pointer (some ⟨p,0,none⟩),v] w fun e w'=>e=.returned (.tuple #[])/\AR w B p 75 D R cl (Wk.block c d l) w':=by
 obtain⟨i0,l4,l5,l6,l8⟩:=dC BX;have b3:=hd.Ac;obtain⟨o,e1⟩:∃o,I1 c.vars l ⟨d.Ac,[],[],true⟩=o:=⟨_,rfl⟩;obtain⟨r1,r2,r3,r4⟩:=KW (vars:=c.vars) l ⟨d.Ac,[],[],true⟩ hd.vok;rw[e1]at r1 r2 r3 r4;have q5:=c8.len;have q6:=hd.Ao;have l9:=hd.queue;have n0:=hd.lost;simp only[dX,bO]at r1 r3 r4;have b7:Wk.block c d l=Wk.C1 {d with Ac:=o.Ac,Ao:=d.Ao++o.Ao} o.raised:=by
  unfold Wk.block;rw[e1]
 have i7:Cj w w.heap.size v l:=hl;have j0:BK w w.heap.size D.vv c.vars:=hC.vars.keep AL hB (fun _ _=>rfl);have j1:Ci w w.heap.size R.vV d.Ac:=D1 h.Ac (by omega);have e2:∀U,Below w.heap.size w U->Calls prog 142 #[v,D.vv,R.vV] U fun e w'=>∃V J S,e=.returned (.tuple #[V,J,S,.bool o.ok])/\F6 w.heap.size V J S o w'/\Below U.heap.size U w':=fun U hI=>by
  have:=Zco c.vars d.Ac l v D.vv R.vV U (i7.on Ax hI) (j0.on AL hI) (j1.on BV hI) b3.symm hd.vok c8.expr (by omega) (by omega);rw[e1]at this;refine this.mono ?_;rintro e w6⟨V,J,S,rfl,hD,hb⟩;exact⟨V,J,S,rfl,⟨Bk hD.Ac hI.size,Bk hD.raised hI.size,Bk hD.Ao hI.size,hD.apart⟩,hb⟩
 obtain⟨vA,vc,b5⟩:=Al h.Ac;obtain⟨sA,sc,e3⟩:=Al h.Ao;obtain⟨DA,dc,e4,-,-⟩:=hC.vars.form;obtain⟨LA,lc,rfl,-,-⟩:=hl.form;obtain⟨-,-,c2,-,-,-,-,c7,-,-,-,-,-,n1⟩:=h.cells;rw[b5]at c7;rw[e4]at c2;rw[b5,e4]at e2;rw[e3]at n1;have n2:=h.Bq.lt;have r0:=jK b3;have r5:=jK r1;have b9:Wk.Ok c (m+8) {d with Ac:=o.Ac,Ao:=d.Ao++o.Ao}:=⟨l9,n0,r1.trans b3,r2,by simp only[aO];omega⟩;have n3:=jK b9;clear b9;have HH:=jK h;have HB:=jK b7;have HS:=jK e3;have HV:=jK b5;clear b3 r1 h b7 e3 b5 e4 i7 j0 j1 hl hC c8 hd;go_enter func53,ntmps53;go_upto_region 0 with(fail)
 refine Aj.AM 21 [(11,fun v w'=>∃V J S,v=.tuple #[V,J,S,.bool o.ok]/\F6 w.heap.size V J S o w')] (fun w'=>Below w.heap.size w w') (fun w w'=>Below w.heap.size w w') (by kernel_rfl) (by kernel_rfl) (by kernel_rfl) (by kernel_rfl) (fun _ _ d _ _ h=>by cases d<;>exact h) (aJ _ _).drew ?_;simp only[aM,aT]
 iterate 11 (refine Aj.Ad rfl rfl ?_ ?_ ?_;rotate_left;(focus(intro U hI _;obtain⟨j2,_⟩:=Ae hI;go_simp;rfl)))
 refine Aj.Ah (a':=?_) ?_ ?_;rotate_left;(focus(simp only[Act.put,aB,aD,aC];rfl));refine Aj.Bh rfl (by kernel_rfl) (fun v wa wb hs hE=>by obtain⟨V,J,S,e,hD⟩:=hE;exact⟨V,J,S,e,hD.below hs⟩) (fun U hI _ K hK=>?_) (fun v7=>?_)
 ·go_simp;(with_reducible refine(e2 U hI).mono ?_);rintro e w6⟨V,J,S,rfl,hD,j3⟩;exact hK _ _ _ (by go_simp) ⟨V,J,S,rfl,hD⟩ (hI.trans (j3.mono hI.size)) j3
 (refine Aj.Ad rfl rfl ?_ ?_ ?_;rotate_left;(focus(intro U hI _;obtain⟨j2,_⟩:=Ae hI;go_simp;rfl)))
 (refine Aj.Ad rfl rfl (LB v7 0) (fun U hI hF=>?_) ?_;(focus(obtain⟨V,J,S,rfl,-⟩:=hF _ (aR ..) (by kernel_rfl);go_simp;rfl)))
 (refine Aj.Ad rfl rfl (LB v7 1) (fun U hI hF=>?_) ?_;(focus(obtain⟨V,J,S,rfl,-⟩:=hF _ (aR ..) (by kernel_rfl);go_simp;rfl)))
 (refine Aj.Ad rfl rfl (LB v7 2) (fun U hI hF=>?_) ?_;(focus(obtain⟨V,J,S,rfl,-⟩:=hF _ (aR ..) (by kernel_rfl);go_simp;rfl)))
 (refine Aj.Ad rfl rfl (LB v7 3) (fun U hI hF=>?_) ?_;(focus(obtain⟨V,J,S,rfl,-⟩:=hF _ (aR ..) (by kernel_rfl);go_simp;rfl)))
 iterate 4 (refine Aj.Ad rfl rfl ?_ ?_ ?_;rotate_left;(focus(intro U hI _;obtain⟨j2,_⟩:=Ae hI;go_simp;rfl)))
 refine Aj.Ah (a':=?_) ?_ ?_;rotate_left;(focus(simp only[Act.put,aB,aD,aC];rfl));refine Aj.Ak (fun w6 n5 hF=>?_);simp only[aN,aS];obtain⟨V,J,S,rfl,I⟩:=hF _ (aR ..);simp only[Zbp,Zbo,Zbc,Zaw];clear hF e2;obtain⟨VA,b6,rfl⟩:=Al I.Ac;obtain⟨QA,j4,rfl⟩:=Al I.raised;obtain⟨SA,n9,rfl⟩:=Al I.Ao;obtain⟨h7,t7,f7,k7⟩:=HH.out.PQ hB n5 I.Ac;have g7:w6.cell? ⟨p,7,none⟩=some (.slice vA d.Ac.length vc):=by rw[<-HV.out];exact k7.cell 7
 have z7:=k7.frozen 7;have l7:=k7.lt;obtain⟨W7,e7⟩:∃W7,w6.setCell ⟨p,7,none⟩ (.slice VA o.Ac.length b6)=W7:=⟨_,rfl⟩;rw[e7]at h7 t7;have g13:W7.cell? ⟨p,13,none⟩=some (.slice sA d.Ao.length sc):=by rw[<-HS.out];exact h7.Bq.cell 13
 have o1:=h7.Bq.lt;have tP:Touch (fun k=>k=p) w6 W7:=by rw[<-e7];exact Touch.C8 _ _ rfl
 have e5:∀ {u:Value} {e k n xs},w6.ownsRow w.heap.size e k u n xs->∀b,u.ownBlock=some b->¬b=p:=fun ho b hb e=>by
  have:=(Bd ho hb).2;omega
 have j5:=tP.own I.Ao (e5 I.Ao);have j6:=tP.own I.raised (e5 I.raised);have a6:=h7.Ao;have j7:Reads W7 W7.heap.size 1 SA o.Ao.length (strs o.Ao):=Reads.BL j5;have c1:=BE o.Ao;have s4:=I.apart;have o3:=Fm I.Ac I.raised (by decide);have H7:=jK h7;have T7:=jK t7;have F7:=jK f7;have e6:B<=W7.heap.size:=aV hB t7.size;have s8:w.heap.size<=W7.heap.size:=t7.size;dsimp only at a6;rw[HS.out]at a6;have o4:=jK I.raised;have o5:=o4;have j8:=jK j6;clear h7 t7 f7 k7 I j5 j6 tP e5;go_wp2_with (at_builtin;refine Ap _ rfl _ _ 22 rfl B 9 i0 _ 1 16 underlying22 l4 l5 l6 l8 rfl (by decide) _ _ _ rfl a6 _ SA o.Ao.length n9 _ rfl j7 c1 ?c3 ?c4 ?c5 ?_)
 case c3=>unfold maxLen;omega
 case c4=>omega
 case c5=>exact e6
 intro v' w2 a1 e9 a7;rw[<-HS.out]at e9 a7;obtain⟨h8,t8,f8,k8⟩:=Ay.told H7.out e6 a1 e9 a7;obtain⟨A8,h0,rfl⟩:=Al a1;have j9:w2.cell? ⟨p,13,none⟩=some (.slice sA d.Ao.length sc):=by rw[<-HS.out];exact k8.cell 13
 have z138:=k8.frozen 13;have k0:=k8.lt;obtain⟨W8,e8⟩:∃W8,w2.setCell ⟨p,13,none⟩ (.slice A8 (d.Ao.length+o.Ao.length) h0)=W8:=⟨_,rfl⟩;rw[e8]at h8 t8;have h2:∀b,(Value.slice QA o.raised.length j4).ownBlock=some b->¬AX p {R with vV:=.slice VA o.Ac.length b6} b:=by
  intro b hb hf;have h1:=(Bd o5.out hb).2;rcases hf with e|e|e|e|e
  ·omega
  ·have:=(HH.out.Dx (.inr (.inl e))).2;omega
  ·rcases o3 with e0|e0
   ·rw[e0]at e;cases e
   ·exact e0 (e.trans hb.symm)
  ·have:=(HH.out.Dx (.inr (.inr (.inr (.inl e))))).2;omega
  ·have:=(HH.out.Dx (.inr (.inr (.inr (.inr e))))).2;omega
 have k1:=t8.own j8.out h2;have c6:∀b,(Value.slice QA o.raised.length j4).ownBlock=some b->¬AX p {R with vV:=.slice VA o.Ac.length b6,vS:=.slice A8 (d.Ao.length+o.Ao.length) h0} b:=by
  intro b hb hf;rcases f8 b hf with e|e
  ·exact h2 b hb e
  ·have:=(Bd j8.out hb).1;omega
 have p0:=jK k1;have p1:=jK c6;have H8:=jK h8;have T8:=jK t8;have F8:=jK f8;have p2:B<=W8.heap.size:=aV e6 t8.size;clear h8 t8 f8 k8 a1 e9 a7 k1 c6 h2 a6 j7 c1 e7;go_wp2;clear e8 j9 z138 k0 g13 o1
 go_loopw [43] (fun u wr=>∃j:Nat,j<=o.raised.length/\u=.int .i64 (j:Int)/\AR W8 B p 75 D {R with vV:=.slice VA o.Ac.length b6,vS:=.slice A8 (d.Ao.length+o.Ao.length) h0} cl (Wk.C1 {d with Ac:=o.Ac,Ao:=d.Ao++o.Ao} (o.raised.take j)) wr) (fun u _=>o.raised.length-(intOf u).toNat)
 case atStart=>exact⟨0,by omega,rfl,AR.refl H8.out⟩
 case round=>
  obtain⟨j,hj,rfl,R9,h9,t9,f9⟩:=hrel;have h3:=t9.own p0.out p1.out;by_cases h4:j<o.raised.length
  ·have u3:(j:Int)<(o.raised.length:Int):=by omega
   obtain⟨qa,rfl,u4,a8⟩:=Fj (Reads.BL h3) rfl h4;have qc:=a8 j h4;have b0:=n3.out.C1 (o.raised.take j);have p3:=jK (LI {d with Ac:=o.Ac,Ao:=d.Ao++o.Ao} h4);have p4:=Js h9 (aV p2 t9.size) b0.queue b0.lost o.raised[j];have T9:=jK t9;have F9:=jK f9;generalize o.raised[j]=s at *;clear t9 f9 h9 h3 a8 b0;go_wp2_with fail;(with_reducible refine p4.mono ?_);rintro e w3⟨rfl,h5⟩;go_wp2;go_roundw
   case rel=>exact⟨j+1,by omega,by go_num,by rw[<-p3.out];exact AR.FM T9.out F9.out h5⟩
   case measure=>simp[intOf];omega
  ·obtain rfl:j=o.raised.length:=by omega
   have n2:¬(o.raised.length:Int)<(o.raised.length:Int):=by omega
   rw[bT]at h9;have HE:=jK (show AR w B p 75 D R cl (Wk.block c d l) wr by
    rw[HB.out];exact AR.FM T7.out F7.out (AR.FM T8.out F8.out ⟨R9,h9,t9,f9⟩))
   clear h9 t9 f9 h3;go_wp2
   (first|go_end0|refine aI (cO rfl _ _ _) rfl ?_)
   exact⟨rfl,HE.out⟩
end
section
open Go.RowKit Q Go.Lib
theorem GL {P:Program} {fn:Func} {a:Tmp} {ty:TypeId} (h:fn.results=#[.cell a ty]) {tmps:Array Value} {w:World} {p:Addr} {v:Value} (ha:tmps.getD a undef=.pointer (some p)) (o:(loadVar ty p).run P w=.ok v w):(results fn tmps).run P w=.ok v w:=by
 have j:tmps[a]?.getD undef=.pointer (some p):=by rw[<-ha];simp[eP]
 simp[results,h,j,asAddr,aX,o]
theorem Ge {P:Program} {fn:Func} {a u:Tmp} {ty:TypeId} (h:fn.results=#[.cell a ty,.tmp u]) {tmps:Array Value} {w:World} {p:Addr} {v:Value} (ha:tmps.getD a undef=.pointer (some p)) (o:(loadVar ty p).run P w=.ok v w):(results fn tmps).run P w=.ok (.tuple #[v,tmps.getD u undef]) w:=by
 have j:tmps[a]?.getD undef=.pointer (some p):=by rw[<-ha];simp[eP]
 simp[results,h,j,asAddr,aX,o]
def Dh (V Rr S:Value) (d:N7):List Value:=[V,Rr,S,.bool d.ok]
def FX (V Rr S:Value) (d:N7):List Fw:=[⟨60,3,V,d.Ac.length,d.Ac.flatMap BU⟩,⟨9,1,Rr,d.raised.length,strs d.raised⟩,⟨9,1,S,d.Ao.length,strs d.Ao⟩]
def BW (w:World) (B X:Nat) (V Rr S:Value) (d:N7):Prop:=AY w B X 219 (Dh V Rr S d) (FX V Rr S d)
section
variable {w w1 w2 w':World} {B X:Nat} {V Rr S V':Value} {d:N7}
theorem BW.below (h:BW w B X V Rr S d) (j:Below w.heap.size w w'):BW w' B X V Rr S d:=AY.below h j
theorem BW.Ac (h:BW w B X V Rr S d):w.ownsRow B 60 3 V d.Ac.length (d.Ac.flatMap BU):=h.rows _ (aR ..)
theorem BW.raised (h:BW w B X V Rr S d):w.ownsRow B 9 1 Rr d.raised.length (strs d.raised):=h.rows _ (bA _ (aR ..))
theorem BW.Ao (h:BW w B X V Rr S d):w.ownsRow B 9 1 S d.Ao.length (strs d.Ao):=h.rows _ (bA _ (bA _ (aR ..)))
theorem BW.cells (h:BW w B X V Rr S d):w.cell? ⟨X,0,none⟩=some V/\w.cell? ⟨X,1,none⟩=some Rr/\w.cell? ⟨X,2,none⟩=some S/\w.cell? ⟨X,3,none⟩=some (.bool d.ok):=⟨AY.cell h 0,AY.cell h 1,AY.cell h 2,AY.cell h 3⟩
theorem BW.IZ (h:BW w B X V Rr S d) (i j:Nat) (x y:Fw) (hi:(FX V Rr S d)[i]?=some x) (ht:Touch (fun k=>x.v.ownBlock=some k) w w1) (ho:w1.ownsRow B y.e y.k y.v y.n y.xs) (o:∀k,y.v.ownBlock=some k->x.v.ownBlock=some k\/w.heap.size<=k)
  {p I J:Value} {d1:N7} (hr:(FX V Rr S d).set i y=FX p I J d1) (hc:(Dh V Rr S d).set j y.v=Dh p I J d1) :
  BW (w1.setCell ⟨X,j,none⟩ y.v) B X p I J d1/\Bw w1 X 219 (Dh V Rr S d).toArray:=by
 have R:=AY.IZ h i x y hi ht ho o;have U:=AY.BF R j y.v;rw[hr,hc]at U;exact⟨U,R.Bq⟩
theorem BW.PQ (h:BW w B X V Rr S d) {Ac:List BS} (o:Touch (fun k=>V.ownBlock=some k) w w1) (p:w1.ownsRow B 60 3 V' Ac.length (Ac.flatMap BU)) (j:∀k,V'.ownBlock=some k->V.ownBlock=some k\/w.heap.size<=k) :
  BW (w1.setCell ⟨X,0,none⟩ V') B X V' Rr S {d with Ac:=Ac}/\Bw w1 X 219 (Dh V Rr S d).toArray:=
 h.IZ 0 0 ⟨60,3,V,d.Ac.length,d.Ac.flatMap BU⟩ ⟨60,3,V',Ac.length,Ac.flatMap BU⟩ rfl o p j rfl rfl
theorem BW.raise (h:BW w B X V Rr S d) {s:ByteArray} (o:Touch (fun k=>Rr.ownBlock=some k) w w1) (p:w1.ownsRow B 9 1 V' (d.raised.length+1) (strs (d.raised++[s]))) (j:∀k,V'.ownBlock=some k->Rr.ownBlock=some k\/w.heap.size<=k) :
  BW (w1.setCell ⟨X,1,none⟩ V') B X V V' S {d with raised:=d.raised++[s]}/\Bw w1 X 219 (Dh V Rr S d).toArray:=
 h.IZ 1 1 ⟨9,1,Rr,d.raised.length,strs d.raised⟩ ⟨9,1,V',d.raised.length+1,strs (d.raised++[s])⟩ rfl o p j (by unfold FX;simp only[aD,aC,aO,cR]) rfl
theorem BW.tell (h:BW w B X V Rr S d) {s:ByteArray} (o:Touch (fun k=>S.ownBlock=some k) w w1) (p:w1.ownsRow B 9 1 V' (d.Ao.length+1) (strs (d.Ao++[s]))) (j:∀k,V'.ownBlock=some k->S.ownBlock=some k\/w.heap.size<=k) :
  BW (w1.setCell ⟨X,2,none⟩ V') B X V Rr V' {d with Ao:=d.Ao++[s]}/\Bw w1 X 219 (Dh V Rr S d).toArray:=
 h.IZ 2 2 ⟨9,1,S,d.Ao.length,strs d.Ao⟩ ⟨9,1,V',d.Ao.length+1,strs (d.Ao++[s])⟩ rfl o p j (by unfold FX;simp only[aD,aC,aO,cR]) rfl
theorem BW.okd (h:BW w B X V Rr S d) (b:Bool):BW (w.setCell ⟨X,3,none⟩ (.bool b)) B X V Rr S {d with ok:=b}:=AY.BF h 3 (.bool b)
theorem BW.put {g n c i:Nat} (h:BW w B X (.slice (some ⟨g,0,none⟩) n c) Rr S d) (x:BS) (hi:i<d.Ac.length) :
  BW (((w.setCell ⟨g,i*3,none⟩ (.int .i64 x.kind)).setCell ⟨g,i*3+1,none⟩ (.int .i64 x.a)).setCell ⟨g,i*3+2,none⟩ (.int .i64 x.b)) B X (.slice (some ⟨g,0,none⟩) n c) Rr S {d with Ac:=d.Ac.set i x}:=by
 have j:n=d.Ac.length:=by
  obtain⟨A,J,e⟩:=Al h.Ac;injection e
 subst j;have o:=AY.ZbQ h 0 60 3 g d.Ac.length c (d.Ac.flatMap BU) rfl (i*3) (.int .i64 x.kind);have p:=AY.ZbQ o 0 60 3 g d.Ac.length c _ rfl (i*3+1) (.int .i64 x.a);have I:=AY.ZbQ p 0 60 3 g d.Ac.length c _ rfl (i*3+2) (.int .i64 x.b);unfold BW;have e:FX (.slice (some ⟨g,0,none⟩) d.Ac.length c) Rr S {d with Ac:=d.Ac.set i x}=[⟨60,3,.slice (some ⟨g,0,none⟩) d.Ac.length c,d.Ac.length,(((d.Ac.flatMap BU).set (i*3) (.int .i64 x.kind)).set (i*3+1) (.int .i64 x.a)).set (i*3+2) (.int .i64 x.b)⟩,⟨9,1,Rr,d.raised.length,strs d.raised⟩,⟨9,1,S,d.Ao.length,strs d.Ao⟩]:=by
  unfold FX;dsimp only;rw[List.length_set,Q2 _ _ _ hi]
 rw[e];exact I
theorem BW.done {Z:Nat} (h:BW w B X V Rr S d) (j:Z<B) (hw:B<=w.heap.size) :
  F6 B V Rr S d ((((w.setCell ⟨Z,0,none⟩ V).setCell ⟨Z,1,none⟩ Rr).setCell ⟨Z,2,none⟩ S).setCell ⟨Z,3,none⟩ (.bool d.ok)):=by
 have k:∀ {e k n:Nat} {u:Value} {xs:List Value},w.ownsRow B e k u n xs->((((w.setCell ⟨Z,0,none⟩ V).setCell ⟨Z,1,none⟩ Rr).setCell ⟨Z,2,none⟩ S).setCell ⟨Z,3,none⟩ (.bool d.ok)).ownsRow B e k u n xs:=fun o=>
  eT (eT (eT (eT o (a:=⟨Z,0,none⟩) j _) (a:=⟨Z,1,none⟩) j _) (a:=⟨Z,2,none⟩) j _) (a:=⟨Z,3,none⟩) j _
 refine⟨k h.Ac,k h.raised,k h.Ao,?_⟩;cases p:Rr.ownBlock with
 |none=>exact .inl rfl
 |some g=>exact .inr fun e=>h.apart 1 2 _ _ rfl rfl (by omega) g p e.symm
end
def Qe (W:World) (i j:Nat):Nat->World->Prop:=fun n w'=>if n=i\/n=j then Touch (fun _=>False) W w' else True
def NO (W:World) (x:ByteArray) (v:Value) (w':World):Prop:=∃g,v=.slice (some ⟨g,0,none⟩) 1 1/\W.heap.size<=g/\Bw w' g 9 #[.string x]
def Yu (W:World) (B:Nat) (u:Value) (m:Nat) (xs:List Value) (v:Value) (w':World):Prop:=w'.ownsRow B 9 1 v (m+1) xs/\∀k,v.ownBlock=some k->u.ownBlock=some k\/W.heap.size<=k
theorem NO.keep {W j o:World} {B m:Nat} {u:Value} {x:ByteArray} {v:Value} {xs:List Value} (h:NO W x v j) (p:W.ownsRow B 9 1 u m xs) (I:Touch (fun k=>u.ownBlock=some k) j o):NO W x v o:=by
 obtain⟨g,e,J,R⟩:=h;exact⟨g,e,J,I.Bq R (fun U=>by have:=(p.lt g U).2;omega)⟩
end
end Go.Proofs.YthbihnpoghlfaaaGreatDoor
