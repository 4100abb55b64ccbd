import Derived.Test.YthbihnpoghlfaaaGreatDoorZr02
import Derived.Test.YthbihnpoghlfaaaGreatDoorZr11
import Derived.Test.YthbihnpoghlfaaaGreatDoorZr17
set_option linter.unusedVariables false
set_option linter.unusedSimpArgs false
set_option maxHeartbeats 8000000
set_option maxRecDepth 100000
namespace Go.Proofs.YthbihnpoghlfaaaGreatDoor
open Go.Proofs.Tryz
section
open Go.RowKit Q Go.Lib
theorem GH (vars:List Q.Var) (Aa:List ByteArray) (l:List Cell) (v p I:Value) (w:World) (J:Bp w w.heap.size v l) (hv:BK w w.heap.size p vars) (hs:AE w w.heap.size I Aa) :
  Calls prog 170 #[v,p,I] w fun e w'=>e=.returned (Cu (kindOf vars Aa l))/\Below w.heap.size w w':=by
 obtain⟨b,hb⟩:∃b,BC l=b:=⟨_,rfl⟩;obtain⟨A,cp,rfl,hn,hA⟩:=J.form;go_enter func170,ntmps170;have o:=jK hb;clear hb;go_wp2_with fail;refine(JE l _ w J).mono ?_;rintro e w1⟨rfl,j⟩;rw[o.out];cases b with
 |false=>
  have R:=jK (show kindOf vars Aa l=.err 1 by unfold kindOf Hi.of;rw[o.out];rfl);go_wp2
  go_ret2
  exact⟨by rw[R.out];rfl,j⟩
 |true=>
  obtain⟨t,ht,rfl⟩:=CE o.out;have R:=jK (show kindOf vars Aa t.flat=(E7 vars Aa).ev t from Mf _ ht o.out);have hl:t.flat.length<=32:=by
   have:=o.out;unfold BC at this;simp only[aG,aP]at this;exact this.1
  have hp:=Dc t;have hz:(t.flat.length:Int)-1=((t.flat.length-1:Nat):Int):=by omega
  have HZ:=jK hz;clear hz;go_wp2_with fail;rw[HZ.out];refine(UU vars Aa t.flat hl _ p I t ht [] [] (by simp) _ (by simp) _ (J.on Aw j) (hv.on AL j) (hs.on j)).mono ?_;rintro e w2⟨rfl,U⟩;unfold Cu;go_wp2
  go_ret2
  exact⟨by rw[R.out];rfl,Ab j U⟩
def Vn (j:List Int):List Value:=j.reverse.map (Value.int .i64)
theorem Qy (x:Int) (j:List Int):(Vn (x::j))[j.length]?=some (.int .i64 x):=by unfold Vn;simp
theorem ZaU (x y:Int) (j:List Int):(Vn (y::x::j))[j.length]?=some (.int .i64 x):=by unfold Vn;simp
theorem Zbk (x:Int) (j:List Int):(Vn (x::j)).take (j.length*1)=Vn j:=by unfold Vn;simp
theorem ZZ (x y:Int) (j:List Int):(Vn (y::x::j)).take (j.length*1)=Vn j:=by unfold Vn;simp
theorem NM (x:Int) (j:List Int):Vn (x::j)=Vn j++[.int .i64 x]:=by unfold Vn;simp
theorem Qh (vars:List Q.Var) (Aa:List ByteArray) (l:List Cell) (v vs ss:Value) (w:World) (hc:Bp w w.heap.size v l) (hv:BK w w.heap.size vs vars) (hs:AE w w.heap.size ss Aa) :
  Calls prog 181 #[v,vs,ss] w fun e w'=>e=.returned (Cu (kindOf vars Aa l))/\Below w.heap.size w w':=by
 obtain⟨i0,h6,h7,h8,h9⟩:=dC MF;obtain⟨b,hb⟩:∃b,BC l=b:=⟨_,rfl⟩;obtain⟨A,cp,rfl,hn,hA⟩:=hc.form;go_enter func181,ntmps181;have HB:=jK hb;clear hb;go_wp2_with fail;refine(P7 l _ w hc).mono ?_;rintro e w1⟨rfl,j9⟩;rw[HB.out];cases b with
 |false=>
  have HK:=jK (show kindOf vars Aa l=.err 1 by unfold kindOf Hi.of;rw[HB.out];rfl);go_wp2
  go_ret2
  exact⟨by rw[HK.out];rfl,j9⟩
 |true=>
  have hR:=HB.out;unfold BC at hR;simp only[aG,aP]at hR;obtain⟨q4,h5⟩:=hR;obtain⟨RR,i1⟩:∃RR,(E7 vars Aa).run l []=RR:=⟨_,rfl⟩;have HK:=jK (show kindOf vars Aa l=ZK RR by unfold kindOf;rw[of_run _ HB.out,i1]);have k0:=jK h5;have o3:=jK i1;clear h5 i1;go_wp2
  go_loopw [19,8] (fun v u wr=>∃(i:Nat) (j:List Int),i<=l.length/\j.length<=i/\v=.int .i64 (i:Int)/\wr.ownsRow w.heap.size 3 1 u j.length (Vn j)/\(∀k∈j,isKind k)/\Kw j.length (l.drop i)=some 1/\(E7 vars Aa).run (l.drop i) j=RR/\Below w.heap.size w wr) (fun v _ _=>l.length-(intOf v).toNat)
  case atStart=>exact⟨0,[],by omega,by simp,rfl,bL _ _ _ _,fun k hk=>(by cases hk),k0.out,o3.out,j9⟩
  case round=>
   obtain⟨i,j,hi,k1,rfl,a7,a8,b1,R,b6⟩:=hrel;obtain⟨SA,k2,hu⟩:=Al a7;subst hu;by_cases i6:i<l.length
   ·have q5:(i:Int)<(l.length:Int):=by omega
    obtain⟨ad,rfl,q6⟩:=hA i i6;have o4:=hc.on Aw b6;have o5:=hv.on AL b6;have o6:=hs.on b6;obtain⟨c0,c1,c2⟩:=Bp.at_ o4 i6;rw[drop_at i6]at b1 R;generalize l[i]=cc at *;obtain⟨op,a,nm⟩:=cc;obtain⟨n0,n1,n2⟩:=QU b1;have b7:=AT wr (.cells #[.int .i64 op,.int .i64 a,.string nm] 248);rcases GY ⟨op,a,nm⟩with h0|h0|h0|h0
    ·omega
    ·have ho:=Lb h0;dsimp only at ho c0 c1 c2;have i7:op<7:=by omega
     have b4:(E7 vars Aa).step ⟨op,a,nm⟩ j=(FC vars Aa ⟨op,a,nm⟩).bind fun v=>.ok (v::j):=by unfold Hi.step;rw[if_pos h0];rfl
     rw[h0]at n2;obtain⟨r,hr⟩:∃r,FC vars Aa ⟨op,a,nm⟩=r:=⟨_,rfl⟩;have I:(r.bind fun v=>Rs.ok (v::j)).bind (fun j=>(E7 vars Aa).run (l.drop (i+1)) j)=RR:=by rw[<-R,<-hr,<-b4];rfl
     have e2:=jK n2;have a6:=jK I;have HR:=jK hr;have e4:=jK a8;clear b1 R h0 ho n0 n1 n2 b4 I hr a8;go_wp2_with fail;refine(X6 ⟨op,a,nm⟩ vars Aa vs ss _ (o5.on AL b7) (o6.on b7)).mono ?_;rintro e w2⟨rfl,b8⟩;rw[HR.out];have k3:=Ab b7 b8;have j0:=Ab b6 k3;have J:=AG a7 k3;cases r with
     |err x=>
      have h0:=Ox x HR.out;have j1:(x==0)=false:=by simpa using h0
      have U:=HK.out;rw[<-show Rs.err x=RR from a6.out]at U;have b9:=jK (show kindOf vars Aa l=.err x from U);clear h0 U;unfold Cu rsV rsE;go_wp2
      go_ret2
      exact⟨by rw[b9.out];rfl,j0⟩
     |ok k=>
      have hk:=MZ HR.out;have j1:(k==0)=false:=by unfold isKind at hk;simp;omega
      unfold Cu rsV rsE;have o9:=j0.size;go_wp2_with (at_builtin;refine gR _ rfl _ _ 28 rfl w.heap.size 3 i0 _ 1 8 underlying28 h6 h7 h8 h9 rfl (by decide) _ _ _ rfl (J.alloc _) ⟨w2.heap.size,0,none⟩ 1 1 [.int .i64 k] rfl rfl ?ac1 ?ac2 ?ac3 ?ac4 ?ac5 ?_)
      case ac1=>exact Dm _ _ rfl _ _
      case ac2=>first|rfl|(intro u hu;simp at hu;subst hu;rfl)
      case ac3=>unfold maxLen;omega
      case ac4=>omega
      case ac5=>first|omega|(simp;omega)
      intro v' w3 a1 hg _;have e5:Below w.heap.size w w3:=(j0.alloc o9 _).grown hg (by simp;omega) (fun k hk=>(J.lt k hk).1);go_wp2;go_roundw
      case rel=>exact⟨i+1,k::j,by omega,by simp;omega,by go_num,by rw[NM];exact a1,fun x hx=>by rcases bJ.1 hx with rfl|hx;exact hk;exact e4.out x hx,e2.out,a6.out,e5⟩
      case measure=>simp[intOf];omega
    ·have ho:=Im h0;dsimp only at ho c0 c1 c2;have i7:¬op<7:=by omega
     have k6:op<11:=by omega
     rw[h0]at n1 n2;cases j with
     |nil=>simp at n1
     |cons x j=>
     obtain⟨g,c,e6,k7,e7,h4,k8,o,k9,hcut⟩:=Et a7 (by simp);injection e6 with e1 _ e3
     subst e1;subst e3;have b4:(E7 vars Aa).step ⟨op,a,nm⟩ (x::j)=(Qi op x).bind fun v=>.ok (v::j):=by unfold Hi.step;rw[if_neg (by rw[h0];omega),if_pos h0];rfl
     obtain⟨r,hr⟩:∃r,Qi op x=r:=⟨_,rfl⟩;have I:(r.bind fun v=>Rs.ok (v::j)).bind (fun j=>(E7 vars Aa).run (l.drop (i+1)) j)=RR:=by rw[<-R,<-hr,<-b4];rfl
     replace n2:Kw (j.length+1) (l.drop (i+1))=some 1:=by simpa using n2
     have hm:=Yc ho.1 ho.2 (a8 x (aR ..));rw[hr]at hm;have e2:=jK n2;have a6:=jK I;have HR:=jK hr;have e4:=jK a8;have HM:=jK hm;have c8:=o j.length _ (Qy x j);have p1:(j.length:Int)<(((x::j).length:Nat):Int):=by simp;omega
     have p2:(((x::j).length:Nat):Int)-1=(j.length:Int):=by simp
     have l3:j.length<=32:=by simp at k1;omega
     have J:=hcut j.length (by simp);rw[Zbk]at J;have p3:(j.length:Int)<=(k2:Int):=by simp at h4;omega
     have j2:=jK (a8 x (aR ..));clear b1 R h0 ho n0 n1 n2 b4 I hr a8 hm hcut o a7;have p4:(x::j).length=j.length+1:=rfl;generalize j3:(x::j).length=NN at *;clear j3;obtain⟨W,hW⟩:∃W,wr.alloc (.cells #[.int .i64 op,.int .i64 a,.string nm] 248)=W:=⟨_,rfl⟩;have b5:Below wr.heap.size wr W:=by rw[<-hW];exact b7
     have p5:W.heap.size=wr.heap.size+1:=by rw[<-hW];simp
     have p6:W.cell? ⟨g,j.length,none⟩=some (.int .i64 x):=(b5.cell (p:=⟨g,j.length,none⟩) e7).trans c8;have p7:W.cell? ⟨wr.heap.size,0,none⟩=some (.int .i64 op):=by rw[<-hW];simp
     have HW:=jK hW;obtain⟨K,hK⟩:∃K,Ir op x 0 Kz=K:=⟨_,rfl⟩;have c3:=jK hK;clear b7 c8 hK;go_wp2_with fail;clear hW;have j4:IntKind.i64.wrap (j.length:Int)=(j.length:Int):=cM _ (by omega);have e9:(j.length:Int)<(j.length:Int)+1:=by omega
     refine Aj.AF 8 [(7,.int .i64 K)] [(7,fun _ _=>True)] (fun w'=>Below W.heap.size W w') (fun w w'=>Below w.heap.size w w') (by kernel_rfl) (by kernel_rfl) (by kernel_rfl) (by kernel_rfl) (fun _ _ d _ _ h=>by cases d<;>exact h) (aJ _ _).drew ?_;simp only[aM,aT]
     repeat(refine Aj.Ad rfl rfl ?_ ?_ ?_;rotate_left;(focus(intro w1 hI _;obtain⟨hk,_⟩:=Ae hI;go_simp;rfl)))
     refine Aj.AC (.int .i64 K) rfl rfl rfl (fun _ _ _ _ _=>trivial) (fun w1 hI _ K' j5=>?_) ?_
     ·go_simp;refine(RI op x 0 w1).mono ?_;rintro e w2⟨rfl,b8⟩;rw[c3.out];exact j5 _ _ (by go_simp) trivial (hI.trans (b8.mono hI.size)) b8
     simp only[Act.put,aB,aD,aC];refine Aj.Ak (fun w1 hI _=>?_);simp only[aN,aS];clear j4 e9;have b0:=Ab b6 (Ab b5 hI);have a1:=AG J (Ab b5 hI);have j6:=b0.size;cases r with
     |err y=>
      have hy:=Sh HR.out;subst hy;have c4:K=0:=by rw[<-c3.out,HM.out]
      have U:=HK.out;rw[<-show Rs.err 8=RR from a6.out]at U;have b9:=jK (show kindOf vars Aa l=.err 8 from U);subst c4;clear U;go_wp2
      go_ret2
      exact⟨by rw[b9.out];rfl,b0⟩
     |ok k=>
      have hk:=OT j2.out HR.out;have c4:K=k:=by rw[<-c3.out,HM.out]
      subst c4;have j1:(K==0)=false:=by unfold isKind at hk;simp;omega
      go_wp2_with (at_builtin;refine gR _ rfl _ _ 28 rfl w.heap.size 3 i0 _ 1 8 underlying28 h6 h7 h8 h9 rfl (by decide) _ _ _ rfl (a1.alloc _) ⟨w1.heap.size,0,none⟩ 1 1 [.int .i64 K] rfl rfl ?bc1 ?bc2 ?bc3 ?bc4 ?bc5 ?_)
      try(case bc1=>exact Dm _ _ rfl _ _)
      case bc2=>first|rfl|(intro u hu;simp at hu;subst hu;rfl)
      case bc3=>unfold maxLen;omega
      case bc4=>omega
      case bc5=>first|omega|(simp;omega)
      intro v' w3 c5 hg _;have e5:Below w.heap.size w w3:=(b0.alloc j6 _).grown hg (by simp;omega) (fun k hk=>(a1.lt k hk).1);go_wp2;go_roundw
      case rel=>exact⟨i+1,K::j,by omega,by simp;omega,by go_num,by rw[NM];exact c5,fun z hz=>by rcases bJ.1 hz with rfl|hz;exact hk;exact e4.out z (bA _ hz),e2.out,a6.out,e5⟩
      case measure=>simp[intOf];omega
    ·have ho:=J5 h0;dsimp only at ho c0 c1 c2;have i7:¬op<7:=by omega
     have k6:¬op<11:=by omega
     rw[h0]at n1 n2;cases j with
     |nil=>simp at n1
     |cons y j=>
     cases j with
     |nil=>simp at n1
     |cons x j=>
     obtain⟨g,c,e6,k7,e7,h4,k8,o,k9,hcut⟩:=Et a7 (by simp);injection e6 with e1 _ e3
     subst e1;subst e3;have b4:(E7 vars Aa).step ⟨op,a,nm⟩ (y::x::j)=(Jp op x y).bind fun v=>.ok (v::j):=by unfold Hi.step;rw[if_neg (by rw[h0];omega),if_neg (by rw[h0];omega)];rfl
     obtain⟨r,hr⟩:∃r,Jp op x y=r:=⟨_,rfl⟩;have I:(r.bind fun v=>Rs.ok (v::j)).bind (fun j=>(E7 vars Aa).run (l.drop (i+1)) j)=RR:=by rw[<-R,<-hr,<-b4];rfl
     replace n2:Kw (j.length+1) (l.drop (i+1))=some 1:=by rw[<-n2];congr 1
     have hm:=ZT ho.1 ho.2 (a8 x (by simp)) (a8 y (by simp));rw[hr]at hm;have e2:=jK n2;have a6:=jK I;have HR:=jK hr;have e4:=jK a8;have HM:=jK hm;have c8:=o j.length _ (ZaU x y j);have l5:=o (j.length+1) _ (Qy y (x::j));have p1:(j.length:Int)<(((y::x::j).length:Nat):Int):=by simp;omega
     have p2:(((y::x::j).length:Nat):Int)-2=(j.length:Int):=by simp;omega
     have l3:j.length<=32:=by simp at k1;omega
     have J:=hcut j.length (by simp;omega);rw[ZZ]at J;have p3:(j.length:Int)<=(k2:Int):=by simp at h4;omega
     have j2:=jK (a8 x (by simp));clear b1 R h0 ho n0 n1 n2 b4 I hr a8 hm hcut o a7;have p4:(y::x::j).length=j.length+1+1:=rfl;generalize j3:(y::x::j).length=NN at *;clear j3;obtain⟨W,hW⟩:∃W,wr.alloc (.cells #[.int .i64 op,.int .i64 a,.string nm] 248)=W:=⟨_,rfl⟩;have b5:Below wr.heap.size wr W:=by rw[<-hW];exact b7
     have p5:W.heap.size=wr.heap.size+1:=by rw[<-hW];simp
     have p6:W.cell? ⟨g,j.length,none⟩=some (.int .i64 x):=(b5.cell (p:=⟨g,j.length,none⟩) e7).trans c8;have r1:W.cell? ⟨g,j.length+1,none⟩=some (.int .i64 y):=(b5.cell (p:=⟨g,j.length+1,none⟩) e7).trans l5;have p7:W.cell? ⟨wr.heap.size,0,none⟩=some (.int .i64 op):=by rw[<-hW];simp
     have HW:=jK hW;obtain⟨K,hK⟩:∃K,Ir op x y Kz=K:=⟨_,rfl⟩;have c3:=jK hK;clear b7 c8 l5 hK;go_wp2_with fail;clear hW;have j4:IntKind.i64.wrap (j.length:Int)=(j.length:Int):=cM _ (by omega);have l6:IntKind.i64.wrap ((j.length:Int)+1)=(j.length:Int)+1:=cM _ (by omega);have l7:(j.length:Int)+1+1-2=(j.length:Int):=by omega
     have l8:((j.length:Int)+1).toNat=j.length+1:=by omega
     have e9:(j.length:Int)<(j.length:Int)+1+1:=by omega
     have l9:(j.length:Int)+1<(j.length:Int)+1+1:=by omega
     have n3:0<=(j.length:Int)+1:=by omega
     refine Aj.AF 13 [(12,.int .i64 K)] [(12,fun _ _=>True)] (fun w'=>Below W.heap.size W w') (fun w w'=>Below w.heap.size w w') (by kernel_rfl) (by kernel_rfl) (by kernel_rfl) (by kernel_rfl) (fun _ _ d _ _ h=>by cases d<;>exact h) (aJ _ _).drew ?_;simp only[aM,aT]
     repeat(refine Aj.Ad rfl rfl ?_ ?_ ?_;rotate_left;(focus(intro w1 hI _;obtain⟨hk,_⟩:=Ae hI;go_simp;rfl)))
     refine Aj.AC (.int .i64 K) rfl rfl rfl (fun _ _ _ _ _=>trivial) (fun w1 hI _ K' j5=>?_) ?_
     ·go_simp;refine(RI op x y w1).mono ?_;rintro e w2⟨rfl,b8⟩;rw[c3.out];exact j5 _ _ (by go_simp) trivial (hI.trans (b8.mono hI.size)) b8
     simp only[Act.put,aB,aD,aC];refine Aj.Ak (fun w1 hI _=>?_);simp only[aN,aS];clear j4 l6 l8 l7 e9 l9 n3;have b0:=Ab b6 (Ab b5 hI);have a1:=AG J (Ab b5 hI);have j6:=b0.size;cases r with
     |err y=>
      have hy:=Sp HR.out;subst hy;have c4:K=0:=by rw[<-c3.out,HM.out]
      have U:=HK.out;rw[<-show Rs.err 8=RR from a6.out]at U;have b9:=jK (show kindOf vars Aa l=.err 8 from U);subst c4;clear U;go_wp2
      go_ret2
      exact⟨by rw[b9.out];rfl,b0⟩
     |ok k=>
      have hk:=Pr j2.out HR.out;have c4:K=k:=by rw[<-c3.out,HM.out]
      subst c4;have j1:(K==0)=false:=by unfold isKind at hk;simp;omega
      go_wp2_with (at_builtin;refine gR _ rfl _ _ 28 rfl w.heap.size 3 i0 _ 1 8 underlying28 h6 h7 h8 h9 rfl (by decide) _ _ _ rfl (a1.alloc _) ⟨w1.heap.size,0,none⟩ 1 1 [.int .i64 K] rfl rfl ?cc1 ?cc2 ?cc3 ?cc4 ?cc5 ?_)
      try(case cc1=>exact Dm _ _ rfl _ _)
      case cc2=>first|rfl|(intro u hu;simp at hu;subst hu;rfl)
      case cc3=>unfold maxLen;omega
      case cc4=>omega
      case cc5=>first|omega|(simp;omega)
      intro v' w3 c5 hg _;have e5:Below w.heap.size w w3:=(b0.alloc j6 _).grown hg (by simp;omega) (fun k hk=>(a1.lt k hk).1);go_wp2;go_roundw
      case rel=>exact⟨i+1,K::j,by omega,by simp;omega,by go_num,by rw[NM];exact c5,fun z hz=>by rcases bJ.1 hz with rfl|hz;exact hk;exact e4.out z (by simp[hz]),e2.out,a6.out,e5⟩
      case measure=>simp[intOf];omega
   ·obtain rfl:i=l.length:=by omega
    have i7:¬(l.length:Int)<(l.length:Int):=by omega
    rw[eL,Kw]at b1;rw[eL]at R;injection b1 with b1
    match j,b1 with
    | [x],_=>
     obtain⟨g,c,e6,k7,e7,h4,k8,o,k9,hcut⟩:=Et a7 (by simp);injection e6 with e1 _ e3
     subst e1;subst e3;have c8:=o 0 _ (Qy x []);have U:=HK.out;rw[<-show Rs.ok [x]=RR from R]at U;have b9:=jK (show kindOf vars Aa l=.ok x from U);clear U R b1 o hcut;go_wp2
     go_ret2
     exact⟨by rw[b9.out];rfl,b6⟩
def Zby (c:Q.Cell):List Value:=[.int .i64 c.op,.int .i64 c.a,.string c.name]
def ZcP (c:Q.Cell):Value:=.agg #[.int .i64 c.op,.int .i64 c.a,.string c.name]
instance:Inhabited Q.Cell:=⟨⟨0,0,⟨#[]⟩⟩⟩
theorem Yl (w:World) (B:Nat) (a:Q.Cell) (o:Nat->Value) (h:∀j,j<3->LO w B a j (o j)):∃b:Q.Cell,id b=a/\∀j,j<3->(Zby b)[j]?=some (o j):=by
 refine⟨a,rfl,fun j I=>?_⟩;have p:=h j I
 match j,I,p with
 | 0,_,h=>rw[show o 0=_ from h];rfl
 | 1,_,h=>rw[show o 1=_ from h];rfl
 | 2,_,h=>rw[show o 2=_ from h];rfl
theorem Uh (w:World):(isAgg 248).run prog w=.ok true w:=by kernel_rfl
theorem Rl (w:World):(Go.sizeOf 248).run prog w=.ok 3 w:=by kernel_rfl
def MT (c:Q.Cell):Bool:=decide (c.op=6)
theorem Zad (c:Q.Cell) (w:World):Calls prog 375 #[ZcP c] w fun e p=>e=.returned (.bool (MT c))/\Below w.heap.size w p:=by
 obtain⟨op,a,nm⟩:=c;obtain⟨r,j⟩:∃r,MT ⟨op,a,nm⟩=r:=⟨_,rfl⟩;rw[j];have I:=jK j;clear j;show Calls _ _ #[.agg #[.int .i64 op,.int .i64 a,.string nm]] _ _;have o:=AT w (.cells #[.int .i64 op,.int .i64 a,.string nm] 248);go_enter func375,ntmps375;go_wp2;go_ret;exact⟨Db (by rw[<-I.out];unfold MT;rw[cH];simp),o⟩
theorem WC (l:List Q.Cell) (v:Value) (w:World) (h:Bp w w.heap.size v l) :
  Calls prog 374 #[v,.func (.func 375) #[] #[]] w fun e j=>e=.returned (.bool (l.any MT))/\Below w.heap.size w j:=
 ZE (P:=prog) Tryz.Zcy Uh Rl id Zby Yl (fun _=>rfl) (by omega) MT 375 #[] (enters_of func375 (by decide) rfl) w v l h (fun W x o=>(Zad x W).mono fun e j ⟨p,I⟩=>⟨p,o.trans (I.mono o.size)⟩)
theorem OI (l:List Q.Cell):JH l=(BC l&&!l.any MT):=by
 unfold JH;congr 1
 induction l with
 |nil=>rfl
 |cons c l ih=>rw[jE,List.any_cons,ih,Bool.not_or];rfl
theorem XM (l:List Q.Cell) (v:Value) (w:World) (h:Bp w w.heap.size v l) :
  Calls prog 344 #[v] w fun e w'=>e=.returned (.bool (JH l))/\Below w.heap.size w w':=by
 obtain⟨r,o⟩:∃r,JH l=r:=⟨_,rfl⟩;rw[o];rw[OI]at o;have p:=jK o;clear o;obtain⟨b,R⟩:∃b,BC l=b:=⟨_,rfl⟩;obtain⟨c,U⟩:∃c,l.any MT=c:=⟨_,rfl⟩;have HB:=jK R;have HC:=jK U;clear R U;go_enter func344,ntmps344;go_wp2_with fail;refine(P7 l v w h).mono ?_;rintro e w1⟨rfl,j⟩;rw[HB.out];have I:=p.out;rw[HB.out,HC.out]at I;cases b with
 |false=>
  subst I;clear p;go_wp2;go_ret;exact⟨rfl,j⟩
 |true=>
  subst I;clear p;go_wp2_with fail;refine(WC l v w1 (h.on Aw j)).mono ?_;rintro e w2⟨rfl,J⟩;rw[HC.out];cases c
  all_goals
   go_wp2;go_ret;exact⟨rfl,Ab j J⟩
theorem Yj (l:List Q.Cell) (v:Value) (w:World) (h:Bp w w.heap.size v l) :
  Calls prog 292 #[v] w fun e w'=>e=.returned (.bool (l.any MT))/\w'=w:=by
 obtain⟨A,c,rfl,hn,hA⟩:=h.form;obtain⟨b,R⟩:∃b,l.any MT=b:=⟨_,rfl⟩;rw[R];have U:=jK R;clear R;go_enter func292,ntmps292;go_wp2
 go_loop [3] (fun v=>∃k:Nat,k<=l.length/\v=.int .i64 (k:Int)/\∀j (h:j<l.length),j<k->MT l[j]=false) (fun v=>l.length-(intOf v).toNat)
 case atStart=>exact⟨0,by omega,rfl,fun j _ J=>absurd J (by omega)⟩
 case round=>
  obtain⟨k,hk,rfl,o⟩:=hrel;have HA:=jK o;clear o;by_cases p:k<l.length
  ·have a8:(k:Int)<(l.length:Int):=by omega
   obtain⟨ad,rfl,b0⟩:=hA k p;have I:=(Bp.at_ h p).1;by_cases e:l[k].op=6
   ·obtain rfl:b=true:=by rw[<-U.out];exact gF.2 ⟨_,bK p,aH e⟩
    rw[e]at I;clear e;go_wp2;go_ret;exact⟨rfl,rfl⟩
   ·have he:(l[k].op==6)=false:=by simpa using e
    have HE:=jK e;clear e;go_wp2
    go_round
    case rel=>exact⟨k+1,by omega,by go_num,fun j J b2=>by
     by_cases e:j=k
     ·subst e;exact aF HE.out
     ·exact HA.out j J (by omega)⟩
    case measure=>simp[intOf];omega
  ·obtain rfl:k=l.length:=by omega
   have b3:¬(l.length:Int)<(l.length:Int):=by omega
   obtain rfl:b=false:=by
    rw[<-U.out,gS];intro x hx;obtain⟨j,J,rfl⟩:=cU hx;rw[HA.out j J J];exact Bool.noConfusion
   go_wp2;go_ret;exact⟨rfl,rfl⟩
def Ej (s:ByteArray):Prop:=s.size<=9223372036854775807
theorem P5 (a:Q.Act) (ev:Value) (w:World) (h:Bp w w.heap.size ev a.expr) :
  Calls prog 307 #[.agg #[.int .i64 a.kind,.string a.name,ev]] w fun e w'=>e=.returned (.bool (Hg a))/\Below w.heap.size w w':=by
 obtain⟨k,nm,l⟩:=a;dsimp only at h⊢;obtain⟨A,c,rfl,hn,hA⟩:=h.form;obtain⟨r,o⟩:∃r,Hg ⟨k,nm,l⟩=r:=⟨_,rfl⟩;rw[o];unfold Hg at o;dsimp only at o;have j:=AT w (.cells #[.int .i64 k,.string nm,.slice A l.length c] 169);have a8:=h.on Aw j;by_cases h1:k=1
 ·subst h1;rw[if_pos rfl]at o;have J:=jK o;obtain⟨b,U⟩:∃b,Bv nm=b:=⟨_,rfl⟩;obtain⟨p,hp⟩:∃p,JH l=p:=⟨_,rfl⟩;have HB:=jK U;have HP:=jK hp;clear o U hp;go_enter func307,ntmps307;go_wp2_with fail;refine(Kk nm _).mono ?_;rintro e w'⟨rfl,rfl⟩;rw[HB.out];have R:=J.out;rw[HB.out,HP.out]at R;cases b with
  |false=>
   subst R;clear J;go_wp2;go_ret;exact⟨rfl,j⟩
  |true=>
   subst R;clear J;go_wp2_with fail;refine(XM l _ _ a8).mono ?_;rintro e w2⟨rfl,b0⟩;rw[HP.out];cases p
   all_goals
    go_wp2;go_ret;exact⟨rfl,Ab j b0⟩
 ·rw[if_neg h1]at o;have b2:(k==1)=false:=by simpa using h1
  by_cases I:k=2\/k=3
  ·rw[if_pos I]at o;have J:=jK o;obtain⟨b,U⟩:∃b,EB nm=b:=⟨_,rfl⟩;have HB:=jK U;clear o U;have R:=J.out;rw[HB.out]at R;rcases I with rfl|rfl
   all_goals
    go_enter func307,ntmps307;go_wp2_with fail;refine(WX nm _).mono ?_;rintro e w'⟨rfl,rfl⟩;rw[HB.out];cases b with
    |false=>
     subst R;clear J;go_wp2;go_ret;exact⟨rfl,j⟩
    |true=>
     cases l with
     |nil=>
      subst R;clear J;go_wp2;go_ret;exact⟨rfl,j⟩
     |cons x l=>
      have b3:(((x::l).length:Int)==0)=false:=by simp;omega
      subst R;clear J;generalize (x::l).length=N at *;go_wp2;go_ret;exact⟨rfl,j⟩
  ·rw[if_neg I]at o;subst o;have b4:(k==2)=false:=by simp;omega
   have b5:(k==3)=false:=by simp;omega
   clear h1 I;go_enter func307,ntmps307;go_wp2;go_ret;exact⟨rfl,j⟩
theorem Tl (a:Q.Act) (ev:Value) (w:World) (h:Bp w w.heap.size ev a.expr) (hs:Ej a.name) :
  Calls prog 245 #[.agg #[.int .i64 a.kind,.string a.name,ev]] w fun e w'=>e=.returned (.bool (Hg a))/\Below w.heap.size w w':=by
 obtain⟨k,nm,l⟩:=a;dsimp only at h hs⊢;obtain⟨A,c,rfl,hn,hA⟩:=h.form;obtain⟨r,o⟩:∃r,Hg ⟨k,nm,l⟩=r:=⟨_,rfl⟩;rw[o];unfold Hg at o;dsimp only at o;have j:=AT w (.cells #[.int .i64 k,.string nm,.slice A l.length c] 169);have a1:=h.on Aw j;by_cases h1:k=1
 ·subst h1;rw[if_pos rfl,OI]at o;have I:=jK o;obtain⟨b,hb⟩:∃b,Bv nm=b:=⟨_,rfl⟩;obtain⟨p,hp⟩:∃p,BC l=p:=⟨_,rfl⟩;obtain⟨q,hq⟩:∃q,l.any MT=q:=⟨_,rfl⟩;have HB:=jK hb;have HP:=jK hp;have HQ:=jK hq;clear o hb hp hq;go_enter func245,ntmps245;go_wp2_with fail;refine(Da nm _).mono ?_;rintro e w'⟨rfl,rfl⟩;rw[HB.out];have J:=I.out;rw[HB.out,HP.out,HQ.out]at J;cases b with
  |false=>
   subst J;clear I;go_wp2;go_ret;exact⟨rfl,j⟩
  |true=>
   go_wp2_with fail;refine(JE l _ _ a1).mono ?_;rintro e w2⟨rfl,R⟩;rw[HP.out];cases p with
   |false=>
    subst J;clear I;go_wp2;go_ret;exact⟨rfl,Ab j R⟩
   |true=>
    subst J;clear I;obtain⟨b5,b6⟩:=Ae R;go_wp2_with fail;refine(Yj l _ _ (a1.on Aw R)).mono ?_;rintro e w3⟨rfl,rfl⟩;rw[HQ.out];cases q
    all_goals
     go_wp2;go_ret;exact⟨rfl,Ab j R⟩
 ·rw[if_neg h1]at o;have b7:(k==1)=false:=by simpa using h1
  by_cases U:k=2\/k=3
  ·rw[if_pos U]at o;have I:=jK o;obtain⟨b,hb⟩:∃b,EB nm=b:=⟨_,rfl⟩;have HB:=jK hb;clear o hb;have J:=I.out;rw[HB.out]at J;rcases U with rfl|rfl
   all_goals
    go_enter func245,ntmps245;go_wp2_with fail;refine(Qb nm _ hs).mono ?_;rintro e w'⟨rfl,rfl⟩;rw[HB.out];cases b with
    |false=>
     subst J;clear I;go_wp2;go_ret;exact⟨rfl,j⟩
    |true=>
     cases l with
     |nil=>
      subst J;clear I;go_wp2;go_ret;exact⟨rfl,j⟩
     |cons x l=>
      have b8:(((x::l).length:Int)==0)=false:=by simp;omega
      subst J;clear I;generalize (x::l).length=N at *;go_wp2;go_ret;exact⟨rfl,j⟩
  ·rw[if_neg U]at o;subst o;have b9:(k==2)=false:=by simp;omega
   have c0:(k==3)=false:=by simp;omega
   clear h1 U;go_enter func245,ntmps245;go_wp2;go_ret;exact⟨rfl,j⟩
theorem RQ {p:Q.Act->Bool} {l:List Q.Act} (h:∀j (o:j<l.length),p l[j]=true):l.all p=true:=by
 rw[aY];intro x I;obtain⟨j,o,rfl⟩:=cU I;exact h j o
theorem VK {p:Q.Act->Bool} {l:List Q.Act} {j:Nat} (o:j<l.length) (h:p l[j]=false):l.all p=false:=by
 rw[List.all_eq_false];exact⟨_,bK o,by rw[h];exact Bool.noConfusion⟩
theorem SY (l:List Q.Act) (v:Value) (w:World) (h:Cj w w.heap.size v l) (hs:∀a∈l,Ej a.name) :
  Calls prog 168 #[v] w fun e w'=>e=.returned (.bool (FE l))/\Below w.heap.size w w':=by
 obtain⟨A,c,rfl,hn,hA⟩:=h.form;obtain⟨r,U⟩:∃r,FE l=r:=⟨_,rfl⟩;rw[U];unfold FE at U;have HR:=jK U;clear U;go_enter func168,ntmps168;by_cases h0:l.length<1
 ·have hz:(l.length:Int)<1:=by omega
  obtain rfl:r=false:=by
   rw[<-HR.out];obtain rfl:l=[]:=aZ (by omega);rfl
  go_wp2;go_ret;exact⟨rfl,aJ _ _⟩
 have hz:¬(l.length:Int)<1:=by omega
 by_cases h9:8<l.length
 ·have hy:(8:Int)<(l.length:Int):=by omega
  obtain rfl:r=false:=by
   rw[<-HR.out,aF (by omega:¬l.length<=8),gT]
  go_wp2;go_ret;exact⟨rfl,aJ _ _⟩
 have hy:¬(8:Int)<(l.length:Int):=by omega
 have HZ:=jK h0;have HY:=jK h9;clear h0 h9;go_wp2
 go_loopw [3] (fun v wr=>∃k:Nat,k<=l.length/\v=.int .i64 (k:Int)/\(∀j (h:j<l.length),j<k->Hg l[j]=true)/\Below w.heap.size w wr) (fun v _=>l.length-(intOf v).toNat)
 case atStart=>exact⟨0,by omega,rfl,fun j _ J=>absurd J (by omega),aJ _ _⟩
 case round=>
  obtain⟨k,hk,rfl,I,hb⟩:=hrel;have HA:=jK I;clear I;by_cases p:k<l.length
  ·have c4:(k:Int)<(l.length:Int):=by omega
   obtain⟨ad,rfl,c5⟩:=hA k p;obtain⟨u,c0,c1,c2,hu⟩:=Cj.at_ (h.on Ax hb) p;have a7:=hs _ (bK p);go_wp2_with fail;refine(Tl l[k] u _ hu a7).mono ?_;rintro e w2⟨rfl,R⟩;obtain⟨o,ho⟩:∃o,Hg l[k]=o:=⟨_,rfl⟩;rw[ho];have HO:=jK ho;clear ho;cases o with
   |false=>
    obtain rfl:r=false:=by rw[<-HR.out,VK p HO.out,cC,cC]
    go_wp2;go_ret;exact⟨rfl,Ab hb R⟩
   |true=>
    go_wp2;go_roundw
    case rel=>exact⟨k+1,by omega,by go_num,fun j J c6=>by
     by_cases e:j=k
     ·subst e;exact HO.out
     ·exact HA.out j J (by omega),Ab hb R⟩
    case measure=>simp[intOf];omega
  ·obtain rfl:k=l.length:=by omega
   have c7:¬(l.length:Int)<(l.length:Int):=by omega
   obtain rfl:r=true:=by
    have h1:=HZ.out;have h2:=HY.out;rw[<-HR.out,RQ (fun j J=>HA.out j J J),aH (by omega:l.length<=8)];cases l with
    |nil=>simp at h1
    |cons a l=>rfl
   go_wp2;go_ret;exact⟨rfl,hb⟩
theorem Om (l:List Q.Act) (v:Value) (w:World) (h:Cj w w.heap.size v l) :
  Calls prog 250 #[v] w fun e w'=>e=.returned (.bool (FE l))/\Below w.heap.size w w':=by
 obtain⟨A,c,rfl,hn,hA⟩:=h.form;obtain⟨r,hr⟩:∃r,FE l=r:=⟨_,rfl⟩;rw[hr];unfold FE at hr;have HR:=jK hr;clear hr;go_enter func250,ntmps250;go_wp2
 go_loopw [7] (fun v wr=>∃k:Nat,k<=l.length/\v=.int .i64 (k:Int)/\(∀j (h:j<l.length),j<k->Hg l[j]=true)/\Below w.heap.size w wr) (fun v _=>l.length-(intOf v).toNat)
 case atStart=>exact⟨0,by omega,rfl,fun j _ R=>absurd R (by omega),aJ _ _⟩
 case round=>
  obtain⟨k,hk,rfl,p,U⟩:=hrel;have HA:=jK p;clear p;by_cases J:k<l.length
  ·have b7:(k:Int)<(l.length:Int):=by omega
   obtain⟨ad,rfl,b8⟩:=hA k J;obtain⟨u,c0,c1,c2,hu⟩:=Cj.at_ (h.on Ax U) J;obtain⟨Au,cu,rfl,b9,c3⟩:=hu.form;obtain⟨o,ho⟩:∃o,Hg l[k]=o:=⟨_,rfl⟩;have HO:=jK ho;clear ho;go_wp2_with fail;refine(P5 l[k] _ _ (hu.on Aw (AT _ _))).mono ?_;rintro e w2⟨rfl,a8⟩;rw[HO.out];have a1:=Ab (Ab U (AT _ _)) a8;cases o with
   |false=>
    obtain rfl:r=false:=by rw[<-HR.out,VK J HO.out,cC,cC]
    go_wp2;go_ret;exact⟨rfl,a1⟩
   |true=>
    go_wp2;go_roundw
    case rel=>exact⟨k+1,by omega,by go_num,fun j R c4=>by
     by_cases e:j=k
     ·subst e;exact HO.out
     ·exact HA.out j R (by omega),a1⟩
    case measure=>simp[intOf];omega
  ·obtain rfl:k=l.length:=by omega
   have c5:¬(l.length:Int)<(l.length:Int):=by omega
   have p:=RQ (fun j R=>HA.out j R R);have I:=HR.out;rw[p,bW]at I;clear p;by_cases h0:l.length=0
   ·obtain rfl:l=[]:=aZ h0;obtain rfl:r=false:=by rw[<-I];rfl
    clear I;go_wp2;go_ret;exact⟨rfl,U⟩
   ·have hz:(0:Int)<(l.length:Int):=by omega
    have he:l.isEmpty=false:=by cases l with
     |nil=>simp at h0
     |cons a l=>rfl
    rw[he,fM,bW]at I;by_cases h9:l.length<=8
    ·have hy:(l.length:Int)<=8:=by omega
     obtain rfl:r=true:=by rw[<-I];exact aH h9
     clear I he;go_wp2;go_ret;exact⟨rfl,U⟩
    ·have hy:¬(l.length:Int)<=8:=by omega
     obtain rfl:r=false:=by rw[<-I];exact aF h9
     clear I he;go_wp2;go_ret;exact⟨rfl,U⟩
end
end Go.Proofs.YthbihnpoghlfaaaGreatDoor
