import Derived.Test.YthbihnpoghlfaaaGreatDoorZr28
import Derived.Test.YthbihnpoghlfaaaGreatDoorZr31
set_option linter.unusedVariables false
set_option linter.unusedSimpArgs false
set_option maxHeartbeats 8000000
set_option maxRecDepth 100000
namespace Go.Proofs.YthbihnpoghlfaaaGreatDoor
open Go.Proofs.Tryz
section
open Go.RowKit Q Go.Lib Go.Shelf
theorem MI {d:Wk} (s:ByteArray) (h:16<=d.queue.length):d.raise s={d with lost:=if d.lost<1099511627776 then d.lost+1 else d.lost}:=by
 unfold Wk.raise;exact if_pos h
theorem MO {d:Wk} (s:ByteArray) (h:¬16<=d.queue.length):d.raise s={d with queue:=d.queue++[s]}:=by
 unfold Wk.raise;exact if_neg h
theorem M7 (l:List ByteArray) (s:ByteArray):strs (l++[s])=strs l++[.string s]:=by
 unfold strs;rw[bN];rfl
theorem Rp (l m:List ByteArray):strs (l++m)=strs l++strs m:=by
 unfold strs;rw[bN]
section
variable {w w' w1 w2:World} {B p t:Nat} {D:DV} {R R1:RV} {cl cl1:List Nat} {d d1:Wk}
theorem Ay.L7 (h:Ay w B p t D R cl d) {x:Fw} {i:Nat} (hi:(DF R cl d)[i]?=some x):x.v.ownBlock≠some p:=h.off x (bR hi)
theorem Ay.ZC (h:Ay w B p t D R cl d) (hB:B<=w.heap.size) (s:ByteArray) {j:Value} (I:w2.ownsRow B 9 1 j (d.queue.length+1) (strs d.queue++[.string s])) {o:Obj}
  (hg:(w.alloc o).grownBy w2 R.vQ.ownBlock) (J:j.ownBlock=R.vQ.ownBlock\/j.ownBlock=some (w.heap.size+1)) :
  AR w B p t D R cl {d with queue:=d.queue++[s]} (w2.setCell ⟨p,8,none⟩ j)/\Bw w2 p t (Ei D R d).toArray:=by
 obtain⟨U,hb⟩:=GA hg J;refine⟨Ay.row h hB 2 8 ⟨9,1,R.vQ,d.queue.length,strs d.queue⟩ ⟨9,1,j,d.queue.length+1,strs d.queue++[.string s]⟩ rfl U I hb (R':={R with vQ:=j}) (cl':=cl) (d':={d with queue:=d.queue++[s]}) ?_ rfl,U.Bq h.Bq ?_⟩
 ·unfold DF;simp only[aD,aC,M7,aO,cR]
 ·exact Ay.L7 h (i:=2) rfl
end
theorem Js {w:World} {B p:Nat} {D:DV} {R:RV} {cl:List Nat} {d:Wk} (h:Ay w B p 75 D R cl d) (hB:B<=w.heap.size) (hq:d.queue.length<=16) (hl:0<=d.lost/\d.lost<=1099511627776) (s:ByteArray) :
  Calls prog 112 #[.pointer (some ⟨p,0,none⟩),.string s] w fun e w'=>e=.returned (.tuple #[])/\AR w B p 75 D R cl (d.raise s) w':=by
 obtain⟨i0,b2,b3,b4,b5⟩:=dC BX;obtain⟨qA,qc,U⟩:=Al h.queue;obtain⟨-,-,-,-,-,-,-,-,c8,-,-,-,e1,-⟩:=h.cells;rw[U]at c8;have f8:=h.frozen 8;have f12:=h.frozen 12;have e2:=h.Bq.lt;obtain⟨e3,e4⟩:=hl;by_cases hf:16<=d.queue.length
 ·rw[MI s hf];have hz:=Be (show(d.queue.length:Int)=16 by omega);by_cases hm:d.lost<1099511627776
  ·rw[if_pos hm];have j:=h.BF 12 (.int .i64 (d.lost+1)) (d':={d with lost:=d.lost+1}) rfl rfl;have b6:IntKind.i64.wrap (d.lost+1)=d.lost+1:=cM _ (by omega);have a8:¬(1099511627776:Int)<d.lost+1:=by omega
   have b7:d.lost+1<=(1099511627776:Int):=by omega
   have b8:min (d.lost+1) (1099511627776:Int)=d.lost+1:=by omega
   have HE:=jK j;clear j h hf U;go_enter func112,ntmps112;go_wp2
   (first|go_end0|refine aI (cO rfl _ _ _) rfl ?_)
   exact⟨rfl,HE.out⟩
  ·rw[if_neg hm];have j:=h.BF 12 (.int .i64 d.lost) (d':=d) rfl rfl;have b6:IntKind.i64.wrap (d.lost+1)=d.lost+1:=cM _ (by omega);have b9:Hid (d.lost=1099511627776):=jK (by omega);have a8:(1099511627776:Int)<d.lost+1:=by omega
   have HE:=jK j;have e6:=jK (AR.refl h);clear j h hf U;go_enter func112,ntmps112;go_wp2
   (first|go_end0|refine aI (cO rfl _ _ _) rfl ?_)
   exact⟨rfl,by rw[show min (d.lost+1) (1099511627776:Int)=d.lost by have:=b9.out;omega];exact HE.out⟩
 ·rw[MO s hf];have hz:=Bc (show(d.queue.length:Int)≠16 by omega);have e7:=Bg (show(d.queue.length:Int)≠16 by omega);have a1:=h.queue;rw[U]at a1;have b1:=BE [s];have HH:=jK h;have HQ:=jK U;clear h hf U;go_enter func112,ntmps112;go_wp2_with (at_builtin;refine Ap _ rfl _ _ 22 rfl B 9 i0 _ 1 16 underlying22 b2 b3 b4 b5 rfl (by decide) _ _ _ rfl (a1.alloc _) _ (some ⟨w.heap.size,0,none⟩) 1 1 _ rfl (Bt w (.string s) 9 _ rfl) b1 ?c3 ?c4 ?c5 ?_)
  case c3=>unfold maxLen;omega
  case c4=>omega
  case c5=>(try simp);omega
  intro v' w2 o a6 I
  (try rw[aW]at I)
  rw[<-HQ.out]at a6 I;obtain⟨A2,ac2,rfl⟩:=Al o;obtain⟨j,J⟩:=Ay.ZC HH.out hB s o a6 I;have g8:w2.cell? ⟨p,8,none⟩=some (.slice qA d.queue.length qc):=by rw[<-HQ.out];exact J.cell 8
  have e9:=J.frozen 8;have c1:=J.lt;have HE:=jK j;clear j J o a6 I a1;go_wp2
  (first|go_end0|refine aI (cO rfl _ _ _) rfl ?_)
  exact⟨rfl,HE.out⟩
theorem Jy {w:World} {B p:Nat} {D:DV} {R:RV} {cl:List Nat} {d:Wk} (h:Ay w B p 82 D R cl d) (hB:B<=w.heap.size) (hq:d.queue.length<=16) (hl:0<=d.lost/\d.lost<=1099511627776) (s:ByteArray) :
  Calls prog 196 #[.pointer (some ⟨p,0,none⟩),.string s] w fun e w'=>e=.returned (.tuple #[])/\AR w B p 82 D R cl (d.raise s) w':=by
 obtain⟨i0,b2,b3,b4,b5⟩:=dC BX;obtain⟨qA,qc,U⟩:=Al h.queue;obtain⟨-,-,-,-,-,-,-,-,c8,-,-,-,e1,-⟩:=h.cells;rw[U]at c8;have f8:=h.frozen 8;have f12:=h.frozen 12;have e2:=h.Bq.lt;obtain⟨e3,e4⟩:=hl;by_cases hf:16<=d.queue.length
 ·rw[MI s hf];have hz:(16:Int)<=(d.queue.length:Int):=by omega
  by_cases hm:d.lost<1099511627776
  ·rw[if_pos hm];have j:=h.BF 12 (.int .i64 (d.lost+1)) (d':={d with lost:=d.lost+1}) rfl rfl;have b6:IntKind.i64.wrap (d.lost+1)=d.lost+1:=cM _ (by omega);have a8:¬(1099511627776:Int)<d.lost+1:=by omega
   have b7:d.lost+1<=(1099511627776:Int):=by omega
   have b8:min (d.lost+1) (1099511627776:Int)=d.lost+1:=by omega
   have HE:=jK j;clear j h hf U;go_enter func196,ntmps196;go_wp2
   (first|go_end0|refine aI (cO rfl _ _ _) rfl ?_)
   exact⟨rfl,HE.out⟩
  ·rw[if_neg hm];have j:=h.BF 12 (.int .i64 d.lost) (d':=d) rfl rfl;have b6:IntKind.i64.wrap (d.lost+1)=d.lost+1:=cM _ (by omega);have e6:Hid (d.lost=1099511627776):=jK (by omega);have a8:(1099511627776:Int)<d.lost+1:=by omega
   have HE:=jK j;have b9:=jK (AR.refl h);clear j h hf U;go_enter func196,ntmps196;go_wp2
   (first|go_end0|refine aI (cO rfl _ _ _) rfl ?_)
   exact⟨rfl,b9.out⟩
 ·rw[MO s hf];have hz:¬(16:Int)<=(d.queue.length:Int):=by omega
  have a1:=h.queue;rw[U]at a1;have b0:=BE [s];have HH:=jK h;have HQ:=jK U;clear h hf U;go_enter func196,ntmps196;go_wp2_with (at_builtin;refine Ap _ rfl _ _ 22 rfl B 9 i0 _ 1 16 underlying22 b2 b3 b4 b5 rfl (by decide) _ _ _ rfl (a1.alloc _) _ (some ⟨w.heap.size,0,none⟩) 1 1 _ rfl (Bt w (.string s) 9 _ rfl) b0 ?c3 ?c4 ?c5 ?_)
  case c3=>unfold maxLen;omega
  case c4=>omega
  case c5=>(try simp);omega
  intro v' w2 o a6 I
  (try rw[aW]at I)
  rw[<-HQ.out]at a6 I;obtain⟨A2,ac2,rfl⟩:=Al o;obtain⟨j,J⟩:=Ay.ZC HH.out hB s o a6 I;have g8:w2.cell? ⟨p,8,none⟩=some (.slice qA d.queue.length qc):=by rw[<-HQ.out];exact J.cell 8
  have e8:=J.frozen 8;have c1:=J.lt;have HE:=jK j;clear j J o a6 I a1;go_wp2
  (first|go_end0|refine aI (cO rfl _ _ _) rfl ?_)
  exact⟨rfl,HE.out⟩
end
section
open Go.RowKit Q Go.Lib Go.Shelf
section
variable {w w' w1 w2:World} {B p t:Nat} {D:DV} {R R1:RV} {cl cl1:List Nat} {d d1:Wk}
theorem Ay.IZ (h:Ay w B p t D R cl d) (i j:Nat) (x y:Fw) (hi:(DF R cl d)[i]?=some x) (J:Touch (fun k=>x.v.ownBlock=some k) w w1) (ho:w1.ownsRow B y.e y.k y.v y.n y.xs)
  (o:∀k,y.v.ownBlock=some k->x.v.ownBlock=some k\/w.heap.size<=k) {R':RV} {cl':List Nat} {d':Wk} (U:(DF R cl d).set i y=DF R' cl' d') (hc:(Ei D R d).set j y.v=Ei D R' d') :
  Ay (w1.setCell ⟨p,j,none⟩ y.v) B p t D R' cl' d'/\Touch (AX p R) w (w1.setCell ⟨p,j,none⟩ y.v)/\(∀k,AX p R' k->AX p R k\/w.heap.size<=k)/\Bw w1 p t (Ei D R d).toArray:=by
 have hx:x∈DF R cl d:=bR hi;have h1:=AY.IZ h i x y hi J ho o;have h2:=AY.BF h1 j y.v;rw[U,hc]at h2;refine⟨h2,?_,fun k I=>?_,h1.Bq⟩
 ·exact(J.more fun k I=>Ed.1 (.inr ⟨x,hx,I⟩)).trans (Touch.C8 (S:=AX p R) _ _ (.inl rfl)) (fun k I=>.inl I)
 ·have h3:=SL (p:=p) hi o k (by rw[U];exact Ed.2 I);exact h3.imp_left Ed.1
theorem Ay.PQ (h:Ay w B p t D R cl d) (o:B<=w.heap.size) (I:Below w.heap.size w w1) {V:Value} {Ac:List BS} (j:w1.ownsRow w.heap.size 60 3 V Ac.length (Ac.flatMap BU)) :
  Ay (w1.setCell ⟨p,7,none⟩ V) B p t D {R with vV:=V} cl {d with Ac:=Ac}/\Touch (AX p R) w (w1.setCell ⟨p,7,none⟩ V)/\(∀k,AX p {R with vV:=V} k->AX p R k\/w.heap.size<=k)/\Bw w1 p t (Ei D R d).toArray:=
 h.IZ 1 7 ⟨60,3,R.vV,d.Ac.length,d.Ac.flatMap BU⟩ ⟨60,3,V,Ac.length,Ac.flatMap BU⟩ rfl (Touch.AK I) (Bk j o) (fun k J=>.inr (Bd j J).2) rfl rfl
theorem Ay.told (h:Ay w B p t D R cl d) (hB:B<=w.heap.size) {j:Value} {l:List ByteArray} (I:w2.ownsRow B 9 1 j (d.Ao.length+l.length) (strs d.Ao++strs l)) (hg:w.grownBy w2 R.vS.ownBlock) (U:j.ownBlock=R.vS.ownBlock\/j.ownBlock=some w.heap.size) :
  Ay (w2.setCell ⟨p,13,none⟩ j) B p t D {R with vS:=j} cl {d with Ao:=d.Ao++l}/\Touch (AX p R) w (w2.setCell ⟨p,13,none⟩ j)/\(∀k,AX p {R with vS:=j} k->AX p R k\/w.heap.size<=k)/\Bw w2 p t (Ei D R d).toArray:=by
 refine h.IZ 3 13 ⟨9,1,R.vS,d.Ao.length,strs d.Ao⟩ ⟨9,1,j,d.Ao.length+l.length,strs d.Ao++strs l⟩ rfl (Touch.Dt hg fun k J=>J) I (fun k J=>?_) ?_ rfl
 ·rcases U with e|e
  ·exact .inl (e▸J)
  ·have o:j.ownBlock=some k:=J;rw[e]at o;injection o with o
   exact .inr (by omega)
 ·unfold DF;simp only[aD,aC,Rp,aO]
theorem LI (d:Wk) {l:List ByteArray} {j:Nat} (o:j<l.length):(d.C1 (l.take j)).raise l[j]=d.C1 (l.take (j+1)):=by
 unfold Wk.C1;rw[bM o,List.foldl_append];rfl
end
end
end Go.Proofs.YthbihnpoghlfaaaGreatDoor
