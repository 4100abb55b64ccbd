import Derived.Test.YthbihnpoghlfaaaGreatDoorZr29
import Derived.WalkMore
import Derived.Laws.EntriesVeiled
set_option linter.unusedVariables false
set_option linter.unusedSimpArgs false
set_option maxHeartbeats 8000000
set_option maxRecDepth 100000
namespace Go.Proofs.YthbihnpoghlfaaaGreatDoor
open Go.Proofs.Tryz
section
open Go.RowKit Q Go.Lib
theorem Nj {α:Type} (f:α->ByteArray) {l:List α} {k:Nat} (j:k<l.length):(l.take (k+1)).map f=(l.take k).map f++[f l[k]]:=by
 rw[bM j,bN];rfl
theorem UT (c:Q.Af) (nm:ByteArray) (ev vv sv tv:Value) (w:World) (h:AQ w w.heap.size ev vv sv tv c) (k1:c.vars.length<=4398046511104) (k2:c.Aa.length<=4398046511104) :
  Calls prog 76 #[BZ nm ev vv sv tv] w fun e w'=>∃V S,e=.returned (.tuple #[V,S])/\Below w.heap.size w w'/\w'.ownsRow w.heap.size 9 1 V c.AN.length (strs c.AN)/\w'.ownsRow w.heap.size 9 1 S c.An.length (strs c.An):=by
 obtain⟨i0,c7,c8,c9,e1⟩:=dC BX;obtain⟨VA,vc,rfl,k3,e8⟩:=h.vars.form;obtain⟨SA,sc,rfl,k4,h3⟩:=h.Aa.form;obtain⟨W0,e0⟩:∃W0,w.alloc (.cells #[.string nm,ev,.slice VA c.vars.length vc,.slice SA c.Aa.length sc,tv] 27)=W0:=⟨_,rfl⟩;obtain⟨h4,s0,h0,p0,p1,p2,p3,p4⟩:=Bl h e0;have e2:c.AN.length=c.vars.length:=bG _;have e3:c.An.length=c.Aa.length:=bG _;have h5:=jK e2;have h6:=jK e3;clear e2 e3 p0 p1 p4;go_enter func76,ntmps76;go_wp2;clear e0;have j6:w.heap.size<W0.heap.size:=by omega
 have k5:=jK s0;clear s0
 go_loopw [13,4] (fun v V wr=>∃k:Nat,k<=c.vars.length/\v=.int .i64 (k:Int)/\wr.ownsRow W0.heap.size 9 1 V k (strs ((c.vars.take k).map Q.Var.name))/\Below W0.heap.size W0 wr) (fun v _ _=>c.vars.length-(intOf v).toNat)
 case atStart=>exact⟨0,by omega,rfl,by simpa[strs]using bL _ _ _ _,aJ _ _⟩
 case round=>
  obtain⟨k,hk,rfl,a1,hb⟩:=hrel;have k7:=hb.size;by_cases J:k<c.vars.length
  ·have h7:(k:Int)<(c.vars.length:Int):=by omega
   obtain⟨ad,rfl,h8⟩:=e8 k J;obtain⟨c0,c1,c2,c3,c4,c5,c6⟩:=BK.at_ (h0.vars.on AL hb) J;have b5:=jK (Nj Q.Var.name J);generalize c.vars[k]=x at *;obtain⟨W,eW⟩:∃W,wr.alloc (.cells #[.string x.name,.int .i64 x.kind,.int .i64 x.lo,.int .i64 x.hi,.int .i64 x.init.kind,.int .i64 x.init.a,.int .i64 x.init.b] 66)=W:=⟨_,rfl⟩;obtain⟨a6,sA,a0,-⟩:=PI eW;have b6:=Ab hb a6;have b7:=Bt W (.string x.name) 9 _ sA;have a7:=BE [x.name];have R:=AG a1 a6;go_wp2_with (at_builtin;refine Ap _ rfl _ _ 22 rfl W0.heap.size 9 i0 _ 1 16 underlying22 c7 c8 c9 e1 rfl (by decide) _ _ _ rfl (R.alloc _) _ (some ⟨wr.heap.size+1,0,none⟩) 1 1 _ rfl b7 a7 ?c3 ?c4 ?c5 ?_)
   case c3=>unfold maxLen;omega
   case c4=>omega
   case c5=>simp;omega
   intro v' w2 o a8 _;have b0:=CU b6 (.cells #[.string x.name] 9);have b8:Below W0.heap.size W0 w2:=b0.grown a8 b0.size (fun j hj=>(Bd R hj).2);have HO:Hid (w2.ownsRow W0.heap.size 9 1 v' (k+1) (strs ((c.vars.take (k+1)).map Q.Var.name))):=jK (by
    rw[b5.out];have:=o;unfold strs at this⊢;rw[bN]
    first|exact this|(rw[List.map_take];exact this))
   clear o a8 a1 R eW;go_wp2;go_roundw
   case rel=>exact⟨k+1,by omega,by go_num,HO.out,b8⟩
   case measure=>simp[intOf];omega
  ·obtain rfl:k=c.vars.length:=by omega
   have l0:¬(c.vars.length:Int)<(c.vars.length:Int):=by omega
   rw[bT]at a1;obtain⟨wq,j0⟩:∃x,x=wr:=⟨_,rfl⟩;subst j0;obtain⟨h1,p2,p3⟩:AQ wq wq.heap.size ev (.slice VA c.vars.length vc) (.slice SA c.Aa.length sc) tv c/\wq.cell? ⟨w.heap.size,2,none⟩=some (.slice VA c.vars.length vc)/\wq.cell? ⟨w.heap.size,3,none⟩=some (.slice SA c.Aa.length sc):=
    ⟨h0.on hb,(hb.cell (p:=⟨w.heap.size,2,none⟩) (by show w.heap.size<_;omega)).trans p2,(hb.cell (p:=⟨w.heap.size,3,none⟩) (by show w.heap.size<_;omega)).trans p3⟩
   generalize u4=V at *;go_wp2;clear p2 p3
   go_loopw [26,5] (fun v S wr=>∃k:Nat,k<=c.Aa.length/\v=.int .i64 (k:Int)/\wr.ownsRow wq.heap.size 9 1 S k (strs ((c.Aa.take k).map Q.State.name))/\Below wq.heap.size wq wr) (fun v _ _=>c.Aa.length-(intOf v).toNat)
   case atStart=>exact⟨0,by omega,rfl,by simpa[strs]using bL _ _ _ _,aJ _ _⟩
   case round=>
    obtain⟨k,hk,rfl,I,b2⟩:=hrel;have j8:=b2.size;by_cases J:k<c.Aa.length
    ·have h7:(k:Int)<(c.Aa.length:Int):=by omega
     obtain⟨ad,rfl,h8⟩:=h3 k J;obtain⟨uA,uc,vA,j1,c0,c1,c2,c3,c4,c5,-,-⟩:=A5 (c:=c) (h1.Aa.on AU b2) J;have b5:=jK (Nj Q.State.name J);generalize c.Aa[k]=x at *;obtain⟨X,eX⟩:∃X,wr.alloc (.cells #[.string x.name,.int .i64 x.kind,.int .i64 x.depth,.string x.initial,.slice uA x.entry.length uc,.slice vA x.exit.length j1] 54)=X:=⟨_,rfl⟩;obtain⟨a6,sA,a0,-⟩:=Ff eX;have b6:=Ab b2 a6;have b7:=Bt X (.string x.name) 9 _ sA;have a7:=BE [x.name];have U:=AG I a6;go_wp2_with (at_builtin;refine Ap _ rfl _ _ 22 rfl wq.heap.size 9 i0 _ 1 16 underlying22 c7 c8 c9 e1 rfl (by decide) _ _ _ rfl (U.alloc _) _ (some ⟨wr.heap.size+1,0,none⟩) 1 1 _ rfl b7 a7 ?c3 ?c4 ?c5 ?_)
     case c3=>unfold maxLen;omega
     case c4=>omega
     case c5=>simp;omega
     intro v' w2 o a8 _;have b0:=CU b6 (.cells #[.string x.name] 9);have b8:Below wq.heap.size wq w2:=b0.grown a8 b0.size (fun j hj=>(Bd U hj).2);have HO:Hid (w2.ownsRow wq.heap.size 9 1 v' (k+1) (strs ((c.Aa.take (k+1)).map Q.State.name))):=jK (by
      rw[b5.out];have:=o;unfold strs at this⊢;rw[bN]
      first|exact this|(rw[List.map_take];exact this))
     clear o a8 I U eX;go_wp2;go_roundw
     case rel=>exact⟨k+1,by omega,by go_num,HO.out,b8⟩
     case measure=>simp[intOf];omega
    ·obtain rfl:k=c.Aa.length:=by omega
     have k0:¬(c.Aa.length:Int)<(c.Aa.length:Int):=by omega
     rw[bT]at I;have b9:=AG a1 b2;have j2:Below w.heap.size w wr:=Ab h4 (hb.trans (b2.mono hb.size));go_wp2
     go_ret2
     refine⟨V,u5,rfl,j2,?_,?_⟩
     ·rw[h5.out];exact Bk b9 (by omega)
     ·rw[h6.out];exact Bk I (by omega)
end
section
open Go.RowKit Q Go.Lib Go.Shelf
structure Du (w:World) (B P:Nat) (nm:ByteArray) (ev vv sv tv:Value) (c:Q.Af):Prop where
 lt:P<B
 at_:AQ w B ev vv sv tv c
 p0:w.cell? ⟨P,0,none⟩=some (.string nm)
 p1:w.cell? ⟨P,1,none⟩=some ev
 p2:w.cell? ⟨P,2,none⟩=some vv
 p3:w.cell? ⟨P,3,none⟩=some sv
 p4:w.cell? ⟨P,4,none⟩=some tv
theorem Du.on {w W:World} {P:Nat} {nm:ByteArray} {ev vv sv tv:Value} {c:Q.Af} (h:Du w w.heap.size P nm ev vv sv tv c) (j:Below w.heap.size w W):Du W W.heap.size P nm ev vv sv tv c:=
 ⟨aK h.lt j.size,h.at_.on j,(j.cell (p:=⟨P,0,none⟩) h.lt).trans h.p0,(j.cell (p:=⟨P,1,none⟩) h.lt).trans h.p1,(j.cell (p:=⟨P,2,none⟩) h.lt).trans h.p2,(j.cell (p:=⟨P,3,none⟩) h.lt).trans h.p3,(j.cell (p:=⟨P,4,none⟩) h.lt).trans h.p4⟩
structure DD (w:World) (B P:Nat) (v:Value) (l:List ByteArray):Prop where
 lt:P<B
 at_:AE w B v l
 p0:w.cell? ⟨P,0,none⟩=some v
theorem DD.on {w W:World} {P:Nat} {v:Value} {l:List ByteArray} (h:DD w w.heap.size P v l) (j:Below w.heap.size w W):DD W W.heap.size P v l:=
 ⟨aK h.lt j.size,h.at_.on j,(j.cell (p:=⟨P,0,none⟩) h.lt).trans h.p0⟩
abbrev DM (P:Nat):Value:=.pointer (some ⟨P,0,none⟩)
def Jb (g:Nat) (lb:Array Value) (E:Int) (w:World):Prop:=∀W:World,Below w.heap.size w W->Calls prog g lb W fun e j=>e=.returned (.int .i64 E)/\Below W.heap.size W j
theorem ZcY {p q r s:Prop} [Decidable p] [Decidable q] [Decidable r] [Decidable s] {b:Bool} (h:(decide p&&decide q&&decide r&&decide s)=b):(¬p/\b=false)\/(p/\¬q/\b=false)\/(p/\q/\¬r/\b=false)\/(p/\q/\r/\¬s/\b=false)\/(p/\q/\r/\s/\b=true):=by
 by_cases hp:p<;>by_cases j:q<;>by_cases o:r<;>by_cases I:s<;>simp_all
theorem Zdl {p q r b:Bool} (h:(p&&q&&r)=b):(p=false/\b=false)\/(p=true/\q=false/\b=false)\/(p=true/\q=true/\r=false/\b=false)\/(p=true/\q=true/\r=true/\b=true):=by
 cases p<;>cases q<;>cases r<;>simp_all
variable {w:World} {P:Nat} {nm:ByteArray} {ev vv sv tv:Value} {c:Q.Af}
theorem Ur (h:Du w w.heap.size P nm ev vv sv tv c):Jb 82 #[DM P] (CN (decide (c.events.length<=12)&&decide (c.vars.length<=8)&&decide (c.Aa.length<=40)&&decide (c.trans.length<=48)) 4) w:=by
 intro W U;obtain⟨a1,j,p0,p1,p2,p3,p4⟩:=h.on U;obtain⟨EA,ec,rfl,a6,a7⟩:=j.events.form;obtain⟨VA,vc,rfl,a8,b0⟩:=j.vars.form;obtain⟨SA,sc,rfl,b1,b2⟩:=j.Aa.form;obtain⟨TA,tc,rfl,b3,b4⟩:=j.trans.form;obtain⟨b,p⟩:∃b,(decide (c.events.length<=12)&&decide (c.vars.length<=8)&&decide (c.Aa.length<=40)&&decide (c.trans.length<=48))=b:=⟨_,rfl⟩;rw[p];have J:=jK p;clear p j h;rcases ZcY J.out with⟨o,rfl⟩|⟨o,I,rfl⟩|⟨o,I,R,rfl⟩|⟨o,I,R,h4,rfl⟩|⟨o,I,R,h4,rfl⟩
 all_goals
  clear J
  try(have i1:¬(c.events.length:Int)<=12:=by omega)
  try(have i1:(c.events.length:Int)<=12:=by omega)
  try(have i2:¬(c.vars.length:Int)<=8:=by omega)
  try(have i2:(c.vars.length:Int)<=8:=by omega)
  try(have i3:¬(c.Aa.length:Int)<=40:=by omega)
  try(have i3:(c.Aa.length:Int)<=40:=by omega)
  try(have i4:¬(c.trans.length:Int)<=48:=by omega)
  try(have i4:(c.trans.length:Int)<=48:=by omega)
  go_enter func82,ntmps82;go_wp2_with fail;(with_reducible refine(BI _ 4 _).mono ?_);rintro e w'⟨rfl,rfl⟩;go_wp2;go_ret;exact⟨rfl,aJ _ _⟩
theorem Vb (h:Du w w.heap.size P nm ev vv sv tv c) (J:Fit c):Jb 89 #[DM P] (CN (decide (Tr.right c.Ar)) 9) w:=by
 intro W R;obtain⟨U,j,p0,p1,p2,p3,p4⟩:=h.on R;obtain⟨SA,sc,rfl,a7,a8⟩:=j.Aa.form;have p:=Lp W SA c.Aa.length sc c.Ar (CE j.Aa) J.wf (by unfold maxLen;omega);obtain⟨b,I⟩:∃b,decide (Tr.right c.Ar)=b:=⟨_,rfl⟩;rw[I]at p⊢;clear I j h;go_enter func89,ntmps89;go_wp2_with fail;(with_reducible refine p.mono ?_);rintro e w1⟨rfl,o⟩;go_wp2_with fail;(with_reducible refine(BI _ 9 _).mono ?_);rintro e w'⟨rfl,rfl⟩;go_wp2;go_ret;exact⟨rfl,o⟩
theorem SZ (w:World):PredAt prog 86 #[] Value.string (fun s=>!Bv s) w:=by
 intro W s p;obtain⟨b,j⟩:∃b,Bv s=b:=⟨_,rfl⟩;have o:=jK j;show Calls _ _ _ _ _;go_enter func86,ntmps86;go_wp2_with fail;(with_reducible refine(Kk s _).mono ?_);rintro e I⟨rfl,rfl⟩;rw[j];clear j;cases b<;>(go_wp2;go_ret;exact⟨by rw[o.out];rfl,0,rfl⟩)
theorem UC {V S:Nat} {va sa:Value} (h:Du w w.heap.size P nm ev vv sv tv c) (hV:DD w w.heap.size V va c.AN) (hS:DD w w.heap.size S sa c.An) (b4:nm=c.name)
  (hn:(c.name::(c.events++(c.AN++c.An))).length<=1000000) (W:World) (hW:Below w.heap.size w W) :
  Calls prog 80 #[DM P,DM V,DM S] W fun e w'=>∃v,e=.returned v/\Below W.heap.size W w'/\AE w' w'.heap.size v (c.name::(c.events++(c.AN++c.An))):=by
 obtain⟨b0,a7,p0,p1,p2,p3,p4⟩:=h.on hW;obtain⟨a1,R,q0⟩:=hV.on hW;obtain⟨a6,U,r0⟩:=hS.on hW;subst b4;obtain⟨EA,ec,rfl,h4,h5⟩:=a7.events.form;obtain⟨vA,vc,rfl,h6,h7⟩:=R.form;obtain⟨sA,sc,rfl,h8,h9⟩:=U.form;obtain⟨W1,e1⟩:∃W1,W.alloc (.cells #[.string c.name] 9)=W1:=⟨_,rfl⟩;obtain⟨o,s1,k1⟩:=Bi _ _ _ e1;obtain⟨I,e2⟩:∃I,W1.alloc (.cells #[.slice (some ⟨W.heap.size,0,none⟩) 1 1,.slice EA c.events.length ec,.slice vA c.AN.length vc,.slice sA c.An.length sc] 22)=I:=⟨_,rfl⟩;obtain⟨J,s2,k2⟩:=Bi _ _ _ e2;have a8:Cq 1 YW I I.heap.size (.slice (some ⟨W1.heap.size,0,none⟩) 4 4) [[c.name],c.events,c.AN,c.An]:=by
  refine⟨_,4,4,rfl,rfl,by omega,fun k hk=>⟨_,rfl,by show W1.heap.size<_;omega,fun j hj=>?_⟩⟩;obtain rfl:j=0:=by omega
  have b6:AE I I.heap.size (.slice EA c.events.length ec) c.events:=(a7.events.on o).on J;have b7:AE I I.heap.size (.slice vA c.AN.length vc) c.AN:=(R.on o).on J;have b8:AE I I.heap.size (.slice sA c.An.length sc) c.An:=(U.on o).on J;have b9:AE I I.heap.size (.slice (some ⟨W.heap.size,0,none⟩) 1 1) [c.name]:=by
   refine⟨_,_,_,rfl,rfl,by omega,?_⟩;have hr:=Bt W (.string c.name) 9 _ rfl;rw[e1,<-s1]at hr;exact(hr.below J).more J.size
  have c0:=k2.cell 0;have c1:=k2.cell 1;have c2:=k2.cell 2;have c3:=k2.cell 3
  match k,hk with
  | 0,_=>exact⟨_,c0,b9⟩
  | 1,_=>exact⟨_,c1,b6⟩
  | 2,_=>exact⟨_,c2,b7⟩
  | 3,_=>exact⟨_,c3,b8⟩
 rw[s1]at a8;have hc:=Tj I _ _ a8 (by simpa using hn) (by simp);have j2:=(o.cell (p:=⟨P,1,none⟩) b0).trans p1;have j3:=(o.cell (p:=⟨V,0,none⟩) a1).trans q0;have j4:=(o.cell (p:=⟨S,0,none⟩) a6).trans r0;have j5:=aK b0 o.size;have j6:=aK a1 o.size;have j7:=aK a6 o.size;clear a8 a7 h hV hS R U k1 k2;go_enter func80,ntmps80;go_wp2_with fail;(with_reducible refine hc.mono ?_);rintro e w'⟨v,rfl,c4,hv⟩;go_wp2;go_ret;refine⟨v,rfl,Ab (Ab o J) c4,?_⟩;have c5:[[c.name],c.events,c.AN,c.An].flatten=c.name::(c.events++(c.AN++c.An)):=by simp
 rw[c5]at hv;exact AE.BL hv (by omega)
theorem TI {V S F:Nat} {va sa:Value} (h:Du w w.heap.size P nm ev vv sv tv c) (hV:DD w w.heap.size V va c.AN) (hS:DD w w.heap.size S sa c.An) (I:nm=c.name)
  (hn:(c.name::(c.events++(c.AN++c.An))).length<=1000000) (R:F<w.heap.size) (J:w.cell? ⟨F,0,none⟩=some (.func (.func 80) #[] #[DM P,DM V,DM S])) :
  Jb 84 #[DM F] (CN ((c.name::(c.events++(c.AN++c.An))).all Bv) 2) w:=by
 intro W U;have b5:=(U.cell (p:=⟨F,0,none⟩) R).trans J;have a8:=aK R U.size;have hc:=UC h hV hS I hn W U;generalize c.name::(c.events++(c.AN++c.An))=L at *;clear h hV hS J R I;have o:L.all Bv=!(L.any fun s=>!Bv s):=by rw[List.all_eq_not_any_not]
 obtain⟨b,hb⟩:∃b,(L.any fun s=>!Bv s)=b:=⟨_,rfl⟩;rw[o,hb];have HB:=jK hb;clear o hb;go_enter func84,ntmps84;go_wp2_with fail;(with_reducible refine hc.mono ?_);rintro e w1⟨v,rfl,j,hv⟩;have hA:=Uu (g:=86) (lb:=#[]) (enters_of func86 (by decide) rfl) hv (SZ w1);rw[HB.out]at hA;obtain⟨vA,vc,rfl,b9,c0⟩:=hv.form;go_wp2_with fail;(with_reducible refine hA.mono ?_);rintro e w2⟨rfl,q,rfl⟩;cases b
 all_goals
  go_wp2_with fail;(with_reducible refine(BI _ 2 _).mono ?_);rintro e w'⟨rfl,rfl⟩;go_wp2;go_ret;exact⟨rfl,⟨j.os,j.tape,j.output,j.size,j.block⟩⟩
theorem TK {V S:Nat} {va sa:Value} (h:Du w w.heap.size P nm ev vv sv tv c) (hV:DD w w.heap.size V va c.AN) (hS:DD w w.heap.size S sa c.An)
  (hn:(c.name::(c.events++(c.AN++c.An))).length<=1000000) :
  Jb 87 #[DM P,DM V,DM S] (CN (Q.distinct c.events&&Q.distinct c.AN&&Q.distinct c.An) 3) w:=by
 intro W hW;obtain⟨c6,a7,p0,p1,p2,p3,p4⟩:=h.on hW;obtain⟨a1,J,q0⟩:=hV.on hW;obtain⟨a6,R,r0⟩:=hS.on hW;obtain⟨EA,ec,rfl,c9,e0⟩:=a7.events.form;obtain⟨vA,vc,rfl,e1,e2⟩:=J.form;obtain⟨sA,sc,rfl,e3,e4⟩:=R.form;simp only[bP,aO]at hn;have b5:=fun j (U:Below W.heap.size W j)=>Mz c.events _ j (a7.events.on U) (by omega)
 have b0:=fun j (U:Below W.heap.size W j)=>Mz c.AN _ j (J.on U) (by omega)
 have b6:=fun j (U:Below W.heap.size W j)=>Mz c.An _ j (R.on U) (by omega)
 have HQ:=jK (fun j (U:Below W.heap.size W j)=>(U.cell (p:=⟨V,0,none⟩) a1).trans q0);have HR:=jK (fun j (U:Below W.heap.size W j)=>(U.cell (p:=⟨S,0,none⟩) a6).trans r0);clear h hV hS a7 J R hn;obtain⟨r,hr⟩:∃r,(Q.distinct c.events&&Q.distinct c.AN&&Q.distinct c.An)=r:=⟨_,rfl⟩;rw[hr];have HZ:=jK hr;clear hr;generalize Q.distinct c.events=b1 at *;generalize Q.distinct c.AN=b2 at *;generalize Q.distinct c.An=b3 at *;go_enter func87,ntmps87;go_wp2_with fail;(with_reducible refine(b5 W (aJ _ _)).mono ?_);rintro e j⟨rfl,o⟩;have q1:=HQ.out j o;have l1:=aK a1 o.size;rcases Zdl HZ.out with⟨rfl,rfl⟩|⟨rfl,rfl,rfl⟩|⟨rfl,rfl,rfl,rfl⟩|⟨rfl,rfl,rfl,rfl⟩
 ·go_wp2_with fail;(with_reducible refine(BI _ 3 _).mono ?_);rintro e w'⟨rfl,rfl⟩;go_wp2;go_ret;exact⟨rfl,o⟩
 ·go_wp2_with fail;(with_reducible refine(b0 j o).mono ?_);rintro e w2⟨rfl,a8⟩;go_wp2_with fail;(with_reducible refine(BI _ 3 _).mono ?_);rintro e w'⟨rfl,rfl⟩;go_wp2;go_ret;exact⟨rfl,Ab o a8⟩
 all_goals
  go_wp2_with fail;(with_reducible refine(b0 j o).mono ?_);rintro e w2⟨rfl,a8⟩;have I:=Ab o a8;have r1:=HR.out w2 I;have l2:=aK a6 I.size;go_wp2_with fail;(with_reducible refine(b6 w2 I).mono ?_);rintro e w3⟨rfl,b9⟩;go_wp2_with fail;(with_reducible refine(BI _ 3 _).mono ?_);rintro e w'⟨rfl,rfl⟩;go_wp2;go_ret;exact⟨rfl,Ab I b9⟩
end
section
open Go.RowKit Q Go.Lib Go.Shelf
def Io (g:Nat) (lb:Array Value) (L:List Int) (w:World):Prop:=∀(k:Nat) (o:k<L.length) (W:World),Below w.heap.size w W->Calls prog g (#[.int .i64 (k:Int)]++lb) W fun e j=>e=.returned (.int .i64 L[k])/\Below W.heap.size W j
theorem Io.on {g:Nat} {lb:Array Value} {L:List Int} {w W:World} (h:Io g lb L w) (o:Below w.heap.size w W):Io g lb L W:=fun k p I j=>h k p I (o.trans (j.mono o.size))
theorem Jb.on {g:Nat} {lb:Array Value} {E:Int} {w W:World} (h:Jb g lb E w) (o:Below w.heap.size w W):Jb g lb E W:=fun p j=>h p (o.trans (j.mono o.size))
variable {w:World} {P:Nat} {nm:ByteArray} {ev vv sv tv:Value} {c:Q.Af}
theorem UM (h:Du w w.heap.size P nm ev vv sv tv c) (f:Fit c) (I:Tr.right c.Ar):Io 91 #[DM P] (c.Aa.mapIdx fun i s=>Ew c i s) w:=by
 intro k J W R;obtain⟨U,j,p0,p1,p2,p3,p4⟩:=h.on R;have o:k<c.Aa.length:=by simpa using J
 have hc:=Sa c nm ev vv sv tv W j f I k o;rw[List.getElem_mapIdx];generalize Ew c k c.Aa[k]=r at *;clear h f I j J;show Calls prog 91 #[.int .i64 (k:Int),DM P] W _;go_enter func91,ntmps91;go_wp2_with fail;(with_reducible refine hc.mono ?_);rintro e w1⟨rfl,p⟩;go_wp2;go_ret;exact⟨rfl,p⟩
theorem TT (h:Du w w.heap.size P nm ev vv sv tv c) (f:Fit c):Io 95 #[DM P] (c.Aa.map (BB c)) w:=by
 intro k I W J;obtain⟨R,j,p0,p1,p2,p3,p4⟩:=h.on J;have o:k<c.Aa.length:=by simpa using I
 have U:=U9 c nm ev vv sv tv W j f k o;rw[gC];generalize BB c c.Aa[k]=r at *;clear h f j I;show Calls prog 95 #[.int .i64 (k:Int),DM P] W _;go_enter func95,ntmps95;go_wp2_with fail;(with_reducible refine U.mono ?_);rintro e w1⟨rfl,p⟩;go_wp2;go_ret;exact⟨rfl,p⟩
theorem T3 (h:Du w w.heap.size P nm ev vv sv tv c):Io 93 #[DM P] (c.vars.map Gc) w:=by
 intro k J W U;obtain⟨a1,j,p0,p1,p2,p3,p4⟩:=h.on U;obtain⟨VA,vc,rfl,a6,p⟩:=j.vars.form;have o:k<c.vars.length:=by simpa using J
 have a7:(k:Int)<(c.vars.length:Int):=by omega
 obtain⟨ad,rfl,a8⟩:=p k o;obtain⟨c0,c1,c2,c3,c4,c5,c6⟩:=BK.at_ j.vars o;have R:=Qn c.vars[k] W;unfold Nu at R;rw[gC];generalize c.vars[k]=x at *;generalize Gc x=r at *;clear h j J;show Calls prog 93 #[.int .i64 (k:Int),DM P] W _;go_enter func93,ntmps93;go_wp2_with fail;(with_reducible refine R.mono ?_);rintro e w1⟨rfl,I⟩;go_wp2;go_ret;exact⟨rfl,I⟩
theorem SC {R:Nat} {J:Value} (h:Du w w.heap.size P nm ev vv sv tv c) (U:DD w w.heap.size R J (BN c)) (f:Fit c) (hr:Tr.right c.Ar) (hd:Q.distinct c.An=true):Io 97 #[DM P,DM R] (c.trans.mapIdx fun i s=>CR c i s) w:=by
 intro k hk W hW;obtain⟨b1,o,p0,p1,p2,p3,p4⟩:=h.on hW;obtain⟨b0,j,q0⟩:=U.on hW;have p:k<c.trans.length:=by simpa using hk
 have hc:=UP c nm ev vv sv tv J W o j f hr hd k p;rw[List.getElem_mapIdx];generalize CR c k c.trans[k]=r at *;clear h f hr o j U hd hk;show Calls prog 97 #[.int .i64 (k:Int),DM P,DM R] W _;go_enter func97,ntmps97;go_wp2_with fail;(with_reducible refine hc.mono ?_);rintro e w1⟨rfl,I⟩;go_wp2;go_ret;exact⟨rfl,I⟩
structure Jv (w:World) (B:Nat) (n:Nat) (fv:Value) (a b:Nat):Prop where
 la:a<B
 lb:b<B
 ca:w.cell? ⟨a,0,none⟩=some (.int .i64 (n:Int))
 cb:w.cell? ⟨b,0,none⟩=some fv
theorem Jv.on {w W:World} {n:Nat} {o:Value} {a b:Nat} (h:Jv w w.heap.size n o a b) (j:Below w.heap.size w W):Jv W W.heap.size n o a b:=
 ⟨aK h.la j.size,aK h.lb j.size,(j.cell (p:=⟨a,0,none⟩) h.la).trans h.ca,(j.cell (p:=⟨b,0,none⟩) h.lb).trans h.cb⟩
theorem J3 (w:World) (n g:Nat) (lb:Array Value):Calls prog 77 #[.int .i64 (n:Int),.func (.func g) #[] lb] w fun e J=>∃a b,e=.returned (.func (.func 78) #[] #[DM a,DM b])/\Below w.heap.size w J/\Jv J J.heap.size n (.func (.func g) #[] lb) a b:=by
 obtain⟨o,e1⟩:∃o,w.alloc (.cells #[.int .i64 (n:Int)] 3)=o:=⟨_,rfl⟩;obtain⟨R,s1,U⟩:=Bi _ _ _ e1;obtain⟨I,e2⟩:∃I,o.alloc (.cells #[.func (.func g) #[] lb] 115)=I:=⟨_,rfl⟩;obtain⟨j,s2,k2⟩:=Bi _ _ _ e2;have hE:Jv I I.heap.size n (.func (.func g) #[] lb) w.heap.size o.heap.size:=⟨by omega,by omega,(j.cell (p:=⟨w.heap.size,0,none⟩) (by show w.heap.size<_;omega)).trans (U.cell 0),k2.cell 0⟩;rw[s1]at hE;clear U k2;go_enter func77,ntmps77;go_wp2;go_ret;exact⟨_,_,rfl,Ab R j,hE⟩
theorem Q7 {L:List Int} {k:Nat} (j:k<L.length):Av (L.drop k)=if L[k]=0 then Av (L.drop (k+1))else L[k]:=by
 rw[dV j];rfl
theorem GV {g n a b:Nat} {lb:Array Value} {L:List Int} (eg:∀args w,(callFunc g args).run prog w=.ok (.enter g args) w) (h:Jv w w.heap.size n (.func (.func g) #[] lb) a b) (hL:L.length=n) (hn:n<=9223372036854775807) (hq:Io g lb L w) :
  Jb 78 #[DM a,DM b] (Av L) w:=by
 intro W R;obtain⟨la,U,ca,cb⟩:=h.on R;have a1:=hq.on R;subst hL;clear h hq R;go_enter func78,ntmps78;go_wp2
 go_loopw [6] (fun v wr=>∃k:Nat,k<=L.length/\v=.int .i64 (k:Int)/\Av L=Av (L.drop k)/\Below W.heap.size W wr) (fun v _=>L.length-(intOf v).toNat)
 case atStart=>exact⟨0,by omega,rfl,rfl,aJ _ _⟩
 case round=>
  obtain⟨k,hk,rfl,hf,j⟩:=hrel;have b4:=j.size;have b5:=(j.cell (p:=⟨b,0,none⟩) U).trans cb;have HF:=jK hf;clear hf;by_cases I:k<L.length
  ·have b6:(k:Int)<(L.length:Int):=by omega
   have hc:=a1 k I wr j;have HD:=jK (Q7 I);generalize L[k]=r at *;by_cases J:r=0
   ·have a7:=Bj J;go_wp2_with (go_at_fn g;refine hc.mono ?_;rintro e w1⟨rfl,o⟩);go_roundw
    case rel=>exact⟨k+1,by omega,by go_num,by rw[HF.out,HD.out,if_pos J],j.trans (o.mono j.size)⟩
    case measure=>simp[intOf];omega
   ·have a7:=Bc J;go_wp2_with (go_at_fn g;refine hc.mono ?_;rintro e w1⟨rfl,o⟩);go_ret;exact⟨D4 (by rw[HF.out,HD.out,if_neg J]),j.trans (o.mono j.size)⟩
  ·obtain rfl:k=L.length:=by omega
   have b8:¬(L.length:Int)<(L.length:Int):=by omega
   go_wp2;go_ret;exact⟨D4 (by rw[HF.out,eL];rfl),j⟩
end
section
open Go.RowKit Q Go.Lib Go.Shelf
def Ds (l:List Q.State):List ByteArray:=(l.filter fun s=>!BR s.kind).map fun s=>s.name
theorem Sd {l:List Q.State} {k:Nat} (j:k<l.length):Ds (l.take (k+1))=Ds (l.take k)++(if BR l[k].kind=true then []else [l[k].name]):=by
 unfold Ds;rw[bM j,dL,bN];congr 1;by_cases h:BR l[k].kind=true
 ·simp[h]
 ·simp[h]
theorem Vf (l:List Q.State) (k:Nat):(Ds (l.take k)).length<=l.length:=by
 unfold Ds;rw[bG];refine aV (eZ _ _) ?_;rw[bF];omega
theorem Du.below {w W:World} {B P:Nat} {nm:ByteArray} {ev vv sv tv:Value} {c:Q.Af} (h:Du w B P nm ev vv sv tv c) (j:Below B w W):Du W B P nm ev vv sv tv c:=
 ⟨h.lt,h.at_.below j,(j.cell (p:=⟨P,0,none⟩) h.lt).trans h.p0,(j.cell (p:=⟨P,1,none⟩) h.lt).trans h.p1,(j.cell (p:=⟨P,2,none⟩) h.lt).trans h.p2,(j.cell (p:=⟨P,3,none⟩) h.lt).trans h.p3,(j.cell (p:=⟨P,4,none⟩) h.lt).trans h.p4⟩
theorem Du.more {w:World} {B j P:Nat} {nm:ByteArray} {ev vv sv tv:Value} {c:Q.Af} (h:Du w B P nm ev vv sv tv c) (o:B<=j):Du w j P nm ev vv sv tv c:=
 ⟨aK h.lt o,h.at_.more o,h.p0,h.p1,h.p2,h.p3,h.p4⟩
theorem DD.below {w W:World} {B P:Nat} {v:Value} {l:List ByteArray} (h:DD w B P v l) (j:Below B w W):DD W B P v l:=
 ⟨h.lt,h.at_.below j,(j.cell (p:=⟨P,0,none⟩) h.lt).trans h.p0⟩
theorem DD.more {w:World} {B j P:Nat} {v:Value} {l:List ByteArray} (h:DD w B P v l) (o:B<=j):DD w j P v l:=
 ⟨aK h.lt o,h.at_.more o,h.p0⟩
theorem LZ {L:List Int} {j:Nat} (o:j<L.length):L.getD j 0=L[j]:=by
 rw[fU,aQ o];rfl
def Fz (n g:Nat) (lb:Array Value) (v:Value) (w:World):Prop:=∃a b,v=.func (.func 78) #[] #[DM a,DM b]/\Jv w w.heap.size n (.func (.func g) #[] lb) a b
theorem Fz.on {n g:Nat} {lb:Array Value} {v:Value} {w j:World} (h:Fz n g lb v w) (o:Below w.heap.size w j):Fz n g lb v j:=by
 obtain⟨a,b,e,h⟩:=h;exact⟨a,b,e,h.on o⟩
theorem Ju (c:Q.Af) (nm:ByteArray) (ev vv sv tv:Value) (w:World) (h:AQ w w.heap.size ev vv sv tv c) (u6:nm=c.name) (f:Fit c) (hn:c.vars.length<=4398046511104/\c.Aa.length<=4398046511104) :
  Calls prog 27 #[BZ nm ev vv sv tv] w fun e w'=>e=.returned (.int .i64 (DL c))/\Below w.heap.size w w':=by
 obtain⟨i0,u7,u9,w0,w3⟩:=dC BX;obtain⟨EA,ec,rfl,T9,V1⟩:=h.events.form;obtain⟨VA,vc,rfl,w4,V2⟩:=h.vars.form;obtain⟨SA,sc,rfl,o5,w8⟩:=h.Aa.form;obtain⟨TA,tc,rfl,w9,V5⟩:=h.trans.form;subst u6;obtain⟨W0,e0⟩:∃W0,w.alloc (.cells #[.string c.name,.slice EA c.events.length ec,.slice VA c.vars.length vc,.slice SA c.Aa.length sc,.slice TA c.trans.length tc] 27)=W0:=⟨_,rfl⟩;obtain⟨o6,s0,h0,p0,p1,p2,p3,p4⟩:=Bl h e0;have k5:c.AN.length=c.vars.length:=bG _;have k7:c.An.length=c.Aa.length:=bG _;have o7:=UT c c.name _ _ _ _ W0 h0 (by omega) (by omega);rw[k5,k7]at o7;have o8:w.heap.size<W0.heap.size:=by omega
 have x0:Hid (Du W0 W0.heap.size w.heap.size c.name (.slice EA c.events.length ec) (.slice VA c.vars.length vc) (.slice SA c.Aa.length sc) (.slice TA c.trans.length tc) c):=jK ⟨o8,h0,p0,p1,p2,p3,p4⟩;have k8:=jK k5;have k9:=jK k7;have HN:=jK hn;clear k5 k7 hn s0 h h0;go_enter func27,ntmps27;go_wp2_with fail;clear e0;(with_reducible refine o7.mono ?_);rintro e w1⟨V,S,rfl,l0,hV,hS⟩;have h2:=o6.trans (l0.mono o6.size);obtain⟨vA,p5,rfl⟩:=Al hV;obtain⟨sA,p6,rfl⟩:=Al hS;have G1:=l0.size;obtain⟨W1,e1⟩:∃W1,w1.alloc (.cells #[.slice vA c.vars.length p5] 22)=W1:=⟨_,rfl⟩;obtain⟨a6,s1,k1⟩:=Bi _ _ _ e1;obtain⟨I,e2⟩:∃I,W1.alloc (.cells #[.slice sA c.Aa.length p6] 22)=I:=⟨_,rfl⟩;obtain⟨c6,s2,k2⟩:=Bi _ _ _ e2;obtain⟨W3,e3⟩:∃W3,I.alloc (.cells #[.slice none 0 0] 22)=W3:=⟨_,rfl⟩;obtain⟨b0,s3,k3⟩:=Bi _ _ _ e3;have hn:=HN.out;have p7:=((x0.out.on l0).on a6).on c6;have p8:DD I I.heap.size w1.heap.size (.slice vA c.vars.length p5) c.AN:=(DD.on ⟨by omega,(AE.BL (by rw[k8.out];exact hV) (by rw[k8.out];omega)).on a6,k1.cell 0⟩ c6);have p9:DD I I.heap.size W1.heap.size (.slice sA c.Aa.length p6) c.An:=⟨by omega,((AE.BL (by rw[k9.out];exact hS) (by rw[k9.out];omega)).on a6).on c6,k2.cell 0⟩;have c8:=(h2.trans (a6.mono h2.size)).trans (c6.mono (aV h2.size a6.size));have l2:=jK (p7.below b0);have x3:=jK (p8.below b0);have x4:=jK (p9.below b0);have x5:=l2.out.p3;have V7:=l2.out.lt;have q0:I.heap.size<W3.heap.size:=by omega
 have H7:w.heap.size<W3.heap.size:=by omega
 have x6:=jK s1;have x7:=jK s2;have H8:=jK s3;clear hV hS p7 p8 p9 p0 p1 p2 p3 p4 hn k1 k2;go_wp2;rw[<-x6.out,<-x7.out];clear e1 e2 e3 s1 s2 s3;have x8:Bw W3 I.heap.size 22 #[.slice none 0 0]:=k3;clear k3
 go_loopw [22] (fun v wr=>∃k RA rc,k<=c.Aa.length/\v=.int .i64 ((k:Nat):Int)/\Bw wr I.heap.size 22 #[.slice RA (Ds (c.Aa.take k)).length rc]/\wr.ownsRow W3.heap.size 9 1 (.slice RA (Ds (c.Aa.take k)).length rc) (Ds (c.Aa.take k)).length (strs (Ds (c.Aa.take k)))/\Below I.heap.size W3 wr/\W3.heap.size<=wr.heap.size) (fun v _=>c.Aa.length-(intOf v).toNat)
 case atStart=>exact⟨0,none,0,by omega,rfl,x8,by simpa[strs,Ds]using bL _ _ _ _,aJ _ _,aL _⟩
 case round=>
  obtain⟨k,RA,rc,hk,rfl,b3,b1,hb,W5⟩:=hrel;have W7:=HN.out;have x9:=Vf c.Aa k;have h7:=l2.out.below hb;have q3:I.heap.size<W3.heap.size:=q0;by_cases l3:k<c.Aa.length
  ·have y0:(k:Int)<(c.Aa.length:Int):=by omega
   have q4:=(h7.at_.more (show I.heap.size<=wr.heap.size by omega)).Aa;obtain⟨ad,rfl,W8⟩:=w8 k l3;obtain⟨uA,uc,zA,zc,c0,c1,c2,c3,c4,c5,-,-⟩:=A5 (c:=c) q4 l3;have i1:=jK (Sd l3);have af:=Ez;generalize c.Aa[k]=x at *;obtain⟨X,eX⟩:∃X,wr.alloc (.cells #[.string x.name,.int .i64 x.kind,.int .i64 x.depth,.string x.initial,.slice uA x.entry.length uc,.slice zA x.exit.length zc] 54)=X:=⟨_,rfl⟩;obtain⟨l5,sX,a0,a1,-⟩:=Ff eX;have q5:=hb.trans (l5.mono (by omega));have J:=AG b1 l5;have i6:=b3.below l5 b3.lt;generalize Ds (c.Aa.take k)=M at *;clear h7 q4 b1 b3;have q6:=BE [x.name];have ah:I.heap.size<X.heap.size:=by omega
   have ai:=i6.cell 0;by_cases e9:BR x.kind=true
   ·go_wp2_with fail;(with_reducible refine(Ez _ x.kind).mono ?_);rintro e R⟨rfl,rfl⟩;rw[e9];go_wp2;go_roundw
    case rel=>
     rw[if_pos e9,cP]at i1;exact⟨k+1,RA,rc,by omega,by go_num,by rw[i1.out];exact i6,by rw[i1.out];exact J,q5,by omega⟩
    case measure=>simp[intOf];omega
   ·obtain e9:BR x.kind=false:=by simpa using e9
    have y1:=Bt X (.string x.name) 9 _ sX;have L0:(I.heap.size:Nat)≠X.heap.size:=by omega
    go_wp2_with fail;(with_reducible refine(Ez _ x.kind).mono ?_);rintro e R⟨rfl,rfl⟩;rw[e9];go_wp2_with (at_builtin;refine Ap _ rfl _ _ 22 rfl W3.heap.size 9 i0 _ 1 16 underlying22 u7 u9 w0 w3 rfl (by decide) _ _ _ rfl (J.alloc _) _ (some ⟨wr.heap.size+1,0,none⟩) 1 1 _ rfl y1 q6 ?c3 ?c4 ?c5 ?_)
    case c3=>unfold maxLen;omega
    case c4=>omega
    case c5=>simp;omega
    intro v' w2 h3 i7 _;have q7:Below I.heap.size W3 (R.alloc (.cells #[.string x.name] 9)):=q5.alloc (by omega) _;have q8:=i6.alloc (.cells #[.string x.name] 9);have q9:Below I.heap.size W3 w2:=q7.grown i7 (by simp;omega) (fun j hj=>by have:=(Bd J hj).2;omega);have h4:=q8.grown i7 (fun e=>by have:=(Bd J e.symm).2;omega);have r0:W3.heap.size<=w2.heap.size:=by have:=i7.size;simp at this;omega
    have HO:Hid (w2.ownsRow W3.heap.size 9 1 v' (Ds (c.Aa.take (k+1))).length (strs (Ds (c.Aa.take (k+1))))):=jK (by
     rw[i1.out,if_neg (by rw[e9];exact dT),aO];have:=h3;unfold strs at this⊢;rw[bN];exact this)
    clear h3 i7 J q8 i6 q7 eX;obtain⟨rA,j0,rfl⟩:=Al HO.out;have r1:=h4.cell 0;have ak:=h4.frozen 0;have R1:=h4.lt;generalize hM:Ds (c.Aa.take (k+1))=M' at *;have HM:=jK hM;clear hM;have HK:=jK (h4.BF 0 (.slice rA M'.length j0));have y4:=jK (q9.setCell (p:=⟨I.heap.size,0,none⟩) (aL _) (.slice rA M'.length j0));have y5:=jK (eT HO.out (a:=⟨I.heap.size,0,none⟩) q0 (.slice rA M'.length j0));clear h4 q9;go_wp2;go_roundw
    case rel=>exact⟨k+1,rA,j0,by omega,by go_num,by rw[HM.out];exact HK.out,by rw[HM.out];exact y5.out,y4.out,by rw[eK];exact r0⟩
    case measure=>simp[intOf];omega
  ·obtain rfl:k=c.Aa.length:=by omega
   have an:¬(c.Aa.length:Int)<(c.Aa.length:Int):=by omega
   rw[bT]at b3 b1 x9;obtain⟨W4,e4⟩:∃W4,wr.alloc (.cells #[.func (.func 80) #[] #[DM w.heap.size,DM w1.heap.size,DM W1.heap.size]] 119)=W4:=⟨_,rfl⟩;obtain⟨h5,s4,k4⟩:=Bi _ _ _ e4;have h1:=jK ((h7.more (show I.heap.size<=wr.heap.size by omega)).on h5);have r2:=jK (((x3.out.below hb).more (show I.heap.size<=wr.heap.size by omega)).on h5);have r3:=jK (((x4.out.below hb).more (show I.heap.size<=wr.heap.size by omega)).on h5);have r4:=jK ((DD.on ⟨b3.lt,AE.BL b1 (by show(Ds c.Aa).length<=_;omega),b3.cell 0⟩ h5:DD W4 W4.heap.size I.heap.size (.slice RA (Ds c.Aa).length rc) (BN c)));have r5:W4.cell? ⟨wr.heap.size,0,none⟩=some (.func (.func 80) #[] #[DM w.heap.size,DM w1.heap.size,DM W1.heap.size]):=k4.cell 0;have r6:wr.heap.size<W4.heap.size:=by omega
   have j9:Below w.heap.size w W4:=((c8.trans (b0.mono c8.size)).trans (hb.mono (by have:=c8.size;omega))).trans (h5.mono (by have:=c8.size;omega));have r1:=h1.out.p2;have q3:=h1.out.p3;have y6:=h1.out.p4;have R9:=h1.out.lt;clear h7 b3 b1 hb k4 b0 x5;clear s4;go_wp2;clear e4;refine Aj.AM 28 [(9,Fz c.Aa.length 91 #[DM w.heap.size]),(15,Fz c.vars.length 93 #[DM w.heap.size]),(21,Fz c.Aa.length 95 #[DM w.heap.size]),(27,Fz c.trans.length 97 #[DM w.heap.size,DM I.heap.size])] (fun w'=>Below W4.heap.size W4 w') (fun w w'=>Below w.heap.size w w') (by kernel_rfl) (by kernel_rfl) (by kernel_rfl) (by kernel_rfl) (fun _ _ d _ _ h=>by cases d<;>exact h) (aJ _ _).drew ?_;simp only[aM,aT]
   iterate 9 (refine Aj.Ad rfl rfl ?_ ?_ ?_;rotate_left;(focus(intro R hI _;obtain⟨l6,_⟩:=Ae hI;go_simp;rfl)))
   refine Aj.Ah (a':=?_) ?_ ?_;rotate_left;(focus(simp only[Act.put,aB,aD,aC];rfl));refine Aj.Bh rfl (by kernel_rfl) (fun v wa wb hs hE=>Fz.on hE hs) (fun R hI _ K hK=>?_) (fun v7=>?_)
   ·go_simp;refine(J3 R c.Aa.length 91 #[DM w.heap.size]).mono ?_;rintro e w6⟨a,b,rfl,o,hE⟩;exact hK _ _ _ (by go_simp) ⟨a,b,rfl,hE⟩ (hI.trans (o.mono hI.size)) o
   iterate 5 (refine Aj.Ad rfl rfl ?_ ?_ ?_;rotate_left;(focus(intro R hI _;obtain⟨l6,_⟩:=Ae hI;go_simp;rfl)))
   refine Aj.Ah (a':=?_) ?_ ?_;rotate_left;(focus(simp only[Act.put,aB,aD,aC];rfl));refine Aj.Bh rfl (by kernel_rfl) (fun v wa wb hs hE=>Fz.on hE hs) (fun R hI _ K hK=>?_) (fun v8=>?_)
   ·go_simp;refine(J3 R c.vars.length 93 #[DM w.heap.size]).mono ?_;rintro e w6⟨a,b,rfl,o,hE⟩;exact hK _ _ _ (by go_simp) ⟨a,b,rfl,hE⟩ (hI.trans (o.mono hI.size)) o
   iterate 5 (refine Aj.Ad rfl rfl ?_ ?_ ?_;rotate_left;(focus(intro R hI _;obtain⟨l6,_⟩:=Ae hI;go_simp;rfl)))
   refine Aj.Ah (a':=?_) ?_ ?_;rotate_left;(focus(simp only[Act.put,aB,aD,aC];rfl));refine Aj.Bh rfl (by kernel_rfl) (fun v wa wb hs hE=>Fz.on hE hs) (fun R hI _ K hK=>?_) (fun v9=>?_)
   ·go_simp;refine(J3 R c.Aa.length 95 #[DM w.heap.size]).mono ?_;rintro e w6⟨a,b,rfl,o,hE⟩;exact hK _ _ _ (by go_simp) ⟨a,b,rfl,hE⟩ (hI.trans (o.mono hI.size)) o
   iterate 5 (refine Aj.Ad rfl rfl ?_ ?_ ?_;rotate_left;(focus(intro R hI _;obtain⟨l6,_⟩:=Ae hI;go_simp;rfl)))
   refine Aj.Ah (a':=?_) ?_ ?_;rotate_left;(focus(simp only[Act.put,aB,aD,aC];rfl));refine Aj.Bh rfl (by kernel_rfl) (fun v wa wb hs hE=>Fz.on hE hs) (fun R hI _ K hK=>?_) (fun v10=>?_)
   ·go_simp;refine(J3 R c.trans.length 97 #[DM w.heap.size,DM I.heap.size]).mono ?_;rintro e w6⟨a,b,rfl,o,hE⟩;exact hK _ _ _ (by go_simp) ⟨a,b,rfl,hE⟩ (hI.trans (o.mono hI.size)) o
   refine Aj.Ah (a':=?_) ?_ ?_;rotate_left;(focus(simp only[Act.put,aB,aD,aC];rfl));refine Aj.Ak (fun R z1 hF=>?_);simp only[aN,aS];obtain⟨z6,z7,rfl,c9⟩:=(hF _ (aR ..):Fz c.trans.length 97 #[DM w.heap.size,DM I.heap.size] v10 R);obtain⟨a9,b9,rfl,j2⟩:=(hF _ (bA _ (aR ..)):Fz c.Aa.length 95 #[DM w.heap.size] v9 R);obtain⟨a8,b8,rfl,j3⟩:=(hF _ (bA _ (bA _ (aR ..))):Fz c.vars.length 93 #[DM w.heap.size] v8 R);obtain⟨a7,b7,rfl,j4⟩:=(hF _ (bA _ (bA _ (bA _ (aR ..)))):Fz c.Aa.length 91 #[DM w.heap.size] v7 R);clear hF;obtain⟨W6,e6⟩:∃W6,R.alloc (.cells #[.func (.func 82) #[] #[DM w.heap.size],.func (.func 84) #[] #[DM wr.heap.size],.func (.func 87) #[] #[DM w.heap.size,DM w1.heap.size,DM W1.heap.size],.func (.func 89) #[] #[DM w.heap.size],
    .func (.func 78) #[] #[DM a7,DM b7],.func (.func 78) #[] #[DM a8,DM b8],.func (.func 78) #[] #[DM a9,DM b9],.func (.func 78) #[] #[DM z6,DM z7]] 116)=W6:=⟨_,rfl⟩
   obtain⟨o,s6,k6⟩:=Bi _ _ _ e6;have b2:=Ab z1 o;have U:=h1.out.on b2;have l9:=r2.out.on b2;have n0:=r3.out.on b2;have r8:=r4.out.on b2;have r9:=(b2.cell (p:=⟨wr.heap.size,0,none⟩) r6).trans r5;have s5:=aK r6 b2.size;have j4:=j4.on o;have j3:=j3.on o;have j2:=j2.on o;have c9:=c9.on o;obtain⟨L,hL⟩:∃L:List Int,L=[CN (decide (c.events.length<=12)&&decide (c.vars.length<=8)&&decide (c.Aa.length<=40)&&decide (c.trans.length<=48)) 4,
    CN ((c.name::(c.events++(c.AN++c.An))).all Bv) 2,CN (Q.distinct c.events&&Q.distinct c.AN&&Q.distinct c.An) 3,CN (decide (Tr.right c.Ar)) 9,
    Av (c.Aa.mapIdx fun i s=>Ew c i s),Av (c.vars.map Gc),Av (c.Aa.map (BB c)),Av (c.trans.mapIdx fun i t=>CR c i t)]:=⟨_,rfl⟩
   have s7:DL c=Av L:=by rw[hL];rfl
   have az:L.length=8:=by rw[hL];rfl
   have hR:L.getD 3 0=0->Tr.right c.Ar:=fun h=>by
    rw[hL]at h;exact cV ((GU (by decide)).1 h)
   have n1:L.getD 0 0=0->(c.name::(c.events++(c.AN++c.An))).length<=1000000:=fun h=>by
    rw[hL]at h;have h9:=(GU (by decide)).1 h;simp only[aG,aP]at h9;simp only[bP,aO,k8.out,k9.out];omega
   have hD:L.getD 2 0=0->Q.distinct c.An=true:=fun h=>by
    rw[hL]at h;have h9:=(GU (by decide)).1 h;simp only[aG]at h9;exact h9.2
   have hq:∀k,k<8->∃g lb,W6.cell? ⟨R.heap.size,k,none⟩=some (.func (.func g) #[] lb)/\(∀args w,(callFunc g args).run prog w=.ok (.enter g args) w)/\((∀j,j<k->L.getD j 0=0)->Jb g lb (L.getD k 0) W6):=fun k hk=>by
    match k,hk with
    | 0,_=>exact⟨_,_,k6.cell 0,enters_of func82 (by decide) rfl,fun _=>by rw[hL];exact Ur U⟩
    | 1,_=>exact⟨_,_,k6.cell 1,enters_of func84 (by decide) rfl,fun h=>by have h8:=n1 (h 0 (by omega));rw[hL];exact TI U l9 n0 rfl h8 s5 r9⟩
    | 2,_=>exact⟨_,_,k6.cell 2,enters_of func87 (by decide) rfl,fun h=>by have h8:=n1 (h 0 (by omega));rw[hL];exact TK U l9 n0 h8⟩
    | 3,_=>exact⟨_,_,k6.cell 3,enters_of func89 (by decide) rfl,fun _=>by rw[hL];exact Vb U f⟩
    | 4,_=>exact⟨_,_,k6.cell 4,enters_of func78 (by decide) rfl,fun h=>by
      have hr:=hR (h 3 (by omega));rw[hL];exact GV (enters_of func91 (by decide) rfl) j4 (by simp) o5 (UM U f hr)⟩
    | 5,_=>exact⟨_,_,k6.cell 5,enters_of func78 (by decide) rfl,fun h=>by
      rw[hL];exact GV (enters_of func93 (by decide) rfl) j3 (by simp) w4 (T3 U)⟩
    | 6,_=>exact⟨_,_,k6.cell 6,enters_of func78 (by decide) rfl,fun h=>by
      rw[hL];exact GV (enters_of func95 (by decide) rfl) j2 (by simp) o5 (TT U f)⟩
    | 7,_=>exact⟨_,_,k6.cell 7,enters_of func78 (by decide) rfl,fun h=>by
      have hr:=hR (h 3 (by omega));have hd:=hD (h 2 (by omega));rw[hL];exact GV (enters_of func97 (by decide) rfl) c9 (by simp) w9 (SC U r8 f hr hd)⟩
   have e7:Below w.heap.size w W6:=j9.trans (b2.mono (by have:=j9.size;omega));have HQ:=jK hq;have s9:=jK s7;clear hq hR hD hL U l9 n0 r8 r9 j4 j3 j2 c9 r5 h1 r2 r3 r4 o k6 b2 n1 r1 q3 y6 s7 s6;go_wp2;obtain⟨ad,n5⟩:∃ad:Addr,(⟨R.heap.size,0,none⟩:Addr)=ad:=⟨_,rfl⟩;rw[n5];have e8:∀k,ad.add k=⟨R.heap.size,k,none⟩:=fun k=>by rw[<-n5];simp[Addr.add];omega
   have T5:=jK e8;have A1:Hid (∀k,k<8->∃g lb,W6.cell? (ad.add k)=some (.func (.func g) #[] lb)/\(∀args w,(callFunc g args).run prog w=.ok (.enter g args) w)/\((∀j,j<k->L.getD j 0=0)->Jb g lb (L.getD k 0) W6)):=jK fun k hk=>by
    rw[e8 k];exact HQ.out k hk
   have k0:∀k,(ad.add k).block<W6.heap.size:=fun k=>by
    rw[e8 k,<-e6];simp
   have A2:=jK k0;clear n5 e8 k0 HQ e6;obtain⟨wq,A3⟩:∃x,x=wr:=⟨_,rfl⟩;subst A3
   go_loopw [68] (fun v wr=>∃k:Nat,k<=8/\v=.int .i64 (k:Int)/\(∀j,j<k->L.getD j 0=0)/\Below W6.heap.size W6 wr) (fun v _=>8-(intOf v).toNat)
   case atStart=>exact⟨0,by omega,rfl,fun j hj=>absurd hj (by omega),aJ _ _⟩
   case round=>
    obtain⟨k,aE,rfl,hz,b5⟩:=hrel;by_cases A4:k<8
    ·have y0:(k:Int)<8:=by omega
     obtain⟨g,lb,u0,eg,hA⟩:=A1.out k A4;have T7:=(b5.cell (p:=ad.add k) (A2.out k)).trans u0;have b6:=hA hz wr b5;have u1:=jK hz;obtain⟨r,hr⟩:∃r,L.getD k 0=r:=⟨_,rfl⟩;rw[hr]at b6;have n9:=jK hr;clear hz hr hA u0;by_cases h0:r=0
     ·have A8:=Bj h0;go_wp2_with (go_at_fn g;refine b6.mono ?_;rintro e w7⟨rfl,o0⟩);go_roundw
      case rel=>exact⟨k+1,by omega,by go_num,fun j hj=>by
        rcases bH j k with j6|j6
        ·exact u1.out j j6
        ·obtain rfl:j=k:=by omega
         exact n9.out.trans h0,b5.trans (o0.mono b5.size)⟩
      case measure=>simp[intOf];omega
     ·have A8:=Bc h0;go_wp2_with (go_at_fn g;refine b6.mono ?_;rintro e w7⟨rfl,o0⟩);go_ret;refine⟨D4 ?_,e7.trans ((b5.trans (o0.mono b5.size)).mono e7.size)⟩;have o1:k<L.length:=by omega
      have h8:=IN o1 (fun j hj j6=>by have:=u1.out j j6;rwa[LZ hj]at this) (by have:=n9.out;rw[LZ o1]at this;rw[this];exact h0);have h9:=n9.out;rw[LZ o1]at h9;rw[s9.out,h8,h9]
    ·obtain rfl:k=8:=by omega
     have T8:¬((8:Nat):Int)<8:=by omega
     go_wp2;go_ret;refine⟨D4 ?_,e7.trans (b5.mono e7.size)⟩;rw[s9.out,Hw (fun j hj=>by have:=hz j (by omega);rwa[LZ hj]at this)]
theorem Ob (c:Q.Af) (nm:ByteArray) (ev vv sv tv:Value) (w:World) (h:AQ w w.heap.size ev vv sv tv c) (I:nm=c.name) (f:Fit c) (hn:(c.name::(c.events++(c.AN++c.An))).length<=1000000) (J:c.trans.length<=1000000) :
  Calls prog 99 #[BZ nm ev vv sv tv] w fun e w'=>e=.returned (.bool (decide (DL c=0)))/\Below w.heap.size w w':=by
 obtain⟨EA,ec,rfl,b1,b2⟩:=h.events.form;obtain⟨VA,vc,rfl,b5,b6⟩:=h.vars.form;obtain⟨SA,sc,rfl,b9,c0⟩:=h.Aa.form;obtain⟨TA,tc,rfl,c3,c4⟩:=h.trans.form;subst I;obtain⟨R,e0⟩:∃R,w.alloc (.cells #[.string c.name,.slice EA c.events.length ec,.slice VA c.vars.length vc,.slice SA c.Aa.length sc,.slice TA c.trans.length tc] 27)=R:=⟨_,rfl⟩;obtain⟨p,s0,j,p0,p1,p2,p3,p4⟩:=Bl h e0;have U:=Ju c c.name _ _ _ _ R j rfl f (by simp only[bP,aO,Af.AN,Af.An,bG]at hn;omega);obtain⟨r,hr⟩:∃r,DL c=r:=⟨_,rfl⟩;rw[hr]at U⊢;clear hr h j hn J f;by_cases j:r=0
 ·have hz:=Be j;rw[aH j];have HZ:=jK j;clear j;go_enter func99,ntmps99;go_wp2_with fail;(with_reducible refine U.mono ?_);rintro e w1⟨rfl,o⟩;go_wp2;go_ret;exact⟨rfl,Ab p o⟩
 ·have hz:=Bg j;rw[aF j];clear j;go_enter func99,ntmps99;go_wp2_with fail;(with_reducible refine U.mono ?_);rintro e w1⟨rfl,o⟩;go_wp2;go_ret;exact⟨rfl,Ab p o⟩
end
section
open Go.RowKit Q Go.Lib
theorem Ow {c:Q.Af} {A:Option Addr} {n cp:Nat} {w:World} (h:A6 w w.heap.size (.slice A n cp) c.Aa) (f:Fit c) (j:Tr.right c.Ar) (i:Nat) (hi:i<n) :
  Calls prog 183 #[.slice A n cp,.int .i64 (i:Int)] w fun e w'=>∃v,e=.returned v/\Below w.heap.size w w'/\w'.ownsRow w.heap.size 3 1 v (Tr.kids c.Ar i).length (ints (Tr.kids c.Ar i)):=by
 have o:=I9 j;have p:=QE h;refine(Ku w A n cp c.Ar (CE h) f.wf (by unfold maxLen;omega) i).mono ?_;have hp:Tr.EW c.Ar (i:Int)=Tr.kids c.Ar i:=by
  unfold Tr.EW;rw[Fc j (by rw[AI];omega)];rfl
 rw[hp];exact fun e w' h=>h
theorem Mu (l:List Nat) (k:Nat):ints (l++[k])=ints l++[.int .i64 (k:Int)]:=by
 unfold ints;rw[bN];rfl
theorem SH (l m:List Nat):ints (l++m)=ints l++ints m:=by
 unfold ints;rw[bN]
theorem Xo {α β:Type} {l:List α} {f:α->List β} {j:Nat} (o:j<l.length):(l.take (j+1)).flatMap f=(l.take j).flatMap f++f l[j]:=by
 rw[bM o,eO,eQ]
theorem Od {α β:Type} (l:List α) (f:α->List β) (j:Nat):((l.take j).flatMap f).length<=(l.flatMap f).length:=by
 conv=>rhs;rw[<-fN j l]
 rw[eO,aO];omega
structure Ig (w:World) (B O:Nat) (v:Value) (L:List Nat):Prop where
 lt:O<B
 Bq:Bw w O 28 #[v]
 row:w.ownsRow B 3 1 v L.length (ints L)
def U6 (O:Nat) (v:Value) (k:Nat):Prop:=k=O\/v.ownBlock=some k
def CF (w:World) (B O:Nat) (v:Value) (L':List Nat) (w':World):Prop:=∃j,Ig w' B O j L'/\Touch (U6 O v) w w'/\∀k,j.ownBlock=some k->v.ownBlock=some k\/w.heap.size<=k
structure Je (w:World) (B0 B P O Dn:Nat) (nm:ByteArray) (ev vv sv tv fv:Value) (c:Q.Af):Prop where
 pO:P≠O
 dO:Dn≠O
 pB:P<B
 dB:Dn<B
 oB:B0<=O
 bB:B0<=B
 bw:B<=w.heap.size
 ch:AQ w B0 ev vv sv tv c
 pp:Bw w P 27 #[.string nm,ev,vv,sv,tv]
 dd:Bw w Dn 191 #[fv]
section
variable {w w' w1 w2:World} {B0 B P O Dn:Nat} {nm:ByteArray} {ev vv sv tv fv v v1:Value} {c:Q.Af} {L L':List Nat}
theorem Je.OG (h:Je w B0 B P O Dn nm ev vv sv tv fv c) (p:∀k,v.ownBlock=some k->B<=k) (o:Touch (U6 O v) w w'):Je w' B0 B P O Dn nm ev vv sv tv fv c:=by
 have I:¬U6 O v P:=by
  rintro(j|j)
  ·exact h.pO j
  ·have:=p P j;have:=h.pB;omega
 have J:¬U6 O v Dn:=by
  rintro(j|j)
  ·exact h.dO j
  ·have:=p Dn j;have:=h.dB;omega
 have R:=h.bw;have U:=h.bB;refine⟨h.pO,h.dO,h.pB,h.dB,h.oB,h.bB,aV h.bw o.size,h.ch.below (o.below (by omega) fun k hk=>?_),o.Bq h.pp I,o.Bq h.dd J⟩;rcases hk with j|j
 ·have:=h.oB;omega
 ·have:=p k j;omega
theorem Je.on (h:Je w B0 B P O Dn nm ev vv sv tv fv c) (j:Below w.heap.size w w'):Je w' B0 B P O Dn nm ev vv sv tv fv c:=by
 have o:=h.bw;have p:=h.bB;exact⟨h.pO,h.dO,h.pB,h.dB,h.oB,h.bB,aV h.bw j.size,h.ch.below (j.mono (by omega)),(Touch.AK (S:=fun _=>False) j).Bq h.pp id,(Touch.AK (S:=fun _=>False) j).Bq h.dd id⟩
theorem Je.at_ (h:Je w B0 B P O Dn nm ev vv sv tv fv c):AQ w w.heap.size ev vv sv tv c:=by
 have j:=h.bw;have o:=h.bB;exact h.ch.more (by omega)
theorem Ig.on (h:Ig w B O v L) (j:Below w.heap.size w w'):Ig w' B O v L:=⟨h.lt,(Touch.AK (S:=fun _=>False) j).Bq h.Bq id,AG h.row j⟩
theorem Ig.ge (h:Ig w B O v L):∀k,v.ownBlock=some k->B<=k:=fun k j=>(Bd h.row j).2
theorem CF.refl (h:Ig w B O v L):CF w B O v L w:=⟨v,h,Touch.refl _ _,fun k j=>.inl j⟩
theorem CF.FM (p:Touch (U6 O v) w w1) (I:∀k,v1.ownBlock=some k->v.ownBlock=some k\/w.heap.size<=k) (k:CF w1 B O v1 L' w2):CF w B O v L' w2:=by
 obtain⟨v2,J,t2,f2⟩:=k;refine⟨v2,J,p.trans t2 fun k o=>?_,fun k o=>?_⟩
 ·rcases o with j|j
  ·exact .inl (.inl j)
  ·exact(I k j).imp_left .inr
 ·rcases f2 k o with j|j
  ·exact I k j
  ·exact .inr (aV p.size j)
theorem CF.ahead (j:Below w.heap.size w w1) (k:CF w1 B O v L' w2):CF w B O v L' w2:=CF.FM (Touch.AK j) (fun k o=>.inl o) k
theorem CF.behind (k:CF w B O v L' w1) (j:Below w1.heap.size w1 w2):CF w B O v L' w2:=by
 obtain⟨v2,o,t2,f2⟩:=k;exact⟨v2,o.on j,t2.trans (Touch.AK (S:=U6 O v) j) (fun k p=>.inl p),f2⟩
theorem Ig.push (h:Ig w B O v L) (k:Nat) {j:Value} {o:Obj} (I:w2.ownsRow B 3 1 j (L.length+1) (ints L++[.int .i64 (k:Int)])) (hg:(w.alloc o).grownBy w2 v.ownBlock) (J:j.ownBlock=v.ownBlock\/j.ownBlock=some (w.heap.size+1)) :
  CF w B O v (L++[k]) (w2.setCell ⟨O,0,none⟩ j)/\Bw w2 O 28 #[v]:=by
 obtain⟨U,hb⟩:=GA hg J;have hO:v.ownBlock≠some O:=fun e=>by have:=h.ge O e;have:=h.lt;omega
 have p:=U.Bq h.Bq hO;have R:=h.lt;refine⟨⟨j,⟨h.lt,?_,?_⟩,?_,hb⟩,p⟩
 ·have:=p.BF 0 j;exact this
 ·rw[aO,cR,Mu];exact eT I (a:=⟨O,0,none⟩) R j
 ·exact(U.more fun k p=>.inr p).trans (Touch.C8 (S:=U6 O v) _ _ (.inl rfl)) (fun k p=>.inl p)
end
end
end Go.Proofs.YthbihnpoghlfaaaGreatDoor
