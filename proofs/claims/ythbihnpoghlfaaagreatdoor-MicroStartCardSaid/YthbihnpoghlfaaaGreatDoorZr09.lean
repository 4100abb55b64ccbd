import Derived.RangeFuncIn
import Derived.RangeFuncRecord
import Derived.TacticsInMore
import Derived.Test.YthbihnpoghlfaaaGreatDoorZr08
set_option linter.unusedVariables false
set_option linter.unusedSimpArgs false
set_option maxHeartbeats 8000000
set_option maxRecDepth 100000
namespace Go.Proofs.YthbihnpoghlfaaaGreatDoor
section
open Go.RowKit
namespace Ev
section
variable {P:Program} {T:Tb} {base:CJ} {e e':Env} {H H':AH} {w w':World} {x:AV} {F F':Fr} {a:Act}
theorem Ks.here {Q:Exit->Act->World->Prop} {X:EX} (h:Ks base e w X F H Q) (j:FR e F a) (o:AO base e H w):Q (Lt X) a w:=h e a w (Fp.refl e) j o (B8.refl _ _)
theorem UD {k:Fr->AH->FK} {r:FK} {X:EX} (h:R3 k r=some (X,F',H')):(∃o H1,r=some (.normal,o,H1)/\k o H1=some (X,F',H'))\/(X≠.normal/\r=some (X,F',H')):=by
 unfold R3 at h;split at h
 ·exact .inl ⟨_,_,rfl,h⟩
 ·rename_i j;refine .inr ⟨fun p=>?_,h⟩;subst p;exact j _ _ h
theorem Q8 {id:Nat} {r:FK} {X:EX} (h:Ud id r=some (X,F',H')):(r=some (.exit id,F',H')/\X=.normal)\/(X≠.exit id/\r=some (X,F',H')):=by
 unfold Ud at h;split at h
 ·rename_i i I H1;cases j:i==id with
  |true=>
   rw[j]at h;cases h;rw[eq_of_beq j];exact .inl ⟨rfl,rfl⟩
  |false=>
   rw[j]at h;cases h;refine .inr ⟨fun o=>?_,rfl⟩;cases o;simp at j
 ·rename_i p;refine .inr ⟨fun o=>?_,h⟩;subst o;exact p _ _ _ h
theorem Ra {k:Nat->Fr->AH->FK} {r:FK} {X:EX} (h:ME k r=some (X,F',H')):(∃l o H1,r=some (.goto l,o,H1)/\k l o H1=some (X,F',H'))\/((∀l,X≠.goto l)/\r=some (X,F',H')):=by
 unfold ME at h;split at h
 ·exact .inl ⟨_,_,_,rfl,h⟩
 ·rename_i j;refine .inr ⟨fun l p=>?_,h⟩;subst p;exact j _ _ _ h
theorem Wp.of {ro:Option Nat} {c:Code} {Q:Exit->Act->World->Prop} (j:∀b,c≠.loop b) (h:c.wpIn (fz ro) 0 P Q a w):Wp ro P c Q a w:=by
 unfold Wp;split
 ·rename_i b;exact absurd rfl (j b)
 ·exact h
theorem VO {ro:Option Nat} {code:Code->Fr->AH->FK} {b:Code} {c:Code} {X:EX} {Q K:Exit->Act->World->Prop} (j:Ga P base ro code)
  (hK:∀X a w,X≠EX.normal->Q (Lt X) a w->K (Lt X) a w) (hN:∀a w,Wp ro P c Q a w->K .normal a w)
  (h:R3 (code c) (code b F H)=some (X,F',H')) (R:FR e F a) (U:AO base e H w) (hQ:Ks base e w X F' H' Q):b.wpIn (fz ro) 0 P K a w:=by
 rcases UD h with⟨F1,H1,o,h2⟩|⟨hX,o⟩
 ·refine(j b F H _ _ _ o e a w K R U fun p I J g1 g2 g3 g4=>?_).wp;exact hN _ _ (j c F1 H1 _ _ _ h2 p I J Q g2 g3 (hQ.trans g1 g4))
 ·refine(j b F H _ _ _ o e a w K R U fun p I J g1 g2 g3 g4=>?_).wp;exact hK X _ _ hX (hQ p I J g1 g2 g3 g4)
theorem OS {K:Act->World->Prop} {Q:Exit->Act->World->Prop} (X:EX) (a:Act) (w:World) (j:X≠.normal) (h:Q (Lt X) a w):Exit.then K Q (Lt X) a w:=by
 cases X with
 |normal=>exact absurd rfl j
 |_=>exact h
theorem M8 {code:Code->Fr->AH->FK} {jump:Code->Nat->Fr->AH->FK} {b c:Code} {X:EX} {Q:Exit->Act->World->Prop} (j:Ga P base none code) (o:Mo P base jump)
  (h:ME (jump b) (code c F H)=some (X,F',H')) (U:FR e F a) (hr:AO base e H w) (hQ:Ks base e w X F' H' Q):c.wp P (Ms P b Q) a w:=by
 rcases Ra h with⟨l,F1,H1,p,h2⟩|⟨hX,p⟩
 ·refine(j c F H _ _ _ p e a w _ U hr fun I J R g1 g2 g3 g4=>?_).wide;exact o b l F1 H1 _ _ _ h2 I J R Q g2 g3 (hQ.trans g1 g4)
 ·refine(j c F H _ _ _ p e a w _ U hr fun I J R g1 g2 g3 g4=>?_).wide;have:=hQ I J R g1 g2 g3 g4;cases X with
  |goto l=>exact absurd rfl (hX l)
  |_=>exact this
theorem Mw (J:AO base e H w) {b g o z:Nat} {x0:AB} (hb:e b=some (g,o,z)) (h:H.get b=some x0) (obj:Obj) :
  AO base e (H.put b none) {w with heap:=w.heap.setIfInBounds g obj}/\B8 base.S w {w with heap:=w.heap.setIfInBounds g obj}:=by
 have a1:=J.Vc hb;obtain⟨g',o',z',q1,hg,k1⟩:=J.Bq b _ a1 h;rw[hb]at q1;cases q1;have R:∀k,k≠g->(w.heap.setIfInBounds g obj)[k]?=w.heap[k]?:=fun k hk=>cK (Ne.symm hk)
 have alive:∀I,I<2^depth->∀x,(H.put b none).get I=some x->I≠b/\H.get I=some x:=fun I j x hx=>by
  rw[AH.DG _ _ _ _ a1 j]at hx;by_cases p:I=b
  ·rw[if_pos p]at hx;cases hx
  ·rw[if_neg p]at hx;exact⟨p,hx⟩
 refine⟨⟨by simpa using J.size,J.KN,J.next,J.fresh,fun I y j hy=>?_,fun b1 b2 y1 y2 p1 p2 a7 U b4 b5 b6 b7 b8=>?_⟩,⟨rfl,rfl,rfl,by simp,fun k hk=>R k (fun he=>hg (he▸hk))⟩⟩
 ·obtain⟨p,hy⟩:=alive I j y hy;obtain⟨g2,o2,z2,m1,m2,m3⟩:=J.Bq I y j hy;exact⟨g2,o2,z2,m1,m2,m3.heap (R g2 (J.inj I b y _ _ _ j a1 hy h m1 hb p))⟩
 ·exact J.inj b1 b2 y1 y2 p1 p2 a7 U (alive b1 a7 _ b4).2 (alive b2 U _ b5).2 b6 b7 b8
theorem Kn (I:AO base e H w) {b g o z:Nat} {p:Fr} {J:List Nat} {j R:Code} {s:LS} (U:e b=some (g,o,z)) (h:H.get b=some (.loop p J j R s)) :
  ∃r:Loop,w.heap[g]?=some (.loop r)/\p.m=[]/\r.params.toList=J/\r.assign=j/\r.body=R/\TR e p r.tmps/\LsR r s:=by
 obtain⟨g',o',z',q1,_,k1⟩:=I.Bq b _ (I.Vc U) h;rw[U]at q1;cases q1;exact k1
theorem VW {d:List Deferred}:∀(j:List Nat) (xs:List AV) (ys:List Value) (F:Fr) (tmps:Array Value),BP e xs ys->FR e F {tmps:=tmps,defers:=d}->
  FR e (Zb5 F j xs) {tmps:=(j.zip ys).foldl (fun t p=>t.setIfInBounds p.1 p.2) tmps,defers:=d}
 | [],xs,ys,F,tmps,h,o=>by
  cases h<;>exact o
 |p::j,[],ys,F,tmps,h,o=>by
  cases h;exact o
 |p::j,x::xs,ys,F,tmps,h,o=>by
  cases h with
  |cons I J=>exact VW j xs _ (F.put (some p) x) _ J (o.put (some p) I)
theorem Zn {code:Bool->Code->Fr->AH->FK} (j:∀ro,Ga P base ro (code ro.isSome)):Mc P base (YQ code):=by
 intro b args H x H' h ro e w g o z ys hb hr R;unfold YQ at h;split at h
 ·rename_i F ps e3 bd hg;obtain⟨r,h1,h0,h2,h3,h4,h5,h6,h7⟩:=Kn hr hb hg;cases hlen:Nat.beq ps.length args.length with
  |false=>rw[hlen]at h;cases h
  |true=>
   rw[hlen]at h;dsimp only[cond_true]at h;have b4:=bY hlen;split at h
   ·rename_i F1 H1 b5;split at h
    ·rename_i F0 b6 b7 b8 U;split at h
     ·rename_i X F2 H2 b9;have c0:ys.toArray.size=r.params.size:=by
       have:r.params.toList.length=ps.length:=by rw[h2]
       have hl:=R.length;simp at this⊢;omega
      refine⟨r.fn,_,r.assign,r.body,run_yield h1 c0,roundIn_of_wpIn trivial ?_⟩;show r.assign.wpIn (fz (some g)) 0 P _ _ w;have c1:FR e F {tmps:=r.tmps,defers:=[]}:=⟨h5.size,h5.le,h5.get,by rw[h0];exact .nil⟩;have c2:=VW ps args ys F r.tmps R c1;have I:(r.params.zip ys.toArray).foldl (fun tmps (t,a)=>tmps.setIfInBounds t a) r.tmps=(ps.zip ys).foldl (fun t p=>t.setIfInBounds p.1 p.2) r.tmps:=by
       rw[<-Array.foldl_toList,Array.toList_zip,h2]
      rw[I,h3];refine(j (some g) _ _ _ _ _ _ b5 e _ w _ c2 hr fun e1 a1 w1 g1 g2 g3 g4=>?_).wp;have J:=g1 _ _ hb;obtain⟨r1,k1,k0,k2,k3,k4,k5,k6,k7⟩:=Kn g3 J U;refine⟨_,run_beginRound k1 k6,?_⟩;obtain⟨m1,m2⟩:=Qv (x1:=.loop F0 b6 b7 b8 .busy) (obj:=.loop {r1 with state:=.busy}) g3 J U fun w' hw=>⟨_,hw,k0,k2,k3,k4,k5,rfl⟩
      show r.body.wpIn (fz (some g)) 0 P _ a1 _;rw[h4];refine(j (some g) _ _ _ _ _ _ b9 e1 a1 _ _ g2 m1 fun e2 a2 w2 n1 n2 n3 n4=>?_).wp;have a6:=n1 _ _ J;unfold ZcH at h;split at h
      ·rename_i F3 a7 a8 b0 b1;obtain⟨r2,q1,q0,q2,q3,q4,q5,q6⟩:=Kn n3 a6 b1;have fin:∀(jump:Option Code) (v:Bool) (s:LS),X5 X=jump->jump.isNone=v->LsR {r2 with state:=if jump.isNone then .ready else .done,pending:=jump} s->x=.v (.bool v)->H'=H2.put b (some (.loop F3 a7 a8 b0 s))->
         ∃v' w',(Instr.endRound g jump).run P w2=.ok v' w'/\X0 base e w x H' (.returned v') w':=fun jump v s hj hv hs hx hH=>by
        obtain⟨u1,u2⟩:=Qv (x1:=.loop F3 a7 a8 b0 s) (obj:=.loop {r2 with state:=if jump.isNone then .ready else .done,pending:=jump}) n3 a6 b1 fun w' hw=>⟨_,hw,q0,q2,q3,q4,q5,hs⟩
        refine⟨_,_,run_endRound jump q1,e2,g1.trans n1,?_,?_,?_⟩
        ·rw[hx,hv];exact .v _
        ·rw[hH];exact u1
        ·exact((g4.trans m2).trans n4).trans u2
       cases X with
       |normal=>cases h;exact fin none true .ready rfl rfl ⟨rfl,rfl⟩ rfl rfl
       |ret=>cases h;exact fin (some .ret) false (.done .ret) rfl rfl ⟨rfl,rfl⟩ rfl rfl
       |exit i=>cases h;exact fin (some (.exit i)) false (.done (.exit i)) rfl rfl ⟨rfl,rfl⟩ rfl rfl
       |goto l=>cases h;exact fin (some (.goto l)) false (.done (.goto l)) rfl rfl ⟨rfl,rfl⟩ rfl rfl
      ·cases h
     ·cases h
    ·cases h
   ·cases h
 ·cases h
theorem Za4 {code:Bool->Code->Fr->AH->FK} (I:Ga P base none (code false)) {b g o z:Nat} {X:EX} {Q:Exit->Act->World->Prop} (h:Zcv code b F H=some (X,F',H')) (hb:e b=some (g,o,z)) (hF:FR e F a) (hr:AO base e H w)
  (hQ:Ks base e w X F' H' Q):∃jump j,(Instr.endLoop g).run P w=.ok jump j/\(match jump with|none=>Q .normal a j|some c=>c.wpIn (fz none) 0 P Q a j):=by
 have J:∀(j:World) (p:Option Code),p=none->Q .normal a j->(match p with|none=>Q .normal a j|some c=>c.wpIn (fz none) 0 P Q a j):=fun j p hp h=>by subst hp;exact h
 have R:∀(j:World) (p:Option Code) (c:Code),p=some c->c.wpIn (fz none) 0 P Q a j->(match p with|none=>Q .normal a j|some c=>c.wpIn (fz none) 0 P Q a j):=fun j p c hp h=>by subst hp;exact h
 unfold Zcv at h;split at h
 ·rename_i U;cases h;obtain⟨r,h1,h0,h2,h3,h4,h5,h6,h7⟩:=Kn hr hb U;obtain⟨k1,k2⟩:=Mw hr hb U (.loop {r with state:=.exhausted});refine⟨_,_,run_endLoop h1 (by rw[h6];simp),?_⟩;exact J _ _ h7 (hQ e a _ (Fp.refl e) hF k1 k2)
 ·rename_i c U;obtain⟨r,h1,h0,h2,h3,h4,h5,h6,h7⟩:=Kn hr hb U;obtain⟨k1,k2⟩:=Mw hr hb U (.loop {r with state:=.exhausted});refine⟨_,_,run_endLoop h1 (by rw[h6];simp),?_⟩;exact R _ _ c h7 (I _ _ _ _ _ _ h e a _ Q hF k1 (hQ.trans (Fp.refl e) k2)).wp
 ·cases h
theorem ZU (hT:B3 P T) {call:FuncId->List AV->AH->Option (AV×AH)} {code:Bool->Code->Fr->AH->FK} (a6:∀base,Hv P base call) (a7:Ga P base none (code false)) {g:Operand} {ps:Array Tmp} {j J:Code} {X:EX} {Q:Exit->Act->World->Prop}
  (h:Ti T call code (E9 F g) ps.toList j J F H=some (X,F',H')) (R:FR e F a) (hr:AO base e H w) (hQ:Ks base e w X F' H' Q):(Code.rangeFunc g ps j J).wpIn (fz none) 0 P Q a w:=by
 unfold Ti at h;split at h
 ·rename_i gf cap c7;generalize p:((H.next+2).ble 16384&&(match T.func gf with|some fn=>fn.body.isSome|none=>false))=c8 at h;cases c8 with
  |false=>cases h
  |true=>
   dsimp only[cond_true]at h;rw[aG]at p;have i6:=bQ p.1;have h4:(2:Nat)^depth=16384:=by unfold depth;decide
   split at h
   ·rename_i x2 H2 hc;have b0:=R.eval g;rw[c7]at b0;obtain⟨lb,c9,b7⟩:∃lb:Array Value,a.eval g=.func (.func gf) #[] lb/\BP e cap lb.toList:=by
     generalize a.eval g=v at b0;cases b0 with
     |fn h1 h2=>cases h1;exact⟨_,rfl,h2⟩
    have e0:∀args w,(callFunc gf args).run P w=.ok (.enter gf args) w:=fun args w=>by
     have h9:=p.2;split at h9
     ·rename_i fn hf;have b8:=hT.func _ _ hf;have e5:=hT.ng _ _ hf;have b9 : ¬fn.name = "runtime.NumGoroutine" := by simpa using e5
      obtain⟨J,e6⟩:=iY.1 h9;simp[aX,callFunc,program,Sem.run,b8,b9,e6]
     ·cases h9
    refine wpIn_rangeFunc fun fn _=>?_
    obtain⟨I,c0⟩:∃I,w.alloc (.deferred (some []))=I:=⟨_,rfl⟩;obtain⟨a1,a2⟩:=Gw hr .dfr (by omega) (.deferred (some [])) 0 0 (fZ w _);have l1:=EF hr (w.heap.size,0,0);have b3:(w.alloc (.deferred (some []))).heap.size=w.heap.size+1:=aW _ _;generalize e7:Env.new e H.next (w.heap.size,0,0)=e1 at a1 l1;have c5:e1 H.next=some (w.heap.size,0,0):=by rw[<-e7];unfold Env.new;rw[if_pos rfl]
    rw[c0]at a1 a2 b3;have l2:=EF a1 (I.heap.size,0,0);obtain⟨b1,b2⟩:=Gw a1 (.loop ⟨F.n,F.t,[]⟩ ps.toList j J .ready) (by show H.next+1+1<=_;omega) (.loop {state:=.ready,pending:=none,fn:=fn,tmps:=a.tmps,params:=ps,assign:=j,body:=J,defers:=w.heap.size}) 0 0
     ⟨_,fZ I _,rfl,rfl,rfl,rfl,⟨R.size,R.le,fun i=>(R.get i).mono (l1.trans l2)⟩,rfl,rfl⟩
    generalize e8:Env.new e1 (H.alloc .dfr).next (I.heap.size,0,0)=e2 at b1 l2;have U:e2 (H.next+1)=some (I.heap.size,0,0):=by rw[<-e8];unfold Env.new;exact if_pos rfl
    refine⟨w.heap.size+1,[{target:=.collected w.heap.size,args:=#[]}],I.alloc (.loop {state:=.ready,pending:=none,fn:=fn,tmps:=a.tmps,params:=ps,assign:=j,body:=J,defers:=w.heap.size}),
     {target:=.fn (.func gf) lb,args:=#[.func (.yield (w.heap.size+1)) #[] #[]]},I.alloc (.loop {state:=.ready,pending:=none,fn:=fn,tmps:=a.tmps,params:=ps,assign:=j,body:=J,defers:=w.heap.size}),gf,
     (.func (.yield (w.heap.size+1)) #[] #[]::lb.toList).toArray,I.alloc (.loop {state:=.ready,pending:=none,fn:=fn,tmps:=a.tmps,params:=ps,assign:=j,body:=J,defers:=w.heap.size}),?_,?_,fun _ _=>trivial,?_,fun h=>(by cases h),MJ ?_⟩
    ·rw[<-c0];exact run_enterLoop_outer _ _ _ _ _
    ·simp only[resolve,c9];simp[go_sem]
    ·simp only[invoke];have:#[Value.func (.yield (w.heap.size+1)) #[] #[]]++lb=(.func (.yield (w.heap.size+1)) #[] #[]::lb.toList).toArray:=by
      apply gG.1;simp
     rw[<-this];simp[go_sem,e0]
    ·refine Calls.mono (a6 base gf _ _ _ _ hc e2 _ _ b1 (.cons (.S9 (o:=0) (z:=0) (by rw[U,b3])) (b7.mono (l1.trans l2)))) fun en w3 b5=>?_
     cases en with
     |returned r=>
      obtain⟨e3,c1,c2,c3,c4⟩:=b5;have e9:FR e3 ⟨F.n,F.t,H.next::F.m⟩ {a with defers:=[{target:=.collected w.heap.size,args:=#[]}]++a.defers}:=
       ⟨R.size,R.le,fun i=>(R.get i).mono ((l1.trans l2).trans c1),.cons (c1 _ _ (l2 _ _ c5)) (R.defers.mono ((l1.trans l2).trans c1))⟩
      have hk:B8 base.S w w3:=(a2.trans b2).trans c4;have:=Za4 (P:=P) a7 h (c1 _ _ U) e9 c3 (hQ.trans ((l1.trans l2).trans c1) hk);rw[b3]at this;exact this
     |panicked c=>exact b5.elim
     |outgrown=>exact b5.elim
   ·cases h
 ·cases h
theorem Zi (hT:B3 P T) {ro:Option Nat} {call:FuncId->List AV->AH->Option (AV×AH)} {QK:Nat->List AV->AH->Option (AV×AH)} {code:Bool->Code->Fr->AH->FK} {jump:Code->Nat->Fr->AH->FK} (p:∀base,Hv P base call) (a7:Mc P base QK) (j:∀ro,Ga P base ro (code ro.isSome)) (R:Mo P base jump) :
  Ga P base ro (Y5 P T call QK code jump ro.isSome):=by
 intro c F H X F' H' h e a w Q o I J;unfold Y5 at h;split at h
 ·cases h;exact Wp.of nofun (wpIn_skip (J.here o I))
 ·cases h;exact Wp.of nofun (wpIn_label (J.here o I))
 ·rename_i id ops d;refine Wp.of nofun ?_;unfold ZcV at h;cases d with
  |false=>
   simp only[eJ]at h;split at h
   ·rename_i F1 H1 U;cases h;exact wpIn_region_list (Ic hT (p base) a7 _ _ _ e a w U o I J)
   ·cases h
  |true=>
   simp only[cX]at h;split at h
   ·rename_i F1 H1 U;cases h;exact ZM hT p U o I J
   ·cases h
 ·rename_i b c;exact Wp.of nofun (wpIn_seq (VO (K:=Exit.then (c.wpIn (fz ro) 0 P Q) Q) (j ro) OS (fun _ _ h=>h.wp) h o I J))
 ·rename_i c b d;refine Wp.of nofun ?_;unfold Zbt at h;have hc:=o.eval c;split at h
  ·rename_i a6;exact wpIn_cond_true ((VS hc true).1 a6) (j ro _ _ _ _ _ _ h e a w Q o I J).wp
  ·rename_i a6;exact wpIn_cond_false ((VS hc false).1 a6) (j ro _ _ _ _ _ _ h e a w Q o I J).wp
  ·cases h
 ·rename_i id b;refine Wp.of nofun (wpIn_block ?_);rcases Q8 h with⟨h1,hX⟩|⟨hX,h1⟩
  ·subst hX;refine(j ro _ _ _ _ _ _ h1 e a w _ o I fun e1 a1 w1 g1 g2 g3 g4=>?_).wp;show Exit.inBlock id Q (.exit id) a1 w1;simp only[Exit.inBlock,if_true];exact J e1 a1 w1 g1 g2 g3 g4
  ·refine(j ro _ _ _ _ _ _ h1 e a w _ o I fun e1 a1 w1 g1 g2 g3 g4=>?_).wp;have:=J e1 a1 w1 g1 g2 g3 g4;cases X with
   |exit i=>
    show Exit.inBlock id Q (.exit i) a1 w1;have b5:i≠id:=fun hi=>hX (by rw[hi])
    simp only[Exit.inBlock,if_neg b5];exact this
   |_=>exact this
 ·rename_i b;exact Ht.of (VO (c:=.loop b) (K:=Exit.then (Ht ro P b Q) Q) (j ro) OS (fun _ _ h=>h) h o I J)
 ·rename_i b;cases ro with
  |some l=>cases h
  |none=>exact Wp.of nofun ((wpIn_wide (n:=0)).2 (Zo (M8 (j none) R h o I J)))
 ·rename_i g ps b8 bd;cases ro with
  |some l=>cases h
  |none=>exact Wp.of nofun (ZU hT p (j none) h o I J)
 ·cases h;exact Wp.of nofun (wpIn_exit (J.here o I))
 ·cases h;exact Wp.of nofun (wpIn_goto (J.here o I))
 ·cases h;exact Wp.of nofun (wpIn_ret (J.here o I))
 ·cases h
theorem Zy {code:Bool->Code->Fr->AH->FK} {jump:Code->Nat->Fr->AH->FK} (j:Ga P base none (code false)) (o:Mo P base jump):Mo P base (stepG code jump):=by
 intro b l F H X F' H' h e a w Q I J R;unfold stepG at h;unfold ML;split at h
 ·rename_i rest p;rw[p];exact fun U k cs=>MY (M8 j o h I J R) U k cs
 ·rename_i p;rw[p];cases h;exact R.here I J
end
end Ev
end
section
open Go.RowKit
namespace Ev
section
variable {P:Program} {T:Tb} {base:CJ} {e e':Env} {H H':AH} {w w':World} {x:AV} {F F':Fr} {a:Act}
def TC (a:Act):ResultVar->Sem Value
 |.tmp t=>pure (a.tmps.getD t undef)
 |.cell b t=>do loadVar t (<-asAddr (a.tmps.getD b undef))
theorem XC (I:B3 P T) (p:FR e F a) (J:AO base e H w) {r:ResultVar} (h:TD T H F r=some x) :
  ∃y,(TC a r).run P w=.ok y w/\DR e x y:=by
 unfold TD at h;split at h
 ·rename_i t;cases h;exact⟨_,rfl,p.eval (.tmp t)⟩
 ·rename_i b t;split at h
  ·rename_i R off U;have j:=p.eval (.tmp b);have h1:E9 F (.tmp b)=.ptr R off:=U;rw[h1]at j;have h2:a.eval (.tmp b)=a.tmps.getD b undef:=rfl;rw[h2]at j;show ∃y,(do loadVar t (<-asAddr (a.tmps.getD b undef)):Sem Value).run P w=.ok y w/\DR e x y;generalize a.tmps.getD b undef=v at j⊢;cases j with
   |ptr he=>
    obtain⟨y,hy,o⟩:=Pt I J he h;refine⟨y,?_,o⟩;simp only[asAddr,aX,eU,cW];exact hy
  ·cases h
theorem OF (p:B3 P T) (I:FR e F a) (J:AO base e H w):∀(j:List ResultVar) (l:List AV),MN T H F j=some l->
  ∃ys,(j.mapM (TC a)).run P w=.ok ys w/\BP e l ys
 | [],l,h=>by
  cases h;exact⟨[],rfl,.nil⟩
 |r::j,l,h=>by
  unfold MN at h;split at h
  ·rename_i x xs R o;cases h;obtain⟨y,U,h2⟩:=XC p I J R;obtain⟨ys,h3,h4⟩:=OF p I J j xs o;refine⟨y::ys,?_,.cons h2 h4⟩;rw[List.mapM_cons];simp only[aX,U,h3,cW,eU]
  ·cases h
theorem Rm (R:B3 P T) {fn:Func} (U:FR e F a) (hr:AO base e H w) (h:Iq T H fn F=some x):∃y,(results fn a.tmps).run P w=.ok y w/\DR e x y:=by
 unfold Iq ZbK at h;have key:∀l,MN T H F fn.results.toList=some l->∃ys,(results fn a.tmps).run P w=.ok (if h:ys.length=1 then ys[0]else .tuple ys.toArray) w/\BP e l ys:=fun l p=>by
  obtain⟨ys,j,o⟩:=OF R U hr _ _ p;refine⟨ys,?_,o⟩;have hm:results fn a.tmps=(do let I <-fn.results.mapM (TC a);pure (if h:I.size=1 then I[0]else .tuple I)):=by
   unfold results
   first|rfl|(congr 1;first|done|(congr 1;first|done|(funext r;cases r<;>rfl)))
  rw[hm,Array.mapM_eq_mapM_toList];simp only[map_eq_pure_bind,aX,eU,j,cW];simp
 split at h
 ·rename_i z hz;cases h;obtain⟨ys,j,o⟩:=key _ hz;cases o with
  |cons hx p=>cases p;exact⟨_,j,hx⟩
 ·rename_i l J p;cases h;obtain⟨ys,j,o⟩:=key _ p;have hlen:¬ys.length=1:=fun j=>by
   rw[o.length]at j;obtain⟨z,rfl⟩:=List.length_eq_one_iff.1 j;exact J z rfl
  rw[dif_neg hlen]at j;exact⟨_,j,Hm o⟩
 ·cases h
theorem WH {fn:Func} {r:FK} (h:ZbN T fn r=some (x,H')):∃X F H1,(X=.ret\/X=.normal)/\r=some (X,F,H1)/\ON H1 F.m=some H'/\Iq T H' fn F=some x:=by
 have key:∀F H1,Zbn T fn F H1=some (x,H')->ON H1 F.m=some H'/\Iq T H' fn F=some x:=fun F H1 h=>by
  unfold Zbn at h;split at h
  ·rename_i p j;split at h
   ·rename_i o;cases h;exact⟨j,o⟩
   ·cases h
  ·cases h
 unfold ZbN at h;split at h
 ·exact⟨_,_,_,.inl rfl,rfl,key _ _ h⟩
 ·exact⟨_,_,_,.inr rfl,rfl,key _ _ h⟩
 ·cases h
theorem Wz {fn:Func} {tmps:Array Value} {R:Ending->World->Prop} {m:List Nat} {ds:List Deferred} (hm:MR e m ds):∀ {H:AH} {w:World},AO base e H w->ON H m=some H'->
  (∀w',AO base e H' w'->B8 base.S w w'->∃v,(results fn tmps).run P w'=.ok v w'/\R (.returned v) w')->LeavesInM (fz none) 0 P fn tmps R ds .returning w:=by
 induction hm with
 |nil=>
  intro H w j h o;cases h;exact o w j (B8.refl _ _)
 |cons p _ ih=>
  intro H w j h o;unfold ON at h;split at h
  ·rename_i I;obtain⟨g',o',z',J,_,U⟩:=j.Bq _ _ (j.Vc p) I;rw[p]at J;cases J;obtain⟨k2,k3⟩:=Mw j p I (.deferred none);exact⟨nofun,.inl ⟨_,_,rfl,run_takeDeferred U,ih k2 h fun w' h1 h2=>o w' h1 (k3.trans h2)⟩⟩
  ·cases h
theorem X2 {args:List AV} {ys:List Value} (n:Nat) (R:n<=1024) (U:args.length<=1024) (h:BP e args ys):FR e ⟨max n args.length,Tr.build 10 args,[]⟩ {tmps:=ys.toArray++Array.replicate (n-ys.toArray.size) undef,defers:=[]}:=by
 have hlen:=h.length;refine⟨by simp[hlen];omega,by show max n args.length<=1024;omega,fun i=>?_,.nil⟩;have out:∀i,args.length<=i->(ys.toArray++Array.replicate (n-ys.toArray.size) undef)[i]?.getD undef=undef:=fun i hi=>by
  rw[Array.getElem?_append_right (by simpa[hlen]using hi),Array.getElem?_replicate];split<;>rfl
 have gt:Fr.get ⟨max n args.length,Tr.build 10 args,[]⟩ i=match Tr.get 10 (Tr.build 10 args) i with|some x=>x|none=>.undef:=rfl
 rw[gt];by_cases hi:i<2^10
 ·rw[Tr.IP 10 args i hi];cases o:args[i]? with
  |none=>
   have:args.length<=i:=iW.1 o;rw[out i this];exact .v _
  |some x=>
   obtain⟨y,p,I⟩:=h.get o;have j:i<ys.length:=(bC.1 p).1;rw[Array.getElem?_append_left (by simpa using j)];simp only[cI,p];exact I
 ·have:Tr.get 10 (Tr.build 10 args) i=none:=by
   cases J:Tr.get 10 (Tr.build 10 args) i with
   |none=>rfl
   |some y=>exact absurd (Tr.PB 10 _ i _ J) hi
  rw[this,out i (by omega)];exact .v _
theorem Y7 (R:B3 P T) {code:Bool->Code->Fr->AH->FK} (j:Ga P base none (code false)):Hv P base (VQ T code):=by
 intro f args H x H' h e w ys hr p;unfold VQ at h;split at h
 ·rename_i fn I;split at h
  ·rename_i c hc;cases o:(fn.ntmps.ble 1024&&args.length.ble 1024)with
   |false=>rw[o]at h;cases h
   |true=>
    rw[o]at h;rw[aG]at o;obtain⟨X,F',H1,hX,h1,J,h2⟩:=WH h;refine(dZ (n:=0)).1 ?_;refine callsIn_of_wp_marks (F:=fz none) (n:=0) (R.func f fn I) hc trivial ?_ rfl;refine(j _ _ _ _ _ _ h1 e _ w _ (X2 fn.ntmps (bQ o.1) (bQ o.2) p) hr fun e1 U w1 g1 g2 g3 g4=>?_).wp;have key:LeavesInM (fz none) 0 P fn U.tmps (X0 base e w x H') U.defers .returning w1:=Wz g2.defers g3 J fun w' k1 k2=>by
     obtain⟨y,g5,g6⟩:=Rm R g2 k1 h2;exact⟨y,g5,e1,g1,g6,k1,g4.trans k2⟩
    rcases hX with rfl|rfl
    ·exact key
    ·exact key
  ·cases h
 ·cases h
def D8 (P:Program) (base:CJ) (j:FuncId->Option (List AV->AH->Option (AV×AH))):Prop:=
 ∀f g,j f=some g->∀args H x H',g args H=some (x,H')->∀e w ys,AO base e H w->BP e args ys->Calls P f ys.toArray w (X0 base e w x H')
theorem Z4 (p:B3 P T) {j:FuncId->Option (List AV->AH->Option (AV×AH))} (J:∀base,D8 P base j):∀n,(∀base,Hv P base (run P T j n).call)/\(∀base,Mc P base (run P T j n).QK)/\(∀base ro,Ga P base ro ((run P T j n).code ro.isSome))/\∀base,Mo P base (run P T j n).jump
 | 0=>⟨fun _ _ _ _ _ _ h=>(by cases h),fun _ _ _ _ _ _ h=>(by cases h),fun _ _ _ _ _ _ _ _ h=>(by cases h),fun _ _ _ _ _ _ _ _ h=>(by cases h)⟩
 |n+1=>by
  obtain⟨U,h2,o,R⟩:=Z4 p J n;refine⟨fun base f args H x H' h=>?_,fun base=>Zn (o base),fun base ro=>Zi p U (h2 base) (o base) (R base),fun base=>Zy (o base none) (R base)⟩;have I:(match j f with|some g=>g args H|none=>VQ T (run P T j n).code f args H)=some (x,H'):=h;split at I
  ·rename_i g hg;exact J base f g hg args H x H' I
  ·exact Y7 p (o base none) f args H x H' I
theorem Lh (p:B3 P T) {j:FuncId->Option (List AV->AH->Option (AV×AH))} (I:∀base,D8 P base j) {n:Nat} {f:FuncId} {args:List AV} (h:evF P T j n f args H=some (x,H')) {ys:List Value} (J:AO base e H w) (o:BP e args ys) :
  Calls P f ys.toArray w (X0 base e w x H'):=(Z4 p I n).1 base f args H x H' h e w ys J o
theorem AO.start (w:World):AO ⟨(·<w.heap.size),fun _=>False⟩ (fun _=>none) AH.empty w:=
 ⟨fun _ h=>h,fun _ h=>h.elim,eN _,fun _ _=>rfl,fun b x _ h=>by rw[AH.get]at h;simp[AH.empty,Tr.get,depth]at h,fun b j x o p I _ _ h=>by simp[AH.get,AH.empty,Tr.get,depth]at h⟩
end
end Ev
end
section
open Go.RowKit
namespace Ev
def ZbZ (t:Tr AB):List (Nat×AB)->Tr AB
 | []=>t
 |(b,x)::L=>ZbZ (Tr.set depth t b (some x)) L
def ofL (next:Nat) (L:List (Nat×AB)):AH:=⟨next,ZbZ .nil L⟩
def OY (next:Nat) (L:List (Nat×AB)):Bool:=next.ble 16384&&L.all fun p=>Nat.blt p.1 next
theorem Q6:∀(L:List (Nat×AB)) (t:Tr AB) (b:Nat) (x:AB),(∀p∈L,p.1<2^depth)->Tr.get depth (ZbZ t L) b=some x->(b,x)∈L\/Tr.get depth t b=some x
 | [],t,b,x,_,h=>.inr h
 |(o,J)::L,t,b,x,R,h=>by
  rcases Q6 L _ b x (fun p hp=>R p (.tail _ hp)) h with j|j
  ·exact .inl (.tail _ j)
  ·rw[Tr.IY depth t o b (some J) (R (o,J) (.head _))]at j;by_cases I:b=o
   ·rw[if_pos I]at j;cases j;subst I;exact .inl (.head _)
   ·rw[if_neg I]at j;exact .inr j
theorem Sn {next:Nat} {L:List (Nat×AB)} (h:OY next L=true):next<=2^depth/\∀p∈L,p.1<next:=by
 unfold OY at h;rw[aG]at h;exact⟨bQ h.1,fun p hp=>E4 (aY.1 h.2 p hp)⟩
theorem P3 {next:Nat} {L:List (Nat×AB)} (o:OY next L=true) {b:Nat} {x:AB} (h:(ofL next L).get b=some x):(b,x)∈L:=by
 obtain⟨I,J⟩:=Sn o;rcases Q6 L .nil b x (fun p hp=>aK (J p hp) I) h with j|j
 ·exact j
 ·rw[Tr.Vv]at j;cases j
def eqL (a b:List AV):Bool:=a.length==b.length&&(a.zip b).all fun p=>Lq 6 p.1 p.2
def eqE (a b:List (AV×AV×Nat)):Bool:=a.length==b.length&&(a.zip b).all fun p=>Lq 6 p.1.1 p.2.1&&Lq 6 p.1.2.1 p.2.2.1&&Nat.beq p.1.2.2 p.2.2.2
def Zcf:AB->AB->Bool
 |.cells a t,.cells b u=>eqL a b&&Nat.beq t u
 |.NK a,.NK b=>eqL a b
 |.map a c,.map b d=>eqE a b&&Nat.beq c d
 |_,_=>false
theorem P1 {a b:List AV} (h:eqL a b=true):a=b:=Cz (fun x j=>IW 6 _ _ j) a b h
theorem Zcu {a b:List (AV×AV×Nat)} (h:eqE a b=true):a=b:=Cz (fun x j=>by
 rw[aG,aG]at j;obtain⟨⟨x1,J,R⟩,U,y2,y3⟩:=x;have o:=IW 6 _ _ j.1.1;have p:=IW 6 _ _ j.1.2;have I:=bY j.2;dsimp only at o p I;rw[o,p,I]) a b h
theorem Zbe:∀(a b:AB),Zcf a b=true->a=b:=by
 intro a b h;unfold Zcf at h;split at h
 ·rw[aG]at h;rw[P1 h.1,bY h.2]
 ·rw[P1 h]
 ·rw[aG]at h;rw[Zcu h.1,bY h.2]
 ·cases h
def QT (H:AH) (L:List (Nat×AB)):Bool:=L.all fun p=>match H.get p.1 with
 |some y=>Zcf y p.2
 |none=>false
theorem L9 {H:AH} {L:List (Nat×AB)} (h:QT H L=true) {b:Nat} {x:AB} (hm:(b,x)∈L):H.get b=some x:=by
 have j:=aY.1 h _ hm;dsimp only at j;split at j
 ·rename_i y o;rw[o,Zbe _ _ j]
 ·cases j
section
variable {P:Program} {T:Tb} {base:CJ} {e e':Env} {H H' G G':AH} {w w':World} {x:AV}
theorem AO.sub (h:AO base e H w) (o:G.next=H.next) (p:∀b y,G.get b=some y->H.get b=some y):AO base e G w:=
 ⟨h.size,fun b j=>by rw[o];exact h.KN b j,by rw[o];exact h.next,fun b j=>h.fresh b (by rw[<-o];exact j),fun b y j hy=>h.Bq b y j (p b y hy),
  fun b1 b2 x1 x2 p1 p2 I J R U a1 a6 a7=>h.inj b1 b2 x1 x2 p1 p2 I J (p _ _ R) (p _ _ U) a1 a6 a7⟩
structure YD where
 f:FuncId
 args:List AV
 n0:Nat
 L0:List (Nat×AB)
 x:AV
 n1:Nat
 L1:List (Nat×AB)
def Rv (P:Program) (T:Tb) (j:FuncId->Option (List AV->AH->Option (AV×AH))) (n:Nat) (s:YD):Bool:=OY s.n0 s.L0&&OY s.n1 s.L1&&match evF P T j n s.f s.args (ofL s.n0 s.L0)with
 |some (x,H)=>Lq 6 x s.x&&Nat.beq H.next s.n1&&QT H s.L1
 |none=>false
def Zcr (s:YD) (args:List AV) (H:AH):Option (AV×AH):=bif Nat.beq H.next s.n0&&eqL args s.args&&QT H s.L0 then some (s.x,ofL s.n1 s.L1)else none
theorem Zcm (hT:B3 P T) {I:FuncId->Option (List AV->AH->Option (AV×AH))} (ho:∀base,D8 P base I) {n:Nat} {s:YD} (j:Rv P T I n s=true) {args:List AV} (h:Zcr s args H=some (x,H')) {ys:List Value} (hr:AO base e H w) (hd:BP e args ys) :
  Calls P s.f ys.toArray w (X0 base e w x H'):=by
 unfold Zcr at h;generalize hc:(Nat.beq H.next s.n0&&eqL args s.args&&QT H s.L0)=c at h;cases c with
 |false=>cases h
 |true=>
  cases h;rw[aG,aG]at hc;obtain⟨⟨J,R⟩,U⟩:=hc;have o:=P1 R;subst o;unfold Rv at j;rw[aG,aG]at j;obtain⟨⟨a1,a6⟩,j⟩:=j;split at j
  ·rename_i x2 H2 a7;rw[aG,aG]at j;obtain⟨⟨a8,b0⟩,b1⟩:=j;have hx:=IW 6 _ _ a8;have b2:AO base e (ofL s.n0 s.L0) w:=hr.sub (bY J).symm fun b y hy=>L9 U (P3 a1 hy)
   refine(Lh hT ho a7 b2 hd).mono fun en w' p=>?_
   cases en with
   |returned r=>
    obtain⟨e1,g1,g2,g3,g4⟩:=p;exact⟨e1,g1,hx▸g2,g3.sub (bY b0).symm fun b y hy=>L9 b1 (P3 a6 hy),g4⟩
   |panicked c=>exact p.elim
   |outgrown=>exact p.elim
  ·cases j
def Vr (R:Nat->Bool):Nat->AV->Bool
 |_,.v _=>true
 |_,.ptr b _=>R b
 |_,.Bm b _ _ _=>R b
 |_,.mp b=>R b
 |_,.S9 b=>R b
 |_,.tl b _ _ _=>R b
 |n+1,.agg l=>l.all (Vr R n)
 |n+1,.N6 l=>l.all (Vr R n)
 |n+1,.iface _ x=>Vr R n x
 |n+1,.fn _ a c=>a.all (Vr R n)&&c.all (Vr R n)
 |_,_=>false
theorem Zcp {R:Nat->Bool} (o:∀b p,R b=true->e b=some p->e' b=some p):∀(n:Nat) {x:AV} {y:Value},Vr R n x=true->DR e x y->DR e' x y:=by
 have list:∀(n:Nat),(∀ {x:AV} {y:Value},Vr R n x=true->DR e x y->DR e' x y)->∀ {l:List AV} {ys:List Value},l.all (Vr R n)=true->BP e l ys->BP e' l ys:=fun n ih l=>by
  induction l with
  |nil=>intro ys _ h;cases h;exact .nil
  |cons a l U=>
   intro ys ha h;rw[jE,aG]at ha;cases h with
   |cons h1 h2=>exact .cons (ih ha.1 h1) (U ha.2 h2)
 intro n
 induction n with
 |zero=>
  intro x y h hd;cases hd with
  |v _=>exact .v _
  |ptr j=>exact .ptr (o _ _ h j)
  |Bm j J I=>exact .Bm (o _ _ h j) J I
  |mp j=>exact .mp (o _ _ h j)
  |S9 j=>exact .S9 (o _ _ h j)
  |tl j ht=>exact .tl (o _ _ h j) ht
  |agg I=>cases h
  |N6 I=>cases h
  |iface hx=>cases h
  |fn ha J=>cases h
 |succ n ih=>
  intro x y h hd;cases hd with
  |v _=>exact .v _
  |ptr j=>exact .ptr (o _ _ h j)
  |Bm j J I=>exact .Bm (o _ _ h j) J I
  |mp j=>exact .mp (o _ _ h j)
  |S9 j=>exact .S9 (o _ _ h j)
  |tl j ht=>exact .tl (o _ _ h j) ht
  |agg I=>exact .agg (list n ih h I)
  |N6 I=>exact .N6 (list n ih h I)
  |iface hx=>exact .iface (ih h hx)
  |fn ha J=>
   have h':(_&&_)=true:=h;rw[aG]at h';exact .fn (list n ih h'.1 ha) (list n ih h'.2 J)
theorem KF {R:Nat->Bool} (o:∀b p,R b=true->e b=some p->e' b=some p) {l:List AV} {ys:List Value} (h:l.all (Vr R 6)=true) (j:BP e l ys):BP e' l ys:=by
 induction l generalizing ys with
 |nil=>cases j;exact .nil
 |cons a l ih=>
  rw[jE,aG]at h;cases j with
  |cons I J=>exact .cons (Zcp o 6 h.1 I) (ih h.2 J)
def inB (R:Nat->Bool):AB->Bool
 |.cells l _=>l.all (Vr R 6)
 |.NK l=>l.all (Vr R 6)
 |.map es _=>(es.map (·.1)).all (Vr R 6)&&(es.map (·.2.1)).all (Vr R 6)
 |_=>false
theorem Vz {R:Nat->Bool} (hR:∀b p,R b=true->e b=some p->e' b=some p) {g o z:Nat} {y:AB} (h:inB R y=true) (hb:I3 e w g o z y):I3 e' w g o z y:=by
 cases y with
 |cells l t=>obtain⟨cs,j,I,J,U⟩:=hb;exact⟨cs,j,I,J,KF hR h U⟩
 |NK l=>obtain⟨cs,t,m,j,I,J,U⟩:=hb;exact⟨cs,t,m,j,I,J,KF hR h U⟩
 |map es c=>
  obtain⟨es',j,I,J,U⟩:=hb;have h':(_&&_)=true:=h;rw[aG]at h';exact⟨es',j,KF hR h'.1 I,KF hR h'.2 J,U⟩
 |iter m s q l=>cases h
 |dfr=>cases h
 |loop F ps b0 bd s=>cases h
structure Loc where
 f:FuncId
 args:List AV
 n0:Nat
 L:List (Nat×AB)
 v:Value
def ZP (s:Loc) (b:Nat):Bool:=(((ofL s.n0 s.L)).get b).isSome
def YC (P:Program) (T:Tb) (j:FuncId->Option (List AV->AH->Option (AV×AH))) (n:Nat) (s:Loc):Bool:=OY s.n0 s.L&&QT (ofL s.n0 s.L) s.L&&s.args.all (Vr (ZP s) 6)&&s.L.all (fun p=>inB (ZP s) p.2)&&match evF P T j n s.f s.args (ofL s.n0 s.L)with
 |some (x,H)=>Lq 6 x (.v s.v)&&QT H s.L
 |none=>false
def Zb6 (s:Loc) (args:List AV) (H:AH):Option (AV×AH):=bif eqL args s.args&&QT H s.L then some (.v s.v,H)else none
theorem ZcD (hT:B3 P T) {c1:FuncId->Option (List AV->AH->Option (AV×AH))} (ho:∀base,D8 P base c1) {n:Nat} {s:Loc} (hs:YC P T c1 n s=true) {args:List AV} (h:Zb6 s args H=some (x,H')) {ys:List Value} (R:AO base e H w) (hd:BP e args ys) :
  Calls P s.f ys.toArray w (X0 base e w x H'):=by
 unfold Zb6 at h;generalize hc:(eqL args s.args&&QT H s.L)=c at h;cases c with
 |false=>cases h
 |true=>
  cases h;rw[aG]at hc;obtain⟨e5,e6⟩:=hc;have b6:=P1 e5;subst b6;unfold YC at hs;rw[aG,aG,aG,aG]at hs;obtain⟨⟨⟨⟨hk,e7⟩,e8⟩,c2⟩,hs⟩:=hs;split at hs
  ·rename_i x2 G2 e9;rw[aG]at hs;have hx:=IW 6 _ _ hs.1;subst hx;obtain⟨c3,h3⟩:=Sn hk;generalize hG:ofL s.n0 s.L=G at *;have U:∀b y,G.get b=some y->(b,y)∈s.L:=fun b y j=>by rw[<-hG]at j;exact P3 hk j
   have J:∀b y,G.get b=some y->H.get b=some y:=fun b y j=>L9 e6 (U b y j)
   have h5:∀b y,G.get b=some y->G2.get b=some y:=fun b y j=>L9 hs.2 (U b y j)
   have c4:∀b y,G.get b=some y->b<s.n0:=fun b y j=>h3 _ (U b y j)
   have h6:G.next=s.n0:=by rw[<-hG];rfl
   let e0:Env:=fun b=>if(G.get b).isSome then e b else none
   have a1:∀b y,G.get b=some y->e0 b=e b:=fun b y j=>by show(if(G.get b).isSome then e b else none)=e b;rw[j];rfl
   have b4:Fp e0 e:=fun b p hp=>by
    have b7:(if(G.get b).isSome then e b else none)=some p:=hp;split at b7
    ·exact b7
    ·cases b7
   let S0:Nat->Prop:=fun g=>base.S g\/∃b y p,b<2^depth/\H.get b=some y/\G.get b=none/\e b=some p/\p.1=g
   have c5:∀b p,ZP s b=true->e b=some p->e0 b=some p:=fun b p hb hp=>by
    unfold ZP at hb;rw[hG]at hb;show(if(G.get b).isSome then e b else none)=some p;rw[if_pos hb];exact hp
   have h0:AO ⟨S0,fun _=>False⟩ e0 G w:=by
    refine⟨fun g hg=>?_,fun _ h=>h.elim,by rw[h6];exact c3,fun b hb=>?_,fun b y hb j=>?_,fun b1 b2 x1 x2 p1 p2 h7 a7 h8 h9 i1 b8 i6=>?_⟩
    ·rcases hg with hg|⟨b,y,p,h1,h2,_,h4,rfl⟩
     ·exact R.size g hg
     ·obtain⟨g',o,z,k1,_,k3⟩:=R.Bq b y h1 h2;rw[h4]at k1;cases k1;exact k3.lt
    ·show(if(G.get b).isSome then e b else none)=none;cases I:G.get b with
     |none=>rfl
     |some y=>have:=c4 b y I;omega
    ·obtain⟨g,o,z,k1,k2,k3⟩:=R.Bq b y hb (J b y j);refine⟨g,o,z,(a1 b y j).trans k1,fun hg=>?_,Vz c5 (aY.1 c2 _ (U b y j)) k3⟩;rcases hg with hg|⟨b',y',p',m1,m2,m3,m4,m5⟩
     ·exact k2 hg
     ·have j0:b'≠b:=fun hh=>by rw[hh,j]at m3;cases m3
      exact R.inj b' b y' y p' _ m1 hb m2 (J b y j) m4 k1 j0 m5
    ·exact R.inj b1 b2 x1 x2 p1 p2 h7 a7 (J _ _ h8) (J _ _ h9) (b4 _ _ i1) (b4 _ _ b8) i6
   refine(Lh hT ho e9 h0 (KF c5 e8 hd)).mono fun en w' b9=>?_
   cases en with
   |returned r=>
    obtain⟨e1,g1,g2,g3,g4⟩:=b9;cases g2;refine⟨e,Fp.refl e,.v _,⟨fun g hg=>aK (R.size g hg) g4.size,R.KN,R.next,R.fresh,fun b y hb j=>?_,R.inj⟩,g4.mono fun k hk=>.inl hk⟩;obtain⟨g,o,z,k1,k2,k3⟩:=R.Bq b y hb j;refine⟨g,o,z,k1,k2,?_⟩;cases I:G.get b with
    |none=>exact k3.heap (g4.block g (.inr ⟨b,y,_,hb,j,I,k1,rfl⟩))
    |some y2=>
     have c7:=J b y2 I;rw[j]at c7;cases c7;obtain⟨g',o',z',q1,q2,q3⟩:=g3.Bq b y hb (h5 b y I);have:=g1 b _ ((a1 b y I).trans k1);rw[q1]at this;cases this;refine Vz (fun b2 p2 a7 b8=>?_) (aY.1 c2 _ (U b y I)) q3;unfold ZP at a7;rw[hG]at a7;obtain⟨y3,c0⟩:=iY.1 a7;have c8:b2<2^depth:=aK (c4 b2 y3 c0) c3;obtain⟨l6,o4,z4,r1,_,_⟩:=R.Bq b2 y3 c8 (J b2 y3 c0);have:=g1 b2 _ ((a1 b2 y3 c0).trans r1);rw[b8]at this;cases this;exact r1
   |panicked c=>exact b9.elim
   |outgrown=>exact b9.elim
  ·cases hs
end
end Ev
end
end Go.Proofs.YthbihnpoghlfaaaGreatDoor
