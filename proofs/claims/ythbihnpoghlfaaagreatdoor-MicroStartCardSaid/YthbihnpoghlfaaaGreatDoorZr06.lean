import Derived.Maps.RangeRun
import Derived.Test.YthbihnpoghlfaaaGreatDoorZr05
set_option linter.unusedVariables false
set_option linter.unusedSimpArgs false
set_option maxHeartbeats 8000000
set_option maxRecDepth 100000
namespace Go.Proofs.YthbihnpoghlfaaaGreatDoor
section
open Go.RowKit
namespace Ev
section
variable {P:Program} {T:Tb} {base:CJ} {e:Env} {H H':AH} {w:World} {x:AV}
theorem Lf (j:AO base e H w) {b g o z:Nat} (p:e b=some (g,o,z)) {es:List (AV×AV×Nat)} {c:Nat} (h:H.get b=some (.map es c)) :
  ¬base.S g/\∃es':List MapEntry,w.heap[g]?=some (.map es'.toArray c)/\BP e (es.map (·.1)) (es'.map (·.key))/\BP e (es.map (·.2.1)) (es'.map (·.val))/\es.map (·.2.2)=es'.map (·.born):=by
 obtain⟨U,o',z',I,J,R⟩:=j.Bq b _ (j.Vc p) h;rw[p]at I;cases I;exact⟨J,R⟩
theorem Xl (o:AO base e H w) {m:AV} {j:Value} {es:List (AV×AV×Nat)} {c:Nat} (hm:DR e m j) (h:S6 H m=some (es,c)) :
  ∃es':List MapEntry,(j=.map none/\es'=[]\/∃g,j=.map (some g)/\w.heap[g]?=some (.map es'.toArray c))/\BP e (es.map (·.1)) (es'.map (·.key))/\BP e (es.map (·.2.1)) (es'.map (·.val)):=by
 unfold S6 at h;split at h
 ·rename_i b;split at h
  ·rename_i es2 c2 p;cases h;cases hm with
   |mp I=>
    obtain⟨-,es',J,R,U,-⟩:=Lf o I p;exact⟨es',.inr ⟨_,rfl,J⟩,R,U⟩
  ·cases h
 ·cases h;cases hm;exact⟨[],.inl ⟨rfl,rfl⟩,.nil,.nil⟩
 ·cases h
theorem Sm (I:B3 P T) {t:TypeId} {m k:AV} {m' k':Value} {ok:Bool} (U:AO base e H w) (hm:DR e m m') (hk:DR e k k') (h:Gs T t m k ok H=some (.val x H')) :
  Cl P base e w (do pure (.value (<-Instr.lookup t m' k' ok))) x H':=by
 unfold Gs at h;split at h
 ·rename_i kt el kv hu;cases hk;split at h
  ·rename_i d es c p J;obtain⟨es',q1,q2,q3⟩:=Xl U hm J;obtain⟨u1,u2⟩:=V3 I p;split at h
   ·rename_i i y hf;cases h;obtain⟨r',R,o⟩:=JX p es es' 0 _ hf q2 q3;rcases o with⟨o,-⟩|⟨j,y1,y2,o,r3,r4,-⟩
    ·cases o
    ·cases o;subst r3;refine AZ (r:=if ok then .tuple #[y2,.bool true]else y2) U ?_ ?_
     ·unfold Instr.lookup;rcases q1 with⟨rfl,rfl⟩|⟨g,rfl,J⟩
      ·cases R
      ·simp[aX,Bn I hu w,eD J,fW u1 u2,Instr.findKey,cJ u1,R]
     ·cases ok with
      |true=>exact Hm (.cons r4 (.cons (.v _) .nil))
      |false=>exact r4
   ·rename_i hf;split at h
    ·rename_i i hi;split at h
     ·rename_i z hz;cases h;obtain⟨r',R,o⟩:=JX p es es' 0 _ hf q2 q3;rcases o with⟨-,o⟩|⟨j,y1,y2,o,-⟩
      ·subst o;refine AZ (r:=if ok then .tuple #[z,.bool false]else z) U ?_ ?_
       ·unfold Instr.lookup;rcases q1 with⟨rfl,rfl⟩|⟨g,rfl,J⟩
        ·simp[aX,Bn I hu w,fW u1 u2,Instr.findKey,cJ u1,Instr.findNow,zeroValue,typeInfo,I.FF _ _ hi,hz]
        ·simp[aX,Bn I hu w,eD J,fW u1 u2,Instr.findKey,cJ u1,R,zeroValue,typeInfo,I.FF _ _ hi,hz]
       ·cases ok with
        |true=>exact Hm (.cons (.v _) (.cons (.v _) .nil))
        |false=>exact .v _
      ·cases o
     ·cases h
    ·cases h
   ·cases h
  ·cases h
 ·cases h
theorem Qv (I:AO base e H w) {b g o z:Nat} (hb:e b=some (g,o,z)) {x0 x1:AB} {obj:Obj} (h:H.get b=some x0) (hx:∀w':World,w'.heap[g]?=some obj->I3 e w' g o z x1) :
  AO base e (H.put b (some x1)) {w with heap:=w.heap.setIfInBounds g obj}/\B8 base.S w {w with heap:=w.heap.setIfInBounds g obj}:=by
 have J:=I.Vc hb;obtain⟨g',o',z',q1,hg,k1⟩:=I.Bq b _ J h;rw[hb]at q1;cases q1;have b3:g<w.heap.size:=k1.lt;have U:∀k,k≠g->(w.heap.setIfInBounds g obj)[k]?=w.heap[k]?:=fun k hk=>cK (Ne.symm hk)
 refine⟨⟨by simpa using I.size,I.KN,I.next,I.fresh,fun R y p hy=>?_,fun b1 b2 y1 y2 p1 p2 a8 a1 b5 b6 b7 b8 b9=>?_⟩,⟨rfl,rfl,rfl,by simp,fun k hk=>U k (fun he=>hg (he▸hk))⟩⟩
 ·rw[AH.DG _ _ _ _ J p]at hy;by_cases j:R=b
  ·rw[if_pos j]at hy;cases hy;exact⟨g,o,z,by rw[j];exact hb,hg,hx _ (by simp[b3])⟩
  ·rw[if_neg j]at hy;obtain⟨g2,o2,z2,m1,m2,m3⟩:=I.Bq R y p hy;exact⟨g2,o2,z2,m1,m2,m3.heap (U g2 (I.inj R b y _ _ _ p J hy h m1 hb j))⟩
 ·have alive:∀R,R<2^depth->∀x,(H.put b (some x1)).get R=some x->∃x',H.get R=some x':=fun R p x hx=>by
   rw[AH.DG _ _ _ _ J p]at hx;by_cases j:R=b
   ·exact⟨_,by rw[j];exact h⟩
   ·rw[if_neg j]at hx;exact⟨_,hx⟩
  obtain⟨y1,c0⟩:=alive b1 a8 _ b5;obtain⟨y2,c1⟩:=alive b2 a1 _ b6;exact I.inj b1 b2 _ _ _ _ a8 a1 c0 c1 b7 b8 b9
theorem OK (j:AO base e H w) {b g o z:Nat} (p:e b=some (g,o,z)) {es es2:List (AV×AV×Nat)} {c c2:Nat} (h:H.get b=some (.map es c)) {es':List MapEntry}
  (I:BP e (es2.map (·.1)) (es'.map (·.key))) (J:BP e (es2.map (·.2.1)) (es'.map (·.val))) (R:es2.map (·.2.2)=es'.map (·.born)) :
  AO base e (H.put b (some (.map es2 c2))) {w with heap:=w.heap.setIfInBounds g (.map es'.toArray c2)}/\B8 base.S w {w with heap:=w.heap.setIfInBounds g (.map es'.toArray c2)}:=
 Qv j p h fun U hw=>⟨es',hw,I,J,R⟩
theorem Pk:∀(es:List (AV×AV×Nat)) (i:Nat) (y:AV),(setAt es i y).map (·.1)=es.map (·.1)/\(setAt es i y).map (·.2.1)=(es.map (·.2.1)).set i y/\(setAt es i y).map (·.2.2)=es.map (·.2.2)
 | [],_,_=>⟨rfl,rfl,rfl⟩
 |(k,v,n)::es,0,y=>⟨rfl,rfl,rfl⟩
 |(k,v,n)::es,i+1,y=>by
  obtain⟨j,o,p⟩:=Pk es i y;exact⟨by show k::_=_;rw[j];rfl,by show v::_=_;rw[o];rfl,by show n::_=_;rw[p];rfl⟩
theorem Iw (hT:B3 P T) {t:TypeId} {m k y:AV} {m' U y':Value} (hr:AO base e H w) (hm:DR e m m') (hk:DR e k U) (hy:DR e y y') (h:D6 T t m k y H=some (.val x H')) :
  Cl P base e w (do Instr.mapUpdate t m' U y';pure .skip) x H':=by
 unfold D6 at h;split at h
 ·rename_i kt el kv hu;cases hk;split at h
  ·rename_i d a6;obtain⟨u1,u2⟩:=V3 hT a6;cases hp:TU H m U y with
   |none=>rw[hp]at h;cases h
   |some H2=>
    rw[hp]at h;cases h;unfold TU at hp;split at hp
    ·rename_i b;split at hp
     ·rename_i es c hg;cases hm with
      |mp hb=>
       rename_i g o z;obtain⟨e2,es',k1,k2,k3,k4⟩:=Lf hr hb hg;split at hp
       ·rename_i hf;cases hp;obtain⟨r',r1,J⟩:=JX a6 es es' 0 _ hf k2 k3;rcases J with⟨-,J⟩|⟨j,y1,y2,J,-⟩
        ·subst J;obtain⟨a1,a2⟩:=OK (c2:=c+1) (es2:=es++[(.v U,y,c)]) (es':=es'++[⟨U,y',c⟩]) hr hb hg (by rw[bN,bN];exact k2.append (.cons (.v _) .nil)) (by rw[bN,bN];exact k3.append (.cons hy .nil)) (by rw[bN,bN,k4];rfl);refine⟨e,_,.skip,Go.undef,Fp.refl e,?_,.inr ⟨rfl,rfl⟩,.v _,a1,a2⟩;unfold Instr.mapUpdate;simp[aX,Bn hT hu w,eD k1,fW u1 u2,Instr.findKey,cJ u1,r1,MapKept.run_setObj_map _ k1]
        ·cases J
       ·rename_i i y0 hf;cases hp;obtain⟨r',r1,J⟩:=JX a6 es es' 0 _ hf k2 k3;rcases J with⟨J,-⟩|⟨j,y1,y2,J,r3,r4,⟨en,r5,I⟩,-⟩
        ·cases J
        ·cases J;subst r3;rw[Nat.sub_zero]at r5;have b2:en.key=U:=by
          rcases(P8 a6).2 with⟨s,rfl,rfl⟩|⟨jj,n,rfl,rfl⟩
          ·generalize en.key=q at I;cases q<;>first
            |(cases I;done)
            |(rename_i s2
              have h9:some (s==s2)=some true:=I;injection h9 with h9
              rw[bytes_beq]at h9;have a7:=dI.1 h9;congr 1;cases s;cases s2;congr 1;exact(fT a7).symm)
          ·generalize en.key=q at I;cases q<;>first
            |(cases I;done)
            |(rename_i k2 n2
              unfold Instr.sameNow at I;dsimp only at I;split at I
              ·rename_i c6;injection I with I
               have a7:=dI.1 I;rw[c6,a7]
              ·cases I)
         obtain⟨s1,s2,s3⟩:=Pk es i y;have b3:∀(f:MapEntry->MapEntry),(∀q,(f q).born=q.born)->f en=⟨U,y',en.born⟩->((es'.modify i f).map (·.key)=es'.map (·.key)/\(es'.modify i f).map (·.val)=(es'.map (·.val)).set i y'/\(es'.modify i f).map (·.born)=es'.map (·.born)):=fun f c7 b4=>by
          have R:∀j,(es'.modify i f)[j]?=if i=j then some (f en)else es'[j]?:=fun j=>by
           rw[List.getElem?_modify];by_cases p:i=j
           ·subst p;rw[if_pos rfl,r5];simp
           ·rw[if_neg p];cases es'[j]?<;>simp[p]
          refine⟨?_,?_,?_⟩
          ·apply fQ;intro j;rw[cN,cN,R];by_cases p:i=j
           ·subst p;rw[if_pos rfl,r5,b4];simp[b2]
           ·rw[if_neg p]
          ·apply fQ;intro j;rw[cN,jC,R];by_cases p:i=j
           ·subst p;have:=(bC.1 r5).1;rw[if_pos rfl,if_pos rfl,b4,bG,if_pos this];rfl
           ·rw[if_neg p,if_neg p,cN]
          ·apply fQ;intro j;rw[cN,cN,R];by_cases p:i=j
           ·subst p;rw[if_pos rfl,r5];simp[c7]
           ·rw[if_neg p]
         obtain⟨m1,m2,m3⟩:=b3 (fun q=>{q with key:=U,val:=y'}) (fun _=>rfl) rfl;obtain⟨a1,a2⟩:=OK (c2:=c) (es2:=setAt es i y) (es':=es'.modify i fun q=>{q with key:=U,val:=y'}) hr hb hg (by rw[s1,m1];exact k2) (by rw[s2,m2];exact k3.set i hy) (by rw[s3,m3];exact k4);refine⟨e,_,.skip,Go.undef,Fp.refl e,?_,.inr ⟨rfl,rfl⟩,.v _,a1,a2⟩;unfold Instr.mapUpdate;simp[aX,Bn hT hu w,eD k1,fW u1 u2,Instr.findKey,cJ u1,r1,MapKept.run_setObj_map _ k1,r5,b2,MapKept.run_keyThatStays u2]
       ·cases hp
     ·cases hp
    ·cases hp
  ·cases h
 ·cases h
end
end Ev
end
section
open Go.RowKit
namespace Ev
section
variable {P:Program} {T:Tb} {base:CJ} {e:Env} {H H':AH} {w:World} {x:AV}
theorem V0 (I:AO base e H w) {b:Nat} (hb:b<2^depth):AO base e (H.put b none) w:=by
 have alive:∀j,j<2^depth->∀x,(H.put b none).get j=some x->j≠b/\H.get j=some x:=fun j o x J=>by
  rw[AH.DG _ _ _ _ hb o]at J;by_cases p:j=b
  ·rw[if_pos p]at J;cases J
  ·rw[if_neg p]at J;exact⟨p,J⟩
 exact⟨I.size,I.KN,I.next,I.fresh,fun j y o hy=>I.Bq j y o (alive j o y hy).2,fun b1 b2 x1 x2 p1 p2 R U a1 a6 a7 a8 b0=>I.inj b1 b2 _ _ _ _ R U (alive b1 R _ a1).2 (alive b2 U _ a6).2 a7 a8 b0⟩
structure App (P:Program) (w:World) (QL:Sem Value) (el:TypeId) (size n:Nat) (s':Value) (news:List Value):Prop where
 len:news.length=n*size
 nil:s'=.slice none 0 0->n=0->QL.run P w=.ok s' w
 room:∀g off len cap w',s'=.slice (some ⟨g,off,none⟩) len cap->len+n<=cap->(storeCells ⟨g,off+len*size,none⟩ news).run P w=.ok () w'->QL.run P w=.ok (.slice (some ⟨g,off,none⟩) (len+n) cap) w'
 grow:∀bs len cap (olds:List Value),s'=.slice bs len cap->(Builtin.firstCells size len s').run P w.drew=.ok olds.toArray w.drew->cap<len+n->len+n<200000->
  ∃nc more,len+n<=nc/\more.length=(nc-(len+n))*size/\QL.run P w=.ok (.slice (some ⟨w.heap.size,0,none⟩) (len+n) nc) (w.drew.alloc (.cells (olds++news++more).toArray el))
theorem MG {QL:Sem Value} {R:TypeId} {size n len p:Nat} {all:List AV} {ys more:List Value} (hr:AO base e H w) (I:BP e all ys) (hlen:ys.length=(len+n)*size) (j:more.length=(p-(len+n))*size) (U:len+n<=p) (hn:H.next+1<=2^depth)
  (J:QL.run P w=.ok (.slice (some ⟨w.heap.size,0,none⟩) (len+n) p) (w.drew.alloc (.cells (ys++more).toArray R))) :
  Cl P base e w (do pure (.value (<-QL))) (.Bm H.next 0 (len+n) (.to size)) (H.alloc (.cells all R)):=by
 obtain⟨h1,h2⟩:=Yq (more:=more) hr.drew R hn I;refine⟨_,_,_,_,EF hr.drew _,by simp only[aX,J,cW];rfl,.inl rfl,.Bm (g:=w.heap.size) (o:=0) (z:=(ys++more).length) (by unfold Env.new;rw[if_pos rfl];rfl) ?_ U,h1,((B8.refl _ _).drew).trans h2⟩;show 0+0+p*size=(ys++more).length;rw[aO,hlen,j,<-iJ,show len+n+(p-(len+n))=p by omega];omega
theorem J6 {QL:Sem Value} {el:TypeId} {s:AV} {s':Value} {new:List AV} {news:List Value} {n size:Nat} (j5:∀b off len q,s≠.tl b off len q) (J:AO base e H w) (hs:DR e s s') (p:BP e new news) (ha:App P w QL el size n s' news) (j6:0<size) (o4:n<100000) (h5:new.all K4=true)
  (h:Eu H el s new n size=some (.val x H')) (hn:H'.next<=2^depth):Cl P base e w (do pure (.value (<-QL))) x H':=by
 unfold Eu at h;split at h
 ·cases hs;cases c6:(n==0)with
  |true=>
   rw[c6]at h;cases h;have:=ha.nil rfl (by simpa using c6);exact AZ J this (.v _)
  |false=>
   rw[c6]at h;cases h;have l7:n≠0:=by simpa using c6
   obtain⟨nc,more,g1,g2,g3⟩:=ha.grow none 0 0 [] rfl (run_firstCells_none w.drew size 0 0 0) (by omega) (by omega);rw[eH,bO]at g3;rw[bO]at g1 g2;have:=MG (P:=P) (len:=0) J p (by rw[ha.len,bO]) (by rw[bO];exact g2) (by omega) hn (by rw[bO];exact g3);rw[bO]at this;exact this
 ·rename_i b off len cap;cases hs with
  |Bm hb hc hl=>
   rename_i g o z c;cases e5:Nat.blt len 100000 with
   |false=>rw[e5]at h;cases h
   |true=>
    rw[e5]at h;have hlen:=fE ((dP).symm.trans (eq_true e5));dsimp only[cond_true]at h;split at h
    ·cases h
    ·rename_i b3 hold;obtain⟨a7,o1,o2,o3⟩:=IJ J hold hb;have j8:(Builtin.firstCells size len (.slice (some ⟨g,o+off,none⟩) len c)).run P w.drew=.ok a7.toArray w.drew:=run_firstCells_some w.drew size len ⟨g,o+off,none⟩ len c a7 o2 (fun j v hj=>by rw[Addr.add_mid];exact o3 j v hj);have grow:∀ {H2:AH},AO base e H2 w->H2.next=H.next->c<len+n->H2.next+1<=2^depth->Cl P base e w (do pure (.value (<-QL))) (.Bm H2.next 0 (len+n) (.to size)) (H2.alloc (.cells (b3++new) el)):=fun h2 he b4 j9=>by
      obtain⟨nc,more,g1,g2,g3⟩:=ha.grow _ len c a7 rfl j8 b4 (by omega);exact MG h2 (o1.append p) (by rw[aO,o2,ha.len,<-iJ]) g2 g1 j9 g3
     have a8:∀ {H2:AH},Gb H b (off+len*size) new=some H2->len+n<=c->Cl P base e w (do pure (.value (<-QL))) (.Bm b off (len+n) cap) H2:=fun I hle=>by
      obtain⟨w',k1,k2,k3,_⟩:=Kj (P:=P) J I hb p;have b7:=ha.room g (o+off) len c w' rfl hle (by rw[fJ];exact k1);exact⟨e,w',_,_,Fp.refl e,by simp only[aX,b7,cW];rfl,.inl rfl,.Bm hb hc hle,k2,k3⟩
     split at h
     ·rename_i c';have k0:c=c':=hc;subst k0;cases hle:(len+n).ble c with
      |true=>
       rw[hle]at h;dsimp only[cond_true]at h;split at h
       ·rename_i H2 I;cases h;exact a8 I (bQ hle)
       ·cases h
      |false=>
       rw[hle]at h;cases h;refine grow J rfl ?_ hn;have:¬len+n<=c:=fun hh=>by rw[Nat.ble_eq_true_of_le hh]at hle;cases hle
       omega
     ·rename_i s2;have k4:o+off+c*s2=z:=hc;cases b8:(s2==size&&M0 H b el)with
      |false=>rw[b8]at h;cases h
      |true=>
       rw[b8]at h;rw[aG]at b8;obtain⟨b8,c7⟩:=b8;have k5:s2=size:=by simpa using b8
       subst k5;dsimp only[cond_true]at h;have i1:∃l t,H.get b=some (.cells l t)/\t=el:=by
        unfold M0 at c7;split at c7
        ·rename_i l t hg;exact⟨l,t,hg,by simpa using c7⟩
        ·cases c7
       obtain⟨l,t,hg,i6⟩:=i1;subst i6;obtain⟨g',o',z',q1,q2,cs,q3,q4,q5,q6⟩:=J.Bq b _ (J.Vc hb) hg;rw[hb]at q1;cases q1;split at h
       ·rename_i H2 I;cases h;refine a8 I ?_;have n3:off+len*s2+new.length<=l.length:=by
         unfold Gb at I;rw[hg]at I;dsimp only at I;cases c2:((off+len*s2+new.length).ble l.length&&new.all K4)with
         |false=>rw[c2]at I;cases I
         |true=>
          rw[aG]at c2;exact bQ c2.1
        have h1:new.length=n*s2:=by rw[<-p.length,ha.len]
        have h2:(len+n)*s2<=c*s2:=by
         rw[iJ];omega
        exact Nat.le_of_mul_le_mul_right h2 j6
       ·cases h;by_cases hle:len+n<=c
        ·
         have h2:(len+n)*s2<=c*s2:=fD _ hle;rw[iJ]at h2;have k7:news.length=n*s2:=ha.len;have e7:∀v∈news,v.oneCell'=true:=fun v k8=>by
          obtain⟨i,hi⟩:=eV.1 k8;have b4:i<new.length:=by rw[<-p.length];exact(bC.1 hi).1
          obtain⟨y,hy,hd⟩:=p.get (aQ b4);rw[hy]at hi;cases hi;exact QD hd (aY.1 h5 _ (bK b4))
         have I:=run_storeCells_at (P:=P) g (o+off+len*s2) t news 0 cs w q3 (by omega) e7;rw[dD]at I;have b7:=ha.room g (o+off) len c _ rfl hle I;obtain⟨R,hR⟩:∃R,(cs.toList.take (o+off+len*s2)++news++cs.toList.drop (o+off+len*s2+news.length)).toArray=R:=⟨_,rfl⟩;rw[hR]at b7;have e8:(w.setRow g R).heap[g]?=some (.cells R t (0,0)):=setRow_heap w g cs R t (0,0) q3;have e4:∀k,k≠g->(w.setRow g R).heap[k]?=w.heap[k]?:=fun k hk=>setRow_other w g k R hk
         have c3:(w.setRow g R).heap.size=w.heap.size:=setRow_size w g R;have p3:H.next+1<=2^depth:=hn;have U:=EF J (g,o+off,z);have hrel:AO base (Env.new e H.next (g,o+off,z)) ((H.put b none).alloc (.cells (b3++new) t)) (w.setRow g R):=by
          have c9:=J.Vc hb;have p4:b≠H.next:=Nat.ne_of_lt (J.lt hb);have alive:∀b',b'<2^depth->∀y,((H.put b none).alloc (.cells (b3++new) t)).get b'=some y->(b'=H.next/\y=.cells (b3++new) t)\/(b'≠H.next/\b'≠b/\H.get b'=some y):=fun b' a1 y hy=>by
           rw[AH.ED _ _ _ (by show H.next<_;omega) a1]at hy;by_cases h1:b'=H.next
           ·rw[if_pos (show b'=(H.put b none).next from h1)]at hy;cases hy;exact .inl ⟨h1,rfl⟩
           ·rw[if_neg (show ¬b'=(H.put b none).next from h1),AH.DG _ _ _ _ c9 a1]at hy;by_cases h2:b'=b
            ·rw[if_pos h2]at hy;cases hy
            ·rw[if_neg h2]at hy;exact .inr ⟨h1,h2,hy⟩
          refine⟨by rw[c3];exact J.size,fun b' a1=>⟨iZ (J.KN b' a1).1,by unfold Env.new;rw[if_neg (Nat.ne_of_lt (J.KN b' a1).1)];exact(J.KN b' a1).2⟩,hn,fun b' a1=>?_,fun b' y a1 hy=>?_,fun b1 b2 x1 x2 p1 p2 c4 b0 l1 l2 b5 b6 j2=>?_⟩
          ·have n5:H.next+1<=b':=a1;unfold Env.new;rw[if_neg (by omega)];exact J.fresh b' (by omega)
          ·rcases alive b' a1 y hy with⟨rfl,rfl⟩|⟨h1,h2,h3⟩
           ·refine⟨g,o+off,z,by unfold Env.new;rw[if_pos rfl],q2,R,e8,?_,?_,?_⟩
            ·rw[<-hR];simp;omega
            ·rw[aO,<-o1.length,<-p.length,o2,k7];omega
            ·have l3:a7=(cs.toList.drop (o+off)).take (len*s2):=by
              apply fQ;intro j;rw[cE];by_cases hj:j<len*s2
              ·rw[if_pos hj,dS];have b4:j<a7.length:=by rw[o2];exact hj
               have h9:=o3 j _ (aQ b4);rw[cell_of_row w g _ cs t (0,0) q3]at h9;rw[aQ b4,<-h9];simp
              ·rw[if_neg hj,gX (by rw[o2];omega)]
             rw[<-hR];show BP _ (b3++new) (((cs.toList.take (o+off+len*s2)++news++cs.toList.drop (o+off+len*s2+news.length)).drop (o+off)).take (b3++new).length);have hN:(b3++new).length=len*s2+news.length:=by rw[aO,<-o1.length,<-p.length,o2]
             rw[hN,I7 cs.toList news (o+off) (len*s2) (len*s2+news.length) (by simp;omega) (aL _) (by simp;omega),List.take_take,fF (by omega),<-l3,List.drop_of_length_le (by rw[bF];omega),cP];exact(o1.append p).mono U
           ·obtain⟨g2,e0,z2,m1,m2,m3⟩:=J.Bq b' y a1 h3;exact⟨g2,e0,z2,U _ _ m1,m2,(m3.mono U).heap (e4 g2 (J.inj b' b y _ _ _ a1 c9 h3 hg m1 hb h2))⟩
          ·rcases alive b1 c4 x1 l1 with⟨e1,-⟩|⟨e1,e2,e3⟩<;>rcases alive b2 b0 x2 l2 with⟨f1,-⟩|⟨f1,f2,f3⟩
           ·exact absurd (e1.trans f1.symm) j2
           ·obtain⟨g2,e0,z2,m1,m2,m3⟩:=J.Bq b2 x2 b0 f3;rw[U _ _ m1]at b6;cases b6;unfold Env.new at b5;rw[if_pos e1]at b5;cases b5;exact fun hh=>J.inj b2 b x2 _ _ _ b0 c9 f3 hg m1 hb f2 hh.symm
           ·obtain⟨g2,e0,z2,m1,m2,m3⟩:=J.Bq b1 x1 c4 e3;rw[U _ _ m1]at b5;cases b5;unfold Env.new at b6;rw[if_pos f1]at b6;cases b6;exact fun hh=>J.inj b1 b x1 _ _ _ c4 c9 e3 hg m1 hb e2 hh
           ·obtain⟨g1,p7,z1,m1,-,-⟩:=J.Bq b1 x1 c4 e3;obtain⟨g2,e0,z2,n1,-,-⟩:=J.Bq b2 x2 b0 f3;rw[U _ _ m1]at b5;rw[U _ _ n1]at b6;cases b5;cases b6;exact J.inj b1 b2 x1 x2 _ _ c4 b0 e3 f3 m1 n1 j2
         refine⟨Env.new e H.next (g,o+off,z),w.setRow g R,.value (.slice (some ⟨g,o+off+0,none⟩) (len+n) c),_,U,?_,.inl rfl,.Bm (g:=g) (o:=o+off) (z:=z) (by unfold Env.new;rw[if_pos rfl]) k4 hle,hrel,⟨rfl,rfl,rfl,by rw[c3];exact aL _,fun k hk=>e4 k (fun he=>q2 (he▸hk))⟩⟩;simp only[aX,b7,cW];rfl
        ·exact grow (V0 J (J.Vc hb)) rfl (by omega) hn
 ·exact absurd rfl (j5 _ _ _ _)
 ·cases h
theorem LD {QL:Sem Value} {el:TypeId} {s:AV} {s':Value} {new:List AV} {news:List Value} {n size:Nat} (hr:AO base e H w) (hs:DR e s s') (I:BP e new news) (ha:App P w QL el size n s' news) (a7:0<size) (a8:n<100000) (a1:new.all K4=true)
  (h:Eu H el s new n size=some (.val x H')) (hn:H'.next<=2^depth):Cl P base e w (do pure (.value (<-QL))) x H':=by
 by_cases b0:∃b off len q,s=.tl b off len q
 ·obtain⟨b,off,len,q,rfl⟩:=b0;unfold Eu at h;dsimp only at h;cases hs with
  |tl hb ht=>
   rename_i g o z p k;cases U:(n==0)with
   |true=>
    rw[U]at h;cases h;have b1:n=0:=by simpa using U
    subst b1;have b2:news=[]:=by
     have:=ha.len;rw[gU]at this;exact List.length_eq_zero_iff.1 this
    subst b2;have:=ha.room g p 0 k w rfl (eN _) (by simp[storeCells]);exact AZ hr this (.tl hb ht)
   |false=>
    rw[U]at h;dsimp only[cond_false]at h;have c6:n≠0:=by simpa using U
    cases J:(q==size&&M0 H b el)with
    |false=>rw[J]at h;cases h
    |true=>
     rw[J]at h;dsimp only[cond_true]at h;have b3:=J;rw[aG]at J;have hq:q=size:=by simpa using J.1
     subst hq;split at h
     ·rename_i b9 R c0;cases h;obtain⟨c,k1,k2,k3,k4⟩:=ht;rcases k4 with⟨hc,rfl,rfl⟩|⟨hc,rfl,rfl⟩
      ·obtain⟨nc,more,g1,g2,g3⟩:=ha.grow _ 0 0 [] rfl (run_firstCells_some w.drew q 0 ⟨g,o+off,none⟩ 0 0 [] (by simp) (fun j v hj=>by simp at hj)) (by omega) (by omega);rw[eH,bO]at g3;rw[bO]at g1 g2;have:=MG (P:=P) (len:=0) (V0 hr (hr.Vc hb)) I (by rw[ha.len,bO]) (by rw[bO];exact g2) (by omega) hn (by rw[bO];exact g3);rw[bO]at this;exact this
      ·have c1:CpR o z (off+len*q) (c-len) (.to q):=by
        show o+(off+len*q)+(c-len)*q=z;rw[Nat.sub_mul];have:=fD q k2;omega
       have b4:=DR.Bm (len:=0) hb c1 (eN _);rw[<-fJ]at b4;have hold:b9=[]:=by
        unfold I5 at R;split at R
        ·generalize (off+len*q+0).ble _=d at R;cases d with
         |false=>cases R
         |true=>cases R;simp
        ·generalize (off+len*q+0).ble _=d at R;cases d with
         |false=>cases R
         |true=>cases R;simp
        ·cases R
       subst hold;refine J6 (s:=.Bm b (off+len*q) 0 (.to q)) nofun hr b4 I ha a7 a8 a1 ?_ hn;unfold Eu;have c2:Nat.blt 0 100000=true:=by rw[dP];decide
       simp only[c2,cX,gU,R,b3,dD,c0,eH,bO]
     ·cases h
 ·exact J6 (fun b off len q hq=>b0 ⟨b,off,len,q,hq⟩) hr hs I ha a7 a8 a1 h hn
end
end Ev
end
section
open Go.RowKit
namespace Ev
section
variable {P:Program} {T:Tb} {base:CJ} {e:Env} {H H':AH} {w:World} {x:AV}
theorem Zar {t u ty o:TypeId} {i:TypeInfo} {z:Value} {s' x':Value} {n:Nat} {news:List Value} (hu:P.underlying t=some (.slice o)) (hi:P.info? o=some i) (hz:i.zero=some z) (j:Src P i.size u x' n news w) (a6:z.cells.size=i.size) (b1:i.bytes<100000) :
  App P w (Builtin.append_ #[t,u] ty #[s',x']) o i.size n s' news:=by
 refine⟨j.newsLen,fun p I=>?_,fun g off len cap w' p I U=>?_,fun bs len cap J p I U h4=>?_⟩
 ·subst p;subst I;have hn:news=[]:=aZ (by rw[j.newsLen,gU]);rcases j.kind with⟨e',R⟩|R<;>simp[Builtin.append_,cJ hu,cJ R,sizeOf,typeInfo,hi,j.len,j.cells]
 ·subst p;have a7:(storeCells ((⟨g,off,none⟩:Addr).add (len*i.size)) news).run P w=.ok () w':=by rw[Addr.add_mid];exact U
  rcases j.kind with⟨e',R⟩|R<;>simp[Builtin.append_,cJ hu,cJ R,sizeOf,typeInfo,hi,j.len,I,j.cells,a7]
 ·subst p;have hg:=run_append_grow_src (P:=P) w t u ty o i z hu hi hz bs len cap J I x' n news j U (by omega) (growslice_fits U (by
   have:(len+n)*i.bytes<=200000*100000:=iU (by omega) (by omega);omega))
  refine⟨_,(Builtin.zeroCells z.cells (grownCap w (len+n) cap o-(len+n))).toList,grownCap_ge w (len+n) cap o,?_,?_⟩
  ·rw[bS,size_zeroCells,a6]
  ·rw[hg];congr 3;apply fT;simp
theorem Zk {t u ty el:TypeId} {i:TypeInfo} {z:Value} {s':Value} {k k2:IntKind} {n:Nat} (hu:P.underlying t=some (.slice el)) (j:P.underlying u=some (.int k2)) (hi:P.info? el=some i) (hz:i.zero=some z) (a7:z.cells.size=i.size) (c3:0<i.size) (b7:i.bytes<100000) (hn:n<100000)
  (c0:∀v∈B4 z.cells.toList n,v.oneCell'=true) :
  App P w (Builtin.append_ #[t,u] ty #[s',.int k (n:Int)]) el i.size n s' (B4 z.cells.toList n):=by
 have w1:IntKind.i64.wrap (n:Int)=(n:Int):=cM _ (by omega);have hmul:(n:Int)*(i.bytes:Int)<=2^48:=by
  have:n*i.bytes<=100000*100000:=iU (Nat.le_of_lt hn) (Nat.le_of_lt b7);have I:((n*i.bytes:Nat):Int)<=((100000*100000:Nat):Int):=Int.ofNat_le.2 this;rw[Int.natCast_mul]at I;omega
 have J:¬((281474976710656:Int)<(n:Int)*(i.bytes:Int)):=by omega
 have a8:=Fe z.cells (by omega) n;have U:Builtin.zeroCells z.cells n=(B4 z.cells.toList n).toArray:=by
  apply fT;unfold Builtin.zeroCells;rw[a8]
 have hlen:(B4 z.cells.toList n).length=n*i.size:=by rw[<-a8];simp[a7]
 have b0:∀w',(if n*i.size=0 then(pure #[]:Sem (Array Value))else do pure (Builtin.zeroCells (<-zeroValue el).cells n)).run P w'=.ok (B4 z.cells.toList n).toArray w':=fun w'=>by
  split
  ·rename_i p;have:B4 z.cells.toList n=[]:=aZ (by rw[hlen];exact p);rw[this];rfl
  ·simp[zeroValue,typeInfo,aX,hi,hz,U]
 refine⟨hlen,fun h1 I=>?_,fun g off len cap w' h1 I h3=>?_,fun bs len cap c1 h1 I h3 h4=>?_⟩
 ·subst h1;subst I;have w0:IntKind.i64.wrap 0=0:=by decide
  simp[Builtin.append_,cJ hu,cJ j,sizeOf,typeInfo,hi,asInt,asIntOf,w0]
 ·subst h1;have a1:(storeCells ((⟨g,off,none⟩:Addr).add (len*i.size)) (B4 z.cells.toList n)).run P w=.ok () w':=by rw[Addr.add_mid];exact h3
  have ha:=b0 w;have o:¬((n:Int)<0):=by omega
  by_cases p:n*i.size=0
  ·rw[if_pos p]at ha;have he:B4 z.cells.toList n=[]:=aZ (by rw[hlen];exact p);rw[he]at a1;simp[Builtin.append_,cJ hu,cJ j,sizeOf,typeInfo,hi,asInt,asIntOf,w1,o,J,p,I,a1]
  ·simp[Builtin.append_,cJ hu,cJ j,sizeOf,typeInfo,zeroValue,hi,hz,asInt,asIntOf,w1,o,J,p,I,U,a1]
 ·subst h1;have o:¬((n:Int)<0):=by omega
  have b3:¬(len+n<=cap):=by omega
  have R:¬(281474976710656<Builtin.nextslicecap (len+n) cap*i.bytes):=by
   have:=growslice_fits (bytes:=i.bytes) h3 (by
    have:(len+n)*i.bytes<=200000*100000:=iU (by omega) (by omega);omega)
   omega
  have b4:¬(9223372036854775807<((len:Int)+(n:Int))):=by omega
  refine⟨_,(Builtin.zeroCells z.cells (grownCap w (len+n) cap el-(len+n))).toList,grownCap_ge w (len+n) cap el,by rw[bS,size_zeroCells,a7],?_⟩;by_cases p:n*i.size=0
  ·have he:B4 z.cells.toList n=[]:=aZ (by rw[hlen];exact p);rw[he];simp[Builtin.append_,cJ hu,cJ j,sizeOf,typeInfo,zeroValue,hi,hz,asInt,asIntOf,w1,o,J,p,b3,b4,R,Question.forced,I,newRow,grownCap];congr 2;apply fT;simp
  ·simp[Builtin.append_,cJ hu,cJ j,sizeOf,typeInfo,zeroValue,hi,hz,asInt,asIntOf,w1,o,J,p,b3,b4,R,Question.forced,I,newRow,grownCap,U];congr 2;apply fT;simp
theorem QM (hr:AO base e H w) {size n:Nat} {y:AV} {y':Value} {l:List AV} {u:TypeId} (I:DR e y y') (hk:(∃J,P.underlying u=some (.slice J))\/P.underlying u=some .string) (a7:(∃s,y=.v (.string s))->P.underlying u=some .string) (R:(¬∃s,y=.v (.string s))->∃J,P.underlying u=some (.slice J)) (U:l.all K4=true) (h:rowOf H size y=some (l,n)) :
  ∃ys,BP e l ys/\Src P size u y' n ys w:=by
 have a8:∀ys,BP e l ys->∀v∈ys,v.oneCell'=true:=fun ys hl v b0=>by
  obtain⟨i,hi⟩:=eV.1 b0;have a1:i<l.length:=by rw[<-hl.length];exact(bC.1 hi).1
  obtain⟨y,I,hd⟩:=hl.get (aQ a1);rw[I]at hi;cases hi;exact QD hd (aY.1 U _ (bK a1))
 unfold rowOf at h;split at h
 ·rename_i c;cases h;cases I;obtain⟨J,he⟩:=R (fun⟨s,hs⟩=>by cases hs);exact⟨[],.nil,Src.ofNil w he c⟩
 ·rename_i b off len cap;split at h
  ·rename_i l0 hl;cases h;cases I with
   |Bm hb hc hle=>
    rename_i g o z c;obtain⟨ys,h1,h2,h3⟩:=IJ hr hl hb;obtain⟨J,he⟩:=R (fun⟨s,hs⟩=>by cases hs);exact⟨ys,h1,Src.ofSlice w he ⟨g,o+off,none⟩ n c ys h2 (fun j v hj=>by rw[Addr.add_mid];exact h3 j v hj) (a8 ys h1)⟩
  ·cases h
 ·rename_i s;cases p:(size==1)with
  |false=>rw[p]at h;cases h
  |true=>
   rw[p]at h;cases h;have:size=1:=by simpa using p
   subst this;cases I;refine⟨byteCells s,?_,Src.ofString w (a7 ⟨s,rfl⟩) s⟩;unfold byteCells;have:=BP.flat (e:=e) (s.data.toList.map fun b=>Value.int .u8 b.toNat);rw[fI]at this;exact this
 ·cases h
end
end Ev
end
section
open Go.RowKit
namespace Ev
section
variable {P:Program} {T:Tb} {base:CJ} {e:Env} {H H':AH} {w:World} {x:AV}
theorem E4 {a b:Nat} (h:Nat.blt a b=true):a<b:=fE ((dP).symm.trans (eq_true h))
theorem Kt (hT:B3 P T) {str:Bool} {t u ty R:TypeId} {i:TypeInfo} {z:Value} {s y:AV} {s' y':Value} (U:AO base e H w) (hs:DR e s s') (hy:DR e y y') (ht:P.underlying t=some (.slice R)) (hu:if str then P.underlying u=some .string else ∃e',P.underlying u=some (.slice e')) (hi:P.info? R=some i) (hz:i.zero=some z)
  (h:Gi str H R i z s y=some (.val x H')) (hn:H'.next<=2^depth):Cl P base e w (do pure (.value (<-Builtin.append_ #[t,u] ty #[s',y']))) x H':=by
 unfold Gi at h;split at h
 ·rename_i new n j;cases J:(Fs y==str&&Nat.blt 0 i.size&&z.cells.size==i.size&&Nat.blt i.bytes 100000&&Nat.blt n 100000&&new.all K4)with
  |false=>rw[J]at h;cases h
  |true=>
   rw[J]at h;simp only[aG]at J;obtain⟨⟨⟨⟨⟨o,b1⟩,b2⟩,b3⟩,b4⟩,b5⟩:=J;have c2:z.cells.size=i.size:=by simpa using b2
   have p:∃ys,BP e new ys/\Src P i.size u y' n ys w:=by
    cases str with
    |true=>
     refine QM U hy (.inr (by simpa using hu)) (fun _=>by simpa using hu) (fun a8=>?_) b5 j;exfalso;refine a8 ?_;unfold Fs at o;split at o
     ·exact⟨_,rfl⟩
     ·cases o
    |false=>
     have I:∃e',P.underlying u=some (.slice e'):=by simpa using hu
     refine QM U hy (.inl I) (fun⟨s,hs⟩=>?_) (fun _=>I) b5 j;rw[hs]at o;cases o
   obtain⟨ys,k1,k2⟩:=p;exact LD U hs k1 (Zar ht hi hz k2 c2 (E4 b3)) (E4 b1) (E4 b4) b5 h hn
 ·cases h
theorem Oj (hT:B3 P T) {t u ty p:TypeId} {k2:IntKind} {i:TypeInfo} {z:Value} {s y:AV} {s' y':Value} (hr:AO base e H w) (hs:DR e s s') (hy:DR e y y') (ht:P.underlying t=some (.slice p)) (hu:P.underlying u=some (.int k2)) (hi:P.info? p=some i) (hz:i.zero=some z)
  (h:GW H p i z s y=some (.val x H')) (hn:H'.next<=2^depth):Cl P base e w (do pure (.value (<-Builtin.append_ #[t,u] ty #[s',y']))) x H':=by
 unfold GW at h;split at h
 ·rename_i n I;obtain⟨k,rfl⟩:=D9 hy I;cases o:(Nat.blt 0 i.size&&Nat.blt i.bytes 100000&&Nat.blt n 100000&&z.cells.size==i.size&&(Em (z.cells.toList.map .v) n).all K4)with
  |false=>rw[o]at h;cases h
  |true=>
   rw[o]at h;simp only[aG]at o;obtain⟨⟨⟨⟨b1,b2⟩,b3⟩,b4⟩,J⟩:=o;have c4:z.cells.size=i.size:=by simpa using b4
   have R:BP e (Em (z.cells.toList.map .v) n) (B4 z.cells.toList n):=by rw[EG];exact BP.flat _
   have j:∀v∈B4 z.cells.toList n,v.oneCell'=true:=fun v U=>by
    rw[EG]at J;have:=aY.1 J (.v v) (dF.2 ⟨v,U,rfl⟩);exact QD (e:=e) (.v v) this
   exact LD hr hs R (Zk ht hu hi hz c4 (E4 b1) (E4 b2) (E4 b3) j) (E4 b1) (E4 b3) J h hn
 ·cases h
theorem S4 (j:B3 P T) {ts:Array TypeId} {ty:TypeId} {s y:AV} {s' y':Value} (I:AO base e H w) (J:DR e s s') (R:DR e y y') (h:KM T H ts s y=some (.val x H')) (U:H'.next<=2^depth) :
  Cl P base e w (do pure (.value (<-Builtin.append_ ts ty #[s',y']))) x H':=by
 unfold KM at h;split at h
 ·rename_i t u a1;have a6:ts=#[t,u]:=fT a1;subst a6;split at h
  ·rename_i el k o hu;split at h
   ·rename_i i hi;split at h
    ·rename_i z p;exact Oj j I J R (Ea j o) (Ea j hu) (j.FF _ _ hi) p h U
    ·cases h
   ·cases h
  ·rename_i el e2 o hu;split at h
   ·rename_i i hi;split at h
    ·rename_i z p;exact Kt j I J R (Ea j o) (by simpa using ⟨e2,Ea j hu⟩) (j.FF _ _ hi) p h U
    ·cases h
   ·cases h
  ·rename_i el o hu;split at h
   ·rename_i i hi;split at h
    ·rename_i z p;exact Kt j I J R (Ea j o) (by simpa using Ea j hu) (j.FF _ _ hi) p h U
    ·cases h
   ·cases h
  ·cases h
 ·cases h
theorem Zp (R:B3 P T) {ts:Array TypeId} {ty:TypeId} {y:AV} {y':Value} (I:AO base e H w) (o:DR e y y') (h:RT T H ts y=some (.val x H')) :
  Cl P base e w (do pure (.value (<-Builtin.len_ ts ty #[y']))) x H':=by
 unfold RT at h;split at h
 ·rename_i t p;split at h
  ·rename_i d U;split at h
   ·rename_i n j;cases h;refine AZ (r:=.int .i64 (n:Int)) I ?_ (.v _);have hu:=Bn R U w;unfold YV at j;split at j
    ·cases j;cases o;simp[Builtin.len_,p,aX,hu,goInt]
    ·cases j;cases o;simp[Builtin.len_,p,aX,hu,goInt]
    ·cases j;cases o;simp[Builtin.len_,p,aX,hu,goInt]
    ·cases j;cases o;simp[Builtin.len_,p,aX,hu,goInt]
    ·cases j;cases o;simp[Builtin.len_,p,aX,hu,goInt]
    ·split at j
     ·rename_i hg;cases j;cases o with
      |mp hb=>
       obtain⟨-,es',h1,h2,-,-⟩:=Lf I hb hg;have J:=h2.length;rw[bG,bG]at J;simp[Builtin.len_,p,aX,hu,goInt,eD h1,J]
     ·cases j
    ·cases j
   ·cases h
  ·cases h
 ·cases h
theorem Zc (p:B3 P T) {ts:Array TypeId} {ty:TypeId} {y:AV} {y':Value} (I:AO base e H w) (J:DR e y y') (h:RG T H ts y=some (.val x H')) :
  Cl P base e w (do pure (.value (<-Builtin.cap_ ts ty #[y']))) x H':=by
 unfold RG at h;split at h
 ·rename_i t R;split at h
  ·rename_i el b off len n U;cases h;cases J with
   |Bm hb hc hl=>
    rename_i g o z c;have j:c=n:=hc;subst j;exact AZ (r:=.int .i64 (c:Int)) I (by simp[Builtin.cap_,R,aX,Bn p U w,goInt]) (.v _)
  ·cases h
 ·cases h
end
end Ev
end
section
open Go.RowKit
namespace Ev
section
variable {P:Program} {T:Tb} {base:CJ} {e:Env} {H H':AH} {w:World} {x:AV}
theorem WD (hT:B3 P T) {ts:Array TypeId} {ty:TypeId} {b off len:Nat} {cap:Cp} {y:AV} {d' y':Value} (hr:AO base e H w) (hd:DR e (.Bm b off len cap) d') (U:DR e y y') (h:Qw T H ts b off len y=some (.val x H')) :
  Cl P base e w (do pure (.value (<-Builtin.copy_ ts ty #[d',y']))) x H':=by
 unfold Qw at h;split at h
 ·rename_i t ht;split at h
  ·rename_i el hu;split at h
   ·rename_i size hs;split at h
    ·rename_i new n p;split at h
     ·rename_i H2 a1;cases h;cases hd with
      |Bm hb hc hl=>
       rename_i g o z c;have a6:∃ys,BP e (new.take (Nat.min n len*size)) ys/\(Builtin.lenOf y').run P w=.ok n w/\(Builtin.firstCells size (Nat.min n len) y').run P w=.ok ys.toArray w:=by
        have a7:Nat.min n len<=n:=Nat.min_le_left _ _;unfold rowOf at p;split at p
        ·rename_i c2;cases p;cases U;refine⟨[],by simp;exact .nil,rfl,?_⟩;exact run_firstCells_none w size (Nat.min 0 len) 0 c2
        ·rename_i b2 J b7 b8;split at p
         ·rename_i l0 a8;cases p;cases U with
          |Bm b0 c4 c5=>
           rename_i g2 o2 z2 c2;obtain⟨ys,h1,h2,h3⟩:=IJ hr a8 b0;refine⟨ys.take (Nat.min n len*size),h1.take _,rfl,?_⟩;refine run_firstCells_some w size (Nat.min n len) ⟨g2,o2+J,none⟩ n c2 _ ?_ (fun j v R=>?_)
           ·rw[bF,h2];exact fF (fD _ a7)
           ·rw[cE]at R;split at R
            ·rw[Addr.add_mid];exact h3 j v R
            ·cases R
         ·cases p
        ·rename_i s;cases I:(size==1)with
         |false=>rw[I]at p;cases p
         |true=>
          rw[I]at p;cases p;have:size=1:=by simpa using I
          subst this;cases U;refine⟨(byteCells s).take (Nat.min s.size len*1),?_,rfl,?_⟩
          ·refine BP.take ?_ _;unfold byteCells;have:=BP.flat (e:=e) (s.data.toList.map fun b=>Value.int .u8 b.toNat);rw[fI]at this;exact this
          ·have hle:Nat.min s.size len<=s.size:=Nat.min_le_left _ _;unfold Builtin.firstCells byteCells;show Result.ok _ w=Result.ok _ w;congr 1;apply fT;simp
        ·cases p
       obtain⟨ys,h1,h2,h3⟩:=a6;obtain⟨w',k1,k2,k3,_⟩:=Kj (P:=P) hr a1 hb h1;refine⟨e,w',.value (.int .i64 ((Nat.min n len:Nat):Int)),_,Fp.refl e,?_,.inl rfl,.v _,k2,k3⟩;simp[Builtin.copy_,ht,aX,Bn hT hu w,Cx hT hs w,h2,h3,k1,goInt]
     ·cases h
    ·cases h
   ·cases h
  ·cases h
 ·cases h
theorem Va (hT:B3 P T) {ts:Array TypeId} {ty:TypeId} {b off len:Nat} {cap:Cp} {d':Value} (hr:AO base e H w) (hd:DR e (.Bm b off len cap) d') (h:L2 T H ts b off len=some (.val x H')) :
  Cl P base e w (do pure (.value (<-Builtin.clear_ ts ty #[d']))) x H':=by
 unfold L2 at h;split at h
 ·rename_i t ht;split at h
  ·rename_i el hu;split at h
   ·rename_i zl hz;cases j:(Nat.blt 0 len&&Nat.blt 0 zl.length)with
    |false=>rw[j]at h;cases h
    |true=>
     rw[j]at h;dsimp only[cond_true]at h;rw[aG]at j;split at h
     ·rename_i H2 I;cases h;obtain⟨z,J,rfl⟩:=Gx hT hz;have p:0<z.cells.size:=by
       have:=E4 j.2;simpa using this
      cases hd with
      |Bm hb hc hl=>
       rename_i g o zz c;have R:BP e (Em (z.cells.toList.map .v) len) (B4 z.cells.toList len):=by rw[EG];exact BP.flat _
       obtain⟨w',k1,k2,k3,_⟩:=Kj (P:=P) hr I hb R;have U:(Builtin.zeroCells z.cells len).toList=B4 z.cells.toList len:=by
        unfold Builtin.zeroCells;exact Fe z.cells p len
       refine⟨e,w',.value (.tuple #[]),_,Fp.refl e,?_,.inl rfl,.v _,k2,k3⟩;have b8:len≠0:=Nat.ne_of_gt (E4 j.1);obtain⟨a6,rfl⟩:∃l,len=l+1:=⟨len-1,by omega⟩;simp[Builtin.clear_,ht,aX,Bn hT hu w,J,U,k1]
     ·cases h
   ·cases h
  ·cases h
 ·cases h
theorem Tx (I:B3 P T) {t:TypeId} {y:AV} {y':Value} (j:AO base e H w) (J:DR e y y') (h:JZ T t y H=some (.val x H')) (R:H'.next<=2^depth) :
  Cl P base e w (do pure (.value (<-Instr.range t y'))) x H':=by
 unfold JZ at h;split at h
 ·rename_i k el b hu;split at h
  ·rename_i es c U;cases h;cases J with
   |mp p=>
    rename_i g o z;obtain⟨a1,es',h1,h2,h3,h4⟩:=Lf j p U;obtain⟨k1,k2⟩:=Gw j (.iter b c [] c) R (.mapIter (some g) c #[] c) 0 0 ⟨rfl,g,o,z,EF j _ _ _ p,fZ w _⟩;refine⟨_,_,.value (.pointer (some ⟨w.heap.size,0+0,none⟩)),_,EF j _,?_,.inl rfl,.ptr (g:=w.heap.size) (o:=0) (z:=0) (by unfold Env.new;rw[if_pos rfl]),k1,k2⟩;simp[Instr.range,aX,Bn I hu w,eD h1,newObj,Sem.run]
  ·cases h
 ·cases h
theorem Nk (J:AO base e H w) {b g o z m since last:Nat} {seen:List Nat} (R:e b=some (g,o,z)) (hg:H.get b=some (.iter m since seen last)) :
  ¬base.S g/\o=0/\∃j p I,e m=some (j,p,I)/\w.heap[g]?=some (.mapIter (some j) since seen.toArray last):=by
 obtain⟨g1,o1,z1,U,q2,q0,j,p,I,q3,q4⟩:=J.Bq b _ (J.Vc R) hg;rw[R]at U;cases U;exact⟨q2,q0,j,p,I,q3,q4⟩
theorem VV (seen:List Nat):∀(es:List (AV×AV×Nat)) (es':List MapEntry),BP e (es.map (·.1)) (es'.map (·.key))->BP e (es.map (·.2.1)) (es'.map (·.val))->es.map (·.2.2)=es'.map (·.born)->
  BP e ((es.filter fun p=>!seen.contains p.2.2).map (·.1)) ((es'.filter fun p=>!seen.contains p.born).map (·.key))/\BP e ((es.filter fun p=>!seen.contains p.2.2).map (·.2.1)) ((es'.filter fun p=>!seen.contains p.born).map (·.val))/\(es.filter fun p=>!seen.contains p.2.2).map (·.2.2)=(es'.filter fun p=>!seen.contains p.born).map (·.born)
 | [],[],_,_,_=>⟨.nil,.nil,rfl⟩
 | [],_::_,h,_,_=>by cases h
 |_::_,[],h,_,_=>by cases h
 |(a,b,n)::es,p::es',o,I,j=>by
  cases o with
  |cons d1 o=>cases I with
   |cons d2 I=>
    rw[eY,eY]at j;injection j with R j
    have J:n=p.born:=R;obtain⟨U,k2,k3⟩:=VV seen es es' o I j;rw[gD,gD];dsimp only;rw[<-J];cases hc:seen.contains n with
    |true=>exact⟨U,k2,k3⟩
    |false=>exact⟨.cons d1 U,.cons d2 k2,by show _::_=_::_;rw[k3];exact congrArg (·::_) R⟩
theorem Yz (es:List MapEntry) (seen:List Nat):leftOf es.toArray seen.toArray=(es.filter fun p=>!seen.contains p.born).toArray:=by
 unfold leftOf;rw[List.filter_toArray];simp
theorem XS {ty:TypeId} {y:AV} {y':Value} {s:Bool} (U:AO base e H w) (hy:DR e y y') (h:Nd y s H=some (.val x H')) :
  Cl P base e w (do pure (.value (<-Instr.next y' s ty))) x H':=by
 unfold Nd at h;split at h
 ·rename_i b;split at h
  ·rename_i m since seen last hg;split at h
   ·rename_i es c hm;cases hy with
    |ptr hb=>
     rename_i g o z;obtain⟨c5,q0,g',o',z',q3,q4⟩:=Nk U hb hg;subst q0;obtain⟨-,es',h1,h2,h3,h4⟩:=Lf U q3 hm;obtain⟨R,k2,k3⟩:=VV (e:=e) seen es es' h2 h3 h4;unfold GO at h;cases I:(es.all (fun e=>Nat.blt e.2.2 since)&&since.ble last)with
     |false=>rw[I]at h;cases h
     |true=>
      rw[I]at h;dsimp only[cond_true]at h;rw[aG]at I;have hold:∀p∈es'.toArray.toList,p.born<since:=fun p hp=>by
       have b2:p.born∈es.map (·.2.2):=by rw[h4];exact dF.2 ⟨p,by simpa using hp,rfl⟩
       obtain⟨q,hq,b3⟩:=dF.1 b2;have:=E4 (aY.1 I.1 q hq);rw[<-b3];exact this
      have j:=run_next_at (P:=P) w ty g g' since last seen.toArray es'.toArray c q4 h1 hold (bQ I.2);rw[Yz]at j;split at h
      ·rename_i hl;cases h;rw[hl]at R;have J:(es'.filter fun p=>!seen.contains p.born)=[]:=by
        have:=R.length;simpa using this
       rw[J]at j;rcases j with⟨-,j⟩|⟨q,hq,-⟩
       ·exact AZ (r:=.tuple #[.bool false]) U j (.v _)
       ·cases hq
      ·rename_i p hl;cases h;rw[hl]at R k2 k3;have J:∃q,(es'.filter fun p=>!seen.contains p.born)=[q]:=by
        have:=R.length;rw[bG]at this;exact List.length_eq_one_iff.1 this
       obtain⟨q,J⟩:=J;rw[J]at j R k2 k3;rcases j with⟨h0,-⟩|⟨q',hq,w1,a7,j⟩
       ·cases h0
       ·have b5:q'=q:=by simpa using hq
        subst b5;have b6:p.2.2=q'.born:=by simpa using k3
        have b7:AO base e H w1:=by
         rcases a7 with rfl|rfl
         ·exact U
         ·exact U.drew
        have b8:B8 base.S w w1:=by
         rcases a7 with rfl|rfl
         ·exact B8.refl _ _
         ·exact(B8.refl _ _).drew
        obtain⟨m1,m2⟩:=Qv (x1:=.iter m since (seen++[p.2.2]) c) (obj:=.mapIter (some g') since (seen.toArray.push q'.born) c) b7 hb hg fun w' hw=>⟨rfl,g',o',z',q3,by rw[hw,b6];simp⟩
        cases R with
        |cons d1 _=>cases k2 with
         |cons d2 _=>
          refine⟨e,_,.value _,_,Fp.refl e,by simp only[aX,bO,j,cW];rfl,.inl rfl,Hm (ys:=[.bool true,q'.key,q'.val]) (.cons (.v _) (.cons d1 (.cons d2 .nil))),m1,b8.trans m2⟩
      ·cases h
   ·cases h
  ·cases h
 ·cases h
theorem Nw (s:Nat):∀(es:List (AV×AV×Nat)) (es':List MapEntry),BP e (es.map (·.1)) (es'.map (·.key))->BP e (es.map (·.2.1)) (es'.map (·.val))->es.map (·.2.2)=es'.map (·.born)->
  ∀p,(es.find? fun e=>Nat.beq e.2.2 s)=some p->∃q,es'.find? (·.born==s)=some q/\DR e p.1 q.key/\DR e p.2.1 q.val
 | [],_,_,_,_,p,h=>by cases h
 |_::_,[],h,_,_,_,_=>by cases h
 |(a,b,n)::es,q::es',J,R,I,p,h=>by
  cases J with
  |cons d1 J=>cases R with
   |cons d2 R=>
    rw[eY,eY]at I;injection I with U I
    have j:n=q.born:=U;rw[List.find?_cons]at h⊢;dsimp only at h;cases o:Nat.beq n s with
    |true=>
     rw[o]at h;cases h;have:(q.born==s)=true:=by rw[<-j,bY o];exact beq_self_eq_true s
     rw[this];exact⟨q,rfl,d1,d2⟩
    |false=>
     rw[o]at h;have:(q.born==s)=false:=by
      rw[<-j];cases hh:(n==s)with
      |false=>rfl
      |true=>rw[eq_of_beq hh,Nat.beq_refl]at o;cases o
     rw[this];exact Nw s es es' J R I p h
theorem To {y:AV} {y':Value} (J:AO base e H w) (hy:DR e y y') (h:Kr y H=some (.val x H')) :
  Cl P base e w (do pure (.value (<-Instr.entry y'))) x H':=by
 unfold Kr at h;split at h
 ·rename_i b;split at h
  ·rename_i m since seen last hg;split at h
   ·rename_i s es c hs hm;cases hy with
    |ptr hb=>
     rename_i g o z;obtain⟨b2,q0,g',o',z',q3,q4⟩:=Nk J hb hg;subst q0;obtain⟨-,es',h1,h2,h3,h4⟩:=Lf J q3 hm;have R:(getObj g).run P w=.ok (.mapIter (some g') since seen.toArray last) w:=by simp[getObj,Sem.run,q4]
     have U:=eD (P:=P) h1;cases j:Nat.beq c last with
     |false=>rw[j]at h;cases h
     |true=>
      rw[j]at h;dsimp only[cond_true]at h;have I:c=last:=bY j;split at h
      ·rename_i p hp;cases h;obtain⟨q,hq,d1,d2⟩:=Nw (e:=e) s es es' h2 h3 h4 p hp;have a1:seen.toArray.back?=some s:=by rw[List.back?_toArray];exact hs
       have a6:es'.toArray.find? (·.born==s)=some q:=by rw[List.find?_toArray];exact hq
       refine AZ (r:=.tuple #[q.key,q.val]) J ?_ (Hm (ys:=[q.key,q.val]) (.cons d1 (.cons d2 .nil)));subst I;simp only[bO];simp only[Instr.entry,aX,R,U,cW,a1,bne_self_eq_false,dY,if_false,a6];rfl
      ·cases h
   ·cases h
  ·cases h
 ·cases h
end
end Ev
end
end Go.Proofs.YthbihnpoghlfaaaGreatDoor
