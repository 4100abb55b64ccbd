import Derived.Great.FillDense
import Derived.Great.BuildSlice
import Derived.Laws.Tables
import Derived.IntWalk
import Derived.MapKept
import Derived.Laws.IdiomStrings
import Derived.Deep.AppendSrc
import Derived.Test.YthbihnpoghlfaaaGreatDoorZr04
set_option linter.unusedVariables false
set_option linter.unusedSimpArgs false
set_option maxHeartbeats 8000000
set_option maxRecDepth 100000
namespace Go.Proofs.YthbihnpoghlfaaaGreatDoor
section
open Go.RowKit
namespace Ev
section
variable {P:Program} {T:Tb} {base:CJ} {e:Env} {H H':AH} {w:World} {x:AV}
theorem BP.Z6:∀ {l:List AV} {ys:List Value},ys.length=l.length->(∀(i:Nat) (x:AV) (y:Value),l[i]?=some x->ys[i]?=some y->DR e x y)->BP e l ys
 | [],[],_,_=>.nil
 |x::l,y::ys,h,j=>.cons (j 0 x y rfl rfl) (BP.Z6 (by simpa using h) fun i a b ha o=>j (i+1) a b ha o)
 | [],_::_,h,_=>by simp at h
 |_::_,[],h,_=>by simp at h
theorem Ma {place:Nat->Option (Nat×Nat)}:∀(parts:List (Nat×AV)) (p:List (Nat×Value)) (cells:List AV) (o:Array Value) (U:List AV),OU place cells parts=some U->BP e cells o.toList->
  parts.map (·.1)=p.map (·.1)->BP e (parts.map (·.2)) (p.map (·.2))->∃r,Instr.fill place o p=some r/\BP e U r.toList
 | [],[],cells,o,U,h,hc,_,_=>by
  cases h;exact⟨_,rfl,hc⟩
 | [],_::_,_,_,_,_,_,R,_=>by simp at R
 |_::_,[],_,_,_,_,_,R,_=>by simp at R
 |(i,v)::parts,(i',v')::p,cells,o,U,h,hc,R,h2=>by
  rw[eY,eY]at R h2;injection R with hi R
  have b1:i=i':=hi;subst b1;cases h2 with
  |cons hv h2=>
   have b2:DR e v v':=hv;have a1:=Nb b2;unfold OU at h;unfold Instr.fill;cases hp:place i with
   |none=>rw[hp]at h;cases h
   |some os=>
    obtain⟨off,size⟩:=os;rw[hp]at h;dsimp only at h⊢;cases hb:(v.cells.length==size&&(off+size).ble cells.length)with
    |false=>rw[hb]at h;cases h
    |true=>
     rw[hb,cX]at h;rw[aG]at hb;have e1:v.cells.length=size:=by simpa using hb.1
     have e2:=bQ hb.2;have e3:v'.cells.size=size:=by rw[<-e1,<-a1.length];simp
     have e4:o.size=cells.length:=by rw[<-hc.length];simp
     rw[if_neg (by simp only[bV,aP,ne_eq];omega)];refine Ma parts p _ _ U h ?_ R h2;rw[<-Array.foldl_toList,Array.toList_zipIdx];obtain⟨k1,k2⟩:=Great.foldl_set off v'.cells.toList 0 o;refine BP.Z6 ?_ fun j a b ha I=>?_
     ·rw[bS,k1,e4,aO,aO,bF,dM];omega
     ·rw[fC,k2 j]at I;by_cases J:off+0<=j/\j<off+0+v'.cells.toList.length/\j<o.size
      ·rw[if_pos J]at I;rw[bS,e3]at J;rw[bX (by rw[bF];omega),bF,fF (by omega),bZ (by omega)]at ha;obtain⟨y,g1,g2⟩:=a1.get ha;rw[dD,g1]at I;cases I;exact g2
      ·rw[if_neg J]at I;rw[bS,e3]at J;have b5:j<cells.length:=by
        have:=(aU.1 I).1;omega
       have b3:cells[j]?=some a:=by
        by_cases hj:j<off
        ·rw[bZ (by rw[bF];omega),cE,if_pos hj]at ha;exact ha
        ·rw[bX (by rw[bF];omega),bF,fF (by omega),bX (by omega),dS]at ha;rw[<-ha];congr 1;omega
       obtain⟨y,g1,g2⟩:=hc.get b3;rw[fC,I]at g1;cases g1;exact g2
theorem Pd (p:B3 P T):∀ {o:List Field} {pl:List (Nat×Nat)},Mk T o=some pl->o.mapM (fun f=>(P.info? f.type).map fun i=>(f.offset,i.size))=some pl
 | [],pl,h=>by cases h;rfl
 |f::o,pl,h=>by
  unfold Mk at h;split at h
  ·rename_i s l I J;cases h;have j:=L5 p I;have R:=Pd p J;cases hi:P.info? f.type with
   |none=>rw[hi]at j;cases j
   |some i=>
    rw[hi]at j;cases j;simp[List.mapM_cons,hi,R]
  ·cases h
theorem Sj {ev:Operand->AV} {ρ:Operand->Value} (parts:Array (Nat×Operand)) (h:∀p∈parts.toList,DR e (ev p.2) (ρ p.2)) :
  (G9 ev parts).map (·.1)=(parts.map fun(i,x)=>(i,ρ x)).toList.map (·.1)/\BP e ((G9 ev parts).map (·.2)) ((parts.map fun(i,x)=>(i,ρ x)).toList.map (·.2)):=by
 unfold G9;rw[jH,fI,fI,fI,fI];refine⟨rfl,?_⟩;exact BP.map _ h
theorem Te (I:B3 P T) {ev:Operand->AV} {ρ:Operand->Value} {t:TypeId} {parts:Array (Nat×Operand)} (hr:AO base e H w) (hp:∀p∈parts.toList,DR e (ev p.2) (ρ p.2)) (h:IX T t (G9 ev parts) H=some (.val x H')) :
  Cl P base e w (do pure (.value (<-Instr.build t (parts.map fun(i,x)=>(i,ρ x))))) x H':=by
 obtain⟨q1,q2⟩:=Sj (e:=e) parts hp;unfold IX at h;split at h
 ·cases h
 ·rename_i zl hz;obtain⟨z,a6,rfl⟩:=Gx I hz;have a7:∃i,P.info? t=some i/\i.zero=some z:=by
   have:=a6 w;cases hi:P.info? t with
   |none=>simp[zeroValue,typeInfo,aX,hi,stuck]at this
   |some i=>
    refine⟨i,rfl,?_⟩;cases J:i.zero with
    |none=>simp[zeroValue,typeInfo,aX,hi,J,unsupported]at this
    |some z'=>
     simp[zeroValue,typeInfo,aX,hi,J]at this;rw[this]
  obtain⟨it,R,U⟩:=a7;split at h
  ·rename_i fs hu;split at h
   ·rename_i pl a8;split at h
    ·rename_i cs o;cases h;obtain⟨r,r1,r2⟩:=Ma (e:=e) _ _ _ z.cells cs o (BP.flat _) q1 q2;have hb:P.built t (parts.map fun(i,x)=>(i,ρ x)).toList=some r:=by
      unfold Program.built;rw[R,Ea I hu];dsimp only;rw[U,Pd I a8];dsimp only;rw[<-r1];congr 1;funext i;simp
     exact AZ hr (run_build w t _ r hb) (by have:=Hn r2;simpa using this)
    ·cases h
   ·cases h
  ·rename_i n el hu;split at h
   ·rename_i size hs;split at h
    ·rename_i cs o;cases h;obtain⟨r,r1,r2⟩:=Ma (e:=e) _ _ _ z.cells cs o (BP.flat _) q1 q2;have j:=L5 I hs;have hb:P.built t (parts.map fun(i,x)=>(i,ρ x)).toList=some r:=by
      unfold Program.built;rw[R,Ea I hu];dsimp only;rw[U];cases a1:P.info? el with
      |none=>rw[a1]at j;cases j
      |some ie=>
       rw[a1]at j;cases j;exact r1
     exact AZ hr (run_build w t _ r hb) (by have:=Hn r2;simpa using this)
    ·cases h
   ·cases h
  ·cases h
def B4 (z:List Value):Nat->List Value
 | 0=>[]
 |n+1=>z++B4 z n
theorem EG (z:List Value):∀n,Em (z.map .v) n=(B4 z n).map .v
 | 0=>rfl
 |n+1=>by
  show z.map .v++Em (z.map .v) n=(z++B4 z n).map .v;rw[EG z n,bN]
theorem Nv (z:List Value) (p:0<z.length):∀n i,(B4 z n)[i]?=if i<n*z.length then z[i % z.length]? else none
 | 0,i=>by simp[B4]
 |n+1,i=>by
  show(z++B4 z n)[i]?=_;by_cases hi:i<z.length
  ·rw[bZ hi,if_pos (by rw[iJ];omega),Nat.mod_eq_of_lt hi]
  ·rw[bX (by omega),Nv z p n];have j:(i-z.length) % z.length=i % z.length:=by
    conv=>rhs;rw[show i=i-z.length+z.length by omega]
    rw[Nat.add_mod_right]
   rw[j];by_cases o:i-z.length<n*z.length
   ·rw[if_pos o,if_pos (by rw[iJ];omega)]
   ·rw[if_neg o,if_neg (by rw[iJ];omega)]
theorem Fe (z:Array Value) (o:0<z.size) (n:Nat):((Array.range (n*z.size)).map (z[· % z.size]!)).toList=B4 z.toList n:=by
 apply fQ;intro i;rw[Nv _ (by simpa using o),bS,jH,cN];have j:i % z.size<z.size:=Nat.mod_lt _ o;by_cases hi:i<n*z.size
 ·rw[if_pos hi];simp[hi,j]
 ·rw[if_neg hi];simp[hi]
theorem LR (o:B3 P T) {ev:Operand->AV} {ρ:Operand->Value} {t:TypeId} {len:Nat} {parts:Array (Nat×Operand)} (hr:AO base e H w) (hp:∀p∈parts.toList,DR e (ev p.2) (ρ p.2)) (h:Er T t len (G9 ev parts) H=some (.val x H')) (hn:H'.next<=2^depth) :
  Cl P base e w (do pure (.value (<-Instr.buildSlice t len (parts.map fun(i,x)=>(i,ρ x))))) x H':=by
 obtain⟨q1,q2⟩:=Sj (e:=e) parts hp;unfold Er at h;split at h
 ·rename_i el hu;cases hlen:(len==0)with
  |true=>
   rw[hlen]at h;dsimp only[cond_true]at h;have a7:len=0:=by simpa using hlen
   subst a7;unfold Fb at h;split at h
   ·rename_i s0 a8;cases j:(G9 ev parts).isEmpty with
    |false=>rw[j]at h;cases h
    |true=>
     rw[j]at h;cases h;have b0:parts.toList=[]:=by
      unfold G9 at j;simpa using j
     obtain⟨e',R,k1,U,k3,k4,k5⟩:=Gm (P:=P) (l:=[]) (ys:=[]) (more:=[]) el hr hn .nil;refine⟨e',R,_,_,k1,?_,.inl rfl,.Bm k3 rfl (by omega),k4,k5⟩;have b9:parts=#[]:=fT b0;subst b9;have c0:(newRow el (Array.map (fun _=>(default:Value)) (Array.range 0))).run P w=.ok ⟨w.heap.size,0,none⟩ R:=by rw[show Array.map (fun _=>(default:Value)) (Array.range 0)=#[]by simp];exact U
     simp[Instr.buildSlice,aX,Bn o hu w,Cx o a8 w,Instr.fill,c0]
   ·cases h
  |false=>
  rw[hlen]at h;dsimp only[cond_false]at h;unfold FW at h;split at h
  ·rename_i size zl hs hz;split at h
   ·rename_i cs c4;cases hb:(zl.length==size&&Nat.blt (len*size) 100000&&Nat.blt 0 (len*size))with
    |false=>rw[hb]at h;cases h
    |true=>
     rw[hb]at h;cases h;rw[aG,aG]at hb;obtain⟨⟨b1,b2⟩,b3⟩:=hb;have c1:zl.length=size:=by simpa using b1
     have c2:=fE ((dP).symm.trans (eq_true b2));have c3:=fE ((dP).symm.trans (eq_true b3));obtain⟨z,c5,rfl⟩:=Gx o hz;rw[bG,bS]at c1;have I:0<z.cells.size:=by
      rw[c1];exact Nat.pos_of_ne_zero fun h0=>by rw[h0,Nat.mul_zero]at c3;omega
     have J:=Fe z.cells I len;rw[c1]at J;obtain⟨r,r1,r2⟩:=Ma (e:=e) _ _ _ ((Array.range (len*size)).map (z.cells[· % size]!)) cs c4 (by rw[J,EG];exact BP.flat _) q1 q2;obtain⟨e',R,k1,U,k3,k4,k5⟩:=Gm (P:=P) (more:=[]) el hr hn r2;rw[cP,fY]at U;refine⟨e',R,_,_,k1,?_,.inl rfl,.Bm k3 rfl (by omega),k4,k5⟩;have c6:¬len*size=0:=by omega
     have c7:¬len*size>2^24:=by omega
     simp only[Instr.buildSlice,aX,Bn o hu w,cW,Cx o hs w,c6,c7,if_false,c5 w,eU,c1,r1,U]
   ·cases h
  ·cases h
 ·cases h
theorem Nh (hT:B3 P T) {t:TypeId} {l c:AV} {l' c':Value} (hr:AO base e H w) (hl:DR e l l') (hc:DR e c c') (h:E2 T t l c H=some (.val x H')) (hn:H'.next<=2^depth) :
  Cl P base e w (do pure (.value (<-Instr.makeSlice t l' c'))) x H':=by
 unfold E2 at h;split at h
 ·rename_i R I j hu b8 b9;obtain⟨k1,rfl⟩:=D9 hl b8;obtain⟨U,rfl⟩:=D9 hc b9;split at h
  ·rename_i i hi;have J:=hT.FF _ _ hi;split at h
   ·rename_i z hz;cases hb:(I.ble j&&Nat.blt j 100000&&Nat.blt i.bytes 100000&&z.cells.size==i.size&&Nat.blt 0 i.size)with
    |false=>rw[hb]at h;cases h
    |true=>
     rw[hb]at h;cases h;simp only[aG]at hb;obtain⟨⟨⟨⟨b1,b2⟩,b3⟩,b4⟩,b5⟩:=hb;have c1:=bQ b1;have c2:=fE ((dP).symm.trans (eq_true b2));have c3:=fE ((dP).symm.trans (eq_true b3));have c4:z.cells.size=i.size:=by simpa using b4
     have c5:=fE ((dP).symm.trans (eq_true b5));have w1:IntKind.i64.wrap (I:Int)=(I:Int):=cM _ (by omega);have w2:IntKind.i64.wrap (j:Int)=(j:Int):=cM _ (by omega);have a1:=Fe z.cells (by omega) j;rw[c4]at a1;obtain⟨e',w',k1,U,k3,k4,k5⟩:=Gm (P:=P) (more:=[]) R hr hn (BP.flat (e:=e) (B4 z.cells.toList j));rw[cP,<-a1,fY]at U;rw[<-EG]at k4;refine⟨e',w',_,_,k1,?_,.inl rfl,.Bm k3 rfl (by omega),k4,k5⟩;have hmul:(i.bytes:Int)*(j:Int)<=2^48:=by
      have:i.bytes*j<=100000*100000:=iU (Nat.le_of_lt c3) (Nat.le_of_lt c2);have h2:((i.bytes*j:Nat):Int)<=((100000*100000:Nat):Int):=Int.ofNat_le.2 this;rw[Int.natCast_mul]at h2;omega
     have o:(askRoom (j*i.bytes)).run P w=.ok () w:=by
      unfold askRoom;split<;>rfl
     have c0:¬((j:Int)<0):=by omega
     have c6:¬((i.bytes:Int)*(j:Int)>2^48):=by omega
     have c7:¬((I:Int)<0):=by omega
     have c8:¬((I:Int)>(j:Int)):=by omega
     have a6:(sizeOf R).run P w=.ok i.size w:=by simp[sizeOf,typeInfo,aX,J]
     have c9:(zeroValue R).run P w=.ok z w:=by simp[zeroValue,typeInfo,aX,J,hz]
     have a7:(typeInfo R).run P w=.ok i w:=by simp[typeInfo,aX,J]
     have p:(decide ((j:Int)<0)||decide ((i.bytes:Int)*(j:Int)>2^48)||decide ((I:Int)<0)||decide ((I:Int)>(j:Int)))=false:=by simp only[c0,c6,c7,c8,decide_false,Bool.or_self]
     by_cases h0:j=0
     ·subst h0;have a8:I=0:=by omega
      subst a8;rw[gU]at U o;have e0:(newRow R (Array.map (fun _=>(default:Value)) (Array.range 0))).run P w=.ok ⟨w.heap.size,0,none⟩ w':=by
       rw[show Array.map (fun _=>(default:Value)) (Array.range 0)=Array.map (z.cells[· % i.size]!) (Array.range 0)by simp];exact U
      simp only[Instr.makeSlice,aX,Bn hT hu w,cW,asInt,asIntOf,eU,a7,w1,p];simp[aX,o,a6,e0]
     ·have b0:¬j*i.size=0:=by
       have:=Nat.mul_pos (Nat.pos_of_ne_zero h0) c5;omega
      simp only[Instr.makeSlice,aX,Bn hT hu w,cW,asInt,asIntOf,eU,a7,w1,w2,p];simp only[dY,if_false,aX,bI,o,cW,a6,b0,c9,eU,c4,U]
   ·cases h
  ·cases h
 ·cases h
end
end Ev
end
section
open Go.RowKit
namespace Ev
section
variable {P:Program} {T:Tb} {base:CJ} {e:Env} {H H':AH} {w:World} {x:AV}
theorem Xn {s:ByteArray} {i:Nat} {b:UInt8} (h:s.data.toList[i]?=some b):s[i]?=some b:=by
 have j:i<s.data.size:=by
  have:=(bC.1 h).1;simpa using this
 have o:i<s.size:=j;rw[getElem?_pos s i o];rw[fC,Array.getElem?_eq_getElem j]at h;exact h
theorem Uq (p:B3 P T) {ev:Operand->AV} {op:Oper} {ρ:Operand->Value} {t:TypeId} {a b:Operand} (ho:op.op=.index t a b) (J:AO base e H w) (R:∀y∈op.op.operands,DR e (ev y) (ρ y)) (ha:DR e (ev a) (ρ a)) (hb:DR e (ev b) (ρ b))
  (h:IU P T ev op t (ev a) (ev b) H=some (.val x H')):Cl P base e w (execOp ρ op) x H':=by
 unfold IU at h;split at h
 ·rename_i s i U hi;have hex:execOp ρ op=(do pure (.value (<-Instr.index t (ρ a) (ρ b)))):=by unfold execOp;rw[ho]
  rw[hex];obtain⟨k,hk⟩:=D9 hb hi;rw[U]at ha;rw[hk];generalize ρ a=ra at ha;cases ha;split at h
  ·rename_i hu;split at h
   ·rename_i c j;cases h;refine AZ (r:=.int .u8 c.toNat) J ?_ (.v _);have h2:=Xn j;simp[Instr.index,asIntOf,aX,Bn p hu w,h2]
   ·cases h
  ·cases h
 ·rename_i l i U hi;have hex:execOp ρ op=(do pure (.value (<-Instr.index t (ρ a) (ρ b)))):=by unfold execOp;rw[ho]
  rw[hex];obtain⟨k,hk⟩:=D9 hb hi;rw[U]at ha;rw[hk];generalize ρ a=ra at ha;cases ha with
  |agg hl=>
   rename_i xs;split at h
   ·rename_i n el hu;split at h
    ·rename_i z o hz;cases j:(Nat.blt i n&&(i*z+z).ble l.length)with
     |false=>rw[j]at h;cases h
     |true=>
      rw[j]at h;cases h;rw[aG]at j;have I:=fE ((dP).symm.trans (eq_true j.1));refine AZ (r:=.agg (xs.toArray.extract (i*z) (i*z+z))) J ?_ ?_
      ·simp[Instr.index,asIntOf,aX,Bn p hu w,part,FD p o w,Cx p hz w,I]
      ·have:=Hn ((hl.drop (i*z)).take z);have he:(xs.toArray.extract (i*z) (i*z+z))=((xs.drop (i*z)).take z).toArray:=by
        simp[List.extract_toArray,List.extract_eq_take_drop]
       rw[he];exact this
    ·rename_i z o hz;cases j:(Nat.blt i n&&z==1)with
     |false=>rw[j]at h;cases h
     |true=>
      rw[j]at h;rw[aG]at j;have I:=fE ((dP).symm.trans (eq_true j.1));have a8:z=1:=by simpa using j.2
      subst a8;cases hx:l[i]? with
      |none=>rw[hx]at h;cases h
      |some v=>
       rw[hx]at h;cases h;obtain⟨r,h1,h2⟩:=hl.get hx;refine AZ (r:=r) J ?_ h2;simp[Instr.index,asIntOf,aX,Bn p hu w,part,FD p o w,Cx p hz w,I,h1]
    ·cases h
   ·cases h
 ·exact(CM J R h).1
inductive OR (e:Env):Option AV->Option Value->Prop where
 |none:OR e none none
 |some {x:AV} {y:Value}:DR e x y->OR e (some x) (some y)
theorem Dy {y n:Nat} {v:AV} {o:Value} {code:BoundsCode} (p:DR e v o) (h:Ns y v=some n):n<=y/\∀y',n<=y'->(Instr.sliceBound o y' code).run P w=.ok n w:=by
 unfold Ns at h;split at h
 ·rename_i m hm;cases j:m.ble y with
  |false=>rw[j]at h;cases h
  |true=>
   rw[j]at h;cases h;obtain⟨k,rfl⟩:=D9 p hm;refine⟨bQ j,fun y' I=>?_⟩;simp[Instr.sliceBound,asIntOf,I]
 ·cases h
theorem Ph {isS:Bool} {len room cap h l:Nat} {j o:Option AV} {p I:Option Value} (a1:OR e j p) (J:OR e o I) (hlen:len<=cap) (a6:room<=cap)
  (h1:ZaG len room j=some h) (U:ZaE h o=some l) :
  (Instr.sliceBounds isS len cap I p none).run P w=.ok (l,h,cap) w/\l<=h/\h<=cap:=by
 cases a1 with
 |none=>
  cases h1;cases J with
  |none=>cases U;exact⟨by simp[Instr.sliceBounds],eN _,hlen⟩
  |some hv=>
   obtain⟨R,k2⟩:=Dy (P:=P) (w:=w) (code:=.sliceB) hv U;exact⟨by simp[Instr.sliceBounds,k2 _ R],R,hlen⟩
 |some hu=>
  obtain⟨m1,-⟩:=Dy (P:=P) (w:=w) (code:=.sliceB) hu h1;have m2:=fun code=>(Dy (P:=P) (w:=w) (code:=code) hu h1).2 cap (by omega)
  cases J with
  |none=>cases U;exact⟨by simp[Instr.sliceBounds,m2],eN _,by omega⟩
  |some hv=>
   obtain⟨R,k2⟩:=Dy (P:=P) (w:=w) (code:=.sliceB) hv U;exact⟨by simp[Instr.sliceBounds,aX,m2,k2 _ R],R,by omega⟩
theorem Rc (U:B3 P T) {t:TypeId} {s:ByteArray} {j o:Option AV} {p I:Option Value} (hr:AO base e H w) (hu:T.I0 t=some .string) (J:OR e o I) (R:OR e j p) (h:Gk s j o H=some (.val x H')) :
  Cl P base e w (do pure (.value (<-Instr.sliceAt t (.string s) p I none))) x H':=by
 unfold Gk at h;split at h
 ·rename_i hh h1;split at h
  ·rename_i l h2;cases h;obtain⟨k1,k2,k3⟩:=Ph (P:=P) (w:=w) (isS:=false) (cap:=s.size) J R (aL _) (aL _) h1 h2;refine AZ (r:=.string (s.extract l hh)) hr ?_ (.v _);simp[Instr.sliceAt,Instr.slice,aX,Bn U hu w,k1]
  ·cases h
 ·cases h
theorem Uk (hT:B3 P T) {t:TypeId} {y:AV} {y':Value} {b0 b1:Option AV} {R U:Option Value} (hr:AO base e H w) (hy:DR e y y') (c2:OR e b1 U) (c3:OR e b0 R) (h:JO T H t y b0 b1 none=some x) :
  Cl P base e w (do pure (.value (<-Instr.sliceAt t y' R U none))) x H:=by
 unfold JO at h;split at h
 ·rename_i el b off len cap hu;split at h
  ·cases h
  ·rename_i size hs;cases hy with
   |Bm hb hc hl=>
    rename_i g o z c;dsimp only at h;split at h
    ·cases h
    ·rename_i hh I;split at h
     ·cases h
     ·rename_i l h2;have c5:=Cx hT hs w;have a1:K0 len cap<=c:=by
       cases cap with
       | «at» c'=>
        have b3:c=c':=hc;show c'<=c;omega
       |to s=>exact hl
      obtain⟨k1,k2,k3⟩:=Ph (P:=P) (w:=w) (isS:=true) c2 c3 hl a1 I h2;have b4:(Instr.sliceAt t (.slice (some ⟨g,o+off,none⟩) len c) R U none).run P w=.ok (.slice (if c=l then some ⟨g,o+off,none⟩else some ⟨g,o+off+l*size,none⟩) (hh-l) (c-l)) w:=by
       simp[Instr.sliceAt,Instr.slice,aX,Bn hT hu w,k1,c5,Addr.add_mid]
      refine AZ hr b4 ?_;unfold sliceTo at h;split at h
      ·rename_i c';have b3:c=c':=hc;subst b3;cases j:(c==l)with
       |true=>
        rw[j]at h;cases h;have:c=l:=by simpa using j
        rw[if_pos this];exact .Bm hb (show c-l=0 by omega) (by omega)
       |false=>
        rw[j]at h;cases h;have:c≠l:=by simpa using j
        rw[if_neg this,fJ];exact .Bm hb rfl (by omega)
      ·rename_i s;have b5:o+off+c*s=z:=hc;cases J:(s==size)with
       |false=>rw[J]at h;cases h
       |true=>
        rw[J]at h;have c6:s=size:=by simpa using J
        subst c6;dsimp only[cond_true]at h;cases j:(l==0||Nat.blt l len)with
        |false=>
         rw[j]at h;dsimp only[cond_false]at h;cases ht:(l==len&&Nat.blt 0 s)with
         |false=>rw[ht]at h;cases h
         |true=>
          rw[ht]at h;cases h;rw[aG]at ht;have a6:l=len:=by simpa using ht.1
          have b7:=fE ((dP).symm.trans (eq_true ht.2));subst a6;have c7:hh-l=0:=by
           have:hh<=K0 l (.to s)\/hh=l:=by
            unfold ZaG at I;split at I
            ·cases I;exact .inr rfl
            ·unfold Ns at I;split at I
             ·rename_i m _;cases a7:m.ble (K0 l (.to s))with
              |false=>rw[a7]at I;cases I
              |true=>rw[a7]at I;cases I;exact .inl (bQ a7)
             ·cases I
           rcases this with h9|h9
           ·have e7:hh<=l:=h9;omega
           ·omega
          rw[c7];by_cases p:c=l
          ·rw[if_pos p];exact .tl hb ⟨c,b5,hl,b7,.inl ⟨p,rfl,by omega⟩⟩
          ·rw[if_neg p];exact .tl hb ⟨c,b5,hl,b7,.inr ⟨p,rfl,rfl⟩⟩
        |true=>
        rw[j]at h;cases h;rw[bV]at j;have b8:CpR o z (off+l*s) (c-l) (.to s):=by
         show o+(off+l*s)+(c-l)*s=z;rw[Nat.sub_mul];have:=fD s (show l<=c by omega);omega
        rcases j with c8|a6
        ·have b9:l=0:=by simpa using c8
         subst b9;have:(if c=0 then some (⟨g,o+off,none⟩:Addr)else some ⟨g,o+off+0*s,none⟩)=some ⟨g,o+(off+0*s),none⟩:=by
          rw[gU,dD,dD];split<;>rfl
         rw[this];exact .Bm hb b8 (by omega)
        ·have e1:=fE ((dP).symm.trans (eq_true a6));rw[if_neg (by omega),fJ];exact .Bm hb b8 (by omega)
 ·cases h
end
end Ev
end
section
open Go.RowKit
namespace Ev
section
variable {P:Program} {T:Tb} {base:CJ} {e:Env} {H H':AH} {w:World} {x:AV}
theorem RC (hT:B3 P T) {t:TypeId} {y m:AV} {y' m':Value} {J R:Option AV} {j U:Option Value} (hr:AO base e H w) (hy:DR e y y') (b4:OR e R U) (b5:OR e J j) (hm:DR e m m') (h:JO T H t y J R (some m)=some x) :
  Cl P base e w (do pure (.value (<-Instr.sliceAt t y' j U (some m')))) x H:=by
 unfold JO at h;split at h
 ·rename_i el b off len cap hu;split at h
  ·cases h
  ·rename_i size hs;cases hy with
   |Bm hb hc hl=>
    rename_i g o z c;dsimp only at h;split at h
    ·rename_i hv I a1;split at h
     ·rename_i hh h1;split at h
      ·rename_i l h2;have b7:=Cx hT hs w;have b8:K0 len cap<=c:=by
        cases cap with
        | «at» c'=>
         have c9:c=c':=hc;show c'<=c;omega
        |to s=>exact hl
       cases b4 with
       | @some _ a6 a7=>
        obtain⟨m1,-⟩:=Dy (P:=P) (w:=w) (code:=.slice3Acap) hm a1;have m2:=(Dy (P:=P) (w:=w) (code:=.slice3Acap) hm a1).2 c (by omega);obtain⟨n1,-⟩:=Dy (P:=P) (w:=w) (code:=.slice3B) a7 h1;have n2:=(Dy (P:=P) (w:=w) (code:=.slice3B) a7 h1).2 I n1;have key:(Instr.sliceBounds true len c j (some a6) (some m')).run P w=.ok (l,hh,I) w/\l<=hh:=by
         cases b5 with
         |none=>cases h2;exact⟨by simp[Instr.sliceBounds,aX,m2,n2],eN _⟩
         |some a8=>
          obtain⟨k1,-⟩:=Dy (P:=P) (w:=w) (code:=.slice3C) a8 h2;have k2:=(Dy (P:=P) (w:=w) (code:=.slice3C) a8 h2).2 hh k1;exact⟨by simp[Instr.sliceBounds,aX,m2,n2,k2],k1⟩
        obtain⟨k1,k3⟩:=key;have b0:(Instr.sliceAt t (.slice (some ⟨g,o+off,none⟩) len c) j (some a6) (some m')).run P w=.ok (.slice (if I=l then some ⟨g,o+off,none⟩else some ⟨g,o+off+l*size,none⟩) (hh-l) (I-l)) w:=by
         simp[Instr.sliceAt,Instr.slice,aX,Bn hT hu w,k1,b7,Addr.add_mid]
        refine AZ hr b0 ?_;cases p:(I==l)with
        |true=>
         rw[p]at h;cases h;have:I=l:=by simpa using p
         rw[if_pos this];exact .Bm hb (show I-l=0 by omega) (by omega)
        |false=>
         rw[p]at h;cases h;have:I≠l:=by simpa using p
         rw[if_neg this,fJ];exact .Bm hb rfl (by omega)
      ·cases h
     ·cases h
    ·cases h
 ·cases h
theorem PN (hT:B3 P T) {ev:Operand->AV} {op:Oper} {ρ:Operand->Value} {sr d:TypeId} {y:Operand} (ho:op.op=.convert sr d y) (hr:AO base e H w) (a8:∀y∈op.op.operands,DR e (ev y) (ρ y)) (hy:DR e (ev y) (ρ y)) (h:EJ P T ev op sr d (ev y) H=some (.val x H')) (hn:H'.next<=2^depth) :
  Cl P base e w (execOp ρ op) x H':=by
 unfold EJ at h;split at h
 ·rename_i s I hs hd;have hex:execOp ρ op=(do pure (.value (<-convert sr d (ρ y)))):=by unfold execOp;rw[ho]
  rw[hex];rw[hs]at hy;generalize ρ y=y' at hy;cases hy;split at h
  ·rename_i b1 b2;cases h;have p:=run_bytes_of_string w sr d I s (Ea hT b1) (Ea hT hd) (Ea hT b2);have J:=grownCap_ge w s.size 0 I;generalize grownCap w s.size 0 I=j at p J;have R:(bytesRow s j).size=j:=by
    unfold bytesRow;rw[Array.size_append,Array.size_map,Array.size_replicate];have:s.data.size=s.size:=rfl;omega
   have U:(s.data.toList.map fun b=>AV.v (Value.int .u8 b.toNat)).length=s.size:=by
    rw[bG];rfl
   obtain⟨h1,h2⟩:=Gw hr.drew (.NK (s.data.toList.map fun b=>.v (.int .u8 b.toNat))) hn (.cells (bytesRow s j) I ((bytesRow s j).size,(bytesRow s j).size+1)) 0 (bytesRow s j).size
    ⟨_,I,_,fZ w.drew _,rfl,by rw[U,R];omega,by
     rw[aS,U];have:(bytesRow s j).toList.take s.size=s.data.toList.map fun b=>Value.int .u8 b.toNat:=by
      unfold bytesRow;rw[Array.toList_append,jH,List.take_left' (by rw[bG];rfl)]
     rw[this];exact BP.map _ fun b _=>.v _⟩
   refine⟨_,_,.value (.slice (some ⟨w.heap.size,0+0,none⟩) s.size j),_,EF hr.drew _,by simp only[aX,p,cW];rfl,.inl rfl,.Bm (g:=w.heap.size) (o:=0) (z:=(bytesRow s j).size) (by unfold Env.new;rw[if_pos rfl];rfl) ?_ J,h1,((B8.refl _ _).drew).trans h2⟩;show 0+0+j*1=(bytesRow s j).size;rw[R];omega
  ·cases h
 ·exact(CM hr a8 h).1
theorem bytes_beq (a b:ByteArray):(a==b)=(a.data.toList==b.data.toList):=by
 have j:(a==b)=(a.data==b.data):=by cases a;cases b;rfl
 rw[j,cH];simp only[dI];exact⟨fun h=>by rw[h],fun h=>fT h⟩
theorem Y4 {d0 d:TypeDesc} {k:Value} (h:keyOf d0 k=some d):d0=d/\((∃s,d=.string/\k=.string s)\/∃j n,d=.int j/\k=.int j n):=by
 unfold keyOf at h;split at h
 ·rename_i s;cases h;exact⟨rfl,.inl ⟨s,rfl,rfl⟩⟩
 ·rename_i j p n;cases o:sameKind j p with
  |false=>rw[o]at h;cases h
  |true=>
   rw[o]at h;cases h;have:=FZ o;subst this;exact⟨rfl,.inr ⟨j,n,rfl,rfl⟩⟩
 ·cases h
theorem P8 {p:TypeId} {k:Value} {d:TypeDesc} (o:TM T p k=some d):T.I0 p=some d/\((∃s,d=.string/\k=.string s)\/∃j n,d=.int j/\k=.int j n):=by
 unfold TM at o;split at o
 ·rename_i d0 hu;obtain⟨I,J⟩:=Y4 o;rw[hu,I];exact⟨rfl,J⟩
 ·cases o
theorem Zae {R:TypeId} {k o:Value} {d:TypeDesc} {b:Bool} (U:TM T R k=some d) (h:YX k o=some b):Instr.sameNow d k o=some b:=by
 rcases(P8 U).2 with⟨s,rfl,rfl⟩|⟨j,n,rfl,rfl⟩
 ·cases o<;>first
   |(cases h;done)
   |(rename_i s2
     cases h;show some (s==s2)=_;rw[bytes_beq])
 ·cases o<;>first
   |(cases h;done)
   |(rename_i J n2
     have p:(bif sameKind j J then some (n==n2)else none)=some b:=h;cases I:sameKind j J with
     |false=>rw[I]at p;cases p
     |true=>
      rw[I]at p;cases p;have:=FZ I;subst this;simp[Instr.sameNow])
theorem JX {kt:TypeId} {k:Value} {d:TypeDesc} (hk:TM T kt k=some d):∀(es:List (AV×AV×Nat)) (es':List MapEntry) (i:Nat) (r:Option (Nat×AV)),RX k es i=some r->BP e (es.map (·.1)) (es'.map (·.key))->BP e (es.map (·.2.1)) (es'.map (·.val))->
  ∃J,Instr.findNow d k es' i=some J/\(r=none/\J=none\/∃j y y',r=some (j,y)/\J=some (j,y')/\DR e y y'/\(∃o,es'[j-i]?=some o/\Instr.sameNow d k o.key=some true)/\i<=j)
 | [],es',i,r,h,I,U=>by
  cases h;cases es' with
  |nil=>exact⟨none,rfl,.inl ⟨rfl,rfl⟩⟩
  |cons _ _=>cases I
 |(ka,y,n)::es,es',i,r,h,I,U=>by
  cases es' with
  |nil=>cases I
  |cons o es'=>
   cases I with
   |cons a6 I=>
    cases U with
    |cons hy U=>
     have p:DR e ka o.key:=a6;have a7:DR e y o.val:=hy;unfold RX at h;cases ka with
     |v kv=>
      have R:o.key=kv:=by
       generalize o.key=q at p;cases p;rfl
      dsimp only at h;cases hs:YX k kv with
      |none=>rw[hs]at h;cases h
      |some b=>
       rw[hs]at h;have hn:=Zae hk hs;rw[<-R]at hn;cases b with
       |true=>
        cases h;refine⟨some (i,o.val),by unfold Instr.findNow;rw[hn],.inr ⟨i,y,o.val,rfl,rfl,a7,⟨o,by rw[Nat.sub_self];rfl,hn⟩,aL _⟩⟩
       |false=>
        obtain⟨J,k1,k2⟩:=JX hk es es' (i+1) r h I U;refine⟨J,by unfold Instr.findNow;rw[hn];exact k1,?_⟩;rcases k2 with k2|⟨j,y1,y2,m1,m2,m3,⟨b1,m4,m5⟩,m6⟩
        ·exact .inl k2
        ·refine .inr ⟨j,y1,y2,m1,m2,m3,⟨b1,?_,m5⟩,by omega⟩;rw[show j-i=(j-(i+1))+1 by omega];exact m4
     |_=>cases h
theorem V3 (p:B3 P T) {o:TypeId} {k:Value} {d:TypeDesc} (I:TM T o k=some d):P.underlying o=some d/\MapKept.IsKey d k:=by
 obtain⟨J,R⟩:=P8 I;refine⟨Ea p J,?_⟩;rcases R with⟨s,rfl,rfl⟩|⟨j,n,rfl,rfl⟩
 ·trivial
 ·rfl
end
end Ev
end
end Go.Proofs.YthbihnpoghlfaaaGreatDoor
