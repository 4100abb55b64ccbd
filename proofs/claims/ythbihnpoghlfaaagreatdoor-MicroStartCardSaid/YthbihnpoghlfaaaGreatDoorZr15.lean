import Derived.Sort.OwnSortedInts
import Derived.Test.YthbihnpoghlfaaaGreatDoorZr13
import Derived.Test.YthbihnpoghlfaaaGreatDoorZr14
set_option linter.unusedVariables false
set_option linter.unusedSimpArgs false
set_option maxHeartbeats 8000000
set_option maxRecDepth 100000
namespace Go.Proofs.YthbihnpoghlfaaaGreatDoor
open Go.Proofs.Tryz
section
open Go.RowKit Q
theorem EO (a b:ByteArray):(a.toList==b.toList)=decide (a=b):=by
 rw[Dl,Dl];by_cases h:a=b
 ·subst h;simp
 ·rw[aF h,dJ];exact fun e=>h (gO (gG.1 e))
theorem Zcn {a b:ByteArray} (h:a=b):(a.toList==b.toList)=true:=by rw[EO,aH h]
theorem Zcs {a b:ByteArray} (h:a≠b):(a.toList==b.toList)=false:=by rw[EO,aF h]
theorem Db {a b:Bool} (h:a=b):Ending.returned (.bool a)=.returned (.bool b):=by rw[h]
def ZbF (l:List ByteArray) (s:ByteArray) (k:Nat):Prop:=∀j (h:j<l.length),j<k->l[j]≠s
theorem ZbT {l:List ByteArray} {s:ByteArray} {k:Nat} (h:k<l.length) (e:l[k]=s):E5 l s=true:=KG.2 (e▸bK h)
theorem Ys {l:List ByteArray} {s:ByteArray} (h:ZbF l s l.length):E5 l s=false:=by
 cases p:E5 l s with
 |false=>rfl
 |true=>
  obtain⟨j,o,e⟩:=cU (KG.1 p);exact absurd e (h j o o)
theorem G5 (l:List ByteArray) (v:Value) (s:ByteArray) (w:World) (h:AE w w.heap.size v l) :
  Calls prog 110 #[v,.string s] w fun e w'=>e=.returned (.bool (E5 l s))/\w'=w:=by
 obtain⟨A,c,rfl,hn,U⟩:=h.form;obtain⟨b,I⟩:∃b,E5 l s=b:=⟨_,rfl⟩;rw[I];have HB:=jK I;clear I;go_enter func110,ntmps110;go_wp2
 go_loop [5] (fun v=>∃k:Nat,k<=l.length/\v=.int .i64 (k:Int)/\ZbF l s k) (fun v=>l.length-(intOf v).toNat)
 case atStart=>exact⟨0,by omega,rfl,fun j _ J=>absurd J (by omega)⟩
 case round=>
  obtain⟨k,hk,rfl,o⟩:=hrel;by_cases p:k<l.length
  ·have a7:(k:Int)<(l.length:Int):=by omega
   obtain⟨ad,rfl,a8⟩:=Tt U p;have R:=(Za5 U p rfl).1;have HA:=jK o;clear o;by_cases e:l[k]=s
   ·obtain rfl:b=true:=by rw[<-HB.out];exact ZbT p e
    have he:=Zcn e;clear e;go_wp2;go_ret;exact⟨rfl,rfl⟩
   ·have he:=Zcs e;have HE:=jK e;clear e;go_wp2
    go_round
    case rel=>exact⟨k+1,by omega,by go_num,fun j J b2=>by
     by_cases e:j=k
     ·subst e;exact HE.out
     ·exact HA.out j J (by omega)⟩
    case measure=>simp[intOf];omega
  ·obtain rfl:k=l.length:=by omega
   have b3:¬(l.length:Int)<(l.length:Int):=by omega
   obtain rfl:b=false:=by rw[<-HB.out];exact Ys o
   clear o;go_wp2;go_ret;exact⟨rfl,rfl⟩
theorem Da (s:ByteArray) (w:World):Calls prog 66 #[.string s] w fun e w'=>e=.returned (.bool (Bv s))/\w'=w:=by
 obtain⟨b,hb⟩:∃b,Bv s=b:=⟨_,rfl⟩;rw[hb];have R:=jK hb;clear hb;go_enter func66,ntmps66;by_cases h0:s.size=0
 ·obtain rfl:s=⟨#[]⟩:=gO (jJ.1 h0);obtain rfl:b=false:=by rw[<-R.out];rfl
  go_wp2;go_ret;exact⟨rfl,rfl⟩
 ·have hp:0<s.size:=by omega
  have c0:¬(s.size:Int)<1:=by omega
  by_cases b5:s.size<=12
  ·have a6:¬(12:Int)<(s.size:Int):=by omega
   clear h0;rcases OJ s with⟨h1,h⟩|⟨h1,h2,h⟩|⟨h1,h2,h3,h⟩|⟨h1,h2,h3,h4,h⟩|⟨h1,h2,h3,h4,h5,h⟩|⟨h1,h2,h3,h4,h5,h⟩
   iterate 5 focus
    obtain rfl:b=false:=by rw[<-R.out];exact GD h
    clear h;go_wp2;go_ret;exact⟨rfl,rfl⟩
   have HK:=jK h;clear h;go_wp2;clear h1 h2 h3 h4 h5
   go_loop [3] (fun v=>∃k:Nat,k<=s.size/\v=.int .i64 (k:Int)/\SU s k/\(0<k->97<=(s[0].toNat:Int)/\(s[0].toNat:Int)<=122)) (fun v=>s.size-(intOf v).toNat)
   case atStart=>exact⟨0,by omega,rfl,fun j _ hj=>absurd hj (by omega),fun h=>absurd h (by omega)⟩
   case round=>
    obtain⟨k,hk,rfl,U,p⟩:=hrel;have HA:=jK U;have HF:=jK p;clear U p;by_cases J:k<s.size
    ·have c9:(k:Int)<(s.size:Int):=by omega
     have a8:k=0->s[0]=s[k]:=fun e=>by subst e;rfl
     have HS:=jK a8;clear a8;rcases Rn s[k].toNat with⟨c1,c2,o⟩|⟨c1,c2,c3,o⟩|⟨c1,c2,c3,o⟩|⟨c1,c2,c3,o⟩|⟨c1,c2,o⟩|⟨c1,c2,o⟩
     ·have HC:=jK o;clear o;go_wp2
      go_round
      case rel=>exact⟨k+1,by omega,by go_num,HA.out.succ J HC.out,fun _=>by
       by_cases e:k=0
       ·rw[HS.out e];exact⟨c1,c2⟩
       ·exact HF.out (by omega)⟩
      case measure=>simp[intOf];omega
     ·by_cases e:k=0
      ·subst e;obtain rfl:b=false:=by rw[<-R.out];exact DI hp (.inl c1)
       clear o;go_wp2;go_ret;exact⟨rfl,rfl⟩
      ·have I:((k:Int)==0)=false:=by simp;omega
       have HC:=jK o;clear o;go_wp2
       go_round
       case rel=>exact⟨k+1,by omega,by go_num,HA.out.succ J HC.out,fun _=>HF.out (by omega)⟩
       case measure=>simp[intOf];omega
     ·have c4:((s[k].toNat:Int)==95)=true:=by simpa using c3
      by_cases e:k=0
      ·subst e;obtain rfl:b=false:=by rw[<-R.out];exact DI hp (.inl c1)
       clear o;go_wp2;go_ret;exact⟨rfl,rfl⟩
      ·have I:((k:Int)==0)=false:=by simp;omega
       have HC:=jK o;clear o;go_wp2
       go_round
       case rel=>exact⟨k+1,by omega,by go_num,HA.out.succ J HC.out,fun _=>HF.out (by omega)⟩
       case measure=>simp[intOf];omega
     ·have c4:((s[k].toNat:Int)==95)=false:=by simpa using c3
      have c5:decide ((s[k].toNat:Int)<=57)=false:=aF (by omega);obtain rfl:b=false:=by rw[<-R.out];exact ES J o
      clear o;by_cases e:k=0
      ·subst e;go_wp2;go_ret;exact⟨rfl,rfl⟩
      ·have I:((k:Int)==0)=false:=by simp;omega
       go_wp2;go_ret;exact⟨rfl,rfl⟩
     rotate_left
     ·have c4:((s[k].toNat:Int)==95)=false:=by simpa using c2
      have c5:decide ((s[k].toNat:Int)<=57)=false:=aF (by omega);have c6:decide ((s[k].toNat:Int)<=122)=false:=aF (by omega);obtain rfl:b=false:=by rw[<-R.out];exact ES J o
      clear o;by_cases e:k=0
      ·subst e;go_wp2;go_ret;exact⟨rfl,rfl⟩
      ·have I:((k:Int)==0)=false:=by simp;omega
       go_wp2;go_ret;exact⟨rfl,rfl⟩
     ·have c4:((s[k].toNat:Int)==95)=false:=by simpa using c2
      obtain rfl:b=false:=by rw[<-R.out];exact ES J o
      clear o;by_cases e:k=0
      ·subst e;go_wp2;go_ret;exact⟨rfl,rfl⟩
      ·have I:((k:Int)==0)=false:=by simp;omega
       go_wp2;go_ret;exact⟨rfl,rfl⟩
    ·obtain rfl:k=s.size:=by omega
     have e1:¬(s.size:Int)<(s.size:Int):=by omega
     obtain rfl:b=true:=by rw[<-R.out];exact OP hp b5 (HF.out hp) HA.out HK.out
     go_wp2;go_ret;exact⟨rfl,rfl⟩
  ·have a6:(12:Int)<(s.size:Int):=by omega
   obtain rfl:b=false:=by rw[<-R.out];exact Hs (by omega)
   go_wp2;go_ret;exact⟨rfl,rfl⟩
theorem WI (s:ByteArray):EB s=I8 (if Lib.hasPrefix s.data.toList DE=true then s.data.toList.drop 5 else s.data.toList):=by
 have j:s.data.toList.length=s.size:=by rw[bS,gI]
 unfold EB Bv Lib.hasPrefix;rw[<-j];generalize s.data.toList=l;by_cases h:DE.isPrefixOf l=true
 ·rw[if_pos h];obtain⟨r,rfl⟩:=eR.1 h;have o:I8 (DE++r)=false:=by
   simp[I8,DE,KV]
  rw[o];cases r with
  |nil=>rfl
  |cons a r=>simp[DE]
 ·rw[if_neg h];have p:¬l.take 5=[100,111,110,101,46]:=fun e=>h (by
   rw[eR];exact⟨l.drop 5,by
    show [100,111,110,101,46]++_=_;rw[<-e,fN]⟩)
  rw[aF p];simp
theorem WX (s:ByteArray) (w:World):Calls prog 238 #[.string s] w fun e j=>e=.returned (.bool (EB s))/\j=w:=by
 go_enter func238,ntmps238;have o:=jK (WI s);go_wp2_with fail;refine(Tryz.strings_CutPrefix s ⟨#[100,111,110,101,46]⟩ w).mono ?_;rintro e j⟨rfl,rfl⟩;go_wp2_with fail;refine(Kk _ j).mono ?_;rintro e p⟨rfl,rfl⟩;go_wp2;go_ret;exact⟨Db (by rw[o.out];rfl),rfl⟩
theorem Qb (s:ByteArray) (w:World) (hs:s.size<=9223372036854775807):Calls prog 293 #[.string s] w fun e R=>e=.returned (.bool (EB s))/\R=w:=by
 go_enter func293,ntmps293;obtain⟨b,U⟩:∃b,EB s=b:=⟨_,rfl⟩;rw[U];have p:=jK U;clear U;go_wp2_with fail;refine(Da s w).mono ?_;rintro e R⟨rfl,rfl⟩;cases o:Bv s with
 |true=>
  obtain rfl:b=true:=by rw[<-p.out];unfold EB;rw[o];rfl
  have I:=jK o;clear o;go_wp2;go_ret;exact⟨rfl,rfl⟩
 |false=>
  have I:=jK o;clear o;by_cases h5:5<s.size
  ·have a1:5<(s.size:Int):=by omega
   have J:(s.extract 0 5).toList=s.data.toList.take 5:=by
    rw[Dl,ByteArray.data_extract,Array.toList_extract];simp
   have hy:Bv (s.extract 5 s.size)=I8 (s.data.toList.drop 5):=by
    unfold Bv;rw[ByteArray.data_extract,Array.toList_extract];congr 1;refine gP ?_;rw[dM,bS,gI];exact aL _
   by_cases j:(s.extract 0 5).toList=[100,111,110,101,46]
   ·have HV:=jK (show EB s=Bv (s.extract 5 s.size)by
     unfold EB;rw[I.out,<-J,j,aH h5,aH rfl,hy];rfl)
    have a7:((s.extract 0 5).toList==[100,111,110,101,46])=true:=by rw[j];rfl
    clear J hy j;go_wp2_with fail;refine(Da (s.extract 5 s.size) R).mono ?_;rintro e b1⟨rfl,rfl⟩;go_wp2;go_ret;exact⟨Db (by rw[<-p.out,HV.out]),rfl⟩
   ·obtain rfl:b=false:=by
     rw[<-p.out];unfold EB;rw[I.out,<-J,aF j];simp
    have a7:((s.extract 0 5).toList==[100,111,110,101,46])=false:=by rw[dJ];exact j
    clear J hy j;go_wp2;go_ret;exact⟨rfl,rfl⟩
  ·have a1:¬5<(s.size:Int):=by omega
   obtain rfl:b=false:=by
    rw[<-p.out];unfold EB;rw[I.out,aF h5];rfl
   go_wp2;go_ret;exact⟨rfl,rfl⟩
theorem D4 {a b:Int} (h:a=b):Ending.returned (.int .i64 a)=.returned (.int .i64 b):=by rw[h]
theorem YL (s:ByteArray):s.toList.isEmpty=s.data.toList.isEmpty:=by rw[Dl]
theorem O7 (c:Cell) (w:World):Calls prog 309 #[.agg #[.int .i64 c.op,.int .i64 c.a,.string c.name]] w fun e p=>e=.returned (.int .i64 (B7 c))/\Below w.heap.size w p:=by
 obtain⟨op,a,s⟩:=c;obtain⟨r,j⟩:∃r,B7 ⟨op,a,s⟩=r:=⟨_,rfl⟩;show Calls _ _ #[.agg #[.int .i64 op,.int .i64 a,.string s]] w fun e p=>e=.returned (.int .i64 (B7 ⟨op,a,s⟩))/\_
 rw[j];have he:=YL s;unfold B7 at j;dsimp only at j;have o:s.data.toList.isEmpty=true↔s.data.toList=[]:=gB;cases J:s.data.toList.isEmpty<;>cases I:Bv s<;>
  (rw[J]at he o
   simp only[dY,false_iff,true_iff]at o;simp only[o,I,ne_eq,not_true_eq_false,not_false_eq_true,iG,or_true,if_true,Bool.true_eq_false]at j;have R:=jK j;have U:=jK I;clear j o J I;go_enter func309,ntmps309;go_wp2_with (go_at_call 65;refine(Kk _ _).mono ?_;rintro e p⟨rfl,rfl⟩;rw[U.out])
   all_goals
    go_ret;refine⟨D4 ?_,(aJ _ _).alloc (aL _) _⟩;rw[<-R.out];simp only[dI,dJ,ne_eq]at *
    repeat' split
    all_goals first|rfl|omega)
theorem B5 (c:Cell) (w:World):Calls prog 294 #[.agg #[.int .i64 c.op,.int .i64 c.a,.string c.name]] w fun e p=>e=.returned (.int .i64 (B7 c))/\Below w.heap.size w p:=by
 obtain⟨op,a,s⟩:=c;obtain⟨r,o⟩:∃r,B7 ⟨op,a,s⟩=r:=⟨_,rfl⟩;show Calls _ _ #[.agg #[.int .i64 op,.int .i64 a,.string s]] w fun e p=>e=.returned (.int .i64 (B7 ⟨op,a,s⟩))/\_
 rw[o];unfold B7 at o;dsimp only at o;by_cases j:s.size=0
 ·obtain rfl:s=⟨#[]⟩:=gO (jJ.1 j);simp only[show Bv ⟨#[]⟩=false from rfl,ne_eq,not_true_eq_false,iG,or_true,if_true]at o;have I:=jK o;have J:=jK (show Bv ⟨#[]⟩=false from rfl);clear o j;go_enter func294,ntmps294;go_wp2_with (go_at_call 66;refine(Da _ _).mono ?_;rintro e p⟨rfl,rfl⟩;rw[J.out])
  all_goals
   go_ret;refine⟨D4 ?_,(aJ _ _).alloc (aL _) _⟩;rw[<-I.out]
   try simp only[dI,dJ,ne_eq]at *
   repeat' split
   all_goals first|rfl|omega|(exfalso;simp_all;done)|(exfalso;simp_all;omega)
 ·have hs:0<(s.size:Int):=by omega
  have a1:¬s=ByteArray.empty:=fun e=>by subst e;simp at j
  have U:¬s.data.toList=[]:=fun e=>by
   have:s.data.toList.length=s.size:=by rw[bS,gI]
   rw[e]at this;exact j this.symm
  cases R:Bv s
  all_goals
   simp only[U,R,ne_eq,not_true_eq_false,not_false_eq_true,iG,or_true,if_true,Bool.true_eq_false]at o;have I:=jK o;have J:=jK R;clear o R j U;go_enter func294,ntmps294;go_wp2_with (go_at_call 66;refine(Da _ _).mono ?_;rintro e p⟨rfl,rfl⟩;rw[J.out])
   all_goals
    go_ret;refine⟨D4 ?_,(aJ _ _).alloc (aL _) _⟩;rw[<-I.out]
    try simp only[dI,dJ,ne_eq]at *
    repeat' split
    all_goals first|rfl|omega|(exfalso;simp_all;done)|(exfalso;simp_all;omega)
theorem drop_at {α:Type} {l:List α} {i:Nat} (h:i<l.length):l.drop i=l[i]::l.drop (i+1):=dV h
theorem VG {n:Nat} {c:Cell} {l:List Cell} (h:B7 c<0\/(n:Int)<B7 c):Kw n (c::l)=none:=by rw[Kw,if_pos h]
theorem ZR {n:Nat} {c:Cell} {l:List Cell} (h:¬(B7 c<0\/(n:Int)<B7 c)):Kw n (c::l)=Kw (n+1-(B7 c).toNat) l:=by rw[Kw,if_neg h]
theorem PL (c:Cell):-1<=B7 c/\B7 c<=2:=by
 rcases GY c with h|h|h|h<;>omega
theorem P7 (l:List Cell) (v:Value) (w:World) (h:Bp w w.heap.size v l) :
  Calls prog 253 #[v] w fun e w'=>e=.returned (.bool (BC l))/\Below w.heap.size w w':=by
 obtain⟨A,c,rfl,hn,hA⟩:=h.form;obtain⟨b,o⟩:∃b,BC l=b:=⟨_,rfl⟩;rw[o];have HB:=jK o;clear o;go_enter func253,ntmps253;by_cases a1:l.length<=32
 ·have a6:¬32<(l.length:Int):=by omega
  go_wp2
  go_loopw [12,3] (fun v u wr=>∃i n:Nat,i<=l.length/\n<=i/\v=.int .i64 (i:Int)/\u=.int .i64 (n:Int)/\Kw n (l.drop i)=Kw 0 l/\Below w.heap.size w wr) (fun v _ _=>l.length-(intOf v).toNat)
  case atStart=>exact⟨0,0,by omega,by omega,rfl,rfl,rfl,aJ _ _⟩
  case round=>
   obtain⟨i,n,hi,b5,rfl,rfl,I,o⟩:=hrel;by_cases U:i<l.length
   ·have b6:(i:Int)<(l.length:Int):=by omega
    obtain⟨ad,rfl,b7⟩:=hA i U;obtain⟨c0,c1,c2⟩:=Bp.at_ (h.below Aw o) U;rw[drop_at U]at I;have b8:=PL l[i];by_cases j:B7 l[i]<0\/(n:Int)<B7 l[i]
    ·obtain rfl:b=false:=by rw[<-HB.out,BC,<-I,VG j];simp
     clear I;go_wp2_with fail;refine(O7 l[i] _).mono ?_;rintro e w1⟨rfl,J⟩;have R:Below w.heap.size w w1:=(o.alloc o.size _).trans (J.mono (by simp;have:=o.size;omega));clear J c0 c1 c2;generalize B7 l[i]=k at *;rcases j with hk|hk
     ·go_wp2;go_ret;exact⟨rfl,R⟩
     ·by_cases b0:k<0
      ·go_wp2;go_ret;exact⟨rfl,R⟩
      ·go_wp2;go_ret;exact⟨rfl,R⟩
    ·rw[ZR j]at I;have HC:=jK I;clear I;go_wp2_with fail;refine(O7 l[i] _).mono ?_;rintro e w1⟨rfl,J⟩;have R:Below w.heap.size w w1:=(o.alloc o.size _).trans (J.mono (by simp;have:=o.size;omega));clear J c0 c1 c2;generalize B7 l[i]=k at *;have b0:0<=k:=by omega
     have c4:k<=(n:Int):=by omega
     clear j;go_wp2;go_roundw
     case rel=>exact⟨i+1,n+1-k.toNat,by omega,by omega,by go_num,by congr 1;omega,HC.out,R⟩
     case measure=>simp[intOf];omega
   ·obtain rfl:i=l.length:=by omega
    have c5:¬(l.length:Int)<(l.length:Int):=by omega
    rw[eL,Kw]at I;by_cases h1:n=1
    ·subst h1;obtain rfl:b=true:=by rw[<-HB.out,BC,<-I,aH a1];simp
     clear I;go_wp2;go_ret;exact⟨rfl,o⟩
    ·obtain rfl:b=false:=by rw[<-HB.out,BC,<-I,aF (p:=some n=some 1) (by simpa using h1),gT]
     have c6:((n:Int)==1)=false:=by simp;omega
     clear I h1;go_wp2;go_ret;exact⟨rfl,o⟩
 ·have a6:32<(l.length:Int):=by omega
  obtain rfl:b=false:=by rw[<-HB.out,BC,aF a1];rfl
  go_wp2;go_ret;exact⟨rfl,aJ _ _⟩
theorem JE (l:List Cell) (v:Value) (w:World) (h:Bp w w.heap.size v l) :
  Calls prog 246 #[v] w fun e w'=>e=.returned (.bool (BC l))/\Below w.heap.size w w':=by
 obtain⟨A,c,rfl,hn,hA⟩:=h.form;obtain⟨b,I⟩:∃b,BC l=b:=⟨_,rfl⟩;rw[I];have HB:=jK I;clear I;go_enter func246,ntmps246;go_wp2
 go_loopw [4,3] (fun v u wr=>∃i n:Nat,i<=l.length/\i<=32/\n<=i/\v=.int .i64 (i:Int)/\u=.int .i64 (n:Int)/\Kw n (l.drop i)=Kw 0 l/\Below w.heap.size w wr) (fun v _ _=>l.length-(intOf v).toNat)
 case atStart=>exact⟨0,0,by omega,by omega,by omega,rfl,rfl,rfl,aJ _ _⟩
 case round=>
  obtain⟨i,n,hi,a1,b7,rfl,rfl,R,I⟩:=hrel;by_cases U:i<l.length
  ·have b8:(i:Int)<(l.length:Int):=by omega
   obtain⟨ad,rfl,b9⟩:=hA i U;obtain⟨c0,c1,c2⟩:=Bp.at_ (h.below Aw I) U;rw[drop_at U]at R;have c3:=PL l[i];by_cases o:B7 l[i]<0\/(n:Int)<B7 l[i]
   ·obtain rfl:b=false:=by rw[<-HB.out,BC,<-R,VG o];simp
    clear R;go_wp2_with fail;refine(B5 l[i] _).mono ?_;rintro e w1⟨rfl,j⟩;have J:Below w.heap.size w w1:=I.trans (j.mono I.size);clear j c0 c1 c2;generalize B7 l[i]=k at *;by_cases a7:k<0
    ·go_wp2;go_ret;exact⟨rfl,J⟩
    ·have hk:(n:Int)<k:=by omega
     go_wp2;go_ret;exact⟨rfl,J⟩
   ·rw[ZR o]at R;by_cases b2:i<32;rotate_left
    ·have a8:32<=(i:Int):=by omega
     obtain rfl:b=false:=by rw[<-HB.out,BC,aF (by omega)];rfl
     clear R b2;go_wp2_with fail;refine(B5 l[i] _).mono ?_;rintro e w1⟨rfl,j⟩;have J:Below w.heap.size w w1:=I.trans (j.mono I.size);clear j c0 c1 c2;generalize B7 l[i]=k at *;have a7:0<=k:=by omega
     have b3:k<=(n:Int):=by omega
     clear o;go_wp2;go_ret;exact⟨rfl,J⟩
    ·have a8:(i:Int)<32:=by omega
     have HC:=jK R;clear R;go_wp2_with fail;refine(B5 l[i] _).mono ?_;rintro e w1⟨rfl,j⟩;have J:Below w.heap.size w w1:=I.trans (j.mono I.size);clear j c0 c1 c2;generalize B7 l[i]=k at *;have a7:0<=k:=by omega
     have b3:k<=(n:Int):=by omega
     clear o;go_wp2;go_roundw
     case rel=>exact⟨i+1,n+1-k.toNat,by omega,by omega,by omega,by go_num,by congr 1;omega,HC.out,J⟩
     case measure=>simp[intOf];omega
  ·obtain rfl:i=l.length:=by omega
   have c5:¬(l.length:Int)<(l.length:Int):=by omega
   rw[eL,Kw]at R;by_cases h1:n=1
   ·subst h1;obtain rfl:b=true:=by rw[<-HB.out,BC,<-R,aH a1];simp
    clear R;go_wp2;go_ret;exact⟨rfl,I⟩
   ·obtain rfl:b=false:=by rw[<-HB.out,BC,<-R,aF (p:=some n=some 1) (by simpa using h1),gT]
    have c6:((n:Int)==1)=false:=by simp;omega
    clear R h1;go_wp2;go_ret;exact⟨rfl,I⟩
namespace Q
def Ib (l:List Cell) (i:Nat):Int:=match l[i]? with
 |some c=>B7 c
 |none=>0
def Hd (l:List Cell):Nat->Int->Option Nat
 | 0,want=>if want-1+Ib l 0=0 then some 0 else none
 |a+1,want=>if want-1+Ib l (a+1)=0 then some (a+1)else Hd l a (want-1+Ib l (a+1))
theorem Li (pre post:List Cell) (c:Cell) (i:Nat) (h:i=pre.length):Ib (pre++c::post) i=B7 c:=by
 subst h;unfold Ib;simp
def My (l:List Cell) (m p:Nat):Option Nat:=if m=0 then some p else if p=0 then none else Hd l (p-1) (m:Int)
theorem JR (l:List Cell) (a:Nat) (want:Int):Hd l a want=if want-1+Ib l a=0 then some a else if a=0 then none else Hd l (a-1) (want-1+Ib l a):=by
 cases a with
 |zero=>rfl
 |succ a=>rfl
theorem Gn:∀(t:T),t.wf->∀(pre post:List Cell) (m:Nat),Hd (pre++(t.flat++post)) (pre.length+t.flat.length-1) ((m:Int)+1)=My (pre++(t.flat++post)) m pre.length
 |.leaf c,h,pre,post,m=>by
  unfold T.wf at h;show Hd (pre++c::post) (pre.length+1-1) _=_;rw[iQ,JR,Li pre post c _ rfl,h];unfold My;simp only[T.flat,gE,eH];by_cases hm:m=0
  ·subst hm;simp
  ·rw[if_neg (by omega),if_neg hm,show(m:Int)+1-1+0=m by omega]
 |.one c t,h,pre,post,m=>by
  unfold T.wf at h;have hp:=Dc t;have ih:=Gn t h.2 pre (c::post) m;unfold T.flat;rw[dG,aO,cR];show Hd (pre++(t.flat++c::post)) _ _=My (pre++(t.flat++c::post)) m _;rw[<-ih,JR];have j:Ib (pre++(t.flat++c::post)) (pre.length+(t.flat.length+1)-1)=1:=by
   rw[<-dG,Li _ _ _ _ (by rw[aO];omega),h.1]
  rw[j,if_neg (by omega),if_neg (by omega),show(m:Int)+1-1+1=m+1 by omega,show pre.length+(t.flat.length+1)-1-1=pre.length+t.flat.length-1 by omega]
 |.two c s t,h,pre,post,m=>by
  unfold T.wf at h;have hp:=Dc t;have p:=Dc s;have ih:=Gn t h.2.2 (pre++s.flat) (c::post) (m+1);have o:=Gn s h.2.1 pre (t.flat++c::post) m;unfold T.flat;rw[dG,dG,aO,aO,cR];show Hd (pre++(s.flat++(t.flat++c::post))) _ _=My (pre++(s.flat++(t.flat++c::post))) m _;rw[<-o,JR];have j:Ib (pre++(s.flat++(t.flat++c::post))) (pre.length+(s.flat.length+(t.flat.length+1))-1)=2:=by
   rw[<-dG,<-dG,Li _ _ _ _ (by rw[aO,aO];omega),h.1]
  rw[j,if_neg (by omega),if_neg (by omega)];rw[dG,aO]at ih;rw[show(m:Int)+1-1+2=((m+1:Nat):Int)+1 by omega,show pre.length+(s.flat.length+(t.flat.length+1))-1-1=pre.length+s.flat.length+t.flat.length-1 by omega,ih];unfold My;rw[if_neg (by omega),if_neg (by omega)];congr 1
end Q
theorem OZ (l:List Cell) (v:Value) (w:World) (h:Bp w w.heap.size v l) (hl:l.length<=32) (a r:Nat) (ha:a<l.length) (hr:Hd l a 1=some r) :
  Calls prog 296 #[v,.int .i64 (a:Int)] w fun e w'=>e=.returned (.int .i64 (r:Int))/\Below w.heap.size w w':=by
 obtain⟨A,c,rfl,hn,hA⟩:=h.form;have HR:=jK hr;clear hr;go_enter func296,ntmps296;go_wp2
 go_loopw [5,6] (fun v u wr=>∃(want:Int) (i:Nat),i<=a/\want<=1+(a-i:Int)/\1-2*(a-i:Int)<=want/\v=.int .i64 want/\u=.int .i64 (i:Int)/\Hd l i want=some r/\Below w.heap.size w wr) (fun _ u _=>(intOf u).toNat)
 case atStart=>exact⟨1,a,by omega,by omega,by omega,rfl,rfl,HR.out,aJ _ _⟩
 case round=>
  obtain⟨want,i,hi,b2,b3,rfl,rfl,j,U⟩:=hrel;have o:i<l.length:=by omega
  have b4:(i:Int)<(l.length:Int):=by omega
  obtain⟨ad,rfl,b5⟩:=hA i o;obtain⟨c0,c1,c2⟩:=Bp.at_ (h.below Aw U) o;have b7:=PL l[i];rw[JR,show Ib l i=B7 l[i]by unfold Ib;rw[aQ o]]at j;have HC:=jK j;clear j;go_wp2_with fail;refine(B5 l[i] _).mono ?_;rintro e w1⟨rfl,I⟩;have J:Below w.heap.size w w1:=U.trans (I.mono U.size);clear I c0 c1 c2;generalize B7 l[i]=k at *;by_cases p:want-1+k=0
  ·have j:=HC.out;rw[if_pos p]at j;injection j with j
   subst j;have a6:(want-1+k==0)=true:=by simpa using p
   clear p;go_wp2;go_ret;exact⟨rfl,J⟩
  ·have j:=HC.out;rw[if_neg p]at j;by_cases R:i=0
   ·rw[if_pos R]at j;cases j
   ·rw[if_neg R]at j;have a6:(want-1+k==0)=false:=by simpa using p
    have HD:=jK j;clear j p HC;go_wp2;go_roundw
    case rel=>exact⟨want-1+k,i-1,by omega,by omega,by omega,rfl,by congr 1;omega,HD.out,J⟩
    case measure=>simp[intOf];omega
theorem FN {w:World} {B n:Nat} {A:Option Addr} {xs:List Value} (h:Reads w B 1 A n xs) (U:0<n):∃b off,A=some ⟨b,off,none⟩/\b<B/\∀j u,xs[j]?=some u->w.cell? ⟨b,off+j,none⟩=some u:=by
 obtain⟨o,rfl,hb,I⟩:=h.2 U;have h0:=I 0 (xs[0]'(by have:=h.1;omega)) (aQ _);have p:(o.add 0).spot=none:=World.cell?_spot h0;have J:o.add 0=o:=by simp[Addr.add]
 rw[J]at p;obtain⟨b,off,spot⟩:=o;dsimp only at p;subst p;refine⟨b,off,rfl,hb,fun j u hu=>?_⟩;have:=I j u hu;by_cases R:j=0
 ·subst R;rw[J]at this;exact this
 ·rw[Addr.add,if_neg R]at this;exact this
theorem MP {l:List ByteArray} {j:Nat} (o:j<l.length):(strs l)[j]?=some (.string (l.getD j ByteArray.empty)):=by
 unfold strs;rw[cN,aQ o,fU,aQ o];rfl
theorem Yi {l:List Int} {j:Nat} (o:j<l.length):(Gf l)[j]?=some (.int .i64 (l.getD j 0)):=by
 unfold Gf;rw[cN,aQ o,fU,aQ o];rfl
theorem Og (l:List ByteArray) (s:ByteArray):Lib.containsS l s=E5 l s:=by
 rw[cH,Lib.containsS_iff,KG]
theorem EN (l:List ByteArray) (v:Value) (s:ByteArray) (w:World) (h:AE w w.heap.size v l) :
  Calls prog 104 #[v,.string s] w fun e o=>e=.returned (.bool (E5 l s))/\o=w:=by
 obtain⟨A,c,rfl,p,I⟩:=h.form;by_cases J:0<l.length
 ·obtain⟨b,off,rfl,_,R⟩:=FN I J;refine(Tryz.slices_Contains_string b off l.length c l s w (aL _) p fun j U=>R j _ (MP U)).mono ?_;rintro e o⟨rfl,rfl⟩;exact⟨Db (by rw[bT,Og]),rfl⟩
 ·obtain rfl:=aZ (show l.length=0 by omega);exact Tryz.slices_Contains_string_empty A c s w
theorem Oo (l:List Int) (v:Value) (x:Int) (w:World) (h:BD w w.heap.size v l) :
  Calls prog 56 #[v,.int .i64 x] w fun e o=>e=.returned (.bool (l.contains x))/\o=w:=by
 obtain⟨A,c,rfl,p,I⟩:=h.form;by_cases J:0<l.length
 ·obtain⟨b,off,rfl,_,R⟩:=FN I J;refine(Tryz.slices_Contains_int b off l.length c l x w (aL _) p fun j U=>R j _ (Yi U)).mono ?_;rintro e o⟨rfl,rfl⟩;exact⟨Db (by rw[bT]),rfl⟩
 ·obtain rfl:=aZ (show l.length=0 by omega);exact Tryz.slices_Contains_int_empty A c x w
end
section
open Go.RowKit Q Go.Sort
def leI (x y:Int):Bool:=decide (x<=y)
theorem Pm (w:World) (B:Nat) (v:Value) (l:List Int) (h:w.ownsRow B 3 1 v l.length (Gf l)) (I:l.length<4611686018427387904) :
  Calls prog 50 #[v] w fun e o=>e=.returned (.tuple #[])/\o.ownsRow B 3 1 v l.length (Gf (l.mergeSort leI))/\w.grownBy o v.ownBlock:=by
 rcases h.2 with⟨rfl,J⟩|⟨g,cap,R,rfl,j,p,U,h2,h3,h4⟩
 ·obtain rfl:=aZ J;refine(Tryz.slices_Sort_int_none none 0 w).mono ?_;rintro e o⟨rfl,rfl⟩;rw[List.mergeSort_nil];exact⟨rfl,bL _ _ _ _,iP _ _⟩
 ·refine(Tryz.slices_Sort_int g 0 cap l w (holds_of_blockI p (by simpa[Gf]using h4)) (aU.1 p).1 I).mono ?_;rintro e o⟨rfl,n,os,rfl⟩;exact⟨rfl,ownsRow_sortedI (by simp[gW]) j p U h2 h3,grownBy_sortedI _⟩
def Ef (l:List ByteArray):List (List UInt8):=l.map fun s=>s.data.toList
theorem NI (l:List ByteArray):strs l=(Ef l).map encStr:=by
 unfold strs Ef;rw[fI];rfl
theorem Mr (w:World) (v:Value) (l:List ByteArray) (h:AE w w.heap.size v l) (hn:l.length<=1000000) :
  Calls prog 120 #[v] w fun e p=>∃o,e=.returned o/\Below w.heap.size w p/\p.ownsRow w.heap.size 9 1 o l.length (strs l):=by
 obtain⟨A,c,rfl,R,U⟩:=h.form;by_cases hl:0<l.length
 ·obtain⟨b,off,rfl,_,hc⟩:=FN U hl;refine(Tryz.slices_Clone_string b off l.length c l w (aL _) (by omega) fun j hj=>hc j _ (MP hj)).mono ?_;rintro e p⟨o,rfl,I,_,J⟩;rw[bT]at I;exact⟨o,rfl,J,I⟩
 ·obtain rfl:=aZ (show l.length=0 by omega);cases A with
  |none=>
   refine(Tryz.slices_Clone_string_nil 0 c w).mono ?_;rintro e p⟨rfl,rfl⟩;exact⟨_,rfl,aJ _ _,bL _ _ _ _⟩
  |some ad=>
   refine(Tryz.slices_Clone_string_zero ad c w).mono ?_;rintro e p⟨o,rfl,I,_,J⟩;exact⟨o,rfl,J,I⟩
def leB (x y:List UInt8):Bool:=decide (x<=y)
def unB (l:List (List UInt8)):List ByteArray:=l.map fun x=>⟨x.toArray⟩
theorem OL (l:List (List UInt8)):Ef (unB l)=l:=by
 unfold Ef unB;rw[fI];exact List.map_id' l
theorem ZaO (l:List (List UInt8)):strs (unB l)=l.map encStr:=by
 rw[NI,OL]
theorem JB (l:List ByteArray):(Ef l).length=l.length:=by unfold Ef;rw[bG]
theorem Zbf (l:List (List UInt8)):(unB l).length=l.length:=by unfold unB;rw[bG]
theorem Xq (w:World) (B:Nat) (v:Value) (l:List ByteArray) (h:w.ownsRow B 9 1 v l.length (strs l)) (J:l.length<4611686018427387904) :
  Calls prog 174 #[v] w fun e o=>e=.returned (.tuple #[])/\o.ownsRow B 9 1 v l.length (strs (unB ((Ef l).mergeSort leB)))/\w.grownBy o v.ownBlock:=by
 rcases h.2 with⟨rfl,U⟩|⟨g,cap,a1,rfl,j,p,R,h2,h3,I⟩
 ·obtain rfl:=aZ U;refine(Tryz.slices_Sort_string_none none 0 w).mono ?_;rintro e o⟨rfl,rfl⟩;show _/\World.ownsRow _ _ _ _ _ _ (strs (unB ((List.nil).mergeSort leB)))/\_;rw[List.mergeSort_nil];exact⟨rfl,bL _ _ _ _,iP _ _⟩
 ·rw[NI]at I;rw[<-JB l]at R I J⊢;refine(Tryz.slices_Sort_string g 0 cap (Ef l) w (holds_of_block p (by simpa using I)) (aU.1 p).1 J).mono ?_;rintro e o⟨rfl,n,os,rfl⟩;rw[ZaO];exact⟨rfl,ownsRow_sorted (by simp[gW]) j p R h2 h3,grownBy_sorted _⟩
theorem Qa (w:World) (B:Nat) (v:Value) (l:List ByteArray) (h:w.ownsRow B 9 1 v l.length (strs l)) (J:l.length<=1000000) :
  Calls prog 175 #[v] w fun e j=>∃A c,e=.returned (.slice A (Lib.compact (Ef l)).length c)/\w.grownBy j v.ownBlock:=by
 rcases h.2 with⟨rfl,R⟩|⟨g,cap,U,rfl,o,hb,I,h2,h3,p⟩
 ·obtain rfl:=aZ R;refine(Tryz.slices_Compact_string_empty none 0 w).mono ?_;rintro e j⟨rfl,rfl⟩;exact⟨none,0,rfl,iP _ _⟩
 ·rw[NI]at p;rw[<-JB l]at I p J⊢;refine(Tryz.slices_Compact_string g 0 cap (Ef l) w (holds_of_block hb (by simpa using p)) (by omega) I).mono ?_;rintro e j⟨rfl,q,rfl⟩;refine⟨_,_,rfl,?_⟩;have:=grownBy_sorted (w:=w) (g:=g) (n:=q) (os:=#[]) (Lib.compact (Ef l)++List.replicate ((Ef l).length-(Lib.compact (Ef l)).length) []).toArray
  rwa[grow_empty]at this
theorem AE.BL {w:World} {B:Nat} {v:Value} {l:List ByteArray} (h:w.ownsRow B 9 1 v l.length (strs l)) (j:l.length<=9223372036854775807):AE w w.heap.size v l:=by
 obtain⟨A,c,rfl⟩:=Al h;exact⟨A,l.length,c,rfl,rfl,j,Reads.BL h⟩
theorem BD.BL {w:World} {B:Nat} {v:Value} {l:List Int} (h:w.ownsRow B 3 1 v l.length (Gf l)) (j:l.length<=9223372036854775807):BD w w.heap.size v l:=by
 obtain⟨A,c,rfl⟩:=Al h;exact⟨A,l.length,c,rfl,rfl,j,Reads.BL h⟩
end
end Go.Proofs.YthbihnpoghlfaaaGreatDoor
