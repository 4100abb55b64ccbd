import Derived.Laws.StructEq
import Derived.Test.YthbihnpoghlfaaaGreatDoorZr18
import Derived.Test.YthbihnpoghlfaaaGreatDoorZr20
set_option linter.unusedVariables false
set_option linter.unusedSimpArgs false
set_option maxHeartbeats 8000000
set_option maxRecDepth 100000
namespace Go.Proofs.YthbihnpoghlfaaaGreatDoor
open Go.Proofs.Tryz
section
open Go.RowKit Q Fl
theorem Cr (k:Int):Cu (.ok k)=.tuple #[.int .i64 k,.int .i64 0]:=rfl
theorem Cm (k:Int):Cu (.err k)=.tuple #[.int .i64 0,.int .i64 k]:=rfl
theorem DX {a b a' j:Int} (o:a=a') (p:b=j):Ending.returned (.tuple #[.int .i64 a,.int .i64 b])=.returned (.tuple #[.int .i64 a',.int .i64 j]):=by rw[o,p]
theorem LF (op a b:Int) (h:op=11\/op=12\/op=13) (ha:AP a) (I:AP b) (w:World):Calls prog 320 #[.int .i64 op,.int .i64 a,.int .i64 b] w fun e w'=>e=.returned (Cu (Q.whole op a b))/\w'=w:=by
 have J:=ha;have R:=I;unfold AP at J R;rcases h with rfl|rfl|rfl
 ·by_cases j:AP (a+b)
  ·have o:Q.whole 11 a b=.ok (a+b):=by unfold Q.whole;rw[if_pos rfl,if_pos j]
   rw[o,Cr];unfold AP at j;have hw:wrap64 (a+b)=a+b:=by unfold wrap64;omega
   clear o;by_cases p:b<0
   ·have d1:=aH p;have d2:a+b<a:=by omega
    have d3:=aH d2;go_enter func320,ntmps320;go_wp2
    go_ret2
    exact⟨DX (by first|with_reducible rfl|omega) rfl,rfl⟩
   ·have d1:=aF p;have d2:¬a+b<a:=by omega
    have d3:=aF d2;go_enter func320,ntmps320;go_wp2
    go_ret2
    exact⟨DX (by first|with_reducible rfl|omega) rfl,rfl⟩
  ·have o:Q.whole 11 a b=.err 7:=by unfold Q.whole;rw[if_pos rfl,if_neg j]
   rw[o,Cm];unfold AP at j;clear o;by_cases p:b<0
   ·have hw:wrap64 (a+b)=a+b+18446744073709551616:=by unfold wrap64;omega
    have d1:=aH p;have d2:¬a+b+18446744073709551616<a:=by omega
    have d3:=aF d2;clear j;go_enter func320,ntmps320;go_wp2
    go_ret2
    exact⟨rfl,rfl⟩
   ·have hw:wrap64 (a+b)=a+b-18446744073709551616:=by unfold wrap64;omega
    have d1:=aF p;have d2:a+b-18446744073709551616<a:=by omega
    have d3:=aH d2;clear j;go_enter func320,ntmps320;go_wp2
    go_ret2
    exact⟨rfl,rfl⟩
 ·by_cases j:AP (a-b)
  ·have o:Q.whole 12 a b=.ok (a-b):=by unfold Q.whole;rw[if_neg (by decide),if_pos rfl,if_pos j]
   rw[o,Cr];unfold AP at j;have hw:wrap64 (a-b)=a-b:=by unfold wrap64;omega
   clear o;by_cases p:b<0
   ·have d1:=aH p;have d2:a<a-b:=by omega
    have d3:=aH d2;go_enter func320,ntmps320;go_wp2
    go_ret2
    exact⟨DX (by first|with_reducible rfl|omega) rfl,rfl⟩
   ·have d1:=aF p;have d2:¬a<a-b:=by omega
    have d3:=aF d2;go_enter func320,ntmps320;go_wp2
    go_ret2
    exact⟨DX (by first|with_reducible rfl|omega) rfl,rfl⟩
  ·have o:Q.whole 12 a b=.err 7:=by unfold Q.whole;rw[if_neg (by decide),if_pos rfl,if_neg j]
   rw[o,Cm];unfold AP at j;clear o;by_cases p:b<0
   ·have hw:wrap64 (a-b)=a-b-18446744073709551616:=by unfold wrap64;omega
    have d1:=aH p;have d2:¬a<a-b-18446744073709551616:=by omega
    have d3:=aF d2;clear j;go_enter func320,ntmps320;go_wp2
    go_ret2
    exact⟨rfl,rfl⟩
   ·have hw:wrap64 (a-b)=a-b+18446744073709551616:=by unfold wrap64;omega
    have d1:=aF p;have d2:a<a-b+18446744073709551616:=by omega
    have d3:=aH d2;clear j;go_enter func320,ntmps320;go_wp2
    go_ret2
    exact⟨rfl,rfl⟩
 ·clear J R;by_cases j:AP (a*b)
  ·have o:Q.whole 13 a b=.ok (a*b):=by unfold Q.whole;rw[if_neg (by decide),if_neg (by decide),if_pos rfl,if_pos j]
   rw[o,Cr];clear o;go_enter func320,ntmps320;go_wp2_with fail;refine(Lw a b ha I _).mono ?_;rintro e w'⟨⟨x,rfl,U⟩,rfl⟩;rw[aH j,U j];clear ha I j U;go_wp2
   go_ret2
   exact⟨rfl,rfl⟩
  ·have o:Q.whole 13 a b=.err 7:=by unfold Q.whole;rw[if_neg (by decide),if_neg (by decide),if_pos rfl,if_neg j]
   rw[o,Cm];clear o;go_enter func320,ntmps320;go_wp2_with fail;refine(Lw a b ha I _).mono ?_;rintro e w'⟨⟨x,rfl,U⟩,rfl⟩;rw[aF j];clear ha I j U;go_wp2
   go_ret2
   exact⟨rfl,rfl⟩
theorem UX (op a b:Int) (h:11<=op/\op<=15) (ha:AP a) (o:AP b) (w:World):Calls prog 320 #[.int .i64 op,.int .i64 a,.int .i64 b] w fun e w'=>e=.returned (Cu (Q.whole op a b))/\w'=w:=by
 by_cases h3:op<=13
 ·exact LF op a b (by omega) ha o w
 ·have p:op=14\/op=15:=by omega
  clear h h3;have J:=ha;have R:=o;unfold AP at J R;by_cases I:b=0
  ·subst I;have j:Q.whole op a 0=.err 6:=by rcases p with rfl|rfl<;>rfl
   rw[j,Cm];clear j;rcases p with rfl|rfl
   all_goals
    go_enter func320,ntmps320;go_wp2
    go_ret2
    exact⟨rfl,rfl⟩
  ·have b1:(b==0)=false:=by simpa using I
   by_cases U:b=-1
   ·subst U;rcases p with rfl|rfl
    ·have e1:Q.whole 12 0 a=if AP (0-a)then .ok (0-a)else .err 7:=by unfold Q.whole;rw[if_neg (by decide),if_pos rfl]
     have e2:Q.whole 14 a (-1)=if a=-9223372036854775808/\(-1:Int)=-1 then .err 7 else .ok (a.tdiv (-1)):=by
      unfold Q.whole;rw[if_neg (by decide),if_neg (by decide),if_neg (by decide),if_neg (by decide),if_pos rfl]
     have j:Q.whole 14 a (-1)=Q.whole 12 0 a:=by
      rw[e1,e2];by_cases hm:a=-9223372036854775808
      ·rw[if_pos ⟨hm,rfl⟩,if_neg (by rw[hm];decide)]
      ·rw[if_neg (fun h=>hm h.1),if_pos (by unfold AP;omega),Int.tdiv_neg,Int.tdiv_one,Int.zero_sub]
     clear e1 e2;rw[j];obtain⟨r,hr⟩:∃r,Q.whole 12 0 a=r:=⟨_,rfl⟩;rw[hr];have HR:=jK hr;clear j hr;go_enter func320,ntmps320;go_wp2_with fail;refine(LF 12 0 a (by omega) (by decide) ha _).mono ?_;rintro e w'⟨rfl,rfl⟩;rw[HR.out];cases r with
     |ok k=>
      rw[Cr];go_wp2
      go_ret2
      exact⟨rfl,rfl⟩
     |err k=>
      rw[Cm];go_wp2
      go_ret2
      exact⟨rfl,rfl⟩
    ·have j:Q.whole 15 a (-1)=.ok 0:=by
      unfold Q.whole;rw[if_neg (by decide),if_neg (by decide),if_neg (by decide),if_neg (by decide),if_neg (by decide),Int.tmod_neg,Int.tmod_one]
     rw[j,Cr];clear j;go_enter func320,ntmps320;go_wp2
     go_ret2
     exact⟨rfl,rfl⟩
   ·have b3:(b==-1)=false:=by simpa using U
    rcases p with rfl|rfl
    ·have j:Q.whole 14 a b=.ok (a.tdiv b):=by
      unfold Q.whole;rw[if_neg (by decide),if_neg (by decide),if_neg (by decide),if_neg I,if_pos rfl,if_neg (fun h=>U h.2)]
     have hi:=Fu ha o j;rw[j,Cr];have hw:wrap64 (a.tdiv b)=a.tdiv b:=by unfold AP at hi;unfold wrap64;omega
     have HI:=jK hi;clear j hi;go_enter func320,ntmps320;go_wp2
     go_ret2
     exact⟨DX (by first|with_reducible rfl|exact hw) rfl,rfl⟩
    ·have j:Q.whole 15 a b=.ok (a.tmod b):=by
      unfold Q.whole;rw[if_neg (by decide),if_neg (by decide),if_neg (by decide),if_neg I,if_neg (by decide)]
     have hi:=Fu ha o j;rw[j,Cr];have hw:wrap64 (a.tmod b)=a.tmod b:=by unfold AP at hi;unfold wrap64;omega
     have HI:=jK hi;clear j hi;go_enter func320,ntmps320;go_wp2
     go_ret2
     exact⟨DX (by first|with_reducible rfl|exact hw) rfl,rfl⟩
theorem ZaY (x y:BS) (w:World):(binOp .eql 60 (As x) (As y)).run prog w=.ok (.bool (decide (x.kind=y.kind/\x.a=y.a/\x.b=y.b))) w:=by
 unfold As;rw[run_eql_struct];have j:prog.underlying 60=some (.struct (prog.fieldsOf 60)):=by kernel_rfl
 have o:prog.stoodInHeld 60=false:=by kernel_rfl
 rw[show(10000:Nat)=9999+1 from rfl,run_equalIn_struct _ _ _ _ _ j o];rw[show(9999:Nat)=9998+1 from rfl];by_cases p:x.kind=y.kind<;>by_cases I:x.a=y.a<;>by_cases J:x.b=y.b<;>
  simp[go_sem,underlying60,underlying3,underlying2,Tryz.isAgg3,Tryz.isAgg2,Op.eqFields,p,I,J]
theorem We (x y:BS) (w:World):(binOp .neq 60 (As x) (As y)).run prog w=.ok (.bool (!decide (x.kind=y.kind/\x.a=y.a/\x.b=y.b))) w:=by
 unfold As;rw[run_neq_struct];have j:prog.underlying 60=some (.struct (prog.fieldsOf 60)):=by kernel_rfl
 have o:prog.stoodInHeld 60=false:=by kernel_rfl
 rw[show(10000:Nat)=9999+1 from rfl,run_equalIn_struct _ _ _ _ _ j o];rw[show(9999:Nat)=9998+1 from rfl];by_cases p:x.kind=y.kind<;>by_cases I:x.a=y.a<;>by_cases J:x.b=y.b<;>
  simp[go_sem,underlying60,underlying3,underlying2,Tryz.isAgg3,Tryz.isAgg2,Op.eqFields,p,I,J]
def Am (r:Rs BS):Value:=match r with
 |.ok v=>.tuple #[As v,.int .i64 0]
 |.err e=>.tuple #[As AD,.int .i64 e]
theorem Ai (w:World) (a b c:Obj):Below w.heap.size w (((w.alloc a).alloc b).alloc c):=((AT w a).alloc (by simp) b).alloc (by simp;omega) c
theorem AJ (b:Bool):∃t:Int,A7 b=⟨2,t,0⟩:=⟨_,rfl⟩
theorem Az {w j:World} (h:Below w.heap.size w j) (a b c:Value):Below w.heap.size w (((j.setCell ⟨w.heap.size+1+1,0,none⟩ a).setCell ⟨w.heap.size+1+1,1,none⟩ b).setCell ⟨w.heap.size+1+1,2,none⟩ c):=
 (((h.setCell (p:=⟨w.heap.size+1+1,0,none⟩) (by simp;omega) a).setCell (p:=⟨w.heap.size+1+1,1,none⟩) (by simp;omega) b).setCell (p:=⟨w.heap.size+1+1,2,none⟩) (by simp;omega) c)
def av (k a b:Int):Value:=.agg #[.int .i64 k,.int .i64 a,.int .i64 b]
theorem Xj (op:Int) (x y:BS) (j:x.kind≠y.kind) (w:World):Calls prog 265 #[.int .i64 op,As x,As y] w fun e p=>e=.returned (Am (.err 8))/\Below w.heap.size w p:=by
 obtain⟨k,I,J⟩:=x;obtain⟨o,a2,R⟩:=y;dsimp only at j;have hz:(k==o)=false:=by simpa using j
 have U:(k != o)=true:=by simpa using j
 clear j;show Calls _ _ #[_,.agg #[.int .i64 k,.int .i64 I,.int .i64 J],.agg #[.int .i64 o,.int .i64 a2,.int .i64 R]] _ _;go_enter func265,ntmps265;go_wp2;refine aI (v:=Am (.err 8)) (by simp[results,results265,go_sem,Am,As,AD]) rfl ⟨rfl,?_⟩
 first|exact Ai w _ _ _|exact Az (Ai w _ _ _) _ _ _
theorem Mg (op k j o a2 p:Int) (h:(k=2/\op=11)\/(k=2/\op=12)\/(k=2/\op=13)\/(k=2/\op=14)\/(k=2/\op=15)\/(k=2/\op=18)\/(k=2/\op=19)\/(k=2/\op=20)\/(k=2/\op=21)\/(k=3/\op=14)\/(k=3/\op=15)\/(k=3/\op=18)\/(k=3/\op=19)\/(k=3/\op=20)\/(k=3/\op=21)\/(k=3/\op=22)\/(k=3/\op=23)\/(k=1/\op=22)\/(k=1/\op=23)) (w:World):Calls prog 265 #[.int .i64 op,av k j o,av k a2 p] w fun e I=>e=.returned (Am (.err 8))/\Below w.heap.size w I:=by
 unfold av;rcases h with⟨rfl,rfl⟩|⟨rfl,rfl⟩|⟨rfl,rfl⟩|⟨rfl,rfl⟩|⟨rfl,rfl⟩|⟨rfl,rfl⟩|⟨rfl,rfl⟩|⟨rfl,rfl⟩|⟨rfl,rfl⟩|⟨rfl,rfl⟩|⟨rfl,rfl⟩|⟨rfl,rfl⟩|⟨rfl,rfl⟩|⟨rfl,rfl⟩|⟨rfl,rfl⟩|⟨rfl,rfl⟩|⟨rfl,rfl⟩|⟨rfl,rfl⟩|⟨rfl,rfl⟩
 all_goals
  go_enter func265,ntmps265;go_wp2;refine aI (v:=Am (.err 8)) (by simp[results,results265,go_sem,Am,As,AD]) rfl ⟨rfl,?_⟩
  first|exact Ai w _ _ _|exact Az (Ai w _ _ _) _ _ _
theorem ZaK (k J R a2 U:Int) (b:Bool) (he:∀w,(binOp .eql 60 (av k J R) (av k a2 U)).run prog w=.ok (.bool b) w) (w:World):Calls prog 265 #[.int .i64 16,av k J R,av k a2 U] w fun e w'=>e=.returned (Am (.ok (A7 (b))))/\Below w.heap.size w w':=by
 obtain⟨t,o⟩:=AJ (b);have HT:=jK o;rw[o];clear o;unfold av at he⊢;go_enter func265,ntmps265;go_wp2_with fail;refine(BG _ _).mono ?_;rintro e w1⟨rfl,j⟩;obtain⟨p,I⟩:=Ae j;have hs:=j.size;rw[HT.out];unfold As;go_wp2;refine aI (v:=Am (.ok ⟨2,t,0⟩)) (by simp[results,results265,go_sem,Am,As,AD,p,I]) rfl ⟨rfl,?_⟩;exact Az (Ab (Ai w _ _ _) j) _ _ _
theorem Zaz (k J R a2 U:Int) (b:Bool) (he:∀w,(binOp .neq 60 (av k J R) (av k a2 U)).run prog w=.ok (.bool b) w) (w:World):Calls prog 265 #[.int .i64 17,av k J R,av k a2 U] w fun e w'=>e=.returned (Am (.ok (A7 (b))))/\Below w.heap.size w w':=by
 obtain⟨t,o⟩:=AJ (b);have HT:=jK o;rw[o];clear o;unfold av at he⊢;go_enter func265,ntmps265;go_wp2_with fail;refine(BG _ _).mono ?_;rintro e w1⟨rfl,j⟩;obtain⟨p,I⟩:=Ae j;have hs:=j.size;rw[HT.out];unfold As;go_wp2;refine aI (v:=Am (.ok ⟨2,t,0⟩)) (by simp[results,results265,go_sem,Am,As,AD,p,I]) rfl ⟨rfl,?_⟩;exact Az (Ab (Ai w _ _ _) j) _ _ _
theorem Zb7 (o R a2 U:Int) (w:World):Calls prog 265 #[.int .i64 18,av 1 o R,av 1 a2 U] w fun e w'=>e=.returned (Am (.ok (A7 (decide (o<a2)))))/\Below w.heap.size w w':=by
 obtain⟨t,p⟩:=AJ (decide (o<a2));have HT:=jK p;rw[p];clear p;unfold av;go_enter func265,ntmps265;go_wp2_with fail;refine(BG _ _).mono ?_;rintro e w1⟨rfl,j⟩;obtain⟨I,J⟩:=Ae j;have hs:=j.size;rw[HT.out];unfold As;go_wp2;refine aI (v:=Am (.ok ⟨2,t,0⟩)) (by simp[results,results265,go_sem,Am,As,AD,I,J]) rfl ⟨rfl,?_⟩;exact Az (Ab (Ai w _ _ _) j) _ _ _
theorem Zb9 (o R a2 U:Int) (w:World):Calls prog 265 #[.int .i64 19,av 1 o R,av 1 a2 U] w fun e w'=>e=.returned (Am (.ok (A7 (decide (o<=a2)))))/\Below w.heap.size w w':=by
 obtain⟨t,p⟩:=AJ (decide (o<=a2));have HT:=jK p;rw[p];clear p;unfold av;go_enter func265,ntmps265;go_wp2_with fail;refine(BG _ _).mono ?_;rintro e w1⟨rfl,j⟩;obtain⟨I,J⟩:=Ae j;have hs:=j.size;rw[HT.out];unfold As;go_wp2;refine aI (v:=Am (.ok ⟨2,t,0⟩)) (by simp[results,results265,go_sem,Am,As,AD,I,J]) rfl ⟨rfl,?_⟩;exact Az (Ab (Ai w _ _ _) j) _ _ _
theorem ZbO (o R a2 U:Int) (w:World):Calls prog 265 #[.int .i64 20,av 1 o R,av 1 a2 U] w fun e w'=>e=.returned (Am (.ok (A7 (decide (a2<o)))))/\Below w.heap.size w w':=by
 obtain⟨t,p⟩:=AJ (decide (a2<o));have HT:=jK p;rw[p];clear p;unfold av;go_enter func265,ntmps265;go_wp2_with fail;refine(BG _ _).mono ?_;rintro e w1⟨rfl,j⟩;obtain⟨I,J⟩:=Ae j;have hs:=j.size;rw[HT.out];unfold As;go_wp2;refine aI (v:=Am (.ok ⟨2,t,0⟩)) (by simp[results,results265,go_sem,Am,As,AD,I,J]) rfl ⟨rfl,?_⟩;exact Az (Ab (Ai w _ _ _) j) _ _ _
theorem Zcj (o R a2 U:Int) (w:World):Calls prog 265 #[.int .i64 21,av 1 o R,av 1 a2 U] w fun e w'=>e=.returned (Am (.ok (A7 (decide (a2<=o)))))/\Below w.heap.size w w':=by
 obtain⟨t,p⟩:=AJ (decide (a2<=o));have HT:=jK p;rw[p];clear p;unfold av;go_enter func265,ntmps265;go_wp2_with fail;refine(BG _ _).mono ?_;rintro e w1⟨rfl,j⟩;obtain⟨I,J⟩:=Ae j;have hs:=j.size;rw[HT.out];unfold As;go_wp2;refine aI (v:=Am (.ok ⟨2,t,0⟩)) (by simp[results,results265,go_sem,Am,As,AD,I,J]) rfl ⟨rfl,?_⟩;exact Az (Ab (Ai w _ _ _) j) _ _ _
theorem Wx (J R:Int) (w:World):Calls prog 265 #[.int .i64 22,av 2 0 J,av 2 0 R] w fun e U=>e=.returned (Am (.ok (A7 (false))))/\Below w.heap.size w U:=by
 obtain⟨t,o⟩:=AJ (false);have HT:=jK o;rw[o];clear o;unfold av;go_enter func265,ntmps265;go_wp2_with fail;refine(BG _ _).mono ?_;rintro e w1⟨rfl,j⟩;obtain⟨p,I⟩:=Ae j;have hs:=j.size;rw[HT.out];unfold As;go_wp2;refine aI (v:=Am (.ok ⟨2,t,0⟩)) (by simp[results,results265,go_sem,Am,As,AD,p,I]) rfl ⟨rfl,?_⟩;exact Az (Ab (Ai w _ _ _) j) _ _ _
theorem Xm (J R:Int) (w:World):Calls prog 265 #[.int .i64 22,av 2 0 J,av 2 1 R] w fun e U=>e=.returned (Am (.ok (A7 (false))))/\Below w.heap.size w U:=by
 obtain⟨t,o⟩:=AJ (false);have HT:=jK o;rw[o];clear o;unfold av;go_enter func265,ntmps265;go_wp2_with fail;refine(BG _ _).mono ?_;rintro e w1⟨rfl,j⟩;obtain⟨p,I⟩:=Ae j;have hs:=j.size;rw[HT.out];unfold As;go_wp2;refine aI (v:=Am (.ok ⟨2,t,0⟩)) (by simp[results,results265,go_sem,Am,As,AD,p,I]) rfl ⟨rfl,?_⟩;exact Az (Ab (Ai w _ _ _) j) _ _ _
theorem Xk (J R:Int) (w:World):Calls prog 265 #[.int .i64 22,av 2 1 J,av 2 0 R] w fun e U=>e=.returned (Am (.ok (A7 (false))))/\Below w.heap.size w U:=by
 obtain⟨t,o⟩:=AJ (false);have HT:=jK o;rw[o];clear o;unfold av;go_enter func265,ntmps265;go_wp2_with fail;refine(BG _ _).mono ?_;rintro e w1⟨rfl,j⟩;obtain⟨p,I⟩:=Ae j;have hs:=j.size;rw[HT.out];unfold As;go_wp2;refine aI (v:=Am (.ok ⟨2,t,0⟩)) (by simp[results,results265,go_sem,Am,As,AD,p,I]) rfl ⟨rfl,?_⟩;exact Az (Ab (Ai w _ _ _) j) _ _ _
theorem WO (J R:Int) (w:World):Calls prog 265 #[.int .i64 22,av 2 1 J,av 2 1 R] w fun e U=>e=.returned (Am (.ok (A7 (true))))/\Below w.heap.size w U:=by
 obtain⟨t,o⟩:=AJ (true);have HT:=jK o;rw[o];clear o;unfold av;go_enter func265,ntmps265;go_wp2_with fail;refine(BG _ _).mono ?_;rintro e w1⟨rfl,j⟩;obtain⟨p,I⟩:=Ae j;have hs:=j.size;rw[HT.out];unfold As;go_wp2;refine aI (v:=Am (.ok ⟨2,t,0⟩)) (by simp[results,results265,go_sem,Am,As,AD,p,I]) rfl ⟨rfl,?_⟩;exact Az (Ab (Ai w _ _ _) j) _ _ _
theorem YT (J R:Int) (w:World):Calls prog 265 #[.int .i64 23,av 2 0 J,av 2 0 R] w fun e U=>e=.returned (Am (.ok (A7 (false))))/\Below w.heap.size w U:=by
 obtain⟨t,o⟩:=AJ (false);have HT:=jK o;rw[o];clear o;unfold av;go_enter func265,ntmps265;go_wp2_with fail;refine(BG _ _).mono ?_;rintro e w1⟨rfl,j⟩;obtain⟨p,I⟩:=Ae j;have hs:=j.size;rw[HT.out];unfold As;go_wp2;refine aI (v:=Am (.ok ⟨2,t,0⟩)) (by simp[results,results265,go_sem,Am,As,AD,p,I]) rfl ⟨rfl,?_⟩;exact Az (Ab (Ai w _ _ _) j) _ _ _
theorem Za (J R:Int) (w:World):Calls prog 265 #[.int .i64 23,av 2 0 J,av 2 1 R] w fun e U=>e=.returned (Am (.ok (A7 (true))))/\Below w.heap.size w U:=by
 obtain⟨t,o⟩:=AJ (true);have HT:=jK o;rw[o];clear o;unfold av;go_enter func265,ntmps265;go_wp2_with fail;refine(BG _ _).mono ?_;rintro e w1⟨rfl,j⟩;obtain⟨p,I⟩:=Ae j;have hs:=j.size;rw[HT.out];unfold As;go_wp2;refine aI (v:=Am (.ok ⟨2,t,0⟩)) (by simp[results,results265,go_sem,Am,As,AD,p,I]) rfl ⟨rfl,?_⟩;exact Az (Ab (Ai w _ _ _) j) _ _ _
theorem X1 (J R:Int) (w:World):Calls prog 265 #[.int .i64 23,av 2 1 J,av 2 0 R] w fun e U=>e=.returned (Am (.ok (A7 (true))))/\Below w.heap.size w U:=by
 obtain⟨t,o⟩:=AJ (true);have HT:=jK o;rw[o];clear o;unfold av;go_enter func265,ntmps265;go_wp2_with fail;refine(BG _ _).mono ?_;rintro e w1⟨rfl,j⟩;obtain⟨p,I⟩:=Ae j;have hs:=j.size;rw[HT.out];unfold As;go_wp2;refine aI (v:=Am (.ok ⟨2,t,0⟩)) (by simp[results,results265,go_sem,Am,As,AD,p,I]) rfl ⟨rfl,?_⟩;exact Az (Ab (Ai w _ _ _) j) _ _ _
theorem Y0 (J R:Int) (w:World):Calls prog 265 #[.int .i64 23,av 2 1 J,av 2 1 R] w fun e U=>e=.returned (Am (.ok (A7 (true))))/\Below w.heap.size w U:=by
 obtain⟨t,o⟩:=AJ (true);have HT:=jK o;rw[o];clear o;unfold av;go_enter func265,ntmps265;go_wp2_with fail;refine(BG _ _).mono ?_;rintro e w1⟨rfl,j⟩;obtain⟨p,I⟩:=Ae j;have hs:=j.size;rw[HT.out];unfold As;go_wp2;refine aI (v:=Am (.ok ⟨2,t,0⟩)) (by simp[results,results265,go_sem,Am,As,AD,p,I]) rfl ⟨rfl,?_⟩;exact Az (Ab (Ai w _ _ _) j) _ _ _
theorem IB {op a b e:Int} (h:Q.whole op a b=.err e):e≠0:=by
 unfold Q.whole at h
 repeat' split at h
 all_goals(first|(cases h;omega)|cases h)
theorem Gy (op o b1 a2 b2:Int) (h:op=11\/op=12\/op=13\/op=14\/op=15) (h1:AP o) (h2:AP a2) (w:World):Calls prog 265 #[.int .i64 op,av 1 o b1,av 1 a2 b2] w fun e w'=>e=.returned (Am ((Q.whole op o a2).bind fun n=>.ok (num n)))/\Below w.heap.size w w':=by
 obtain⟨r,I⟩:∃r,Q.whole op o a2=r:=⟨_,rfl⟩;rw[I];have p:=jK I;have HI:=jK h1;have HJ:=jK h2;clear I h1 h2;unfold av;rcases h with rfl|rfl|rfl|rfl|rfl
 all_goals
  go_enter func265,ntmps265;go_wp2_with fail;refine(UX _ o a2 (by omega) HI.out HJ.out _).mono ?_;rintro e w1⟨rfl,rfl⟩;rw[p.out];cases r with
  |err x=>
   have J:=IB p.out;have b7:(x==0)=false:=by simpa using J
   have a8:(x != 0)=true:=by simpa using J
   rw[Cm];clear p J;go_wp2;refine aI (v:=Am (.err x)) (by simp[results,results265,go_sem,Am,As,AD]) rfl ⟨rfl,?_⟩
   first|exact Ai w _ _ _|exact Az (Ai w _ _ _) _ _ _
  |ok n=>
   rw[Cr];clear p;go_wp2_with fail;refine(FB n _).mono ?_;rintro e w2⟨rfl,j⟩;obtain⟨R,U⟩:=Ae j;have hs:=j.size;unfold As num;go_wp2;refine aI (v:=Am (.ok (num n))) (by simp[results,results265,go_sem,Am,As,num,R,U]) rfl ⟨rfl,?_⟩;exact Az (Ab (Ai w _ _ _) j) _ _ _
theorem Jo (U V:Int):∃c x,told U V=.tuple #[c,.int .i64 x]/\∀w,Calls prog 314 #[c,.int .i64 x] w fun e j=>e=.returned (Am (CP U V))/\Below w.heap.size w j:=by
 unfold told CP;by_cases h:Bo U/\Bo V
 ·rw[if_pos h,if_pos h];exact⟨_,_,rfl,fun w=>S5 U V h.1 h.2 w⟩
 ·rw[if_neg h,if_neg h];exact⟨_,_,rfl,fun w=>Xh 5 (by decide) w⟩
theorem Ck (r:Rs BS):∃k a b x:Int,Am r=.tuple #[.agg #[.int .i64 k,.int .i64 a,.int .i64 b],.int .i64 x]:=by
 cases r with
 |ok v=>exact⟨_,_,_,_,rfl⟩
 |err e=>exact⟨_,_,_,_,rfl⟩
theorem ZaQ (p I a2 J:Int) (h1:Bo p) (h2:Bo I) (h3:Bo a2) (h4:Bo J) (w:World):Calls prog 265 #[.int .i64 11,av 3 p I,av 3 a2 J] w fun e w'=>e=.returned (Am (CP (p+a2) (I+J)))/\Below w.heap.size w w':=by
 obtain⟨c,x,hc,hp⟩:=Jo (p+a2) (I+J);obtain⟨K,A,B,X,hv⟩:=Ck (CP (p+a2) (I+J));rw[hv];rw[hv]at hp;have HC:=jK hc;have HP:=jK hp;have R:=jK (And.intro h1 h2);have U:=jK (And.intro h3 h4);clear hv hc hp h1 h2 h3 h4;unfold av;obtain⟨W,hW⟩:∃W,((w.alloc (.cells #[.int .i64 3,.int .i64 p,.int .i64 I] 60)).alloc (.cells #[.int .i64 3,.int .i64 a2,.int .i64 J] 60)).alloc (.cells #[.int .i64 0,.int .i64 0,.int .i64 0] 60)=W:=⟨_,rfl⟩;have b6:Below w.heap.size w W:=by rw[<-hW];exact Ai w _ _ _
 have b7:W.heap.size=w.heap.size+1+1+1:=by rw[<-hW];simp
 obtain⟨k1,k2,k3,_,_⟩:=IR w _ _ _ _ _ _ W hW;have q1:W.cell? ⟨w.heap.size,0,none⟩=some (.int .i64 3):=by rw[k1.cell 0];rfl
 have q2:W.cell? ⟨w.heap.size,1,none⟩=some (.int .i64 p):=by rw[k1.cell 1];rfl
 have q3:W.cell? ⟨w.heap.size,2,none⟩=some (.int .i64 I):=by rw[k1.cell 2];rfl
 have q4:W.cell? ⟨w.heap.size+1,0,none⟩=some (.int .i64 3):=by rw[k2.cell 0];rfl
 have q5:W.cell? ⟨w.heap.size+1,1,none⟩=some (.int .i64 a2):=by rw[k2.cell 1];rfl
 have q6:W.cell? ⟨w.heap.size+1,2,none⟩=some (.int .i64 J):=by rw[k2.cell 2];rfl
 have q8:W.cell? ⟨w.heap.size+1+1,0,none⟩=some (.int .i64 0):=by rw[k3.cell 0];rfl
 have q9:W.cell? ⟨w.heap.size+1+1,1,none⟩=some (.int .i64 0):=by rw[k3.cell 1];rfl
 have b8:W.cell? ⟨w.heap.size+1+1,2,none⟩=some (.int .i64 0):=by rw[k3.cell 2];rfl
 have q7:∀i,W.frozen? ⟨w.heap.size+1+1,i,none⟩=false:=k3.frozen;clear k1 k2 k3;go_enter func265,ntmps265;go_wp2_with fail;clear hW;refine Aj.AF 10 [(1,.complex .f64 (fl p) (fl I)),(3,.complex .f64 (fl a2) (fl J)),(4,.tuple #[c,.int .i64 x]),(7,.tuple #[.agg #[.int .i64 K,.int .i64 A,.int .i64 B],.int .i64 X])] [(1,fun _ _=>True),(3,fun _ _=>True),(4,fun _ _=>True),(7,fun _ _=>True)] (fun w'=>Below W.heap.size W w') (fun w w'=>Below w.heap.size w w') (by kernel_rfl) (by kernel_rfl) (by kernel_rfl) (by kernel_rfl) (fun _ _ d _ _ h=>by cases d<;>exact h) (aJ _ _).drew ?_;simp only[aM,aT]
 repeat(refine Aj.Ad rfl rfl ?_ ?_ ?_;rotate_left;(focus(intro w1 hI _;obtain⟨hk,_⟩:=Ae hI;go_simp;rfl)))
 refine Aj.AC (.complex .f64 (fl p) (fl I)) rfl rfl rfl (fun _ _ _ _ _=>trivial) (fun w1 hI _ K' o=>?_) ?_
 ·go_simp;refine(CH ⟨3,p,I⟩ R.out _).mono ?_;rintro e w2⟨rfl,j⟩;exact o _ _ (by go_simp) trivial (hI.trans (j.mono hI.size)) j
 repeat(refine Aj.Ad rfl rfl ?_ ?_ ?_;rotate_left;(focus(intro w1 hI _;obtain⟨hk,_⟩:=Ae hI;go_simp;rfl)))
 refine Aj.AC (.complex .f64 (fl a2) (fl J)) rfl rfl rfl (fun _ _ _ _ _=>trivial) (fun w1 hI _ K' o=>?_) ?_
 ·go_simp;refine(CH ⟨3,a2,J⟩ U.out _).mono ?_;rintro e w2⟨rfl,j⟩;exact o _ _ (by go_simp) trivial (hI.trans (j.mono hI.size)) j
 refine Aj.AC (.tuple #[c,.int .i64 x]) rfl rfl rfl (fun _ _ _ _ _=>trivial) (fun w1 hI _ K' o=>?_) ?_
 ·go_simp;refine(Py p I a2 J R.out.1 R.out.2 U.out.1 U.out.2 _).mono ?_;rintro e w2⟨rfl,rfl⟩;rw[HC.out];exact o _ _ (by go_simp) trivial hI (aJ _ _)
 repeat(refine Aj.Ad rfl rfl ?_ ?_ ?_;rotate_left;(focus(intro w1 hI _;obtain⟨hk,_⟩:=Ae hI;go_simp;rfl)))
 refine Aj.AC (.tuple #[.agg #[.int .i64 K,.int .i64 A,.int .i64 B],.int .i64 X]) rfl rfl rfl (fun _ _ _ _ _=>trivial) (fun w1 hI _ K' o=>?_) ?_
 ·go_simp;refine(HP.out _).mono ?_;rintro e w2⟨rfl,j⟩;exact o _ _ (by go_simp) trivial (hI.trans (j.mono hI.size)) j
 repeat(refine Aj.Ad rfl rfl ?_ ?_ ?_;rotate_left;(focus(intro w1 hI _;obtain⟨hk,_⟩:=Ae hI;go_simp;rfl)))
 simp only[Act.put,aB,aD,aC];refine Aj.Ak (fun w4 hI _=>?_);simp only[aN,aS];obtain⟨c2,c3⟩:=Ae hI;have hs:=hI.size;go_wp2;refine aI (v:=.tuple #[.agg #[.int .i64 K,.int .i64 A,.int .i64 B],.int .i64 X]) (by simp[results,results265,go_sem,c2,c3,b7,q8,q9,b8,q7]) rfl ⟨rfl,?_⟩;exact Az (Ab b6 hI) _ _ _
theorem Zaq (p I a2 J:Int) (h1:Bo p) (h2:Bo I) (h3:Bo a2) (h4:Bo J) (w:World):Calls prog 265 #[.int .i64 12,av 3 p I,av 3 a2 J] w fun e w'=>e=.returned (Am (CP (p-a2) (I-J)))/\Below w.heap.size w w':=by
 obtain⟨c,x,hc,hp⟩:=Jo (p-a2) (I-J);obtain⟨K,A,B,X,hv⟩:=Ck (CP (p-a2) (I-J));rw[hv];rw[hv]at hp;have HC:=jK hc;have HP:=jK hp;have R:=jK (And.intro h1 h2);have U:=jK (And.intro h3 h4);clear hv hc hp h1 h2 h3 h4;unfold av;obtain⟨W,hW⟩:∃W,((w.alloc (.cells #[.int .i64 3,.int .i64 p,.int .i64 I] 60)).alloc (.cells #[.int .i64 3,.int .i64 a2,.int .i64 J] 60)).alloc (.cells #[.int .i64 0,.int .i64 0,.int .i64 0] 60)=W:=⟨_,rfl⟩;have b6:Below w.heap.size w W:=by rw[<-hW];exact Ai w _ _ _
 have b7:W.heap.size=w.heap.size+1+1+1:=by rw[<-hW];simp
 obtain⟨k1,k2,k3,_,_⟩:=IR w _ _ _ _ _ _ W hW;have q1:W.cell? ⟨w.heap.size,0,none⟩=some (.int .i64 3):=by rw[k1.cell 0];rfl
 have q2:W.cell? ⟨w.heap.size,1,none⟩=some (.int .i64 p):=by rw[k1.cell 1];rfl
 have q3:W.cell? ⟨w.heap.size,2,none⟩=some (.int .i64 I):=by rw[k1.cell 2];rfl
 have q4:W.cell? ⟨w.heap.size+1,0,none⟩=some (.int .i64 3):=by rw[k2.cell 0];rfl
 have q5:W.cell? ⟨w.heap.size+1,1,none⟩=some (.int .i64 a2):=by rw[k2.cell 1];rfl
 have q6:W.cell? ⟨w.heap.size+1,2,none⟩=some (.int .i64 J):=by rw[k2.cell 2];rfl
 have q8:W.cell? ⟨w.heap.size+1+1,0,none⟩=some (.int .i64 0):=by rw[k3.cell 0];rfl
 have q9:W.cell? ⟨w.heap.size+1+1,1,none⟩=some (.int .i64 0):=by rw[k3.cell 1];rfl
 have b8:W.cell? ⟨w.heap.size+1+1,2,none⟩=some (.int .i64 0):=by rw[k3.cell 2];rfl
 have q7:∀i,W.frozen? ⟨w.heap.size+1+1,i,none⟩=false:=k3.frozen;clear k1 k2 k3;go_enter func265,ntmps265;go_wp2_with fail;clear hW;refine Aj.AF 10 [(1,.complex .f64 (fl p) (fl I)),(3,.complex .f64 (fl a2) (fl J)),(4,.tuple #[c,.int .i64 x]),(7,.tuple #[.agg #[.int .i64 K,.int .i64 A,.int .i64 B],.int .i64 X])] [(1,fun _ _=>True),(3,fun _ _=>True),(4,fun _ _=>True),(7,fun _ _=>True)] (fun w'=>Below W.heap.size W w') (fun w w'=>Below w.heap.size w w') (by kernel_rfl) (by kernel_rfl) (by kernel_rfl) (by kernel_rfl) (fun _ _ d _ _ h=>by cases d<;>exact h) (aJ _ _).drew ?_;simp only[aM,aT]
 repeat(refine Aj.Ad rfl rfl ?_ ?_ ?_;rotate_left;(focus(intro w1 hI _;obtain⟨hk,_⟩:=Ae hI;go_simp;rfl)))
 refine Aj.AC (.complex .f64 (fl p) (fl I)) rfl rfl rfl (fun _ _ _ _ _=>trivial) (fun w1 hI _ K' o=>?_) ?_
 ·go_simp;refine(CH ⟨3,p,I⟩ R.out _).mono ?_;rintro e w2⟨rfl,j⟩;exact o _ _ (by go_simp) trivial (hI.trans (j.mono hI.size)) j
 repeat(refine Aj.Ad rfl rfl ?_ ?_ ?_;rotate_left;(focus(intro w1 hI _;obtain⟨hk,_⟩:=Ae hI;go_simp;rfl)))
 refine Aj.AC (.complex .f64 (fl a2) (fl J)) rfl rfl rfl (fun _ _ _ _ _=>trivial) (fun w1 hI _ K' o=>?_) ?_
 ·go_simp;refine(CH ⟨3,a2,J⟩ U.out _).mono ?_;rintro e w2⟨rfl,j⟩;exact o _ _ (by go_simp) trivial (hI.trans (j.mono hI.size)) j
 refine Aj.AC (.tuple #[c,.int .i64 x]) rfl rfl rfl (fun _ _ _ _ _=>trivial) (fun w1 hI _ K' o=>?_) ?_
 ·go_simp;refine(PS p I a2 J R.out.1 R.out.2 U.out.1 U.out.2 _).mono ?_;rintro e w2⟨rfl,rfl⟩;rw[HC.out];exact o _ _ (by go_simp) trivial hI (aJ _ _)
 repeat(refine Aj.Ad rfl rfl ?_ ?_ ?_;rotate_left;(focus(intro w1 hI _;obtain⟨hk,_⟩:=Ae hI;go_simp;rfl)))
 refine Aj.AC (.tuple #[.agg #[.int .i64 K,.int .i64 A,.int .i64 B],.int .i64 X]) rfl rfl rfl (fun _ _ _ _ _=>trivial) (fun w1 hI _ K' o=>?_) ?_
 ·go_simp;refine(HP.out _).mono ?_;rintro e w2⟨rfl,j⟩;exact o _ _ (by go_simp) trivial (hI.trans (j.mono hI.size)) j
 repeat(refine Aj.Ad rfl rfl ?_ ?_ ?_;rotate_left;(focus(intro w1 hI _;obtain⟨hk,_⟩:=Ae hI;go_simp;rfl)))
 simp only[Act.put,aB,aD,aC];refine Aj.Ak (fun w4 hI _=>?_);simp only[aN,aS];obtain⟨c2,c3⟩:=Ae hI;have hs:=hI.size;go_wp2;refine aI (v:=.tuple #[.agg #[.int .i64 K,.int .i64 A,.int .i64 B],.int .i64 X]) (by simp[results,results265,go_sem,c2,c3,b7,q8,q9,b8,q7]) rfl ⟨rfl,?_⟩;exact Az (Ab b6 hI) _ _ _
theorem two_mul (p I a2 J:Int) (h1:Bo p) (h2:Bo I) (h3:Bo a2) (h4:Bo J) (w:World):Calls prog 265 #[.int .i64 13,av 3 p I,av 3 a2 J] w fun e w'=>e=.returned (Am (CP (p*a2-I*J) (p*J+I*a2)))/\Below w.heap.size w w':=by
 obtain⟨c,x,hc,hp⟩:=Jo (p*a2-I*J) (p*J+I*a2);obtain⟨K,A,B,X,hv⟩:=Ck (CP (p*a2-I*J) (p*J+I*a2));rw[hv];rw[hv]at hp;have HC:=jK hc;have HP:=jK hp;have R:=jK (And.intro h1 h2);have U:=jK (And.intro h3 h4);clear hv hc hp h1 h2 h3 h4;unfold av;obtain⟨W,hW⟩:∃W,((w.alloc (.cells #[.int .i64 3,.int .i64 p,.int .i64 I] 60)).alloc (.cells #[.int .i64 3,.int .i64 a2,.int .i64 J] 60)).alloc (.cells #[.int .i64 0,.int .i64 0,.int .i64 0] 60)=W:=⟨_,rfl⟩;have b6:Below w.heap.size w W:=by rw[<-hW];exact Ai w _ _ _
 have b7:W.heap.size=w.heap.size+1+1+1:=by rw[<-hW];simp
 obtain⟨k1,k2,k3,_,_⟩:=IR w _ _ _ _ _ _ W hW;have q1:W.cell? ⟨w.heap.size,0,none⟩=some (.int .i64 3):=by rw[k1.cell 0];rfl
 have q2:W.cell? ⟨w.heap.size,1,none⟩=some (.int .i64 p):=by rw[k1.cell 1];rfl
 have q3:W.cell? ⟨w.heap.size,2,none⟩=some (.int .i64 I):=by rw[k1.cell 2];rfl
 have q4:W.cell? ⟨w.heap.size+1,0,none⟩=some (.int .i64 3):=by rw[k2.cell 0];rfl
 have q5:W.cell? ⟨w.heap.size+1,1,none⟩=some (.int .i64 a2):=by rw[k2.cell 1];rfl
 have q6:W.cell? ⟨w.heap.size+1,2,none⟩=some (.int .i64 J):=by rw[k2.cell 2];rfl
 have q8:W.cell? ⟨w.heap.size+1+1,0,none⟩=some (.int .i64 0):=by rw[k3.cell 0];rfl
 have q9:W.cell? ⟨w.heap.size+1+1,1,none⟩=some (.int .i64 0):=by rw[k3.cell 1];rfl
 have b8:W.cell? ⟨w.heap.size+1+1,2,none⟩=some (.int .i64 0):=by rw[k3.cell 2];rfl
 have q7:∀i,W.frozen? ⟨w.heap.size+1+1,i,none⟩=false:=k3.frozen;clear k1 k2 k3;go_enter func265,ntmps265;go_wp2_with fail;clear hW;refine Aj.AF 10 [(1,.complex .f64 (fl p) (fl I)),(3,.complex .f64 (fl a2) (fl J)),(4,.tuple #[c,.int .i64 x]),(7,.tuple #[.agg #[.int .i64 K,.int .i64 A,.int .i64 B],.int .i64 X])] [(1,fun _ _=>True),(3,fun _ _=>True),(4,fun _ _=>True),(7,fun _ _=>True)] (fun w'=>Below W.heap.size W w') (fun w w'=>Below w.heap.size w w') (by kernel_rfl) (by kernel_rfl) (by kernel_rfl) (by kernel_rfl) (fun _ _ d _ _ h=>by cases d<;>exact h) (aJ _ _).drew ?_;simp only[aM,aT]
 repeat(refine Aj.Ad rfl rfl ?_ ?_ ?_;rotate_left;(focus(intro w1 hI _;obtain⟨hk,_⟩:=Ae hI;go_simp;rfl)))
 refine Aj.AC (.complex .f64 (fl p) (fl I)) rfl rfl rfl (fun _ _ _ _ _=>trivial) (fun w1 hI _ K' o=>?_) ?_
 ·go_simp;refine(CH ⟨3,p,I⟩ R.out _).mono ?_;rintro e w2⟨rfl,j⟩;exact o _ _ (by go_simp) trivial (hI.trans (j.mono hI.size)) j
 repeat(refine Aj.Ad rfl rfl ?_ ?_ ?_;rotate_left;(focus(intro w1 hI _;obtain⟨hk,_⟩:=Ae hI;go_simp;rfl)))
 refine Aj.AC (.complex .f64 (fl a2) (fl J)) rfl rfl rfl (fun _ _ _ _ _=>trivial) (fun w1 hI _ K' o=>?_) ?_
 ·go_simp;refine(CH ⟨3,a2,J⟩ U.out _).mono ?_;rintro e w2⟨rfl,j⟩;exact o _ _ (by go_simp) trivial (hI.trans (j.mono hI.size)) j
 refine Aj.AC (.tuple #[c,.int .i64 x]) rfl rfl rfl (fun _ _ _ _ _=>trivial) (fun w1 hI _ K' o=>?_) ?_
 ·go_simp;refine(Qd p I a2 J R.out.1 R.out.2 U.out.1 U.out.2 _).mono ?_;rintro e w2⟨rfl,rfl⟩;rw[HC.out];exact o _ _ (by go_simp) trivial hI (aJ _ _)
 repeat(refine Aj.Ad rfl rfl ?_ ?_ ?_;rotate_left;(focus(intro w1 hI _;obtain⟨hk,_⟩:=Ae hI;go_simp;rfl)))
 refine Aj.AC (.tuple #[.agg #[.int .i64 K,.int .i64 A,.int .i64 B],.int .i64 X]) rfl rfl rfl (fun _ _ _ _ _=>trivial) (fun w1 hI _ K' o=>?_) ?_
 ·go_simp;refine(HP.out _).mono ?_;rintro e w2⟨rfl,j⟩;exact o _ _ (by go_simp) trivial (hI.trans (j.mono hI.size)) j
 repeat(refine Aj.Ad rfl rfl ?_ ?_ ?_;rotate_left;(focus(intro w1 hI _;obtain⟨hk,_⟩:=Ae hI;go_simp;rfl)))
 simp only[Act.put,aB,aD,aC];refine Aj.Ak (fun w4 hI _=>?_);simp only[aN,aS];obtain⟨c2,c3⟩:=Ae hI;have hs:=hI.size;go_wp2;refine aI (v:=.tuple #[.agg #[.int .i64 K,.int .i64 A,.int .i64 B],.int .i64 X]) (by simp[results,results265,go_sem,c2,c3,b7,q8,q9,b8,q7]) rfl ⟨rfl,?_⟩;exact Az (Ab b6 hI) _ _ _
theorem Wb (op:Int) (x y:BS) (h:11<=op/\op<=23) (hx:FL x) (hy:FL y) (w:World):Calls prog 265 #[.int .i64 op,As x,As y] w fun e w'=>e=.returned (Am (DC op x y))/\Below w.heap.size w w':=by
 by_cases hk:x.kind=y.kind;rotate_left
 ·rw[show DC op x y=.err 8 by unfold DC;rw[if_pos hk]];exact Xj op x y hk w
 ·obtain⟨k,j,o⟩:=x;obtain⟨k',a2,p⟩:=y;dsimp only at hk;subst hk;unfold FL By at hx hy;dsimp only at hx hy;have a6:op=11\/op=12\/op=13\/op=14\/op=15\/op=16\/op=17\/op=18\/op=19\/op=20\/op=21\/op=22\/op=23:=by omega
  by_cases I:op=16
  ·subst I;rw[show DC 16 ⟨k,j,o⟩ ⟨k,a2,p⟩=.ok (A7 (decide (j=a2/\o=p)))by unfold DC;simp];refine ZaK k j o a2 p _ ?_ w;intro w;have:=ZaY ⟨k,j,o⟩ ⟨k,a2,p⟩ w;simpa[As,av]using this
  by_cases J:op=17
  ·subst J;rw[show DC 17 ⟨k,j,o⟩ ⟨k,a2,p⟩=.ok (A7 (!decide (j=a2/\o=p)))by unfold DC;simp];refine Zaz k j o a2 p _ ?_ w;intro w;have:=We ⟨k,j,o⟩ ⟨k,a2,p⟩ w;simpa[As,av]using this
  obtain⟨hx,R⟩:=hx;obtain⟨hy,U⟩:=hy;have b9:k=1\/k=2\/k=3:=by omega
  rcases b9 with rfl|rfl|rfl
  ·rcases a6 with rfl|rfl|rfl|rfl|rfl|rfl|rfl|rfl|rfl|rfl|rfl|rfl|rfl
   ·exact Gy _ _ _ _ _ (by omega) R U w
   ·exact Gy _ _ _ _ _ (by omega) R U w
   ·exact Gy _ _ _ _ _ (by omega) R U w
   ·exact Gy _ _ _ _ _ (by omega) R U w
   ·exact Gy _ _ _ _ _ (by omega) R U w
   ·omega
   ·omega
   ·exact Zb7 _ _ _ _ w
   ·exact Zb9 _ _ _ _ w
   ·exact ZbO _ _ _ _ w
   ·exact Zcj _ _ _ _ w
   ·exact Mg 22 1 j o a2 p (by decide) w
   ·exact Mg 23 1 j o a2 p (by decide) w
  ·have ha:j=0\/j=1:=by omega
   have hb:a2=0\/a2=1:=by omega
   by_cases a7:op=22
   ·subst a7;rcases ha with rfl|rfl<;>rcases hb with rfl|rfl
    ·exact Wx _ _ w
    ·exact Xm _ _ w
    ·exact Xk _ _ w
    ·exact WO _ _ w
   by_cases a8:op=23
   ·subst a8;rcases ha with rfl|rfl<;>rcases hb with rfl|rfl
    ·exact YT _ _ w
    ·exact Za _ _ w
    ·exact X1 _ _ w
    ·exact Y0 _ _ w
   rw[show DC op ⟨2,j,o⟩ ⟨2,a2,p⟩=.err 8 by
    unfold DC;dsimp only;rw[if_neg (by simp),if_neg I,if_neg J,if_pos rfl,if_neg a7,if_neg a8]]
   rcases a6 with rfl|rfl|rfl|rfl|rfl|rfl|rfl|rfl|rfl|rfl|rfl|rfl|rfl
   all_goals first|exact absurd rfl I|exact absurd rfl J|exact absurd rfl a7|exact absurd rfl a8|exact Mg _ 2 j o a2 p (by decide) w
  ·have hp:Bo j/\Bo o:=by
    rcases hx with⟨h,_⟩|⟨h,_⟩|⟨_,h⟩
    ·cases h
    ·cases h
    ·exact h
   have hq:Bo a2/\Bo p:=by
    rcases hy with⟨h,_⟩|⟨h,_⟩|⟨_,h⟩
    ·cases h
    ·cases h
    ·exact h
   by_cases b5:op=11
   ·subst b5;exact ZaQ _ _ _ _ hp.1 hp.2 hq.1 hq.2 w
   by_cases b6:op=12
   ·subst b6;exact Zaq _ _ _ _ hp.1 hp.2 hq.1 hq.2 w
   by_cases b7:op=13
   ·subst b7;exact two_mul _ _ _ _ hp.1 hp.2 hq.1 hq.2 w
   rw[show DC op ⟨3,j,o⟩ ⟨3,a2,p⟩=.err 8 by
    unfold DC;dsimp only;rw[if_neg (by simp),if_neg I,if_neg J,if_neg (by decide),if_pos rfl,if_neg (by omega)]]
   rcases a6 with rfl|rfl|rfl|rfl|rfl|rfl|rfl|rfl|rfl|rfl|rfl|rfl|rfl
   all_goals first|exact absurd rfl I|exact absurd rfl J|exact absurd rfl b5|exact absurd rfl b6|exact absurd rfl b7|exact Mg _ 3 j o a2 p (by decide) w
theorem Bx (w:World) (a b:Obj):Below w.heap.size w ((w.alloc a).alloc b):=(AT w a).alloc (by simp) b
theorem C6 {w j:World} (h:Below w.heap.size w j) (a b c:Value):Below w.heap.size w (((j.setCell ⟨w.heap.size+1,0,none⟩ a).setCell ⟨w.heap.size+1,1,none⟩ b).setCell ⟨w.heap.size+1,2,none⟩ c):=
 (((h.setCell (p:=⟨w.heap.size+1,0,none⟩) (by simp) a).setCell (p:=⟨w.heap.size+1,1,none⟩) (by simp) b).setCell (p:=⟨w.heap.size+1,2,none⟩) (by simp) c)
theorem GQ (op k a b:Int) (h:(k=2/\op=7)\/(k=1/\op=8)\/(k=3/\op=8)\/(k=1/\op=9)\/(k=2/\op=9)\/(k=1/\op=10)\/(k=2/\op=10)) (w:World):Calls prog 264 #[.int .i64 op,av k a b] w fun e j=>e=.returned (Am (.err 8))/\Below w.heap.size w j:=by
 unfold av;rcases h with⟨rfl,rfl⟩|⟨rfl,rfl⟩|⟨rfl,rfl⟩|⟨rfl,rfl⟩|⟨rfl,rfl⟩|⟨rfl,rfl⟩|⟨rfl,rfl⟩
 all_goals
  go_enter func264,ntmps264;go_wp2;refine aI (v:=Am (.err 8)) (by simp[results,results264,go_sem,Am,As,AD]) rfl ⟨rfl,?_⟩
  first|exact Bx w _ _|exact C6 (Bx w _ _) _ _ _
theorem Zca (a b:Int) (w:World):Calls prog 264 #[.int .i64 9,av 3 a b] w fun e I=>e=.returned (Am (.ok (num a)))/\Below w.heap.size w I:=by
 unfold av;go_enter func264,ntmps264;go_wp2_with fail;refine(FB a _).mono ?_;rintro e J⟨rfl,j⟩;obtain⟨o,p⟩:=Ae j;have R:=j.size;unfold As num;go_wp2;refine aI (v:=Am (.ok ⟨1,a,0⟩)) (by simp[results,results264,go_sem,Am,As,o,p]) rfl ⟨rfl,?_⟩;exact C6 (Ab (Bx w _ _) j) _ _ _
theorem Zcd (a b:Int) (w:World):Calls prog 264 #[.int .i64 10,av 3 a b] w fun e I=>e=.returned (Am (.ok (num b)))/\Below w.heap.size w I:=by
 unfold av;go_enter func264,ntmps264;go_wp2_with fail;refine(FB b _).mono ?_;rintro e J⟨rfl,j⟩;obtain⟨o,p⟩:=Ae j;have R:=j.size;unfold As num;go_wp2;refine aI (v:=Am (.ok ⟨1,b,0⟩)) (by simp[results,results264,go_sem,Am,As,o,p]) rfl ⟨rfl,?_⟩;exact C6 (Ab (Bx w _ _) j) _ _ _
theorem ZaJ (a b:Int) (ha:a=0\/a=1) (w:World):Calls prog 264 #[.int .i64 8,av 2 a b] w fun e I=>e=.returned (Am (.ok (A7 (decide (a=0)))))/\Below w.heap.size w I:=by
 unfold av;rcases ha with rfl|rfl
 ·go_enter func264,ntmps264;go_wp2_with fail;refine(BG true _).mono ?_;rintro e J⟨rfl,j⟩;obtain⟨o,p⟩:=Ae j;have R:=j.size;unfold As A7;go_wp2;refine aI (v:=Am (.ok ⟨2,1,0⟩)) (by simp[results,results264,go_sem,Am,As,o,p]) rfl ⟨rfl,?_⟩;exact C6 (Ab (Bx w _ _) j) _ _ _
 ·go_enter func264,ntmps264;go_wp2_with fail;refine(BG false _).mono ?_;rintro e J⟨rfl,j⟩;obtain⟨o,p⟩:=Ae j;have R:=j.size;unfold As A7;go_wp2;refine aI (v:=Am (.ok ⟨2,0,0⟩)) (by simp[results,results264,go_sem,Am,As,o,p]) rfl ⟨rfl,?_⟩;exact C6 (Ab (Bx w _ _) j) _ _ _
theorem YN (a b:Int) (ha:Bo a) (hb:Bo b) (w:World):Calls prog 264 #[.int .i64 7,av 3 a b] w fun e w'=>e=.returned (Am (.ok ⟨3,-a,-b⟩))/\Below w.heap.size w w':=by
 unfold av;have I:Bo (-a):=by unfold Bo at *;omega
 have J:Bo (-b):=by unfold Bo at *;omega
 go_enter func264,ntmps264;go_wp2_with fail;refine(CH ⟨3,a,b⟩ ⟨ha,hb⟩ _).mono ?_;rintro e w1⟨rfl,o⟩;go_wp2_with fail;refine(Yw a b ha hb _).mono ?_;rintro e a7⟨rfl,rfl⟩;go_wp2_with fail;refine(S5 (-a) (-b) I J _).mono ?_;rintro e w2⟨rfl,p⟩;have j:=Ab o p;obtain⟨R,U⟩:=Ae j;have hs:=j.size;clear o p;unfold As;go_wp2;refine aI (v:=Am (.ok ⟨3,-a,-b⟩)) (by simp[results,results264,go_sem,Am,As,R,U]) rfl ⟨rfl,?_⟩;exact C6 (Ab (Bx w _ _) j) _ _ _
theorem Zbj (a b:Int) (ha:AP a) (hb:b=0) (w:World):Calls prog 264 #[.int .i64 7,av 1 a b] w fun e p=>e=.returned (Am ((Q.whole 12 0 a).bind fun n=>.ok (num n)))/\Below w.heap.size w p:=by
 subst hb;obtain⟨r,U⟩:∃r,(Q.whole 12 0 a).bind (fun n=>Rs.ok (num n))=r:=⟨_,rfl⟩;rw[U];have hE:DC 12 (num 0) ⟨1,a,0⟩=r:=by rw[<-U];rfl
 obtain⟨K,A,B,X,hv⟩:=Ck r;have HE:=jK hE;have HV:=jK hv;have HA:=jK ha;rw[hv];clear U hv hE ha;unfold av;obtain⟨W,I⟩:∃W,(w.alloc (.cells #[.int .i64 1,.int .i64 a,.int .i64 0] 60)).alloc (.cells #[.int .i64 0,.int .i64 0,.int .i64 0] 60)=W:=⟨_,rfl⟩;have a6:Below w.heap.size w W:=by rw[<-I];exact Bx w _ _
 have a7:W.heap.size=w.heap.size+1+1:=by rw[<-I];simp
 have R:Bw W w.heap.size 60 #[.int .i64 1,.int .i64 a,.int .i64 0]:=by rw[<-I];exact(Bw.new w _ _).alloc _
 have J:Bw W (w.heap.size+1) 60 #[.int .i64 0,.int .i64 0,.int .i64 0]:=by
  rw[<-I];have:=Bw.new (w.alloc (.cells #[.int .i64 1,.int .i64 a,.int .i64 0] 60)) 60 #[.int .i64 0,.int .i64 0,.int .i64 0];simpa only[aW]using this
 have q1:W.cell? ⟨w.heap.size,0,none⟩=some (.int .i64 1):=by rw[R.cell 0];rfl
 have q2:W.cell? ⟨w.heap.size,1,none⟩=some (.int .i64 a):=by rw[R.cell 1];rfl
 have q3:W.cell? ⟨w.heap.size,2,none⟩=some (.int .i64 0):=by rw[R.cell 2];rfl
 have q8:W.cell? ⟨w.heap.size+1,0,none⟩=some (.int .i64 0):=by rw[J.cell 0];rfl
 have q9:W.cell? ⟨w.heap.size+1,1,none⟩=some (.int .i64 0):=by rw[J.cell 1];rfl
 have a8:W.cell? ⟨w.heap.size+1,2,none⟩=some (.int .i64 0):=by rw[J.cell 2];rfl
 have q7:∀i,W.frozen? ⟨w.heap.size+1,i,none⟩=false:=J.frozen;clear R J;go_enter func264,ntmps264;go_wp2_with fail;clear I;refine Aj.AF 5 [(0,As (num 0)),(2,.tuple #[.agg #[.int .i64 K,.int .i64 A,.int .i64 B],.int .i64 X])] [(0,fun _ _=>True),(2,fun _ _=>True)] (fun p=>Below W.heap.size W p) (fun w p=>Below w.heap.size w p) (by kernel_rfl) (by kernel_rfl) (by kernel_rfl) (by kernel_rfl) (fun _ _ d _ _ h=>by cases d<;>exact h) (aJ _ _).drew ?_;simp only[aM,aT];refine Aj.AC (As (num 0)) rfl rfl rfl (fun _ _ _ _ _=>trivial) (fun w1 hI _ K' o=>?_) ?_
 ·go_simp;refine(FB 0 _).mono ?_;rintro e w2⟨rfl,j⟩;exact o _ _ (by go_simp) trivial (hI.trans (j.mono hI.size)) j
 repeat(refine Aj.Ad rfl rfl ?_ ?_ ?_;rotate_left;(focus(intro w1 hI _;obtain⟨hk,_⟩:=Ae hI;go_simp;rfl)))
 refine Aj.AC (.tuple #[.agg #[.int .i64 K,.int .i64 A,.int .i64 B],.int .i64 X]) rfl rfl rfl (fun _ _ _ _ _=>trivial) (fun w1 hI _ K' o=>?_) ?_
 ·go_simp;refine(Wb 12 (num 0) ⟨1,a,0⟩ (by omega) (Jk (by decide)) ⟨.inl ⟨rfl,rfl⟩,HA.out⟩ _).mono ?_;rintro e w2⟨rfl,j⟩;rw[HE.out,HV.out];exact o _ _ (by go_simp) trivial (hI.trans (j.mono hI.size)) j
 repeat(refine Aj.Ad rfl rfl ?_ ?_ ?_;rotate_left;(focus(intro w1 hI _;obtain⟨hk,_⟩:=Ae hI;go_simp;rfl)))
 simp only[Act.put,aB,aD,aC];refine Aj.Ak (fun w4 hI _=>?_);simp only[aN,aS];obtain⟨b1,b2⟩:=Ae hI;have hs:=hI.size;go_wp2;refine aI (v:=.tuple #[.agg #[.int .i64 K,.int .i64 A,.int .i64 B],.int .i64 X]) (by simp[results,results264,go_sem,b1,b2,a7,q8,q9,a8,q7]) rfl ⟨rfl,?_⟩;exact C6 (Ab a6 hI) _ _ _
theorem Zan (op:Int) (x:BS) (h:7<=op/\op<=10) (I:FL x) (w:World):Calls prog 264 #[.int .i64 op,As x] w fun e J=>e=.returned (Am (Ou op x))/\Below w.heap.size w J:=by
 obtain⟨k,a,b⟩:=x;obtain⟨R,hi⟩:=I;have o:op=7\/op=8\/op=9\/op=10:=by omega
 rcases R with⟨j,p⟩|⟨j,p,ha⟩|⟨j,ha,p⟩
 ·dsimp only at j p;subst j;rcases o with rfl|rfl|rfl|rfl
  ·exact Zbj a b hi p w
  ·exact GQ 8 1 a b (by decide) w
  ·exact GQ 9 1 a b (by decide) w
  ·exact GQ 10 1 a b (by decide) w
 ·dsimp only at j p ha;subst j;rcases o with rfl|rfl|rfl|rfl
  ·exact GQ 7 2 a b (by decide) w
  ·exact ZaJ a b ha w
  ·exact GQ 9 2 a b (by decide) w
  ·exact GQ 10 2 a b (by decide) w
 ·dsimp only at j p ha;subst j;rcases o with rfl|rfl|rfl|rfl
  ·exact YN a b ha p w
  ·exact GQ 8 3 a b (by decide) w
  ·exact Zca a b w
  ·exact Zcd a b w
end
section
open Go.RowKit Q Fl Go.Lib
namespace Q
def Kv (vars:List Var) (Ac:List BS) (j:List ByteArray) (l:List Cell):Rs BS:=
 if BC l=true then(if vars.length=Ac.length/\(Ac.any fun v=>!decide (By v))=false then C4 vars Ac j l else .err 12)else .err 1
end Q
def BU (v:BS):List Value:=[.int .i64 v.kind,.int .i64 v.a,.int .i64 v.b]
instance:Inhabited BS:=⟨⟨0,0,0⟩⟩
theorem Zat (w:World) (B:Nat) (a:BS) (o:Nat->Value) (h:∀j,j<3->Zcl w B a j (o j)):∃b:BS,id b=a/\∀j,j<3->(BU b)[j]?=some (o j):=by
 refine⟨a,rfl,fun j I=>?_⟩;have p:=h j I
 match j,I,p with
 | 0,_,h=>rw[show o 0=_ from h];rfl
 | 1,_,h=>rw[show o 1=_ from h];rfl
 | 2,_,h=>rw[show o 2=_ from h];rfl
theorem Xf (w:World):(isAgg 60).run prog w=.ok true w:=by kernel_rfl
theorem Tp (w:World):(Go.sizeOf 60).run prog w=.ok 3 w:=by kernel_rfl
theorem Hp:(prog.info? 60).map (fun i=>(i.zero,i.size,i.bytes))=some (some (.agg #[.int .i64 0,.int .i64 0,.int .i64 0]),3,24):=by kernel_rfl
theorem YP (x:BS) (w:World):Calls prog 260 #[As x] w fun e I=>e=.returned (.bool (!decide (By x)))/\Below w.heap.size w I:=by
 obtain⟨k,a,b⟩:=x;obtain⟨r,j⟩:∃r,decide (By ⟨k,a,b⟩)=r:=⟨_,rfl⟩;rw[j];have J:=jK j;clear j;show Calls _ _ #[.agg #[.int .i64 k,.int .i64 a,.int .i64 b]] _ _;have o:=AT w (.cells #[.int .i64 k,.int .i64 a,.int .i64 b] 60);go_enter func260,ntmps260;go_wp2_with fail;refine(ER ⟨k,a,b⟩ _).mono ?_;rintro e R⟨rfl,p⟩;rw[J.out];cases r
 all_goals
  go_wp2;go_ret;exact⟨rfl,Ab o p⟩
theorem Sf (Ac:List BS) (v:Value) (w:World) (h:Ci w w.heap.size v Ac) :
  Calls prog 259 #[v,.func (.func 260) #[] #[]] w fun e j=>e=.returned (.bool (Ac.any fun v=>!decide (By v)))/\Below w.heap.size w j:=
 ZE (P:=prog) Tryz.ZcU Xf Tp id BU Zat (fun _=>rfl) (by omega) (fun v=>!decide (By v)) 260 #[] (enters_of func260 (by decide) rfl) w v Ac h (fun W x o=>(YP x W).mono fun e j ⟨p,I⟩=>⟨p,o.trans (I.mono o.size)⟩)
theorem Ja (s:ByteArray) (b:Nat) (w:World) (I:b<w.heap.size) (J:w.cell? ⟨b,2,none⟩=some (.string s)):JT 263 #[.pointer (some ⟨b,0,none⟩)] s w:=fun W x j=>by
 have R:W.cell? ⟨b,2,none⟩=some (.string s):=(j.cell (p:=⟨b,2,none⟩) I).trans J;have U:b<W.heap.size:=aK I j.size;have a1:b≠W.heap.size:=by omega
 obtain⟨r,o⟩:∃r,named s x=r:=⟨_,rfl⟩;rw[o];have HR:=jK o;show Calls prog 263 #[.agg #[.string x.name,.int .i64 x.kind,.int .i64 x.lo,.int .i64 x.hi,.int .i64 x.init.kind,.int .i64 x.init.a,.int .i64 x.init.b],.pointer (some ⟨b,0,none⟩)] W _;clear o J;go_enter func263,ntmps263;go_wp2;go_ret;exact⟨Db (by rw[<-HR.out];exact Gh s x),j.alloc j.size _⟩
def Lr (j:List BS):List Value:=j.reverse.flatMap BU
theorem GF (j:List BS):(Lr j).length=j.length*3:=by
 unfold Lr
 induction j with
 |nil=>rfl
 |cons x j ih=>rw[List.reverse_cons,eO,aO,ih];simp[BU];omega
theorem Gv (x:BS) (j:List BS):Lr (x::j)=Lr j++BU x:=by unfold Lr;simp[eO]
theorem RS (x:BS) (j:List BS):(Lr (x::j)).take (j.length*3)=Lr j:=by
 rw[Gv,List.take_append_of_le_length (by rw[GF];omega),gP (by rw[GF];omega)]
theorem XI (x y:BS) (j:List BS):(Lr (y::x::j)).take (j.length*3)=Lr j:=by
 rw[Gv,List.take_append_of_le_length (by rw[GF];simp;omega),RS]
theorem Dv (x:BS) (o:List BS) (j:Nat) (p:j<3):(Lr (x::o))[o.length*3+j]?=(BU x)[j]?:=by
 rw[Gv,bX (by rw[GF];omega),GF];congr 1;omega
theorem MW (x y:BS) (o:List BS) (j:Nat) (p:j<3):(Lr (y::x::o))[o.length*3+j]?=(BU x)[j]?:=by
 rw[Gv,bZ (by rw[GF];simp;omega),Dv _ _ _ p]
theorem Wh {op:Int} {x v:BS} (U:7<=op/\op<=10) (J:FL x) (h:Ou op x=.ok v):FL v:=by
 obtain⟨k,a,b⟩:=x;obtain⟨o,hi⟩:=J;unfold Ou at h;dsimp only at h
 repeat' split at h
 ·cases hw:Q.whole 12 0 a with
  |err e=>rw[hw]at h;cases h
  |ok n=>rw[hw]at h;injection h with h;subst h;exact Jk (Fu (by decide) hi hw)
 ·cases h;rename_i j;have j:k=3:=j;subst j;rcases o with⟨h,_⟩|⟨h,_⟩|⟨_,p,I⟩
  ·cases h
  ·cases h
  ·refine⟨.inr (.inr ⟨rfl,?_,?_⟩),?_⟩
   ·unfold Bo at *;dsimp only at *;omega
   ·unfold Bo at *;dsimp only at *;omega
   ·unfold Bo at p;unfold AP;dsimp only at *;omega
 ·cases h
 ·cases h;exact Ky _
 ·cases h
 ·cases h
 ·cases h;exact Jk hi
 ·cases h;rcases o with⟨h,_⟩|⟨h,_⟩|⟨_,p,I⟩
  ·rename_i R _;exact absurd h (by dsimp only at *;omega)
  ·rename_i R _;exact absurd h (by dsimp only at *;omega)
  ·exact Jk (by unfold Bo at I;unfold AP;dsimp only at *;omega)
theorem Zv {a b:Int} {v:BS} (h:Q.CP a b=.ok v):FL v:=by
 unfold Q.CP at h;split at h
 ·rename_i j;cases h;exact⟨.inr (.inr ⟨rfl,j.1,j.2⟩),by have:=j.1;unfold Bo at this;unfold AP;dsimp only;omega⟩
 ·cases h
theorem Wn {op:Int} {x y v:BS} (p:11<=op/\op<=23) (j:FL x) (o:FL y) (h:DC op x y=.ok v):FL v:=by
 unfold DC at h
 repeat' split at h
 all_goals first
  |(cases h;exact Ky _)
  |(cases h;done)
  |(unfold UH at h
    repeat' split at h
    all_goals exact Zv h)
  |(cases hw:Q.whole op x.a y.a with
    |err e=>rw[hw]at h;cases h
    |ok n=>rw[hw]at h;injection h with h;subst h;exact Jk (Fu j.2 o.2 hw))
theorem EM {w j:World} (h:Below w.heap.size w j) (a b c:Value):Below w.heap.size w (((j.setCell ⟨w.heap.size,0,none⟩ a).setCell ⟨w.heap.size,1,none⟩ b).setCell ⟨w.heap.size,2,none⟩ c):=
 (((h.setCell (p:=⟨w.heap.size,0,none⟩) (aL _) a).setCell (p:=⟨w.heap.size,1,none⟩) (aL _) b).setCell (p:=⟨w.heap.size,2,none⟩) (aL _) c)
theorem WR {vars:List Var} {Ac:List BS} {j:List ByteArray} {c:Cell} (I:vars.length=Ac.length) {e:Int} (h:EY vars Ac j c=.err e):e=2:=by
 unfold EY at h
 repeat' split at h
 all_goals first
  |(cases h;done)
  |(cases h;rfl)
  |(rename_i o _ p
    exfalso;have:=(cY.1 o).1;rw[iW]at p;omega)
theorem GJ {wr j:World} {x y z:Value} (k a b:Int) (o:Bw j (wr.heap.size+1) 60 #[x,y,z]) (I:Below wr.heap.size wr j) :
  Below wr.heap.size wr (((j.setCell ⟨wr.heap.size+1,0,none⟩ (.int .i64 k)).setCell ⟨wr.heap.size+1,1,none⟩ (.int .i64 a)).setCell ⟨wr.heap.size+1,2,none⟩ (.int .i64 b))/\
  j.heap.size<=(((j.setCell ⟨wr.heap.size+1,0,none⟩ (.int .i64 k)).setCell ⟨wr.heap.size+1,1,none⟩ (.int .i64 a)).setCell ⟨wr.heap.size+1,2,none⟩ (.int .i64 b)).heap.size/\
  Bw (((j.setCell ⟨wr.heap.size+1,0,none⟩ (.int .i64 k)).setCell ⟨wr.heap.size+1,1,none⟩ (.int .i64 a)).setCell ⟨wr.heap.size+1,2,none⟩ (.int .i64 b)) (wr.heap.size+1) 60 (BU ⟨k,a,b⟩).toArray:=by
 refine⟨((I.setCell (p:=⟨wr.heap.size+1,0,none⟩) (by simp) _).setCell (p:=⟨wr.heap.size+1,1,none⟩) (by simp) _).setCell (p:=⟨wr.heap.size+1,2,none⟩) (by simp) _,by simp[World.setCell],?_⟩;have h:=((o.BF 0 (.int .i64 k)).BF 1 (.int .i64 a)).BF 2 (.int .i64 b);simpa[BU]using h
theorem Pu {a b:World} {g:Nat} (h:a.heap[g]?=b.heap[g]?) (o:Nat):a.cell? ⟨g,o,none⟩=b.cell? ⟨g,o,none⟩:=by simp[World.cell?,h]
def Eo (wr W j:World):Prop:=Below wr.heap.size wr j/\W.heap.size<=j.heap.size/\j.heap[wr.heap.size]?=W.heap[wr.heap.size]?/\∃x y z,Bw j (wr.heap.size+1) 60 #[x,y,z]
theorem Eo.call {wr W o p:World} (R:W.heap.size=wr.heap.size+1+1) (h:Eo wr W o) (j:Below o.heap.size o p):Eo wr W p/\∀c,Bw o (wr.heap.size+1) 60 c->Bw p (wr.heap.size+1) 60 c:=by
 obtain⟨I,i2,i3,x,y,z,i4⟩:=h;exact⟨⟨I.trans (j.mono (by omega)),aV i2 j.size,(j.block _ (by omega)).trans i3,x,y,z,i4.below j (by omega)⟩,fun c J=>J.below j (by omega)⟩
theorem Eo.store {wr W j:World} (h:Eo wr W j) (k a b:Int) :
  Eo wr W (((j.setCell ⟨wr.heap.size+1,0,none⟩ (.int .i64 k)).setCell ⟨wr.heap.size+1,1,none⟩ (.int .i64 a)).setCell ⟨wr.heap.size+1,2,none⟩ (.int .i64 b))/\
  Bw (((j.setCell ⟨wr.heap.size+1,0,none⟩ (.int .i64 k)).setCell ⟨wr.heap.size+1,1,none⟩ (.int .i64 a)).setCell ⟨wr.heap.size+1,2,none⟩ (.int .i64 b)) (wr.heap.size+1) 60 (BU ⟨k,a,b⟩).toArray:=by
 obtain⟨p,i2,i3,x,y,z,i4⟩:=h;obtain⟨I,J,o⟩:=GJ k a b i4 p;refine⟨⟨I,aV i2 J,?_,_,_,_,o⟩,o⟩;rw[cT _ _ _ _ (by simp),cT _ _ _ _ (by simp),cT _ _ _ _ (by simp)];exact i3
theorem Eo.facts {wr W j:World} (h:Eo wr W j):(∀i,j.frozen? ⟨wr.heap.size+1,i,none⟩=false)/\∃x y z,j.cell? ⟨wr.heap.size+1,0,none⟩=some x/\j.cell? ⟨wr.heap.size+1,1,none⟩=some y/\j.cell? ⟨wr.heap.size+1,2,none⟩=some z:=by
 obtain⟨_,_,_,x,y,z,i4⟩:=h;refine⟨i4.frozen,x,y,z,?_,?_,?_⟩
 ·rw[i4.cell 0];rfl
 ·rw[i4.cell 1];rfl
 ·rw[i4.cell 2];rfl
theorem MM {op:Int} {x:BS} {e:Int} (h:Ou op x=.err e):e≠0:=by
 unfold Ou at h
 repeat' split at h
 all_goals first
  |(cases h;done)
  |(cases h;omega)
  |(cases hw:Q.whole 12 0 x.a with
    |err e=>rw[hw]at h;injection h with h;subst h;exact IB hw
    |ok n=>rw[hw]at h;cases h)
theorem NX {op:Int} {x y:BS} {e:Int} (h:DC op x y=.err e):e≠0:=by
 unfold DC at h
 repeat' split at h
 all_goals first
  |(cases h;done)
  |(cases h;omega)
  |(unfold UH Q.CP at h
    repeat' split at h
    all_goals(first|(cases h;done)|(cases h;omega)))
  |(cases hw:Q.whole op x.a y.a with
    |err e=>rw[hw]at h;injection h with h;subst h;exact IB hw
    |ok n=>rw[hw]at h;cases h)
theorem Q9 {vars:List Var} {Ac:List BS} {j:List ByteArray} {c:Cell} {v:BS} (p:B7 c=0) (o:∀x∈Ac,FL x) (h:EY vars Ac j c=.ok v):FL v:=by
 obtain⟨op,a,nm⟩:=c;unfold EY at h;unfold B7 at p;dsimp only at h p
 repeat' split at h
 ·rename_i I;rw[if_pos I]at p;cases h;refine Jk ?_;by_cases J:a<0\/1099511627776<a\/nm.data.toList≠[]
  ·rw[if_pos J]at p;omega
  ·unfold AP;omega
 ·rename_i R I;rw[if_neg R,if_pos I]at p;cases h;by_cases J:a<0\/1048576<a\/nm.data.toList≠[]
  ·rw[if_pos J]at p;omega
  ·refine⟨.inr (.inr ⟨rfl,?_,?_⟩),?_⟩
   ·unfold Bo;dsimp only;omega
   ·unfold Bo;dsimp only;omega
   ·unfold AP;dsimp only;omega
 ·cases h
 ·rename_i v' U;cases h;exact o _ (bR U)
 ·cases h
 ·cases h;exact Ky _
 ·cases h;exact Ky _
end
end Go.Proofs.YthbihnpoghlfaaaGreatDoor
