import Derived.Orders
import Derived.Tactics
import Derived.WalkKit
import Derived.StillTail
import Derived.Test.YthbihnpoghlfaaaGreatDoorRows
import Derived.WalkLawsBesides
import Derived.WalkSpells
import Derived.Lib.Hide
import Derived.Below
import Derived.Laws.OwnMore
import Derived.Deep.AppendLies
import Derived.Deep.Draws
import Derived.Laws.Rows
import Derived.Maps.AppendAt
import Derived.RegionTactic
import Derived.OwnWalk
import Derived.Deep.QuietTactic
import Derived.BigQuiet
import Derived.ProofKit
import Derived.OpenShut
import Derived.ShutString
import Derived.SliceStrings
import Derived.SizedLaws
set_option linter.unusedVariables false
set_option linter.unusedSimpArgs false
set_option maxHeartbeats 8000000
set_option maxRecDepth 100000
namespace Go.Proofs.YthbihnpoghlfaaaGreatDoor
section
abbrev aB:=@List.setIfInBounds_toArray
abbrev aC:=@List.set_cons_zero
abbrev aD:=@List.set_cons_succ
abbrev aF:=@decide_eq_false
abbrev aG:=@Bool.and_eq_true
abbrev aH:=@decide_eq_true
abbrev aI:=@Go.bodyPost_ret
abbrev aJ:=@Go.RowKit.Below.refl
abbrev aK:=@Nat.lt_of_lt_of_le
abbrev aL:=@Nat.le_refl
abbrev aM:=@List.take_succ_cons
abbrev aN:=@List.drop_succ_cons
abbrev aO:=@List.length_append
abbrev aP:=@decide_eq_true_eq
abbrev aQ:=@List.getElem?_eq_getElem
abbrev aR:=@List.mem_cons_self
abbrev aS:=@List.drop_zero
abbrev aT:=@List.take_zero
abbrev aU:=@Array.getElem?_eq_some_iff
abbrev aV:=@Nat.le_trans
abbrev aW:=@Go.World.size_alloc
abbrev aX:=@Go.Sem.run_bind
abbrev aY:=@List.all_eq_true
abbrev aZ:=@List.eq_nil_of_length_eq_zero
abbrev bA:=@List.mem_cons_of_mem
abbrev bC:=@List.getElem?_eq_some_iff
abbrev bD:=@decide_eq_false_iff_not
abbrev bE:=@List.head_eq_of_cons_eq
abbrev bF:=@List.length_take
abbrev bG:=@List.length_map
abbrev bH:=@Nat.lt_or_ge
abbrev bI:=@Int.toNat_natCast
abbrev bJ:=@List.mem_cons
abbrev bK:=@List.getElem_mem
abbrev bL:=@Go.World.ownsRow_nil
abbrev bM:=@List.take_succ_eq_append_getElem
abbrev bN:=@List.map_append
abbrev bO:=@Nat.zero_add
abbrev bP:=@List.length_cons
abbrev bQ:=@Nat.le_of_ble_eq_true
abbrev bR:=@List.mem_of_getElem?
abbrev bS:=@Array.length_toList
abbrev bT:=@List.take_length
abbrev bU:=@Classical.byContradiction
abbrev bV:=@Bool.or_eq_true
abbrev bW:=@Bool.true_and
abbrev bX:=@List.getElem?_append_right
abbrev bY:=@Nat.eq_of_beq_eq_true
abbrev bZ:=@List.getElem?_append_left
abbrev cC:=@Bool.false_and
abbrev cE:=@List.getElem?_take
abbrev cF:=@List.getElem?_cons_zero
abbrev cG:=@List.getElem?_cons_succ
abbrev cH:=@Bool.eq_iff_iff
abbrev cI:=@List.getElem?_toArray
abbrev cJ:=@Go.run_underlying
abbrev cK:=@Array.getElem?_setIfInBounds_ne
abbrev cL:=@Go.getD_replicate_false
abbrev cM:=@Go.IntWalk.i64_in
abbrev cN:=@List.getElem?_map
abbrev cO:=@Go.results_none
abbrev cP:=@List.append_nil
abbrev cQ:=@List.mem_range
abbrev cR:=@List.length_singleton
abbrev cS:=@List.contains_iff_mem
abbrev cT:=@Go.RowKit.Below.heap_setCell
abbrev cU:=@List.getElem_of_mem
abbrev cV:=@of_decide_eq_true
abbrev cW:=@Go.Result.andThen_ok
abbrev cX:=@cond_true
abbrev cY:=@List.findIdx?_eq_some_iff_getElem
abbrev cZ:=@Bool.false_or
abbrev dC:=@Go.info_parts
abbrev dD:=@Nat.add_zero
abbrev dF:=@List.mem_map
abbrev dG:=@List.append_assoc
abbrev dH:=@List.mem_singleton
abbrev dI:=@beq_iff_eq
abbrev dJ:=@beq_eq_false_iff_ne
abbrev dK:=@Classical.not_forall
abbrev dL:=@List.filter_append
abbrev dM:=@List.length_drop
abbrev dN:=@Go.World.block_lt_of_cell?
abbrev dP:=@Nat.blt_eq
abbrev dQ:=@Classical.not_imp
abbrev dS:=@List.getElem?_drop
abbrev dT:=@Bool.false_ne_true
abbrev dU:=@Array.getElem?_eq_none
abbrev dV:=@List.drop_eq_getElem_cons
abbrev dW:=@Go.DataW.trod_int
abbrev dX:=@List.length_nil
abbrev dY:=@Bool.false_eq_true
abbrev dZ:=@Go.callsIn_wide
abbrev eB:=@Nat.lt_succ_self
abbrev eC:=@List.mem_flatMap
abbrev eD:=@Go.MapKept.run_getObj_map
abbrev eE:=@List.flatMap_cons
abbrev eF:=@Go.DataW.trod_string
abbrev eG:=@List.pairwise_iff_getElem
abbrev eH:=@List.nil_append
abbrev eI:=@Bool.true_or
abbrev eJ:=@cond_false
abbrev eK:=@Go.World.size_setCell
abbrev eL:=@List.drop_length
abbrev eM:=@Nat.lt_irrefl
abbrev eN:=@Nat.zero_le
abbrev eO:=@List.flatMap_append
abbrev eP:=@Array.getD_eq_getD_getElem?
abbrev eQ:=@List.flatMap_singleton
abbrev eR:=@List.isPrefixOf_iff_prefix
abbrev eS:=@List.not_mem_nil
abbrev eT:=@Go.RowKit.ownsRow_setCell_below
abbrev eU:=@Go.Sem.run_pure
abbrev eV:=@List.mem_iff_getElem?
abbrev eY:=@List.map_cons
abbrev eZ:=@List.length_filter_le
abbrev fA:=@Bool.not_true
abbrev fC:=@Array.getElem?_toList
abbrev fD:=@Nat.mul_le_mul_right
abbrev fE:=@of_eq_true
abbrev fF:=@Nat.min_eq_left
abbrev fG:=@List.mem_append
abbrev fH:=@Go.DataW.trod_struct
abbrev fI:=@List.map_map
abbrev fJ:=@Nat.add_assoc
abbrev fK:=@Option.bind_some
abbrev fL:=@Go.RowKit.Below.heap_alloc
abbrev fM:=@Bool.not_false
abbrev fN:=@List.take_append_drop
abbrev fO:=@List.mem_filter
abbrev fP:=@List.length_range
abbrev fQ:=@List.ext_getElem?
abbrev fR:=@Int.lt_trichotomy
abbrev fS:=@Bool.eq_false_iff
abbrev fT:=@Array.ext'
abbrev fU:=@List.getD_eq_getElem?_getD
abbrev fV:=@Go.World.cell?_alloc_lt
abbrev fW:=@Go.MapKept.run_checkKey
abbrev fY:=@Array.toArray_toList
abbrev fZ:=@Go.heap_alloc_new
abbrev gB:=@List.isEmpty_iff
abbrev gC:=@List.getElem_map
abbrev gD:=@List.filter_cons
abbrev gE:=@List.cons_append
abbrev gF:=@List.any_eq_true
abbrev gG:=@Array.toList_inj
abbrev gH:=@List.mem_map_of_mem
abbrev gI:=@ByteArray.size_data
abbrev gJ:=@Go.run_loadVar_row
abbrev gK:=@Go.mem_ready
abbrev gM:=@Nat.eq_zero_or_pos
abbrev gN:=@List.filter_cons_of_pos
abbrev gO:=@ByteArray.ext
abbrev gP:=@List.take_of_length_le
abbrev gQ:=@List.pairwise_lt_range
abbrev gR:=@Go.wpList_append_own
abbrev gS:=@List.any_eq_false
abbrev gT:=@Bool.and_false
abbrev gU:=@Nat.zero_mul
abbrev gV:=@List.mem_append_right
abbrev gW:=@List.length_mergeSort
abbrev gX:=@List.getElem?_eq_none
abbrev gY:=@List.countP_le_length
abbrev gZ:=@List.ext_getElem
abbrev iA:=@List.mem_append_left
abbrev iC:=@List.dropLast_subset
abbrev iD:=@List.Pairwise.filter
abbrev iE:=@Array.replicate_zero
abbrev iF:=@Array.replicate_succ
abbrev iG:=@or_false
abbrev iH:=@List.dropLast_concat_getLast
abbrev iI:=@Go.RowKit.Below.setCell
abbrev iJ:=@Nat.add_mul
abbrev iK:=@List.range_succ
abbrev iL:=@List.append_toArray
abbrev iM:=@Go.Exit.noGoto_ret
abbrev iN:=@List.nodup_iff_pairwise_ne
abbrev iO:=@of_decide_eq_false
abbrev iP:=@Go.World.grownBy.refl
abbrev iQ:=@Nat.add_sub_cancel
abbrev iR:=@Classical.em
abbrev iS:=@Bool.or_true
abbrev iT:=@Go.World.cell?_setCell_other
abbrev iU:=@Nat.mul_le_mul
abbrev iV:=@List.mem_or_eq_of_mem_set
abbrev iW:=@List.getElem?_eq_none_iff
abbrev iX:=@List.findIdx?_eq_none_iff
abbrev iY:=@Option.isSome_iff_exists
abbrev iZ:=@Nat.lt_succ_of_lt
abbrev jA:=@List.size_toArray
abbrev jB:=@List.push_toArray
abbrev jC:=@List.getElem?_set
abbrev jD:=@List.filter_cons_of_neg
abbrev jE:=@List.all_cons
abbrev jF:=@Nat.le_of_not_lt
abbrev jG:=@Nat.div_add_mod'
abbrev jH:=@Array.toList_map
abbrev jI:=@List.filter_eq_nil_iff
abbrev jJ:=@Array.size_eq_zero_iff
theorem jK {p:Prop} (h:p):Go.RowKit.Hid p:=h
end
section
open Go.RowKit
theorem Bz (a:Addr) (n:Nat):(a.add n).block=a.block:=by unfold Addr.add;split<;>rfl
theorem Ca (a:Addr) (i j:Nat):(a.add i).add j=a.add (i+j):=by
 unfold Addr.add;by_cases hi:i=0<;>by_cases o:j=0<;>simp[hi,o,fJ]
def Reads (w:World) (B size:Nat) (A:Option Addr) (n:Nat) (xs:List Value):Prop:=
 xs.length=n*size/\(0<n->∃o,A=some o/\o.block<B/\∀j u,xs[j]?=some u->w.cell? (o.add j)=some u)
section
variable {w w':World} {B B' size n:Nat} {A:Option Addr} {xs:List Value}
theorem Reads.none_:Reads w B size A 0 []:=⟨by simp,fun h=>absurd h (by omega)⟩
theorem Reads.at_ {k:Nat} (h:Reads w B 1 A n xs) (J:k<n):∃j u,A=some j/\j.block<B/\xs[k]?=some u/\w.cell? (j.add k)=some u:=by
 obtain⟨j,e,p,I⟩:=h.2 (by omega);have o:k<xs.length:=by have:=h.1;omega
 exact⟨j,xs[k],e,p,aQ o,I k _ (aQ o)⟩
theorem Reads.keep (h:Reads w B size A n xs) (I:∀p:Addr,p.block<B->w'.cell? p=w.cell? p):Reads w' B size A n xs:=
 ⟨h.1,fun J=>by
  obtain⟨R,e,o,U⟩:=h.2 J;exact⟨R,e,o,fun j u hu=>(I _ (by rw[Bz];exact o)).trans (U j u hu)⟩⟩
theorem Reads.more (h:Reads w B size A n xs) (I:B<=B'):Reads w B' size A n xs:=
 ⟨h.1,fun j=>by
  obtain⟨o,e,J,p⟩:=h.2 j;exact⟨o,e,by omega,p⟩⟩
theorem Reads.below (h:Reads w B size A n xs) (j:Below B w w'):Reads w' B size A n xs:=h.keep fun _ hp=>j.cell hp
theorem Reads.drew (h:Reads w B size A n xs):Reads w.drew B size A n xs:=h
theorem Reads.drewN (h:Reads w B size A n xs) (k:Nat):Reads (w.drewN k) B size A n xs:=h
theorem Reads.alloc (h:Reads w B size A n xs) (j:B<=w.heap.size) (o:Obj):Reads (w.alloc o) B size A n xs:=h.keep fun p hp=>fV w o p (by omega)
theorem Reads.setCell (h:Reads w B size A n xs) {p:Addr} (j:B<=p.block) (u:Value):Reads (w.setCell p u) B size A n xs:=
 h.keep fun q o=>iT w p q u (fun e=>by subst e;omega)
theorem Reads.grown (h:Reads w B size A n xs) {row:Option Nat} (j:w.grownBy w' row) (I:B<=w.heap.size) (o:∀g,row=some g->B<=g):Reads w' B size A n xs:=
 h.keep fun p hp=>World.cell?_of_block (j.block p.block (by omega) (fun e=>by have:=o _ e.symm;omega))
theorem Reads.cut (h:Reads w B size A n xs) {k cap:Nat} (J:k<=n) (R:n<=cap) :
  Reads w B size (if cap=k then A else A.map (·.add (k*size))) (n-k) (xs.drop (k*size)):=by
 refine⟨by rw[dM,h.1,Nat.sub_mul],fun U=>?_⟩;obtain⟨p,rfl,I,o⟩:=h.2 (by omega);rw[if_neg (by omega)];refine⟨p.add (k*size),rfl,by rw[Bz];exact I,fun j u hu=>?_⟩;rw[Ca];exact o _ u (by rw[<-hu,dS])
theorem Reads.BL {base:Nat} {e:TypeId} {c:Nat} (h:w.ownsRow base e size (.slice A n c) n xs):Reads w w.heap.size size A n xs:=by
 refine⟨h.1,fun o=>?_⟩;obtain⟨g,cap,p,_,j⟩:=h.form o;have I:A=some ⟨g,0,none⟩:=by injection p
 subst I;exact⟨_,rfl,j,h.cells (g:=g) rfl⟩
end
def Bw (w:World) (g:Nat) (t:TypeId) (cs:Array Value):Prop:=w.heap[g]?=some (.cells cs t (0,0))
section
variable {w w':World} {g:Nat} {t:TypeId} {cs:Array Value}
theorem Bw.lt (h:Bw w g t cs):g<w.heap.size:=by
 rcases bH g w.heap.size with j|o
 ·exact j
 ·unfold Bw at h;rw[dU o]at h;cases h
theorem Bw.cell (h:Bw w g t cs) (i:Nat):w.cell? ⟨g,i,none⟩=cs[i]?:=cell_of_row w g i cs t (0,0) h
theorem Bw.frozen (h:Bw w g t cs) (i:Nat):w.frozen? ⟨g,i,none⟩=false:=by
 unfold Bw at h;simp[World.frozen?,h]
theorem Bw.new (w:World) (t:TypeId) (cs:Array Value):Bw (w.alloc (.cells cs t)) w.heap.size t cs:=fZ w _
theorem Bw.drew (h:Bw w g t cs):Bw w.drew g t cs:=h
theorem Bw.drewN (h:Bw w g t cs) (n:Nat):Bw (w.drewN n) g t cs:=h
theorem Bw.alloc (h:Bw w g t cs) (o:Obj):Bw (w.alloc o) g t cs:=(fL w o g h.lt).trans h
theorem Bw.BF (h:Bw w g t cs) (i:Nat) (u:Value):Bw (w.setCell ⟨g,i,none⟩ u) g t (cs.setIfInBounds i u):=by
 unfold Bw at h⊢;simp[World.setCell,Array.getElem?_modify,h]
theorem Bw.Nf (h:Bw w g t cs) {p:Addr} (hp:g≠p.block) (u:Value):Bw (w.setCell p u) g t cs:=(cT w p u g hp).trans h
theorem Bw.below {B:Nat} (h:Bw w g t cs) (j:Below B w w') (o:g<B):Bw w' g t cs:=(j.block g o).trans h
theorem Bw.grown {row:Option Nat} (h:Bw w g t cs) (j:w.grownBy w' row) (o:some g≠row):Bw w' g t cs:=(j.block g h.lt o).trans h
end
section
variable {P:Program} (w:World)
theorem J8 (base:Nat) (t ty e:TypeId) (i:TypeInfo) (size:Nat) (p:P.underlying t=some (.slice e)) (hi:P.info? e=some i)
  (v:Value) (n:Nat) (xs:List Value) (j:w.ownsRow base e size v n xs) (c:Nat):(Builtin.append_ #[t,t] ty #[v,.slice none 0 c]).run P w=.ok v w:=by
 rcases j.2 with⟨rfl,rfl⟩|⟨g,cap,I,rfl,_,_,o,_⟩
 ·simp[Builtin.append_,cJ p,sizeOf,typeInfo,hi,Builtin.lenOf,Builtin.firstCells]
 ·simp[Builtin.append_,cJ p,sizeOf,typeInfo,hi,Builtin.lenOf,Builtin.firstCells,o,storeCells]
theorem MK (base:Nat) (t ty e:TypeId) (i:TypeInfo) (z:Value) (size bytes:Nat) (ht:P.underlying t=some (.slice e)) (hi:P.info? e=some i) (hz:i.zero=some z)
  (J:i.size=size) (a8:i.bytes=bytes) (b0:z.cells.size=size) (b1:0<size)
  (v:Value) (n:Nat) (xs:List Value) (o:w.ownsRow base e size v n xs)
  (B:Nat) (A:Option Addr) (m c:Nat) (news:List Value) (hr:Reads w B size A m news) (h1:∀u∈news,u.oneCell'=true)
  (b2:n+m<=maxLen) (p:(n+m)*bytes<=140737488355328) (R:base<=w.heap.size) :
  ∃v' w',(Builtin.append_ #[t,t] ty #[v,.slice A m c]).run P w=.ok v' w'/\w'.ownsRow base e size v' (n+m) (xs++news)/\w.grownBy w' v.ownBlock/\
   (v'.ownBlock=v.ownBlock\/v'.ownBlock=some w.heap.size):=by
 rcases A with _|ad
 ·have hm:m=0:=by
   rcases gM m with U|U
   ·exact U
   ·obtain⟨ad,h,_⟩:=hr.2 U;cases h
  subst hm;have hn:news=[]:=aZ (by simpa using hr.1);subst hn;exact⟨v,w,J8 w base t ty e i size ht hi v n xs o c,by simpa using o,iP w _,.inl rfl⟩
 ·have I:∀j u,news[j]?=some u->w.cell? (ad.add j)=some u:=by
   intro j u hu;rcases gM m with U|U
   ·subst U;have hn:news=[]:=aZ (by simpa using hr.1);subst hn;simp at hu
   ·obtain⟨b8,h,_,hc⟩:=hr.2 U;injection h with h
    subst h;exact hc j u hu
  obtain⟨v',w',a7,h2,h3,_,h5⟩:=run_append_own_at (P:=P) w base t ty e i z size bytes ht hi hz J a8 b0 b1 v n xs o ad m c news hr.1 I h1 b2 p R;exact⟨v',w',a7,h2,h3,h5⟩
theorem C0 {o:Oper} {a:Act} {K:Act->World->Prop} {Q:Exit->Act->World->Prop} (s x:Operand) (t:TypeId)
  (ho:o.op=.call {callee:=.builtin .append,args:=#[s,x],argTypes:=#[t,t]})
  (base:Nat) (e:TypeId) (i:TypeInfo) (z:Value) (size bytes:Nat) (ht:P.underlying t=some (.slice e)) (hi:P.info? e=some i) (hz:i.zero=some z)
  (p:i.size=size) (a1:i.bytes=bytes) (a6:z.cells.size=size) (a7:0<size)
  (v:Value) (n:Nat) (xs:List Value) (hs:a.eval s=v) (R:w.ownsRow base e size v n xs)
  (B:Nat) (A:Option Addr) (m c:Nat) (news:List Value) (hx:a.eval x=.slice A m c) (hr:Reads w B size A m news) (h1:∀u∈news,u.oneCell'=true)
  (a8:n+m<=maxLen) (j:(n+m)*bytes<=140737488355328) (I:base<=w.heap.size)
  (h:∀J w',w'.ownsRow base e size J (n+m) (xs++news)->w.grownBy w' v.ownBlock->(J.ownBlock=v.ownBlock\/J.ownBlock=some w.heap.size)->K (a.put o.dst J) w'):o.wp P a w K Q:=by
 obtain⟨J,w',U,h2,h3,h4⟩:=MK (P:=P) w base t o.type e i z size bytes ht hi hz p a1 a6 a7 v n xs R B A m c news hr h1 a8 j I;unfold Oper.wp execOp;simp only[ho,resolve,invoke,builtin,aX,eU,cW,List.map_toArray,eY,List.map_nil,hs,hx,U];exact h J w' h2 h3 h4
theorem Ap {ops:Array Oper} {rest:List Oper} {o:Oper} {a:Act} {Q:Exit->Act->World->Prop} (U:o.guard=none) (s x:Operand) (t:TypeId)
  (ho:o.op=.call {callee:=.builtin .append,args:=#[s,x],argTypes:=#[t,t]})
  (base:Nat) (e:TypeId) (i:TypeInfo) (z:Value) (size bytes:Nat) (ht:P.underlying t=some (.slice e)) (hi:P.info? e=some i) (hz:i.zero=some z)
  (p:i.size=size) (a1:i.bytes=bytes) (a6:z.cells.size=size) (a7:0<size)
  (v:Value) (n:Nat) (xs:List Value) (hs:a.eval s=v) (R:w.ownsRow base e size v n xs)
  (B:Nat) (A:Option Addr) (m c:Nat) (news:List Value) (hx:a.eval x=.slice A m c) (hr:Reads w B size A m news) (h1:∀u∈news,u.oneCell'=true)
  (a8:n+m<=maxLen) (j:(n+m)*bytes<=140737488355328) (I:base<=w.heap.size)
  (h:∀J w',w'.ownsRow base e size J (n+m) (xs++news)->w.grownBy w' v.ownBlock->(J.ownBlock=v.ownBlock\/J.ownBlock=some w.heap.size)->wpList P ops Q rest (a.put o.dst J) w'):wpList P ops Q (o::rest) a w:=
 wpList_plain U fun _ hK=>C0 w s x t ho base e i z size bytes ht hi hz p a1 a6 a7 v n xs hs R B A m c news hx hr h1 a8 j I fun J w' h2 h3 h4=>hK _ _ (h J w' h2 h3 h4)
end
theorem Pf (w:World) (xs:List Value) (e:TypeId):∀(j:Nat) (u:Value),xs[j]?=some u->(w.alloc (.cells xs.toArray e)).cell? ((⟨w.heap.size,0,none⟩:Addr).add j)=some u:=by
 intro j u hu;have o:(⟨w.heap.size,0,none⟩:Addr).add j=⟨w.heap.size,j,none⟩:=by unfold Addr.add;split<;>simp_all
 rw[o,(Bw.new w e xs.toArray).cell];simpa using hu
theorem Dm (w:World) (H:Nat) (o:w.heap.size=H) (xs:List Value) (e:TypeId):∀(j:Nat) (u:Value),xs[j]?=some u->(w.alloc (.cells xs.toArray e)).cell? ((⟨H,0,none⟩:Addr).add j)=some u:=by
 subst o;exact Pf w xs e
theorem Al {w:World} {B e size n:Nat} {v:Value} {xs:List Value} (h:w.ownsRow B e size v n xs):∃A c,v=.slice A n c:=by
 rcases h.2 with⟨rfl,rfl⟩|⟨g,cap,j,rfl,_⟩
 ·exact⟨none,0,rfl⟩
 ·exact⟨_,_,rfl⟩
theorem AG {W w:World} {base e size:Nat} {v:Value} {n:Nat} {xs:List Value} (h:W.ownsRow base e size v n xs) (p:Below W.heap.size W w):w.ownsRow base e size v n xs:=by
 refine⟨h.1,?_⟩;rcases h.2 with I|⟨g,cap,j,J,R,o,r⟩
 ·exact .inl I
 ·exact .inr ⟨g,cap,j,J,R,by rw[p.block g (Bw.lt o)];exact o,r⟩
theorem FT {w:World} {base e size:Nat} {n g c:Nat} {xs:List Value} (h:w.ownsRow base e size (.slice (some ⟨g,0,none⟩) n c) n xs) (j:Nat) (u:Value) :
  (w.setCell ⟨g,j,none⟩ u).ownsRow base e size (.slice (some ⟨g,0,none⟩) n c) n (xs.set j u):=by
 refine⟨by rw[List.length_set];exact h.1,?_⟩;rcases h.2 with⟨p,_⟩|⟨g',cap,I,p,R,U,h1,h2,h3,h4⟩
 ·cases p
 ·injection p with o _ J
  injection o with o
  injection o with o
  subst o;subst J;refine .inr ⟨g,c,I.setIfInBounds j u,rfl,R,by simp[World.setCell,Array.getElem?_modify,U],h1,h2,by simpa using h3,?_⟩;rw[<-h4,Array.toList_setIfInBounds,List.take_set]
theorem Ae {W j:World} (I:Below W.heap.size W j):(∀b o,b<W.heap.size->j.cell? ⟨b,o,none⟩=W.cell? ⟨b,o,none⟩)/\(∀b o,b<W.heap.size->j.frozen? ⟨b,o,none⟩=W.frozen? ⟨b,o,none⟩):=
 ⟨fun b o h=>I.cell (p:=⟨b,o,none⟩) h,fun b o h=>I.frozen (p:=⟨b,o,none⟩) h⟩
def Row (w:World) (g:Nat) (e:TypeId) (cs:List Value):Prop:=
 ∃(o:Array Value) (lo hi:Nat),w.heap[g]?=some (.cells o e (lo,hi))/\(∀j,j<cs.length->(decide (lo<=j)&&decide (j<hi))=false)/\∀(j:Nat) (u:Value),cs[j]?=some u->o[j]?=some u
section
variable {w w':World} {g e:Nat} {cs:List Value}
theorem Row.lt (h:Row w g e cs):g<w.heap.size:=by
 obtain⟨I,lo,hi,p,_⟩:=h;rcases bH g w.heap.size with j|o
 ·exact j
 ·rw[dU o]at p;cases p
theorem Row.cell (h:Row w g e cs) {j:Nat} {u:Value} (o:cs[j]?=some u):w.cell? ⟨g,j,none⟩=some u:=by
 obtain⟨p,lo,hi,I,_,J⟩:=h;simp[World.cell?,I,J j u o]
theorem Row.frozen (h:Row w g e cs) {j:Nat} (o:j<cs.length):w.frozen? ⟨g,j,none⟩=false:=by
 obtain⟨p,lo,hi,I,J,_⟩:=h;simp only[World.frozen?,I];exact J j o
theorem Row.move (h:Row w g e cs) (o:w'.heap[g]?=w.heap[g]?):Row w' g e cs:=by
 obtain⟨j,lo,hi,p,r⟩:=h;exact⟨j,lo,hi,o.trans p,r⟩
theorem Row.below {B:Nat} (h:Row w g e cs) (j:Below B w w') (o:g<B):Row w' g e cs:=h.move (j.block g o)
theorem Row.alloc (h:Row w g e cs) (o:Obj):Row (w.alloc o) g e cs:=h.move (fL w o g h.lt)
theorem Row.drew (h:Row w g e cs):Row w.drew g e cs:=h
theorem Row.drewN (h:Row w g e cs) (n:Nat):Row (w.drewN n) g e cs:=h
theorem Row.Nf (h:Row w g e cs) {p:Addr} (hp:g≠p.block) (u:Value):Row (w.setCell p u) g e cs:=h.move (cT w p u g hp)
theorem Row.BF (h:Row w g e cs) (i:Nat) (u:Value):Row (w.setCell ⟨g,i,none⟩ u) g e (cs.set i u):=by
 obtain⟨I,lo,hi,U,hf,R⟩:=h;refine⟨I.setIfInBounds i u,lo,hi,by simp[World.setCell,Array.getElem?_modify,U],fun j o=>hf j (by simpa using o),fun j v o=>?_⟩;by_cases p:i=j
 ·subst p;have J:i<cs.length:=by have:=(bC.1 o).1;simpa using this
  have h1:=R i cs[i] (aQ J);have h2:i<I.size:=(aU.1 h1).1;simp[J]at o;simp[h2,o]
 ·rw[List.getElem?_set_ne p]at o;rw[cK p];exact R j v o
end
end
section
namespace Q
def KV (b:Nat):Bool:=(decide (97<=b)&&decide (b<=122))||(decide (48<=b)&&decide (b<=57))||decide (b=95)
def LQ:List (List UInt8):=[[116,114,117,101],[102,97,108,115,101],[105,110],[114,101],[105,109]]
def I8 (l:List UInt8):Bool:=match l with
 | []=>false
 |a::_=>decide (l.length<=12)&&(decide (97<=a.toNat)&&decide (a.toNat<=122))&&l.all (fun b=>KV b.toNat)&&!LQ.contains l
def Bv (s:ByteArray):Bool:=I8 s.data.toList
def E5 (l:List ByteArray) (s:ByteArray):Bool:=l.any fun t=>decide (t=s)
theorem KG {l:List ByteArray} {s:ByteArray}:E5 l s=true↔s∈l:=by
 unfold E5;simp
structure Cell where
 op:Int
 a:Int
 name:ByteArray
def B7 (c:Cell):Int:=
 if c.op=1 then(if c.a<0\/1099511627776<c.a\/c.name.data.toList≠[]then -1 else 0)
 else if c.op=2 then(if c.a<0\/1048576<c.a\/c.name.data.toList≠[]then -1 else 0)
 else if c.op=5\/c.op=6 then(if c.a≠0\/Bv c.name=false then -1 else 0)
 else if c.op<3\/23<c.op\/c.a≠0\/c.name.data.toList≠[]then -1
 else if c.op<=4 then 0 else if c.op<=10 then 1 else 2
theorem GY (c:Cell):B7 c=-1\/B7 c=0\/B7 c=1\/B7 c=2:=by
 unfold B7
 repeat(first|(split)|simp)
def Kw:Nat->List Cell->Option Nat
 |n,[]=>some n
 |n,c::l=>if B7 c<0\/(n:Int)<B7 c then none else Kw (n+1-(B7 c).toNat) l
def BC (l:List Cell):Bool:=decide (l.length<=32)&&decide (Kw 0 l=some 1)
inductive T where
 |leaf (c:Cell):T
 |one (c:Cell) (t:T):T
 |two (c:Cell) (s t:T):T
def T.flat:T->List Cell
 |.leaf c=>[c]
 |.one c t=>t.flat++[c]
 |.two c s t=>s.flat++(t.flat++[c])
def T.wf:T->Prop
 |.leaf c=>B7 c=0
 |.one c t=>B7 c=1/\t.wf
 |.two c s t=>B7 c=2/\s.wf/\t.wf
def T.top:T->Cell
 |.leaf c=>c
 |.one c _=>c
 |.two c _ _=>c
def OD (ts:List T):List Cell:=ts.flatMap T.flat
theorem Ix:∀(l:List Cell) (ts:List T) (n:Nat),(∀t∈ts,t.wf)->Kw ts.length l=some n->∃I:List T,I.length=n/\(∀t∈I,t.wf)/\OD I=OD ts++l
 | [],ts,n,hw,h=>⟨ts,by simpa[Kw]using h,hw,by simp⟩
 |c::l,ts,n,hw,h=>by
  unfold Kw at h;split at h
  ·cases h
  ·rename_i hk;rcases GY c with J|J|J|J
   ·omega
   ·rw[J]at h;obtain⟨I,R,U,h3⟩:=Ix l (ts++[.leaf c]) n (fun t o=>by
     rcases fG.1 o with o|o
     ·exact hw t o
     ·rw[dH.1 o];exact J) (by simpa using h)
    exact⟨I,R,U,by rw[h3];simp[OD,T.flat]⟩
   ·rw[J]at h hk;have j:ts≠[]:=by
     intro e;subst e;simp at hk
    have he:=iH j;have hm:ts.getLast j∈ts:=List.getLast_mem j;obtain⟨I,R,U,h3⟩:=Ix l (ts.dropLast++[.one c (ts.getLast j)]) n (fun t o=>by
     rcases fG.1 o with o|o
     ·exact hw t (iC _ o)
     ·rw[dH.1 o];exact⟨J,hw _ hm⟩) (by
      rw[<-h];congr 1;have:0<ts.length:=List.length_pos_iff.2 j;simp;omega)
    refine⟨I,R,U,?_⟩;rw[h3]
    conv=>rhs;rw[<-he]
    simp[OD,T.flat]
   ·rw[J]at h hk;have a7:2<=ts.length:=by omega
    have j:ts≠[]:=by
     intro e;subst e;simp at a7
    have he:=iH j;have p:ts.dropLast≠[]:=by
     intro e;have:ts.dropLast.length=0:=by rw[e];rfl
     simp at this;omega
    have a8:=iH p;have hm:ts.getLast j∈ts:=List.getLast_mem j;have b0:ts.dropLast.getLast p∈ts:=iC _ (List.getLast_mem p);obtain⟨I,R,U,h3⟩:=Ix l (ts.dropLast.dropLast++[.two c (ts.dropLast.getLast p) (ts.getLast j)]) n (fun t o=>by
     rcases fG.1 o with o|o
     ·exact hw t (iC _ (iC _ o))
     ·rw[dH.1 o];exact⟨J,hw _ b0,hw _ hm⟩) (by
      rw[<-h];congr 1;simp;omega)
    refine⟨I,R,U,?_⟩;rw[h3]
    conv=>rhs;rw[<-he,<-a8]
    simp[OD,T.flat]
theorem CE {l:List Cell} (h:BC l=true):∃t:T,t.wf/\t.flat=l:=by
 unfold BC at h;simp only[aG,aP]at h;obtain⟨j,o,p,I⟩:=Ix l [] 1 (fun t J=>by cases J) h.2
 match j,o with
 | [t],_=>exact⟨t,p t (by simp),by simpa[OD]using I⟩
inductive Rs (α:Type) where
 |ok (a:α):Rs α
 |err (e:Int):Rs α
def Rs.bind {α β:Type} (r:Rs α) (f:α->Rs β):Rs β:=match r with
 |.ok a=>f a
 |.err e=>.err e
structure Hi (α:Type) where
 leaf:Cell->Rs α
 one:Cell->α->Rs α
 two:Cell->α->α->Rs α
def Hi.ev {α:Type} (A:Hi α):T->Rs α
 |.leaf c=>A.leaf c
 |.one c t=>(A.ev t).bind (A.one c)
 |.two c s t=>(A.ev s).bind fun x=>(A.ev t).bind fun y=>A.two c x y
def Hi.step {α:Type} (A:Hi α) (c:Cell) (j:List α):Rs (List α):=
 if B7 c=0 then(A.leaf c).bind fun v=>.ok (v::j)
 else if B7 c=1 then match j with
  |x::j=>(A.one c x).bind fun v=>.ok (v::j)
  | []=>.err (-1)
 else match j with
  |y::x::j=>(A.two c x y).bind fun v=>.ok (v::j)
  |_=>.err (-1)
def Hi.run {α:Type} (A:Hi α):List Cell->List α->Rs (List α)
 | [],j=>.ok j
 |c::l,j=>(A.step c j).bind fun j=>A.run l j
theorem Ii {α:Type} (A:Hi α):∀(t:T),t.wf->∀rest j,A.run (t.flat++rest) j=(A.ev t).bind fun v=>A.run rest (v::j)
 |.leaf c,h,rest,j=>by
  unfold T.wf at h;show(A.step c j).bind _=(A.leaf c).bind _;unfold Hi.step;rw[if_pos h];cases o:A.leaf c<;>simp[Rs.bind]
 |.one c t,h,rest,j=>by
  unfold T.wf at h;unfold T.flat Hi.ev;rw[dG,Ii A t h.2];cases A.ev t with
  |err e=>rfl
  |ok x=>
   show(A.step c (x::j)).bind _=(A.one c x).bind _;unfold Hi.step;rw[if_neg (by rw[h.1];omega),if_pos h.1];cases o:A.one c x<;>simp[Rs.bind,o]
 |.two c s t,h,rest,j=>by
  unfold T.wf at h;unfold T.flat Hi.ev;rw[dG,Ii A s h.2.1];cases A.ev s with
  |err e=>rfl
  |ok x=>
   show A.run ((t.flat++[c])++rest) (x::j)=((A.ev t).bind fun y=>A.two c x y).bind _;rw[dG,Ii A t h.2.2];cases A.ev t with
   |err e=>rfl
   |ok y=>
    show(A.step c (y::x::j)).bind _=(A.two c x y).bind _;unfold Hi.step;rw[if_neg (by rw[h.1];omega),if_neg (by rw[h.1];omega)];cases o:A.two c x y<;>simp[Rs.bind,o]
def Hi.of {α:Type} (A:Hi α) (l:List Cell):Rs α:=
 if BC l=true then(A.run l []).bind fun j=>match j with
  |x::_=>.ok x
  | []=>.err (-1)
 else .err 1
def ZK {α:Type} (r:Rs (List α)):Rs α:=r.bind fun j=>match j with
 |x::_=>.ok x
 | []=>.err (-1)
theorem of_run {α:Type} (A:Hi α) {l:List Cell} (h:BC l=true):A.of l=ZK (A.run l []):=by
 unfold Hi.of;rw[if_pos h];rfl
theorem Mf {α:Type} (A:Hi α) {t:T} (h:t.wf) (j:BC t.flat=true):A.of t.flat=A.ev t:=by
 unfold Hi.of;rw[if_pos j];have:=Ii A t h [] [];rw[cP]at this;rw[this];cases A.ev t<;>rfl
theorem QU {n m:Nat} {c:Cell} {l:List Cell} (h:Kw n (c::l)=some m):0<=B7 c/\B7 c<=(n:Int)/\Kw (n+1-(B7 c).toNat) l=some m:=by
 unfold Kw at h;split at h
 ·cases h
 ·exact⟨by omega,by omega,h⟩
theorem Dc:∀t:T,0<t.flat.length
 |.leaf c=>by simp[T.flat]
 |.one c t=>by simp[T.flat]
 |.two c s t=>by simp[T.flat];omega
end Q
namespace Q
structure BS where
 kind:Int
 a:Int
 b:Int
structure Var where
 name:ByteArray
 kind:Int
 lo:Int
 hi:Int
 init:BS
structure Act where
 kind:Int
 name:ByteArray
 expr:List Cell
structure State where
 name:ByteArray
 kind:Int
 depth:Int
 initial:ByteArray
 entry:List Act
 exit:List Act
structure Trans where
 FH:Int
 BM:ByteArray
 guard:List Cell
 to:ByteArray
 Ey:List Act
structure Af where
 name:ByteArray
 events:List ByteArray
 vars:List Var
 Aa:List State
 trans:List Trans
def Vp (vars:List Var) (name:ByteArray):Option Nat:=vars.findIdx? fun v=>decide (v.name=name)
def FC (vars:List Var) (Aa:List ByteArray) (c:Cell):Rs Int:=
 if c.op=1 then .ok 1
 else if c.op=2 then .ok 3
 else if c.op=5 then match (vars.find? fun v=>decide (v.name=c.name))with
  |none=>.err 2
  |some v=>if 1<=v.kind/\v.kind<=3 then .ok v.kind else .err 8
 else if c.op=6 then(if E5 Aa c.name=true then .ok 2 else .err 2)
 else .ok 2
def Qi (op a:Int):Rs Int:=
 if op=7 then(if a=2 then .err 8 else .ok a)
 else if op=8 then(if a=2 then .ok 2 else .err 8)
 else if a=3 then .ok 1 else .err 8
def Jp (op a b:Int):Rs Int:=
 if a≠b then .err 8
 else if op=16\/op=17 then .ok 2
 else if op=22\/op=23 then(if a=2 then .ok 2 else .err 8)
 else if 18<=op then(if a=1 then .ok 2 else .err 8)
 else if 14<=op then(if a=1 then .ok 1 else .err 8)
 else if a=2 then .err 8 else .ok a
def E7 (vars:List Var) (Aa:List ByteArray):Hi Int:=⟨FC vars Aa,fun c a=>Qi c.op a,fun c a b=>Jp c.op a b⟩
def kindOf (vars:List Var) (Aa:List ByteArray) (l:List Cell):Rs Int:=(E7 vars Aa).of l
def isKind (k:Int):Prop:=1<=k/\k<=3
theorem MZ {vars:List Var} {Aa:List ByteArray} {c:Cell} {k:Int} (h:FC vars Aa c=.ok k):isKind k:=by
 unfold FC at h;unfold isKind
 repeat' split at h
 all_goals(first|(cases h;omega)|(cases h;done)|(cases h;assumption))
theorem OT {op a k:Int} (ha:isKind a) (h:Qi op a=.ok k):isKind k:=by
 unfold Qi at h;unfold isKind at *
 repeat' split at h
 all_goals(first|(cases h;omega)|(cases h;done))
theorem Pr {op a b k:Int} (ha:isKind a) (h:Jp op a b=.ok k):isKind k:=by
 unfold Jp at h;unfold isKind at *
 repeat' split at h
 all_goals(first|(cases h;omega)|(cases h;done))
def AP (n:Int):Prop:=-9223372036854775808<=n/\n<=9223372036854775807
instance (n:Int):Decidable (AP n):=by unfold AP;infer_instance
def Bo (n:Int):Prop:=-1048576<=n/\n<=1048576
instance (n:Int):Decidable (Bo n):=by unfold Bo;infer_instance
def By (v:BS):Prop:=(v.kind=1/\v.b=0)\/(v.kind=2/\v.b=0/\(v.a=0\/v.a=1))\/(v.kind=3/\Bo v.a/\Bo v.b)
instance (v:BS):Decidable (By v):=by unfold By;infer_instance
def FL (v:BS):Prop:=By v/\AP v.a
def num (n:Int):BS:=⟨1,n,0⟩
def A7 (b:Bool):BS:=⟨2,if b then 1 else 0,0⟩
def whole (op a b:Int):Rs Int:=
 if op=11 then(if AP (a+b)then .ok (a+b)else .err 7)
 else if op=12 then(if AP (a-b)then .ok (a-b)else .err 7)
 else if op=13 then(if AP (a*b)then .ok (a*b)else .err 7)
 else if b=0 then .err 6
 else if op=14 then(if a=-9223372036854775808/\b=-1 then .err 7 else .ok (a.tdiv b))
 else .ok (a.tmod b)
def CP (a b:Int):Rs BS:=if Bo a/\Bo b then .ok ⟨3,a,b⟩else .err 5
def UH (op:Int) (x y:BS):Rs BS:=
 if op=11 then CP (x.a+y.a) (x.b+y.b)
 else if op=12 then CP (x.a-y.a) (x.b-y.b)
 else CP (x.a*y.a-x.b*y.b) (x.a*y.b+x.b*y.a)
def DC (op:Int) (x y:BS):Rs BS:=
 if x.kind≠y.kind then .err 8
 else if op=16 then .ok (A7 (decide (x.a=y.a/\x.b=y.b)))
 else if op=17 then .ok (A7 (!decide (x.a=y.a/\x.b=y.b)))
 else if x.kind=2 then
  if op=22 then .ok (A7 (decide (x.a=1/\y.a=1)))
  else if op=23 then .ok (A7 (decide (x.a=1\/y.a=1)))
  else .err 8
 else if x.kind=3 then
  if 11<=op/\op<=13 then UH op x y else .err 8
 else if op=18 then .ok (A7 (decide (x.a<y.a)))
 else if op=19 then .ok (A7 (decide (x.a<=y.a)))
 else if op=20 then .ok (A7 (decide (y.a<x.a)))
 else if op=21 then .ok (A7 (decide (y.a<=x.a)))
 else if op=22\/op=23 then .err 8
 else(whole op x.a y.a).bind fun n=>.ok (num n)
def Ou (op:Int) (x:BS):Rs BS:=
 if op=7 then
  if x.kind=1 then(whole 12 0 x.a).bind fun n=>.ok (num n)
  else if x.kind=3 then .ok ⟨3,-x.a,-x.b⟩else .err 8
 else if op=8 then(if x.kind=2 then .ok (A7 (decide (x.a=0)))else .err 8)
 else if x.kind≠3 then .err 8
 else if op=9 then .ok (num x.a)else .ok (num x.b)
def EY (vars:List Var) (Ac:List BS) (j:List ByteArray) (c:Cell):Rs BS:=
 if c.op=1 then .ok (num c.a)
 else if c.op=2 then .ok ⟨3,0,c.a⟩
 else if c.op=5 then match Vp vars c.name with
  |none=>.err 2
  |some i=>match Ac[i]? with
   |some v=>.ok v
   |none=>.err (-1)
 else if c.op=6 then .ok (A7 (E5 j c.name))
 else .ok (A7 (decide (c.op=3)))
def Dq (vars:List Var) (Ac:List BS) (j:List ByteArray):Hi BS:=⟨EY vars Ac j,fun c a=>Ou c.op a,fun c a b=>DC c.op a b⟩
def C4 (vars:List Var) (Ac:List BS) (j:List ByteArray) (l:List Cell):Rs BS:=(Dq vars Ac j).of l
theorem Ky (b:Bool):FL (A7 b):=by
 unfold FL By A7 AP;cases b<;>simp
theorem Jk {n:Int} (h:AP n):FL (num n):=by
 unfold FL By num;exact⟨.inl ⟨rfl,rfl⟩,h⟩
theorem Fu {op a b n:Int} (ha:AP a) (U:AP b) (h:whole op a b=.ok n):AP n:=by
 unfold whole at h;split at h
 ·split at h<;>cases h;assumption
 split at h
 ·split at h<;>cases h;assumption
 split at h
 ·split at h<;>cases h;assumption
 split at h
 ·cases h
 rename_i p;split at h
 ·split at h
  ·cases h
  ·rename_i I;cases h;unfold AP at *;by_cases j:b=1
   ·subst j;rw[Int.tdiv_one];omega
   by_cases o:b=-1
   ·subst o;rw[Int.tdiv_neg,Int.tdiv_one];omega
   have J:=Int.natAbs_tdiv a b;have h4:a.natAbs / b.natAbs<=a.natAbs / 2:=Nat.div_le_div_left (by omega) (by omega);have R:a.natAbs / b.natAbs<=4611686018427387904:=by omega
   have h6:(a.tdiv b).natAbs<=4611686018427387904:=by rw[J];exact R
   omega
 ·cases h;unfold AP at *;have j:=Int.natAbs_tmod a b;have o:a.natAbs % b.natAbs<b.natAbs:=Nat.mod_lt _ (by omega);omega
end Q
end
section
open Go.RowKit
theorem Et {w:World} {B e size n:Nat} {v:Value} {xs:List Value} (h:w.ownsRow B e size v n xs) (hn:0<n) :
  ∃g c,v=.slice (some ⟨g,0,none⟩) n c/\B<=g/\g<w.heap.size/\n<=c/\c<=maxLen/\(∀j u,xs[j]?=some u->w.cell? ⟨g,j,none⟩=some u)/\(∀j,w.frozen? ⟨g,j,none⟩=false)/\
   ∀m,m<=n->w.ownsRow B e size (.slice (some ⟨g,0,none⟩) m c) m (xs.take (m*size)):=by
 obtain⟨h1,U⟩:=h;rcases U with⟨_,U⟩|⟨g,cap,I,rfl,hg,p,h3,h4,h5,h6⟩
 ·omega
 ·have o:g<w.heap.size:=by
   rcases bH g w.heap.size with o|J
   ·exact o
   ·rw[dU J]at p;cases p
  refine⟨g,cap,rfl,hg,o,h3,h4,fun j u hu=>?_,fun j=>?_,fun m hm=>?_⟩
  ·rw[<-h6]at hu;have hj:=(bC.1 hu).1;rw[bF]at hj;rw[List.getElem?_take_of_lt (by omega),fC]at hu;simp[World.cell?,p,hu]
  ·simp[World.frozen?,p]
  ·have R:m*size<=n*size:=fD _ hm;refine⟨by rw[bF,h1];omega,.inr ⟨g,cap,I,rfl,hg,p,by omega,h4,h5,?_⟩⟩;rw[<-h6,List.take_take,fF R]
end
section
open Go.RowKit
structure Touch (S:Nat->Prop) (w w':World):Prop where
 os:w'.os=w.os
 tape:w'.tape=w.tape
 output:w'.output=w.output
 size:w.heap.size<=w'.heap.size
 block:∀k,k<w.heap.size->¬S k->w'.heap[k]?=w.heap[k]?
section
variable {S S1:Nat->Prop} {w w1 w2:World}
theorem Touch.refl (S:Nat->Prop) (w:World):Touch S w w:=⟨rfl,rfl,rfl,aL _,fun _ _ _=>rfl⟩
theorem Touch.trans (h:Touch S w w1) (k:Touch S1 w1 w2) (J:∀k,S1 k->S k\/w.heap.size<=k):Touch S w w2:=
 ⟨k.os.trans h.os,k.tape.trans h.tape,k.output.trans h.output,aV h.size k.size,fun j U o=>
  (k.block j (by have:=h.size;omega) (fun h1=>by rcases J j h1 with I|I;exact o I;omega)).trans (h.block j U o)⟩
theorem Touch.AK (h:Below w.heap.size w w1):Touch S w w1:=⟨h.os,h.tape,h.output,h.size,fun j o _=>h.block j o⟩
theorem Touch.Dt {r:Option Nat} (h:w.grownBy w1 r) (o:∀k,r=some k->S k):Touch S w w1:=⟨h.os,h.tape,h.output,h.size,fun j I J=>h.block j I (fun e=>J (o j e.symm))⟩
theorem Touch.C8 (p:Addr) (u:Value) (hp:S p.block):Touch S w (w.setCell p u):=⟨rfl,rfl,rfl,by rw[eK];exact aL _,fun j _ o=>cT w p u j (fun e=>o (e▸hp))⟩
theorem Touch.drewN (h:Touch S w w1) (n:Nat):Touch S w (w1.drewN n):=⟨h.os,h.tape,h.output,h.size,h.block⟩
theorem Touch.more (h:Touch S w w1) (o:∀k,S k->S1 k):Touch S1 w w1:=⟨h.os,h.tape,h.output,h.size,fun j I J=>h.block j I (fun U=>J (o j U))⟩
theorem Touch.below {B:Nat} (h:Touch S w w1) (J:B<=w.heap.size) (o:∀k,S k->B<=k):Below B w w1:=
 ⟨h.os,h.tape,h.output,h.size,fun j U=>h.block j (by omega) (fun I=>by have:=o j I;omega)⟩
theorem Touch.own {B e size n:Nat} {v:Value} {xs:List Value} (h:Touch S w w1) (o:w.ownsRow B e size v n xs) (J:∀k,v.ownBlock=some k->¬S k):w1.ownsRow B e size v n xs:=by
 refine⟨o.1,?_⟩;rcases o.2 with U|⟨g,cap,j,rfl,hb,I,h3⟩
 ·exact .inl U
 ·exact .inr ⟨g,cap,j,rfl,hb,(h.block g (aU.1 I).1 (J g rfl)).trans I,h3⟩
theorem Touch.Bq {g t:Nat} {cs:Array Value} (h:Touch S w w1) (j:Bw w g t cs) (o:¬S g):Bw w1 g t cs:=(h.block g j.lt o).trans j
end
structure Fw where
 e:TypeId
 k:Nat
 v:Value
 n:Nat
 xs:List Value
def Iv (p:Nat) (R:List Fw) (k:Nat):Prop:=k=p\/∃x∈R,x.v.ownBlock=some k
structure AY (w:World) (B p t:Nat) (cs:List Value) (R:List Fw):Prop where
 base:B<=p
 Bq:Bw w p t cs.toArray
 rows:∀x∈R,w.ownsRow B x.e x.k x.v x.n x.xs
 off:∀x∈R,x.v.ownBlock≠some p
 apart:∀(i j:Nat) (x y:Fw),R[i]?=some x->R[j]?=some y->i≠j->∀k,x.v.ownBlock=some k->y.v.ownBlock≠some k
section
variable {w w':World} {B p t:Nat} {cs:List Value} {R:List Fw}
theorem AY.Dx (h:AY w B p t cs R) {k:Nat} (j:Iv p R k):B<=k/\k<w.heap.size:=by
 rcases j with rfl|⟨x,o,j⟩
 ·exact⟨h.base,h.Bq.lt⟩
 ·exact(h.rows x o).lt k j
theorem AY.OG {S:Nat->Prop} (h:AY w B p t cs R) (j:Touch S w w') (o:∀k,Iv p R k->¬S k):AY w' B p t cs R:=
 ⟨h.base,j.Bq h.Bq (o p (.inl rfl)),fun x I=>j.own (h.rows x I) (fun k J=>o k (.inr ⟨x,I,J⟩)),h.off,h.apart⟩
theorem AY.below (h:AY w B p t cs R) (j:Below w.heap.size w w'):AY w' B p t cs R:=h.OG (S:=fun _=>False) (Touch.AK j) (fun _ _ h=>h)
theorem AY.drewN (h:AY w B p t cs R) (n:Nat):AY (w.drewN n) B p t cs R:=⟨h.base,h.Bq,h.rows,h.off,h.apart⟩
theorem AY.alloc (h:AY w B p t cs R) (o:Obj):AY (w.alloc o) B p t cs R:=h.below ((aJ _ _).alloc (aL _) _)
theorem AY.cell (h:AY w B p t cs R) (i:Nat):w.cell? ⟨p,i,none⟩=cs[i]?:=by rw[h.Bq.cell i,cI]
theorem AY.frozen (h:AY w B p t cs R) (i:Nat):w.frozen? ⟨p,i,none⟩=false:=h.Bq.frozen i
theorem AY.BF (h:AY w B p t cs R) (i:Nat) (u:Value):AY (w.setCell ⟨p,i,none⟩ u) B p t (cs.set i u) R:=by
 have o:Touch (fun k=>k=p) w (w.setCell ⟨p,i,none⟩ u):=Touch.C8 _ _ rfl;refine⟨h.base,?_,fun x j=>o.own (h.rows x j) (fun k I e=>h.off x j (e▸I)),h.off,h.apart⟩;have:=h.Bq.BF i u;rw[aB]at this;exact this
theorem AY.IZ (h:AY w B p t cs R) (i:Nat) (x y:Fw) (hi:R[i]?=some x) (ht:Touch (fun k=>x.v.ownBlock=some k) w w') (ho:w'.ownsRow B y.e y.k y.v y.n y.xs)
  (a8:∀k,y.v.ownBlock=some k->x.v.ownBlock=some k\/w.heap.size<=k):AY w' B p t cs (R.set i y):=by
 have hx:x∈R:=bR hi;have b0:i<R.length:=(bC.1 hi).1;have b2:∀z,z∈R.set i y->z=y\/∃j,R[j]?=some z/\i≠j:=fun z hz=>by
  obtain⟨j,I⟩:=eV.1 hz;rw[jC]at I;by_cases o:i=j
  ·rw[if_pos o,if_pos b0]at I;injection I with I
   exact .inl I.symm
  ·rw[if_neg o]at I;exact .inr ⟨j,I,o⟩
 have b3:∀z∈R,∀k,z.v.ownBlock=some k->k<w.heap.size:=fun z hz k hk=>((h.rows z hz).lt k hk).2
 refine⟨h.base,ht.Bq h.Bq (h.off x hx),fun z hz=>?_,fun z hz=>?_,fun a b z1 z2 U J b7 k a1 a6=>?_⟩
 ·rcases b2 z hz with rfl|⟨j,I,o⟩
  ·exact ho
  ·exact ht.own (h.rows z (bR I)) (fun k hk e=>h.apart i j x z hi I o k e hk)
 ·rcases b2 z hz with rfl|⟨j,I,o⟩
  ·intro e;rcases a8 p e with h3|h3
   ·exact h.off x hx h3
   ·have:=h.Bq.lt;omega
  ·exact h.off z (bR I)
 ·rw[jC]at U J;by_cases ha:i=a
  ·rw[if_pos ha,if_pos b0]at U;injection U with U
   subst U;have hb:i≠b:=by omega
   rw[if_neg hb]at J;rcases a8 k a1 with h3|h3
   ·exact h.apart i b x z2 hi J hb k h3 a6
   ·have:=b3 z2 (bR J) k a6;omega
  ·rw[if_neg ha]at U;by_cases hb:i=b
   ·rw[if_pos hb,if_pos b0]at J;injection J with J
    subst J;rcases a8 k a6 with h3|h3
    ·exact h.apart i a x z1 hi U ha k h3 a1
    ·have:=b3 z1 (bR U) k a1;omega
   ·rw[if_neg hb]at J;exact h.apart a b z1 z2 U J b7 k a1 a6
theorem AY.ZbQ (h:AY w B p t cs R) (i:Nat) (e k g n c:Nat) (xs:List Value) (hi:R[i]?=some ⟨e,k,.slice (some ⟨g,0,none⟩) n c,n,xs⟩) (j:Nat) (u:Value) :
  AY (w.setCell ⟨g,j,none⟩ u) B p t cs (R.set i ⟨e,k,.slice (some ⟨g,0,none⟩) n c,n,xs.set j u⟩):=by
 refine h.IZ i _ _ hi (Touch.C8 (S:=fun k=>(Value.slice (some ⟨g,0,none⟩) n c).ownBlock=some k) _ _ rfl) ?_ (fun k o=>.inl o);exact FT (h.rows _ (bR hi)) j u
theorem AY.fresh (h:AY w B p t cs R) (i:Nat) (x y:Fw) (hi:R[i]?=some x) (o:w.ownsRow B y.e y.k y.v y.n y.xs) (I:y.v.ownBlock=none):AY w B p t cs (R.set i y):=
 h.IZ i x y hi (Touch.refl _ _) o (fun k j=>by rw[I]at j;cases j)
theorem SL {i N:Nat} {x y:Fw} (hi:R[i]?=some x) (j:∀k,y.v.ownBlock=some k->x.v.ownBlock=some k\/N<=k):∀k,Iv p (R.set i y) k->Iv p R k\/N<=k:=by
 rintro k (rfl|⟨z,J,I⟩)
 ·exact .inl (.inl rfl)
 ·rcases iV J with U|rfl
  ·exact .inl (.inr ⟨z,U,I⟩)
  ·rcases j k I with o|o
   ·exact .inl (.inr ⟨x,bR hi,o⟩)
   ·exact .inr o
end
theorem GA {w w2:World} {o:Obj} {v I:Value} (U:(w.alloc o).grownBy w2 v.ownBlock) (J:I.ownBlock=v.ownBlock\/I.ownBlock=some (w.heap.size+1)) :
  Touch (fun k=>v.ownBlock=some k) w w2/\∀k,I.ownBlock=some k->v.ownBlock=some k\/w.heap.size<=k:=by
 refine⟨(Touch.AK ((aJ _ w).alloc (aL _) _)).trans (Touch.Dt (S:=fun k=>v.ownBlock=some k) U (fun k j=>j)) (fun k j=>.inl j),fun k j=>?_⟩;rcases J with h|h
 ·exact .inl (h▸j)
 ·rw[h]at j;injection j with j
  exact .inr (by omega)
def Dr (w:World) (B p t:Nat) (R:List Fw) (j:List Value) (R':List Fw) (w':World):Prop:=
 AY w' B p t j R'/\Touch (Iv p R) w w'/\∀k,Iv p R' k->Iv p R k\/w.heap.size<=k
theorem Dr.refl {w:World} {B p t:Nat} {cs:List Value} {R:List Fw} (h:AY w B p t cs R):Dr w B p t R cs R w:=⟨h,Touch.refl _ _,fun k j=>.inl j⟩
theorem Dr.next {w w1 w2:World} {B p t:Nat} {I o:List Value} {R U R2:List Fw} (h:Dr w B p t R I U w1) (k:Dr w1 B p t U o R2 w2):Dr w B p t R o R2 w2:=by
 obtain⟨h1,h2,h3⟩:=h;obtain⟨k1,k2,k3⟩:=k;refine⟨k1,h2.trans k2 h3,fun j hj=>?_⟩;rcases k3 j hj with J|J
 ·exact h3 j J
 ·exact .inr (aV h2.size J)
theorem Dr.below {w w1 w2:World} {B p t:Nat} {j:List Value} {R o:List Fw} (h:Dr w B p t R j o w1) (I:Below w1.heap.size w1 w2):Dr w B p t R j o w2:=
 ⟨h.1.below I,h.2.1.trans (Touch.AK I) (fun k J=>.inl J),h.2.2⟩
theorem Dr.ahead {w w1 w2:World} {B p t:Nat} {o:List Value} {R J:List Fw} (U:Below w.heap.size w w1) (k:Dr w1 B p t R o J w2):Dr w B p t R o J w2:=by
 obtain⟨k1,k2,k3⟩:=k;refine⟨k1,(Touch.AK (S:=Iv p R) U).trans k2 (fun k hk=>.inl hk),fun j hj=>?_⟩;rcases k3 j hj with I|I
 ·exact .inl I
 ·exact .inr (aV U.size I)
theorem Dr.BF {w:World} {B p t:Nat} {cs:List Value} {R:List Fw} (h:AY w B p t cs R) (i:Nat) (u:Value):Dr w B p t R (cs.set i u) R (w.setCell ⟨p,i,none⟩ u):=
 ⟨h.BF i u,Touch.C8 _ _ (.inl rfl),fun k j=>.inl j⟩
theorem Dr.base {w w':World} {B p t:Nat} {cs o:List Value} {R R':List Fw} (h:AY w B p t cs R) (k:Dr w B p t R o R' w') (I:B<=w.heap.size):Below B w w':=
 k.2.1.below I fun j J=>(h.Dx J).1
end
section
open Go.ChangeShapes Go.WideShapes Go.ChangeAt Go.RowKit
end
end Go.Proofs.YthbihnpoghlfaaaGreatDoor
