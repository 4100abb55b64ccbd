import Derived.Test.YthbihnpoghlfaaaGreatDoorZr02
set_option linter.unusedVariables false
set_option linter.unusedSimpArgs false
set_option maxHeartbeats 8000000
set_option maxRecDepth 100000
namespace Go.Proofs.YthbihnpoghlfaaaGreatDoor
section
namespace Ev
inductive Cp where
 |at(c:Nat)
 |to (size:Nat)
inductive AV where
 |v (x:Value)
 |ptr (b off:Nat)
 |Bm (b off len:Nat) (cap:Cp)
 |mp (b:Nat)
 |S9 (b:Nat)
 |tl (b off len size:Nat)
 |agg (l:List AV)
 |N6 (l:List AV)
 |iface (t:TypeId) (x:AV)
 |fn (f:Fn) (first captured:List AV)
def AV.undef:AV:=.v Go.undef
def AV.cells:AV->List AV
 |.agg l=>l
 |.v (.agg j)=>j.toList.map .v
 |x=>[x]
def AV.flat:AV->Option Value
 |.v x=>some x
 |.fn f [] []=>some (.func f #[] #[])
 |_=>none
def FO:List AV->Option (List Value)
 | []=>some []
 |x::l=>match x.flat,FO l with
  |some x,some r=>some (x::r)
  |_,_=>none
def ND (l:List AV):AV:=match FO l with
 |some r=>.v (.agg r.toArray)
 |none=>.agg l
def Nq (l:List AV):AV:=match FO l with
 |some r=>.v (.tuple r.toArray)
 |none=>.N6 l
inductive Tr (α:Type) where
 |nil
 |node (l r:Tr α)
 |leaf (x:α)
section
variable {α:Type}
def Tr.get:Nat->Tr α->Nat->Option α
 | 0,.leaf x,k=>bif Nat.beq k 0 then some x else none
 | 0,_,_=>none
 |d+1,.node l r,k=>bif k % 2==0 then Tr.get d l (k / 2)else Tr.get d r (k / 2)
 |_+1,_,_=>none
def Tr.kids:Tr α->Tr α×Tr α
 |.node l r=>(l,r)
 |_=>(.nil,.nil)
def Tr.set:Nat->Tr α->Nat->Option α->Tr α
 | 0,_,_,some x=>.leaf x
 | 0,_,_,none=>.nil
 |d+1,t,k,x=>bif k % 2==0 then .node (Tr.set d t.kids.1 (k / 2) x) t.kids.2 else .node t.kids.1 (Tr.set d t.kids.2 (k / 2) x)
def M5:List α->List α
 | []=>[]
 | [x]=>[x]
 |x::_::l=>x::M5 l
def Tr.build:Nat->List α->Tr α
 | 0,x::_=>.leaf x
 | 0,[]=>.nil
 |d+1,l=>.node (Tr.build d (M5 l)) (Tr.build d (M5 l.tail))
end
structure Fr where
 n:Nat
 t:Tr AV
 m:List Nat:=[]
def Fr.get (F:Fr) (i:Nat):AV:=match Tr.get 10 F.t i with
 |some x=>x
 |none=>.undef
def Fr.put (F:Fr) (d:Option Tmp) (x:AV):Fr:=match d with
 |some i=>bif Nat.blt i F.n then⟨F.n,Tr.set 10 F.t i (some x),F.m⟩else F
 |none=>F
inductive LS where
 |ready
 |busy
 |done (c:Code)
inductive AB where
 |cells (l:List AV) (t:TypeId)
 |map (es:List (AV×AV×Nat)) (clock:Nat)
 |iter (m since:Nat) (seen:List Nat) (last:Nat)
 |dfr
 |loop (F:Fr) (ps:List Nat) (assign body:Code) (s:LS)
 |NK (l:List AV)
def depth:Nat:=14
structure AH where
 next:Nat
 t:Tr AB
def AH.get (h:AH) (b:Nat):Option AB:=Tr.get depth h.t b
def AH.put (h:AH) (b:Nat) (x:Option AB):AH:=⟨h.next,Tr.set depth h.t b x⟩
def AH.alloc (h:AH) (x:AB):AH:=⟨h.next+1,Tr.set depth h.t h.next (some x)⟩
def AH.empty:AH:=⟨0,.nil⟩
structure Tb where
 ty:Tr TypeInfo
 fn:Tr Func
def Tb.FF (T:Tb) (t:TypeId):Option TypeInfo:=Tr.get 10 T.ty t
def Tb.I0 (T:Tb) (t:TypeId):Option TypeDesc:=match T.FF t with
 |some i=>match i.desc with
  |.named _ u=>match T.FF u with
   |some j=>some j.desc
   |none=>none
  |x=>some x
 |none=>none
def Tb.func (T:Tb) (f:FuncId):Option Func:=Tr.get 10 T.fn f
def L3 {α:Type} (p:Program):Sem α->Option α
 |.pure a=>some a
 |.program k=>L3 p (k p)
 |.mark _ k=>L3 p k
 |_=>none
section
variable (P:Program) (T:Tb)
def Ll (t:TypeId):Option Bool:=match T.I0 t with
 |some (.struct _)|some (.array _ _)=>some true
 |some _=>some false
 |none=>none
def EZ (t:TypeId):Option Nat:=(T.FF t).map (·.size)
def I5 (H:AH) (b off n:Nat):Option (List AV):=
 match H.get b with
 |some (.cells l _)=>bif (off+n).ble l.length then some ((l.drop off).take n)else none
 |some (.NK l)=>bif (off+n).ble l.length then some ((l.drop off).take n)else none
 |_=>none
def K4:AV->Bool
 |.agg _|.N6 _|.v (.agg _)|.v (.tuple _)=>false
 |_=>true
def Gb (H:AH) (b off:Nat) (j:List AV):Option AH:=
 match H.get b with
 |some (.cells l t)=>bif (off+j.length).ble l.length&&j.all K4 then some (H.put b (some (.cells (l.take off++(j++l.drop (off+j.length))) t)))else none
 |_=>none
def CG (t:TypeId):Option (List AV):=match T.FF t with
 |some i=>match i.zero with
  |some z=>some (z.cells.toList.map .v)
  |none=>none
 |none=>none
def Ni (H:AH) (t:TypeId) (b off:Nat):Option AV:=
 match Ll T t with
 |some true=>match EZ T t with
  |some n=>match I5 H b off n with
   |some l=>some (ND l)
   |none=>none
  |none=>none
 |some false=>match I5 H b off 1 with
  |some [x]=>some x
  |_=>none
 |none=>none
def Pz (H:AH) (t:TypeId) (b off:Nat) (x:AV):Option AH:=
 match EZ T t with
 |some n=>bif n==x.cells.length then Gb H b off x.cells else none
 |none=>none
def KB:AV->Option Nat
 |.v (.int _ (.ofNat n))=>some n
 |_=>none
def OU (place:Nat->Option (Nat×Nat)) (cells:List AV):List (Nat×AV)->Option (List AV)
 | []=>some cells
 |(i,v)::rest=>match place i with
  |none=>none
  |some (off,size)=>bif v.cells.length==size&&(off+size).ble cells.length then OU place (cells.take off++(v.cells++cells.drop (off+size))) rest else none
def Em (z:List AV):Nat->List AV
 | 0=>[]
 |n+1=>z++Em z n
def ZbA (d:TypeDesc) (x y:AV):Option Bool:=
 match d,x,y with
 |.pointer _,.v (.pointer none),.ptr ..=>some false
 |.pointer _,.ptr ..,.v (.pointer none)=>some false
 |.slice _,.v (.slice none _ _),.Bm ..=>some false
 |.slice _,.Bm ..,.v (.slice none _ _)=>some false
 |.slice _,.tl ..,.v (.slice none _ _)=>some false
 |.map _ _,.v (.map none),.mp _=>some false
 |.map _ _,.mp _,.v (.map none)=>some false
 |.func _ _ _,.v .nilFunc,.fn ..=>some false
 |.func _ _ _,.fn ..,.v .nilFunc=>some false
 |_,_,_=>none
def sameKind:IntKind->IntKind->Bool
 |.i64,.i64|.u8,.u8|.u64,.u64|.i32,.i32|.u32,.u32|.u16,.u16|.i16,.i16|.i8,.i8=>true
 |_,_=>false
def keyOf (d:TypeDesc) (k:Value):Option TypeDesc:=match d,k with
 |.string,.string _=>some .string
 |.int j,.int k _=>bif sameKind j k then some (.int j)else none
 |_,_=>none
def TM (j:TypeId) (k:Value):Option TypeDesc:=match T.I0 j with
 |some d=>keyOf d k
 |none=>none
def YX:Value->Value->Option Bool
 |.string a,.string b=>some (a.data.toList==b.data.toList)
 |.int a m,.int b n=>bif sameKind a b then some (m==n)else none
 |_,_=>none
def RX (k:Value):List (AV×AV×Nat)->Nat->Option (Option (Nat×AV))
 | [],_=>some none
 |(.v j,x,_)::es,i=>match YX k j with
  |some true=>some (some (i,x))
  |some false=>RX k es (i+1)
  |none=>none
 |_::_,_=>none
def setAt (es:List (AV×AV×Nat)) (i:Nat) (x:AV):List (AV×AV×Nat):=match es,i with
 | [],_=>[]
 |(k,_,n)::es,0=>(k,x,n)::es
 |e::es,i+1=>e::setAt es i x
def S6 (H:AH):AV->Option (List (AV×AV×Nat)×Nat)
 |.mp b=>match H.get b with
  |some (.map es c)=>some (es,c)
  |_=>none
 |.v (.map none)=>some ([],0)
 |_=>none
def TU (H:AH) (m:AV) (k:Value) (x:AV):Option AH:=match m with
 |.mp b=>match H.get b with
  |some (.map es c)=>match RX k es 0 with
   |some none=>some (H.put b (some (.map (es++[(.v k,x,c)]) (c+1))))
   |some (some (i,_))=>some (H.put b (some (.map (setAt es i x) c)))
   |none=>none
  |_=>none
 |_=>none
inductive Bs where
 |val (x:AV) (H:AH)
 |enter (f:FuncId) (args:List AV) (H:AH)
 |round (b:Nat) (args:List AV) (H:AH)
def one (x:Option AV) (H:AH):Option Bs:=match x with
 |some x=>some (.val x H)
 |none=>none
def Zb1 (H:Option AH):Option Bs:=match H with
 |some H=>some (.val .undef H)
 |none=>none
def CI (ev:Operand->AV) (o:Oper) (H:AH):Option Bs:=
 match o.op with
 |.select ..=>none
 |.defer _=>none
 |_=>
 match FO (o.op.operands.toList.map ev)with
 |some _=>match L3 P (execOp (fun x=>(ev x).flat.getD Go.undef) o)with
  |some (.value x)=>some (.val (.v x) H)
  |some .skip=>some (.val .undef H)
  |_=>none
 |none=>none
def Ns (y:Nat) (x:AV):Option Nat:=match KB x with
 |some n=>bif n.ble y then some n else none
 |none=>none
def ZaG (len room:Nat):Option AV->Option Nat
 |none=>some len
 |some v=>Ns room v
def ZaE (h:Nat):Option AV->Option Nat
 |none=>some 0
 |some v=>Ns h v
def K0 (len:Nat):Cp->Nat
 |.at c=>c
 |.to _=>len
def M0 (H:AH) (b:Nat) (t:TypeId):Bool:=match H.get b with
 |some (.cells _ u)=>u==t
 |_=>false
def Eu (H:AH) (elem:TypeId) (s:AV) (new:List AV) (n size:Nat):Option Bs:=
 match s with
 |.v (.slice none 0 0)=>bif n==0 then some (.val s H)else some (.val (.Bm H.next 0 n (.to size)) (H.alloc (.cells new elem)))
 |.Bm b off len cap=>
  bif Nat.blt len 100000 then
  match I5 H b off (len*size)with
  |none=>none
  |some j=>
   match cap with
   |.at c=>
    bif (len+n).ble c then
     match Gb H b (off+len*size) new with
     |some H'=>some (.val (.Bm b off (len+n) cap) H')
     |none=>none
    else some (.val (.Bm H.next 0 (len+n) (.to size)) (H.alloc (.cells (j++new) elem)))
   |.to s=>
    bif s==size&&M0 H b elem then
     match Gb H b (off+len*size) new with
     |some H'=>some (.val (.Bm b off (len+n) cap) H')
     |none=>some (.val (.Bm H.next 0 (len+n) (.to size)) ((H.put b none).alloc (.cells (j++new) elem)))
    else none
  else none
 |.tl b off len s=>
  bif n==0 then some (.val (.tl b off len s) H)else
  bif s==size&&M0 H b elem then
   match I5 H b (off+len*s) 0,Gb H b (off+len*s) new with
   |some _,none=>some (.val (.Bm H.next 0 n (.to size)) ((H.put b none).alloc (.cells new elem)))
   |_,_=>none
  else none
 |_=>none
def rowOf (H:AH) (size:Nat):AV->Option (List AV×Nat)
 |.v (.slice none 0 _)=>some ([],0)
 |.Bm b off len _=>match I5 H b off (len*size)with
  |some l=>some (l,len)
  |none=>none
 |.v (.string s)=>bif size==1 then some (s.data.toList.map fun b=>.v (.int .u8 b.toNat),s.size)else none
 |_=>none
def YV (H:AH) (d:TypeDesc) (x:AV):Option Nat:=match d,x with
 |.string,.v (.string s)=>some s.size
 |.slice _,.v (.slice none n _)=>some n
 |.slice _,.Bm _ _ n _=>some n
 |.slice _,.tl ..=>some 0
 |.map _ _,.v (.map none)=>some 0
 |.map _ _,.mp b=>match H.get b with
  |some (.map es _)=>some es.length
  |_=>none
 |_,_=>none
def RT (H:AH) (ts:Array TypeId) (x:AV):Option Bs:=match ts[0]? with
 |some t=>match T.I0 t with
  |some d=>match YV H d x with
   |some n=>some (.val (.v (.int .i64 n)) H)
   |none=>none
  |none=>none
 |none=>none
def RG (H:AH) (ts:Array TypeId) (x:AV):Option Bs:=match ts[0]? with
 |some t=>match T.I0 t,x with
  |some (.slice _),.Bm _ _ _ (.at n)=>some (.val (.v (.int .i64 n)) H)
  |_,_=>none
 |none=>none
def Fs:AV->Bool
 |.v (.string _)=>true
 |_=>false
def Gi (str:Bool) (H:AH) (e:TypeId) (i:TypeInfo) (z:Value) (s x:AV):Option Bs:=match rowOf H i.size x with
 |some (new,n)=>bif Fs x==str&&Nat.blt 0 i.size&&z.cells.size==i.size&&Nat.blt i.bytes 100000&&Nat.blt n 100000&&new.all K4 then Eu H e s new n i.size else none
 |none=>none
def GW (H:AH) (e:TypeId) (i:TypeInfo) (z:Value) (s x:AV):Option Bs:=match KB x with
 |some n=>bif Nat.blt 0 i.size&&Nat.blt i.bytes 100000&&Nat.blt n 100000&&z.cells.size==i.size&&(Em (z.cells.toList.map .v) n).all K4 then Eu H e s (Em (z.cells.toList.map .v) n) n i.size else none
 |none=>none
def KM (H:AH) (ts:Array TypeId) (s x:AV):Option Bs:=match ts.toList with
 | [t,u]=>match T.I0 t,T.I0 u with
  |some (.slice e),some (.int _)=>match T.FF e with
   |some i=>match i.zero with
    |some z=>GW H e i z s x
    |none=>none
   |none=>none
  |some (.slice e),some (.slice _)=>match T.FF e with
   |some i=>match i.zero with
    |some z=>Gi false H e i z s x
    |none=>none
   |none=>none
  |some (.slice e),some .string=>match T.FF e with
   |some i=>match i.zero with
    |some z=>Gi true H e i z s x
    |none=>none
   |none=>none
  |_,_=>none
 |_=>none
def Qw (H:AH) (ts:Array TypeId) (b off len:Nat) (x:AV):Option Bs:=match ts[0]? with
 |some t=>match T.I0 t with
  |some (.slice e)=>match EZ T e with
   |some size=>match rowOf H size x with
    |some (new,n)=>match Gb H b off (new.take (Nat.min n len*size))with
     |some H'=>some (.val (.v (.int .i64 (Nat.min n len))) H')
     |none=>none
    |none=>none
   |none=>none
  |_=>none
 |none=>none
def L2 (H:AH) (ts:Array TypeId) (b off len:Nat):Option Bs:=match ts[0]? with
 |some t=>match T.I0 t with
  |some (.slice e)=>match CG T e with
   |some z=>bif Nat.blt 0 len&&Nat.blt 0 z.length then(match Gb H b off (Em z len)with
    |some H'=>some (.val (.v (.tuple #[])) H')
    |none=>none)else none
   |none=>none
  |_=>none
 |none=>none
def Ex (H:AH) (b:Builtin) (ts:Array TypeId) (args:List AV):Option Bs:=
 match b,args with
 |.len,[x]=>RT T H ts x
 |.cap,[x]=>RG T H ts x
 |.append,[s,x]=>KM T H ts s x
 |.copy,[.Bm b off len _,x]=>Qw T H ts b off len x
 |.clear,[.Bm b off len _]=>L2 T H ts b off len
 |_,_=>none
def sliceTo (b off size l h:Nat) (cap:Cp) (len:Nat):Option AV:=match cap with
 |.at c=>bif c==l then some (.Bm b off (h-l) (.at 0))else some (.Bm b (off+l*size) (h-l) (.at (c-l)))
 |.to s=>bif s==size then(bif l==0||Nat.blt l len then some (.Bm b (off+l*size) (h-l) cap)else bif l==len&&Nat.blt 0 s then some (.tl b off len s)else none)else none
def JO (H:AH) (t:TypeId) (x:AV) (lo hi mx:Option AV):Option AV:=
 match T.I0 t,x with
 |some (.slice e),.Bm b off len cap=>
  match EZ T e with
  |none=>none
  |some size=>match mx with
   |none=>match ZaG len (K0 len cap) hi with
    |none=>none
    |some h=>match ZaE h lo with
     |none=>none
     |some l=>sliceTo b off size l h cap len
   |some m=>match hi,Ns (K0 len cap) m with
    |some h,some m=>match Ns m h with
     |some h=>match ZaE h lo with
      |some l=>bif m==l then some (.Bm b off (h-l) (.at 0))else some (.Bm b (off+l*size) (h-l) (.at (m-l)))
      |none=>none
     |none=>none
    |_,_=>none
 |_,_=>none
def YF (op:BinOp) (k:IntKind) (a b:Int):Option Value:=
 match op with
 |.add=>some (.int k (k.wrap (a+b)))
 |.sub=>some (.int k (k.wrap (a-b)))
 |.mul=>some (.int k (k.wrap (a*b)))
 |.eql=>some (.bool (a==b))
 |.neq=>some (.bool (a != b))
 |.lss=>some (.bool (a<b))
 |.leq=>some (.bool (a<=b))
 |.gtr=>some (.bool (a>b))
 |.geq=>some (.bool (a≥b))
 |_=>none
def Lk (c a b:AV) (H:AH):Option Bs:=match c with
 |.v (.bool true)=>some (.val a H)
 |.v (.bool false)=>some (.val b H)
 |_=>none
def Fh (t:AV) (i:Nat) (H:AH):Option Bs:=match t with
 |.N6 l=>one l[i]? H
 |.v (.tuple j)=>one (j[i]?.map .v) H
 |_=>none
def Ln (t:TypeId) (a:AV) (H:AH):Option Bs:=match a with
 |.ptr b off=>one (Ni T H t b off) H
 |_=>none
def Ko (t:TypeId) (a x:AV) (H:AH):Option Bs:=match a with
 |.ptr b off=>Zb1 (Pz T H t b off x)
 |_=>none
def JS (e:TypeId) (H:AH):Option Bs:=match CG T e with
 |some z=>some (.val (.ptr H.next 0) (H.alloc (.cells z e)))
 |none=>none
def Tk (j:Array Field) (i:Nat):Option (Nat×Nat):=match j[i]? with
 |some f=>match EZ T f.type with
  |some s=>some (f.offset,s)
  |none=>none
 |none=>none
def Mk:List Field->Option (List (Nat×Nat))
 | []=>some []
 |f::j=>match EZ T f.type,Mk j with
  |some s,some l=>some ((f.offset,s)::l)
  |_,_=>none
def IX (t:TypeId) (parts:List (Nat×AV)) (H:AH):Option Bs:=match CG T t with
 |none=>none
 |some z=>match T.I0 t with
  |some (.struct o)=>match Mk T o.toList with
   |some pl=>match OU (fun i=>pl[i]?) z parts with
    |some j=>some (.val (ND j) H)
    |none=>none
   |none=>none
  |some (.array _ e)=>match EZ T e with
   |some size=>match OU (fun i=>some (i*size,size)) z parts with
    |some j=>some (.val (ND j) H)
    |none=>none
   |none=>none
  |_=>none
def Fb (e:TypeId) (parts:List (Nat×AV)) (H:AH):Option Bs:=match EZ T e with
 |some _=>bif parts.isEmpty then some (.val (.Bm H.next 0 0 (.at 0)) (H.alloc (.cells [] e)))else none
 |none=>none
def FW (e:TypeId) (len:Nat) (parts:List (Nat×AV)) (H:AH):Option Bs:=match EZ T e,CG T e with
 |some size,some z=>match OU (fun i=>some (i*size,size)) (Em z len) parts with
  |some j=>bif z.length==size&&Nat.blt (len*size) 100000&&Nat.blt 0 (len*size)then some (.val (.Bm H.next 0 len (.at len)) (H.alloc (.cells j e)))else none
  |none=>none
 |_,_=>none
def Er (t:TypeId) (len:Nat) (parts:List (Nat×AV)) (H:AH):Option Bs:=match T.I0 t with
 |some (.slice e)=>bif len==0 then Fb T e parts H else FW T e len parts H
 |_=>none
def Pb (x:AV) (H:AH):Option Bs:=match x with
 |.ptr b off=>some (.val x H)
 |.fn (.func f) a c=>some (.val x H)
 |_=>none
def DZ (s:TypeId) (x:AV) (f:Nat) (H:AH):Option Bs:=match x with
 |.ptr b off=>match T.I0 s with
  |some (.struct j)=>match Tk T j f with
   |some (_,0)=>none
   |some (o,_)=>some (.val (.ptr b (off+o)) H)
   |none=>none
  |_=>none
 |_=>none
def D3 (t:TypeId) (x i:AV) (H:AH):Option Bs:=match KB i,T.I0 t,x with
 |some i,some (.slice e),.Bm b off len _=>bif Nat.blt i len then(match EZ T e with|some n=>some (.val (.ptr b (off+i*n)) H)|none=>none)else none
 |some i,some (.array len e),.ptr b off=>bif Nat.blt i len then(match EZ T e with|some n=>some (.val (.ptr b (off+i*n)) H)|none=>none)else none
 |_,_,_=>none
def IE (ev:Operand->AV) (o:Oper) (t:TypeId) (x:AV) (f:Nat) (H:AH):Option Bs:=match x with
 |.agg j=>match T.I0 t with
  |some (.struct p)=>match p[f]? with
   |some f=>match Ll T f.type,EZ T f.type with
    |some true,some n=>bif (f.offset+n).ble j.length then some (.val (ND ((j.drop f.offset).take n)) H)else none
    |some false,some _=>one j[f.offset]? H
    |_,_=>none
   |none=>none
  |_=>none
 |_=>CI P ev o H
def Gj (ev:Operand->AV) (t:TypeId) (r:Option Operand) (H:AH):Option Bs:=match r with
 |none=>some (.val (.mp H.next) (H.alloc (.map [] 0)))
 |some n=>match T.I0 t,KB (ev n)with
  |some (.map _ _),some _=>some (.val (.mp H.next) (H.alloc (.map [] 0)))
  |_,_=>none
def E2 (t:TypeId) (l c:AV) (H:AH):Option Bs:=match T.I0 t,KB l,KB c with
 |some (.slice e),some l,some c=>match T.FF e with
  |some i=>match i.zero with
   |some z=>bif l.ble c&&Nat.blt c 100000&&Nat.blt i.bytes 100000&&z.cells.size==i.size&&Nat.blt 0 i.size then some (.val (.Bm H.next 0 l (.at c)) (H.alloc (.cells (Em (z.cells.toList.map .v) c) e)))else none
   |none=>none
  |none=>none
 |_,_,_=>none
def D6 (t:TypeId) (m k x:AV) (H:AH):Option Bs:=match T.I0 t,k with
 |some (.map j _),.v k=>match TM T j k with
  |some _=>Zb1 (TU H m k x)
  |none=>none
 |_,_=>none
def Gs (t:TypeId) (m k:AV) (ok:Bool) (H:AH):Option Bs:=match T.I0 t,k with
 |some (.map j e),.v k=>match TM T j k,S6 H m with
  |some _,some (es,_)=>match RX k es 0 with
   |some (some (_,x))=>some (.val (bif ok then Nq [x,.v (.bool true)]else x) H)
   |some none=>match T.FF e with
    |some i=>match i.zero with
     |some z=>some (.val (bif ok then Nq [.v z,.v (.bool false)]else .v z) H)
     |none=>none
    |none=>none
   |none=>none
  |_,_=>none
 |_,_=>none
def JZ (t:TypeId) (x:AV) (H:AH):Option Bs:=match T.I0 t,x with
 |some (.map _ _),.mp b=>match H.get b with
  |some (.map _ c)=>some (.val (.ptr H.next 0) (H.alloc (.iter b c [] c)))
  |_=>none
 |_,_=>none
def GO (b m since:Nat) (seen:List Nat) (last:Nat) (es:List (AV×AV×Nat)) (c:Nat) (H:AH):Option Bs:=
 bif es.all (fun e=>Nat.blt e.2.2 since)&&since.ble last then
  match es.filter fun e=>!seen.contains e.2.2 with
  | []=>some (.val (.v (.tuple #[.bool false])) H)
  | [e]=>some (.val (Nq [.v (.bool true),e.1,e.2.1]) (H.put b (some (.iter m since (seen++[e.2.2]) c))))
  |_=>none
 else none
def Nd (it:AV) (isString:Bool) (H:AH):Option Bs:=match isString,it with
 |false,.ptr b 0=>match H.get b with
  |some (.iter m since seen last)=>match H.get m with
   |some (.map es c)=>GO b m since seen last es c H
   |_=>none
  |_=>none
 |_,_=>none
def Kr (it:AV) (H:AH):Option Bs:=match it with
 |.ptr b 0=>match H.get b with
  |some (.iter m _ seen last)=>match seen.getLast?,H.get m with
   |some s,some (.map es c)=>bif Nat.beq c last then(match es.find? fun e=>Nat.beq e.2.2 s with
    |some e=>some (.val (Nq [e.1,e.2.1]) H)
    |none=>none)else none
   |_,_=>none
  |_=>none
 |_=>none
def IU (ev:Operand->AV) (o:Oper) (t:TypeId) (x i:AV) (H:AH):Option Bs:=match x,KB i with
 |.v (.string s),some i=>match T.I0 t with
  |some .string=>match s.data.toList[i]? with
   |some b=>some (.val (.v (.int .u8 b.toNat)) H)
   |none=>none
  |_=>none
 |.agg l,some i=>match T.I0 t with
  |some (.array n e)=>match Ll T e,EZ T e with
   |some true,some z=>bif Nat.blt i n&&(i*z+z).ble l.length then some (.val (ND ((l.drop (i*z)).take z)) H)else none
   |some false,some z=>bif Nat.blt i n&&z==1 then one l[i]? H else none
   |_,_=>none
  |_=>none
 |_,_=>CI P ev o H
def XN (ev:Operand->AV):Option Operand->Option AV
 |none=>none
 |some x=>some (ev x)
def Gk (s:ByteArray) (lo hi:Option AV) (H:AH):Option Bs:=
 match ZaG s.size s.size hi with
 |some h=>match ZaE h lo with
  |some l=>some (.val (.v (.string (s.extract l h))) H)
  |none=>none
 |none=>none
def IA (ev:Operand->AV) (o:Oper) (t:TypeId) (x:AV) (lo hi mx:Option AV) (H:AH):Option Bs:=match x,mx with
 |.v (.string s),none=>match T.I0 t with
  |some .string=>Gk s lo hi H
  |_=>none
 |.Bm ..,_=>one (JO T H t x lo hi mx) H
 |_,_=>CI P ev o H
def Ng (ev:Operand->AV) (o:Oper) (neg:Bool) (t:TypeId) (x y:AV) (H:AH):Option Bs:=match T.I0 t with
 |some d=>match ZbA d x y with
  |some b=>some (.val (.v (.bool (bif neg then !b else b))) H)
  |none=>CI P ev o H
 |none=>none
def Pg (ev:Operand->AV) (o:Oper) (op:BinOp) (t:TypeId) (x y:AV) (H:AH):Option Bs:=match x,y with
 |.v (.int k a),.v (.int j b)=>bif sameKind k j then(match YF op k a b with|some r=>some (.val (.v r) H)|none=>CI P ev o H)else none
 |_,_=>match op with
  |.eql=>Ng P T ev o false t x y H
  |.neq=>Ng P T ev o true t x y H
  |_=>CI P ev o H
def Xc (ev:Operand->AV) (o:Oper) (op:UnOp) (x:AV) (H:AH):Option Bs:=match op,x with
 |.not,.v (.bool b)=>some (.val (.v (.bool (!b))) H)
 |_,_=>CI P ev o H
def EJ (ev:Operand->AV) (o:Oper) (j d:TypeId) (x:AV) (H:AH):Option Bs:=match x,T.I0 d with
 |.v (.string s),some (.slice e)=>match T.I0 j,T.I0 e with
  |some .string,some (.int .u8)=>some (.val (.Bm H.next 0 s.size (.to 1)) (H.alloc (.NK (s.data.toList.map fun b=>.v (.int .u8 b.toNat)))))
  |_,_=>none
 |_,_=>CI P ev o H
def EI (ev:Operand->AV) (o:Oper) (b:Builtin) (ts:Array TypeId) (args:List AV) (H:AH):Option Bs:=match Ex T H b ts args with
 |some r=>some r
 |none=>CI P ev o H
def Nl (ev:Operand->AV) (o:Oper) (f:AV) (args:List AV) (H:AH):Option Bs:=match f with
 |.fn (.func f) first captured=>match T.func f with
  |some fn=>bif fn.body.isSome then some (.enter f (first++(args++captured)) H)else CI P ev o H
  |none=>none
 |.S9 b=>some (.round b args H)
 |_=>none
def GP (ev:Operand->AV) (o:Oper) (c:Call) (H:AH):Option Bs:=match c.callee with
 |.builtin b=>EI P T ev o b c.argTypes (c.args.toList.map ev) H
 |.value f=>Nl P T ev o (ev f) (c.args.toList.map ev) H
 |_=>none
def G9 (ev:Operand->AV) (j:Array (Nat×Operand)):List (Nat×AV):=j.toList.map fun p=>(p.1,ev p.2)
def E6 (ev:Operand->AV) (o:Oper) (H:AH):Option Bs:=
 match o.op with
 |.move x=>some (.val (ev x) H)
 |.assign x=>some (.val (ev x) H)
 |.pick c a b=>Lk (ev c) (ev a) (ev b) H
 |.extract t i=>Fh (ev t) i H
 |.load t a=>Ln T t (ev a) H
 |.store t a x=>Ko T t (ev a) (ev x) H
 |.alloc e=>JS T e H
 |.box e x=>bif (ev x).cells.all K4 then some (.val (.ptr H.next 0) (H.alloc (.cells (ev x).cells e)))else none
 |.build t parts=>IX T t (G9 ev parts) H
 |.buildSlice t len parts=>Er T t len (G9 ev parts) H
 |.nilCheck x=>Pb (ev x) H
 |.fieldAddr s x f=>DZ T s (ev x) f H
 |.indexAddr t x i=>D3 T t (ev x) (ev i) H
 |.field t x f=>IE P T ev o t (ev x) f H
 |.makeFunc fn first captured=>some (.val (.fn fn (first.toList.map ev) (captured.toList.map ev)) H)
 |.makeMap t r=>Gj T ev t r H
 |.makeSlice t l c=>E2 T t (ev l) (ev c) H
 |.mapUpdate t m k x=>D6 T t (ev m) (ev k) (ev x) H
 |.insert t m k x=>D6 T t (ev m) (ev k) (ev x) H
 |.lookup t m k ok=>Gs T t (ev m) (ev k) ok H
 |.range t x=>JZ T t (ev x) H
 |.next it s=>Nd (ev it) s H
 |.entry it=>Kr (ev it) H
 |.index t x i=>IU P T ev o t (ev x) (ev i) H
 |.slice t x lo hi mx=>IA P T ev o t (ev x) (XN ev lo) (XN ev hi) (XN ev mx) H
 |.binOp op t x y _=>Pg P T ev o op t (ev x) (ev y) H
 |.unOp op _ x=>Xc P ev o op (ev x) H
 |.convert s d x=>EJ P T ev o s d (ev x) H
 |.call c=>GP P T ev o c H
 |_=>CI P ev o H
inductive EX where
 |normal
 |exit (id:Nat)
 |goto (l:Nat)
 |ret
def E9 (F:Fr):Operand->AV
 |.tmp t=>F.get t
 |.const v=>.v v
 |.global g=>.v (.pointer (some ⟨g,0,none⟩))
 |.func f=>.fn (.func f) [] []
def Dz (ops:Array Oper) (F:Fr) (j:Nat):Option Bool:=
 match (ops[j]?).bind (·.dst)with
 |some t=>match F.get t with
  |.v (.bool b)=>some b
  |_=>none
 |none=>none
def TD (H:AH) (F:Fr):ResultVar->Option AV
 |.tmp t=>some (F.get t)
 |.cell a t=>match F.get a with
  |.ptr b off=>Ni T H t b off
  |_=>none
def MN (H:AH) (F:Fr):List ResultVar->Option (List AV)
 | []=>some []
 |r::j=>match TD T H F r,MN H F j with
  |some x,some xs=>some (x::xs)
  |_,_=>none
def ZbK:Option (List AV)->Option AV
 |some [x]=>some x
 |some l=>some (Nq l)
 |none=>none
def Iq (H:AH) (fn:Func) (F:Fr):Option AV:=ZbK (MN T H F fn.results.toList)
def Ny (call:FuncId->List AV->AH->Option (AV×AH)) (QK:Nat->List AV->AH->Option (AV×AH)) (all:Array Oper):List Oper->Fr->AH->Option (Fr×AH)
 | [],F,H=>some (F,H)
 |o::rest,F,H=>
  bif Region.wanted o (Dz all F)then
   match E6 P T (E9 F) o H with
   |some (.val x H')=>bif H'.next.ble 16384 then Ny call QK all rest (F.put o.dst x) H' else none
   |some (.enter f args H')=>match call f args H' with
    |some (x,j)=>Ny call QK all rest (F.put o.dst x) j
    |none=>none
   |some (.round b args H')=>match QK b args H' with
    |some (x,j)=>Ny call QK all rest (F.put o.dst x) j
    |none=>none
   |none=>none
  else Ny call QK all rest (F.put o.dst .undef) H
inductive RK where
 |skip
 |quiet
 |eff
 |flt
def isE:RK->Bool
 |.eff|.flt=>true
 |_=>false
structure Rec where
 F:Fr
 x:AV
 k:RK
 H:AH
 H':AH
def G6 (ev:Operand->AV):Op->Bool
 |.convert _ _ x=>!Fs (ev x)
 |.move _|.assign _|.build .. |.pick .. |.extract .. |.load .. |.nilCheck _|.fieldAddr .. |.indexAddr .. |.field .. |.makeFunc .. |.lookup .. |.index .. |.slice .. |.binOp .. |.unOp ..=>true
 |.call c=>match c.callee with
  |.builtin .len|.builtin .cap|.builtin .min|.builtin .max=>true
  |_=>false
 |_=>false
def O3 (r:Rec) (x:Option (List Rec×Fr×AH)):Option (List Rec×Fr×AH):=match x with
 |some (l,F,H)=>some (r::l,F,H)
 |none=>none
def Jf (fl:Option (Nat×Nat)) (i:Nat):Option Nat:=match fl with
 |some (k,n)=>bif Nat.beq k i then some n else none
 |none=>none
def LY (o:Oper) (n:Nat) (H:AH):Option (AV×AH):=match o.op,o.guard,H.get n with
 |.alloc e,none,none=>match CG T e with
  |some z=>some (.ptr n 0,H.put n (some (.cells z e)))
  |none=>none
 |_,_,_=>none
def EP (call:FuncId->List AV->AH->Option (AV×AH)) (fl:Option (Nat×Nat)) (all:Array Oper):List Oper->Nat->Fr->AH->Option (List Rec×Fr×AH)
 | [],_,F,H=>some ([],F,H)
 |o::rest,i,F,H=>match Jf fl i with
  |some n=>match LY T o n H with
   |some (x,H')=>O3 ⟨F,x,.flt,H,H'⟩ (EP call fl all rest (i+1) (F.put o.dst x) H')
   |none=>none
  |none=>
   bif Region.wanted o (Dz all F)then
    match E6 P T (E9 F) o H with
    |some (.val x H')=>bif H'.next.ble 16384 then O3 ⟨F,x,bif G6 (E9 F) o.op then .quiet else .eff,H,H'⟩ (EP call fl all rest (i+1) (F.put o.dst x) H')else none
    |some (.enter f args H')=>match call f args H' with
     |some (x,j)=>O3 ⟨F,x,.eff,H,j⟩ (EP call fl all rest (i+1) (F.put o.dst x) j)
     |none=>none
    |_=>none
   else O3 ⟨F,.undef,.skip,H,H⟩ (EP call fl all rest (i+1) (F.put o.dst .undef) H)
def BO:List Rec->Nat->List (Nat×AH)
 | [],_=>[]
 |r::l,i=>bif isE r.k then(i,r.H')::BO l (i+1)else BO l (i+1)
def Zc7:Cp->Cp->Bool
 |.at a,.at b=>Nat.beq a b
 |.to a,.to b=>Nat.beq a b
 |_,_=>false
def eqV:Nat->Value->Value->Bool
 |_+1,.bool a,.bool b=>a==b
 |_+1,.int k a,.int l b=>sameKind k l&&a==b
 |_+1,.string a,.string b=>a.data.toList==b.data.toList
 |_+1,.pointer none,.pointer none=>true
 |_+1,.pointer (some ⟨a,b,none⟩),.pointer (some ⟨c,d,none⟩)=>Nat.beq a c&&Nat.beq b d
 |_+1,.slice none a b,.slice none c d=>Nat.beq a c&&Nat.beq b d
 |_+1,.map none,.map none=>true
 |_+1,.nilFunc,.nilFunc=>true
 |_+1,.nilIface,.nilIface=>true
 |n+1,.agg a,.agg b=>a.toList.length==b.toList.length&&(a.toList.zip b.toList).all fun p=>eqV n p.1 p.2
 |n+1,.tuple a,.tuple b=>a.toList.length==b.toList.length&&(a.toList.zip b.toList).all fun p=>eqV n p.1 p.2
 |_,_,_=>false
def Lq:Nat->AV->AV->Bool
 |n+1,.v a,.v b=>eqV (n+1) a b
 |_+1,.ptr a b,.ptr c d=>Nat.beq a c&&Nat.beq b d
 |_+1,.Bm a b c k,.Bm a' j o I=>Nat.beq a a'&&Nat.beq b j&&Nat.beq c o&&Zc7 k I
 |_+1,.mp a,.mp b=>Nat.beq a b
 |_+1,.tl a b c d,.tl a' j o d'=>Nat.beq a a'&&Nat.beq b j&&Nat.beq c o&&Nat.beq d d'
 |n+1,.agg a,.agg b=>a.length==b.length&&(a.zip b).all fun p=>Lq n p.1 p.2
 |n+1,.N6 a,.N6 b=>a.length==b.length&&(a.zip b).all fun p=>Lq n p.1 p.2
 |n+1,.fn (.func f) a c,.fn (.func g) b d=>Nat.beq f g&&(a.length==b.length&&(a.zip b).all fun p=>Lq n p.1 p.2)&&(c.length==d.length&&(c.zip d).all fun p=>Lq n p.1 p.2)
 |_,_,_=>false
def PO (r:Option Bs) (x:AV):Bool:=match r with
 |some (.val y _)=>Lq 4 y x
 |_=>false
def Ih (j:List Nat) (o:Oper) (i:Nat) (F:Fr) (x:AV):AH->List (Nat×AH)->Bool
 |H,[]=>PO (E6 P T (E9 F) o H) x
 |H,e::rest=>(bif (e::rest).all (fun e=>!Aj.bit j e.1 i)then PO (E6 P T (E9 F) o H) x else true)&&(bif Aj.bit j i e.1 then true else Ih j o i F x e.2 rest)
def Kb (j:List Nat) (H:AH) (E:List (Nat×AH)):List Oper->List Rec->Nat->Bool
 |o::l,r::p,i=>(match r.k with
  |.quiet=>Ih P T j o i r.F r.x H E
  |_=>true)&&Kb j H E l p (i+1)
 |_,_,_=>true
def Gz (j:List Nat):List (Nat×AH)->Bool
 |a::b::l=>Aj.bit j a.1 b.1&&Gz j (b::l)
 |_=>true
def Yr (j:List Nat) (E:List (Nat×AH)) (f n:Nat):Bool:=
 (E.all fun y=>Nat.ble y.1 f||Aj.bit j f y.1)&&(List.range n).all fun k=>!Aj.bit j f k||E.all fun y=>Nat.ble f y.1||Aj.bit j y.1 k
def ZcE (fl:Option (Nat×Nat)) (y:Nat×AH):Bool:=match fl with
 |none=>true
 |some (f,_)=>!Nat.beq y.1 f
def Wj (j:List Nat) (fl:Option (Nat×Nat)) (E:List (Nat×AH)) (n:Nat):Bool:=Gz j (E.filter (ZcE fl))&&match fl with
 |none=>true
 |some (f,_)=>Yr j E f n
def Kf (j:List Nat) (fl:Option (Nat×Nat)) (all:Array Oper) (recs:List Rec) (H:AH):Bool:=
 Wj j fl (BO recs 0) all.size&&Kb P T j H (BO recs 0) all.toList recs 0
def VR (p:List Nat):List Oper->List Nat->Nat->Option Nat
 | [],_,_=>none
 |o::l,es,i=>bif (match o.op with|.alloc _=>true|_=>false)&&o.guard.isNone&&es.any (fun j=>!Aj.bit p j i)then some i
  else VR p l (bif G6 (fun _=>.undef) o.op then es else i::es) (i+1)
def VU (j:List Nat) (all:Array Oper) (H:AH):Option (Nat×Nat):=match VR j all.toList [] 0 with
 |some f=>bif (H.next+1).ble 16384 then some (f,H.next)else none
 |none=>none
def WJ (fl:Option (Nat×Nat)) (H:AH):AH:=match fl with
 |none=>H
 |some _=>⟨H.next+1,H.t⟩
def O1 (call:FuncId->List AV->AH->Option (AV×AH)) (fl:Option (Nat×Nat)) (all:Array Oper) (F:Fr) (H:AH):Option (Fr×AH):=match EP P T call fl all all.toList 0 F H with
 |some (recs,j,H')=>bif Aj.ok all all.size&&Kf P T (Aj.BH all.toList []) fl all recs H then some (j,H')else none
 |none=>none
def Qz (call:FuncId->List AV->AH->Option (AV×AH)) (all:Array Oper) (F:Fr) (H:AH):Option (Fr×AH):=
 O1 P T call (VU (Aj.BH all.toList []) all H) all F (WJ (VU (Aj.BH all.toList []) all H) H)
variable (orc:FuncId->Option (List AV->AH->Option (AV×AH)))
abbrev FK:=Option (EX×Fr×AH)
def R3 (k:Fr->AH->FK) (r:FK):FK:=match r with
 |some (.normal,F,H)=>k F H
 |r=>r
def Ud (id:Nat) (r:FK):FK:=match r with
 |some (.exit i,F,H)=>bif i==id then some (.normal,F,H)else r
 |r=>r
def ME (k:Nat->Fr->AH->FK) (r:FK):FK:=match r with
 |some (.goto l,F,H)=>k l F H
 |r=>r
def Zbt (c:AV) (a b:Unit->FK):FK:=match c with
 |.v (.bool true)=>a ()
 |.v (.bool false)=>b ()
 |_=>none
def ZcV (r:Option (Fr×AH)):FK:=match r with
 |some (F,H)=>some (.normal,F,H)
 |none=>none
def ON (H:AH):List Nat->Option AH
 | []=>some H
 |b::m=>match H.get b with
  |some .dfr=>ON (H.put b none) m
  |_=>none
def Zbn (fn:Func) (F:Fr) (H:AH):Option (AV×AH):=match ON H F.m with
 |some H'=>match Iq T H' fn F with
  |some x=>some (x,H')
  |none=>none
 |none=>none
def ZbN (fn:Func) (r:FK):Option (AV×AH):=match r with
 |some (.ret,F,H)=>Zbn T fn F H
 |some (.normal,F,H)=>Zbn T fn F H
 |_=>none
def Zb5:Fr->List Nat->List AV->Fr
 |F,p::j,x::xs=>Zb5 (F.put (some p) x) j xs
 |F,_,_=>F
def X5:EX->Option Code
 |.normal=>none
 |.ret=>some .ret
 |.exit i=>some (.exit i)
 |.goto l=>some (.goto l)
def ZcH (b:Nat) (X:EX) (H:AH):Option (AV×AH):=match H.get b with
 |some (.loop F o j p .busy)=>match X5 X with
  |none=>some (.v (.bool true),H.put b (some (.loop F o j p .ready)))
  |some c=>some (.v (.bool false),H.put b (some (.loop F o j p (.done c))))
 |_=>none
def YQ (code:Bool->Code->Fr->AH->FK) (b:Nat) (args:List AV) (H:AH):Option (AV×AH):=match H.get b with
 |some (.loop F J j R .ready)=>bif Nat.beq J.length args.length then
  match code true j (Zb5 F J args) H with
  |some (.normal,U,H1)=>match H1.get b with
   |some (.loop F0 o p I .ready)=>match code true R U (H1.put b (some (.loop F0 o p I .busy)))with
    |some (X,_,H2)=>ZcH b X H2
    |none=>none
   |_=>none
  |_=>none
  else none
 |_=>none
def Zcv (code:Bool->Code->Fr->AH->FK) (b:Nat) (F:Fr) (H:AH):FK:=match H.get b with
 |some (.loop _ _ _ _ .ready)=>some (.normal,F,H.put b none)
 |some (.loop _ _ _ _ (.done c))=>code false c F (H.put b none)
 |_=>none
def Ti (call:FuncId->List AV->AH->Option (AV×AH)) (code:Bool->Code->Fr->AH->FK) (g:AV) (o:List Nat) (j p:Code) (F:Fr) (H:AH):FK:=match g with
 |.fn (.func gf) [] cap=>bif (H.next+2).ble 16384&&(match T.func gf with|some fn=>fn.body.isSome|none=>false)then
  match call gf (.S9 (H.next+1)::cap) ((H.alloc .dfr).alloc (.loop ⟨F.n,F.t,[]⟩ o j p .ready))with
  |some (_,I)=>Zcv code (H.next+1) ⟨F.n,F.t,H.next::F.m⟩ I
  |none=>none
  else none
 |_=>none
def Y5 (call:FuncId->List AV->AH->Option (AV×AH)) (QK:Nat->List AV->AH->Option (AV×AH)) (code:Bool->Code->Fr->AH->FK) (jump:Code->Nat->Fr->AH->FK) (rd:Bool) (c:Code) (F:Fr) (H:AH):FK:=
 match c with
 |.skip=>some (.normal,F,H)
 |.label _=>some (.normal,F,H)
 |.region _ ops d=>ZcV (bif d then Qz P T call ops F H else Ny P T call QK ops ops.toList F H)
 |.seq a b=>R3 (code rd b) (code rd a F H)
 |.cond c a b=>Zbt (E9 F c) (fun _=>code rd a F H) (fun _=>code rd b F H)
 |.block id b=>Ud id (code rd b F H)
 |.loop b=>R3 (code rd (.loop b)) (code rd b F H)
 |.scope b=>bif rd then none else ME (jump b) (code false b F H)
 |.rangeFunc g o j p=>bif rd then none else Ti T call code (E9 F g) o.toList j p F H
 |.exit id=>some (.exit id,F,H)
 |.goto l=>some (.goto l,F,H)
 |.ret=>some (.ret,F,H)
 |_=>none
def VQ (code:Bool->Code->Fr->AH->FK) (f:FuncId) (args:List AV) (H:AH):Option (AV×AH):=match T.func f with
 |some fn=>match fn.body with
  |some c=>bif fn.ntmps.ble 1024&&args.length.ble 1024 then ZbN T fn (code false c ⟨max fn.ntmps args.length,Tr.build 10 args,[]⟩ H)else none
  |none=>none
 |none=>none
def stepG (code:Bool->Code->Fr->AH->FK) (jump:Code->Nat->Fr->AH->FK) (b:Code) (l:Nat) (F:Fr) (H:AH):FK:=match findLabel b l with
 |some rest=>ME (jump b) (code false rest F H)
 |none=>some (.goto l,F,H)
variable (orc:FuncId->Option (List AV->AH->Option (AV×AH)))
structure Run where
 call:FuncId->List AV->AH->Option (AV×AH)
 QK:Nat->List AV->AH->Option (AV×AH)
 code:Bool->Code->Fr->AH->FK
 jump:Code->Nat->Fr->AH->FK
def run:Nat->Run
 | 0=>⟨fun _ _ _=>none,fun _ _ _=>none,fun _ _ _ _=>none,fun _ _ _ _=>none⟩
 |n+1=>⟨fun f args H=>match orc f with|some g=>g args H|none=>VQ T (run n).code f args H,fun b args H=>YQ (run n).code b args H,fun rd c F H=>Y5 P T (run n).call (run n).QK (run n).code (run n).jump rd c F H,fun b l F H=>stepG (run n).code (run n).jump b l F H⟩
def evF (n:Nat) (f:FuncId) (args:List AV) (H:AH):Option (AV×AH):=(run P T orc n).call f args H
end
end Ev
end
end Go.Proofs.YthbihnpoghlfaaaGreatDoor
