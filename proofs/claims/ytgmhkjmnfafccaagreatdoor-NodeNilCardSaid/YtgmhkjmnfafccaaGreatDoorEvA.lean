/- An evaluator: what a function makes of values that stand anywhere in memory, in numbers of its own. -/
import Derived.Test.YtgmhkjmnfafccaaGreatDoorRegB
namespace Go.Proofs.YtgmhkjmnfafccaaGreatDoor
namespace Ev
set_option linter.unusedVariables false

/-- A slice's room: known, or up to its block's end, in parts of so many cells. -/
inductive Cp where
  | at (c : Nat)
  | to (size : Nat)
/-- A value of a run that stands anywhere in memory: blocks are numbered by the run itself. -/
inductive AV where
  | v (x : Value)
  | ptr (b off : Nat)
  | slc (b off len : Nat) (cap : Cp)
  | mp (b : Nat)
  | tl (b off len size : Nat)        -- what is left of a slice behind its last part
  | agg (l : List AV)
  | tup (l : List AV)
  | iface (t : TypeId) (x : AV)
  | fn (f : Fn) (first captured : List AV)

def AV.undef : AV := .v Go.undef
/-- The cells of a value. -/
def AV.cells : AV → List AV
  | .agg l => l
  | .v (.agg cs) => cs.toList.map .v
  | x => [x]
/-- Flat values: no block of ours in them. -/
def AV.flat : AV → Option Value
  | .v x => some x
  | .fn f [] [] => some (.func f #[] #[])
  | _ => none
def allFlat : List AV → Option (List Value)
  | [] => some []
  | x :: l => match x.flat, allFlat l with
    | some x, some r => some (x :: r)
    | _, _ => none
/-- A struct's value of these cells: flat, if they all are. -/
def mkAgg (l : List AV) : AV := match allFlat l with
  | some r => .v (.agg r.toArray)
  | none => .agg l
def mkTup (l : List AV) : AV := match allFlat l with
  | some r => .v (.tuple r.toArray)
  | none => .tup l

inductive AB where
  | cells (l : List AV) (t : TypeId)
  | map (es : List (AV × AV × Nat)) (clock : Nat)
  | iter (m since : Nat) (seen : List Nat) (last : Nat)
  | froz (l : List AV)               -- what is read alone

/-- Things by their numbers' bits. -/
inductive Tr (α : Type) where
  | nil
  | node (l r : Tr α)
  | leaf (x : α)
section
variable {α : Type}
def Tr.get : Nat → Tr α → Nat → Option α
  | 0, .leaf x, k => bif Nat.beq k 0 then some x else none
  | 0, _, _ => none
  | d + 1, .node l r, k => bif k % 2 == 0 then Tr.get d l (k / 2) else Tr.get d r (k / 2)
  | _ + 1, _, _ => none
def Tr.kids : Tr α → Tr α × Tr α
  | .node l r => (l, r)
  | _ => (.nil, .nil)
def Tr.set : Nat → Tr α → Nat → Option α → Tr α
  | 0, _, _, some x => .leaf x
  | 0, _, _, none => .nil
  | d + 1, t, k, x => bif k % 2 == 0 then .node (Tr.set d t.kids.1 (k / 2) x) t.kids.2 else .node t.kids.1 (Tr.set d t.kids.2 (k / 2) x)
def evens : List α → List α
  | [] => []
  | [x] => [x]
  | x :: _ :: l => x :: evens l
def Tr.build : Nat → List α → Tr α
  | 0, x :: _ => .leaf x
  | 0, [] => .nil
  | d + 1, l => .node (Tr.build d (evens l)) (Tr.build d (evens l.tail))
end
def depth : Nat := 14
structure AH where
  next : Nat
  t : Tr AB
def AH.get (h : AH) (b : Nat) : Option AB := Tr.get depth h.t b
def AH.put (h : AH) (b : Nat) (x : Option AB) : AH := ⟨h.next, Tr.set depth h.t b x⟩
def AH.alloc (h : AH) (x : AB) : AH := ⟨h.next + 1, Tr.set depth h.t h.next (some x)⟩
def AH.empty : AH := ⟨0, .nil⟩
/-- A frame: how many slots there are, and what they hold. -/
structure Fr where
  n : Nat
  t : Tr AV
def Fr.get (F : Fr) (i : Nat) : AV := match Tr.get 10 F.t i with
  | some x => x
  | none => .undef
def Fr.put (F : Fr) (d : Option Tmp) (x : AV) : Fr := match d with
  | some i => bif Nat.blt i F.n then ⟨F.n, Tr.set 10 F.t i (some x)⟩ else F
  | none => F
/-- A program's tables. -/
structure Tb where
  ty : Tr TypeInfo
  fn : Tr Func
def Tb.info (T : Tb) (t : TypeId) : Option TypeInfo := Tr.get 10 T.ty t
def Tb.und (T : Tb) (t : TypeId) : Option TypeDesc := match T.info t with
  | some i => match i.desc with
    | .named _ u => match T.info u with
      | some j => some j.desc
      | none => none
    | x => some x
  | none => none
def Tb.func (T : Tb) (f : FuncId) : Option Func := Tr.get 10 T.fn f

/-- A run that looks at no world. -/
def flatRun {α : Type} (p : Program) : Sem α → Option α
  | .pure a => some a
  | .program k => flatRun p (k p)
  | .mark _ k => flatRun p k
  | _ => none

section
variable (P : Program) (T : Tb)
def isAggB (t : TypeId) : Option Bool := match T.und t with
  | some (.struct _) | some (.array _ _) => some true
  | some _ => some false
  | none => none
def sizeB (t : TypeId) : Option Nat := (T.info t).map (·.size)
def loadN (H : AH) (b off n : Nat) : Option (List AV) :=
  match H.get b with
  | some (.cells l _) => bif (off + n).ble l.length then some ((l.drop off).take n) else none
  | some (.froz l) => bif (off + n).ble l.length then some ((l.drop off).take n) else none
  | _ => none
/-- May a value stand in one cell? -/
def oneB : AV → Bool
  | .agg _ | .tup _ | .v (.agg _) | .v (.tuple _) => false
  | _ => true
def storeN (H : AH) (b off : Nat) (vs : List AV) : Option AH :=
  match H.get b with
  | some (.cells l t) => bif (off + vs.length).ble l.length && vs.all oneB then some (H.put b (some (.cells (l.take off ++ (vs ++ l.drop (off + vs.length))) t))) else none
  | _ => none
def zeroCellsB (t : TypeId) : Option (List AV) := match T.info t with
  | some i => match i.zero with
    | some z => some (z.cells.toList.map .v)
    | none => none
  | none => none
def evLoad (H : AH) (t : TypeId) (b off : Nat) : Option AV :=
  match isAggB T t with
  | some true => match sizeB T t with
    | some n => match loadN H b off n with
      | some l => some (mkAgg l)
      | none => none
    | none => none
  | some false => match loadN H b off 1 with
    | some [x] => some x
    | _ => none
  | none => none
def evStore (H : AH) (t : TypeId) (b off : Nat) (x : AV) : Option AH :=
  match sizeB T t with
  | some n => bif n == x.cells.length then storeN H b off x.cells else none
  | none => none
def asNat : AV → Option Nat
  | .v (.int _ (.ofNat n)) => some n
  | _ => none
/-- The parts of a struct or an array are laid over its zero. -/
def fillB (place : Nat → Option (Nat × Nat)) (cells : List AV) : List (Nat × AV) → Option (List AV)
  | [] => some cells
  | (i, v) :: rest => match place i with
    | none => none
    | some (off, size) => bif v.cells.length == size && (off + size).ble cells.length then fillB place (cells.take off ++ (v.cells ++ cells.drop (off + size))) rest else none
def repeatL (z : List AV) : Nat → List AV
  | 0 => []
  | n + 1 => z ++ repeatL z n
/-- Equality of a reference and nil. -/
def evEql (d : TypeDesc) (x y : AV) : Option Bool :=
  match d, x, y with
  | .pointer _, .v (.pointer none), .ptr .. => some false
  | .pointer _, .ptr .., .v (.pointer none) => some false
  | .slice _, .v (.slice none _ _), .slc .. => some false
  | .slice _, .slc .., .v (.slice none _ _) => some false
  | .slice _, .tl .., .v (.slice none _ _) => some false
  | .map _ _, .v (.map none), .mp _ => some false
  | .map _ _, .mp _, .v (.map none) => some false
  | .func _ _ _, .v .nilFunc, .fn .. => some false
  | .func _ _ _, .fn .., .v .nilFunc => some false
  | _, _, _ => none
def sameKind : IntKind → IntKind → Bool
  | .i64, .i64 | .u8, .u8 | .u64, .u64 | .i32, .i32 | .u32, .u32 | .u16, .u16 | .i16, .i16 | .i8, .i8 => true
  | _, _ => false
/-- A key that is looked up at once. -/
def keyOf (d : TypeDesc) (k : Value) : Option TypeDesc := match d, k with
  | .string, .string _ => some .string
  | .int j, .int k _ => bif sameKind j k then some (.int j) else none
  | _, _ => none
def keyB (kt : TypeId) (k : Value) : Option TypeDesc := match T.und kt with
  | some d => keyOf d k
  | none => none
def sameB : Value → Value → Option Bool
  | .string a, .string b => some (a.data.toList == b.data.toList)
  | .int a m, .int b n => bif sameKind a b then some (m == n) else none
  | _, _ => none
def findB (k : Value) : List (AV × AV × Nat) → Nat → Option (Option (Nat × AV))
  | [], _ => some none
  | (.v k', x, _) :: es, i => match sameB k k' with
    | some true => some (some (i, x))
    | some false => findB k es (i + 1)
    | none => none
  | _ :: _, _ => none
def setAt (es : List (AV × AV × Nat)) (i : Nat) (x : AV) : List (AV × AV × Nat) := match es, i with
  | [], _ => []
  | (k, _, n) :: es, 0 => (k, x, n) :: es
  | e :: es, i + 1 => e :: setAt es i x
def mapGet (H : AH) : AV → Option (List (AV × AV × Nat) × Nat)
  | .mp b => match H.get b with
    | some (.map es c) => some (es, c)
    | _ => none
  | .v (.map none) => some ([], 0)
  | _ => none
def mapPut (H : AH) (m : AV) (k : Value) (x : AV) : Option AH := match m with
  | .mp b => match H.get b with
    | some (.map es c) => match findB k es 0 with
      | some none => some (H.put b (some (.map (es ++ [(.v k, x, c)]) (c + 1))))
      | some (some (i, _)) => some (H.put b (some (.map (setAt es i x) c)))
      | none => none
    | _ => none
  | _ => none

/-- What an operation gives. -/
inductive Gives where
  | val (x : AV) (H : AH)
  | enter (f : FuncId) (args : List AV) (H : AH)
def one (x : Option AV) (H : AH) : Option Gives := match x with
  | some x => some (.val x H)
  | none => none
def void (H : Option AH) : Option Gives := match H with
  | some H => some (.val .undef H)
  | none => none
def flatOp (ev : Operand → AV) (o : Oper) (H : AH) : Option Gives :=
  match o.op with
  | .select .. => none
  | _ =>
  match allFlat (o.op.operands.toList.map ev) with
  | some _ => match flatRun P (execOp (fun x => (ev x).flat.getD Go.undef) o) with
    | some (.value x) => some (.val (.v x) H)
    | some .skip => some (.val .undef H)
    | _ => none
  | none => none
def bound (y : Nat) (x : AV) : Option Nat := match asNat x with
  | some n => bif n.ble y then some n else none
  | none => none
def hiOf (len room : Nat) : Option AV → Option Nat
  | none => some len
  | some v => bound room v
def loOf (h : Nat) : Option AV → Option Nat
  | none => some 0
  | some v => bound h v
def roomOf (len : Nat) : Cp → Nat
  | .at c => c
  | .to _ => len
def isType (H : AH) (b : Nat) (t : TypeId) : Bool := match H.get b with
  | some (.cells _ u) => u == t
  | _ => false
/-- An append; where it isn't known whether the old row has room, the old row is given up. -/
def evAppend (H : AH) (elem : TypeId) (s : AV) (new : List AV) (n size : Nat) : Option Gives :=
  match s with
  | .v (.slice none 0 0) => bif n == 0 then some (.val s H) else some (.val (.slc H.next 0 n (.to size)) (H.alloc (.cells new elem)))
  | .slc b off len cap =>
    bif Nat.blt len 100000 then
    match loadN H b off (len * size) with
    | none => none
    | some old =>
      match cap with
      | .at c =>
        bif (len + n).ble c then
          match storeN H b (off + len * size) new with
          | some H' => some (.val (.slc b off (len + n) cap) H')
          | none => none
        else some (.val (.slc H.next 0 (len + n) (.to size)) (H.alloc (.cells (old ++ new) elem)))
      | .to s =>
        bif s == size && isType H b elem then
          match storeN H b (off + len * size) new with
          | some H' => some (.val (.slc b off (len + n) cap) H')
          | none => some (.val (.slc H.next 0 (len + n) (.to size)) ((H.put b none).alloc (.cells (old ++ new) elem)))
        else none
    else none
  | _ => none
/-- A row's cells, and how many parts they are. -/
def rowOf (H : AH) (size : Nat) : AV → Option (List AV × Nat)
  | .v (.slice none 0 _) => some ([], 0)
  | .slc b off len _ => match loadN H b off (len * size) with
    | some l => some (l, len)
    | none => none
  | .v (.string s) => bif size == 1 then some (s.data.toList.map fun b => .v (.int .u8 b.toNat), s.size) else none
  | _ => none
def lenOfB (H : AH) (d : TypeDesc) (x : AV) : Option Nat := match d, x with
  | .string, .v (.string s) => some s.size
  | .slice _, .v (.slice none n _) => some n
  | .slice _, .slc _ _ n _ => some n
  | .slice _, .tl .. => some 0
  | .map _ _, .v (.map none) => some 0
  | .map _ _, .mp b => match H.get b with
    | some (.map es _) => some es.length
    | _ => none
  | _, _ => none
def opLen (H : AH) (ts : Array TypeId) (x : AV) : Option Gives := match ts[0]? with
  | some t => match T.und t with
    | some d => match lenOfB H d x with
      | some n => some (.val (.v (.int .i64 n)) H)
      | none => none
    | none => none
  | none => none
def opCap (H : AH) (ts : Array TypeId) (x : AV) : Option Gives := match ts[0]? with
  | some t => match T.und t, x with
    | some (.slice _), .slc _ _ _ (.at n) => some (.val (.v (.int .i64 n)) H)
    | _, _ => none
  | none => none
def isStrB : AV → Bool
  | .v (.string _) => true
  | _ => false
def appendSrc (str : Bool) (H : AH) (e : TypeId) (i : TypeInfo) (z : Value) (s x : AV) : Option Gives := match rowOf H i.size x with
  | some (new, n) => bif isStrB x == str && Nat.blt 0 i.size && z.cells.size == i.size && Nat.blt i.bytes 100000 && Nat.blt n 100000 && new.all oneB then evAppend H e s new n i.size else none
  | none => none
def appendMade (H : AH) (e : TypeId) (i : TypeInfo) (z : Value) (s x : AV) : Option Gives := match asNat x with
  | some n => bif Nat.blt 0 i.size && Nat.blt i.bytes 100000 && Nat.blt n 100000 && z.cells.size == i.size && (repeatL (z.cells.toList.map .v) n).all oneB then evAppend H e s (repeatL (z.cells.toList.map .v) n) n i.size else none
  | none => none
def opAppend (H : AH) (ts : Array TypeId) (s x : AV) : Option Gives := match ts.toList with
  | [t, u] => match T.und t, T.und u with
    | some (.slice e), some (.int _) => match T.info e with
      | some i => match i.zero with
        | some z => appendMade H e i z s x
        | none => none
      | none => none
    | some (.slice e), some (.slice _) => match T.info e with
      | some i => match i.zero with
        | some z => appendSrc false H e i z s x
        | none => none
      | none => none
    | some (.slice e), some .string => match T.info e with
      | some i => match i.zero with
        | some z => appendSrc true H e i z s x
        | none => none
      | none => none
    | _, _ => none
  | _ => none
def opCopy (H : AH) (ts : Array TypeId) (b off len : Nat) (x : AV) : Option Gives := match ts[0]? with
  | some t => match T.und t with
    | some (.slice e) => match sizeB T e with
      | some size => match rowOf H size x with
        | some (new, n) => match storeN H b off (new.take (Nat.min n len * size)) with
          | some H' => some (.val (.v (.int .i64 (Nat.min n len))) H')
          | none => none
        | none => none
      | none => none
    | _ => none
  | none => none
def opClear (H : AH) (ts : Array TypeId) (b off len : Nat) : Option Gives := match ts[0]? with
  | some t => match T.und t with
    | some (.slice e) => match zeroCellsB T e with
      | some z => bif Nat.blt 0 len && Nat.blt 0 z.length then (match storeN H b off (repeatL z len) with
        | some H' => some (.val (.v (.tuple #[])) H')
        | none => none) else none
      | none => none
    | _ => none
  | none => none
def evBuiltin (H : AH) (b : Builtin) (ts : Array TypeId) (args : List AV) : Option Gives :=
  match b, args with
  | .len, [x] => opLen T H ts x
  | .cap, [x] => opCap T H ts x
  | .append, [s, x] => opAppend T H ts s x
  | .copy, [.slc b off len _, x] => opCopy T H ts b off len x
  | .clear, [.slc b off len _] => opClear T H ts b off len
  | _, _ => none
def sliceTo (b off size l h : Nat) (cap : Cp) (len : Nat) : Option AV := match cap with
  | .at c => bif c == l then some (.slc b off (h - l) (.at 0)) else some (.slc b (off + l * size) (h - l) (.at (c - l)))
  | .to s => bif s == size then (bif l == 0 || Nat.blt l len then some (.slc b (off + l * size) (h - l) cap) else bif l == len && Nat.blt 0 s then some (.tl b off len s) else none) else none
def evSlice (H : AH) (t : TypeId) (x : AV) (lo hi mx : Option AV) : Option AV :=
  match T.und t, x with
  | some (.slice e), .slc b off len cap =>
    match sizeB T e with
    | none => none
    | some size => match mx with
      | none => match hiOf len (roomOf len cap) hi with
        | none => none
        | some h => match loOf h lo with
          | none => none
          | some l => sliceTo b off size l h cap len
      | some m => match hi, bound (roomOf len cap) m with
        | some h, some m => match bound m h with
          | some h => match loOf h lo with
            | some l => bif m == l then some (.slc b off (h - l) (.at 0)) else some (.slc b (off + l * size) (h - l) (.at (m - l)))
            | none => none
          | none => none
        | _, _ => none
  | _, _ => none
/-- Two integers of one kind. -/
def intBin (op : BinOp) (k : IntKind) (a b : Int) : Option Value :=
  match op with
  | .add => some (.int k (k.wrap (a + b)))
  | .sub => some (.int k (k.wrap (a - b)))
  | .mul => some (.int k (k.wrap (a * b)))
  | .eql => some (.bool (a == b))
  | .neq => some (.bool (a != b))
  | .lss => some (.bool (a < b))
  | .leq => some (.bool (a ≤ b))
  | .gtr => some (.bool (a > b))
  | .geq => some (.bool (a ≥ b))
  | _ => none
def oneV (x : Option Value) (H : AH) : Option Gives := match x with
  | some x => some (.val (.v x) H)
  | none => none
def opPick (c a b : AV) (H : AH) : Option Gives := match c with
  | .v (.bool true) => some (.val a H)
  | .v (.bool false) => some (.val b H)
  | _ => none
def opExtract (t : AV) (i : Nat) (H : AH) : Option Gives := match t with
  | .tup l => one l[i]? H
  | .v (.tuple vs) => one (vs[i]?.map .v) H
  | _ => none
def opLoad (t : TypeId) (a : AV) (H : AH) : Option Gives := match a with
  | .ptr b off => one (evLoad T H t b off) H
  | _ => none
def opStore (t : TypeId) (a x : AV) (H : AH) : Option Gives := match a with
  | .ptr b off => void (evStore T H t b off x)
  | _ => none
def opAlloc (e : TypeId) (H : AH) : Option Gives := match zeroCellsB T e with
  | some z => some (.val (.ptr H.next 0) (H.alloc (.cells z e)))
  | none => none
def placeB (fs : Array Field) (i : Nat) : Option (Nat × Nat) := match fs[i]? with
  | some f => match sizeB T f.type with
    | some s => some (f.offset, s)
    | none => none
  | none => none
def placesB : List Field → Option (List (Nat × Nat))
  | [] => some []
  | f :: fs => match sizeB T f.type, placesB fs with
    | some s, some l => some ((f.offset, s) :: l)
    | _, _ => none
def opBuild (t : TypeId) (parts : List (Nat × AV)) (H : AH) : Option Gives := match zeroCellsB T t with
  | none => none
  | some z => match T.und t with
    | some (.struct fs) => match placesB T fs.toList with
      | some pl => match fillB (fun i => pl[i]?) z parts with
        | some cs => some (.val (mkAgg cs) H)
        | none => none
      | none => none
    | some (.array _ e) => match sizeB T e with
      | some size => match fillB (fun i => some (i * size, size)) z parts with
        | some cs => some (.val (mkAgg cs) H)
        | none => none
      | none => none
    | _ => none
def opEmptySlice (e : TypeId) (parts : List (Nat × AV)) (H : AH) : Option Gives := match sizeB T e with
  | some _ => bif parts.isEmpty then some (.val (.slc H.next 0 0 (.at 0)) (H.alloc (.cells [] e))) else none
  | none => none
def opFullSlice (e : TypeId) (len : Nat) (parts : List (Nat × AV)) (H : AH) : Option Gives := match sizeB T e, zeroCellsB T e with
  | some size, some z => match fillB (fun i => some (i * size, size)) (repeatL z len) parts with
    | some cs => bif z.length == size && Nat.blt (len * size) 100000 && Nat.blt 0 (len * size) then some (.val (.slc H.next 0 len (.at len)) (H.alloc (.cells cs e))) else none
    | none => none
  | _, _ => none
def opBuildSlice (t : TypeId) (len : Nat) (parts : List (Nat × AV)) (H : AH) : Option Gives := match T.und t with
  | some (.slice e) => bif len == 0 then opEmptySlice T e parts H else opFullSlice T e len parts H
  | _ => none
def opNil (x : AV) (H : AH) : Option Gives := match x with
  | .ptr b off => some (.val x H)
  | .fn (.func f) a c => some (.val x H)
  | _ => none
def opFieldAddr (s : TypeId) (x : AV) (f : Nat) (H : AH) : Option Gives := match x with
  | .ptr b off => match T.und s with
    | some (.struct fs) => match placeB T fs f with
      | some (_, 0) => none
      | some (o, _) => some (.val (.ptr b (off + o)) H)
      | none => none
    | _ => none
  | _ => none
def opIndexAddr (t : TypeId) (x i : AV) (H : AH) : Option Gives := match asNat i, T.und t, x with
  | some i, some (.slice e), .slc b off len _ => bif Nat.blt i len then (match sizeB T e with | some n => some (.val (.ptr b (off + i * n)) H) | none => none) else none
  | some i, some (.array len e), .ptr b off => bif Nat.blt i len then (match sizeB T e with | some n => some (.val (.ptr b (off + i * n)) H) | none => none) else none
  | _, _, _ => none
def opField (ev : Operand → AV) (o : Oper) (t : TypeId) (x : AV) (f : Nat) (H : AH) : Option Gives := match x with
  | .agg cs => match T.und t with
    | some (.struct fs) => match fs[f]? with
      | some f => match isAggB T f.type, sizeB T f.type with
        | some true, some n => bif (f.offset + n).ble cs.length then some (.val (mkAgg ((cs.drop f.offset).take n)) H) else none
        | some false, some _ => one cs[f.offset]? H
        | _, _ => none
      | none => none
    | _ => none
  | _ => flatOp P ev o H
def opMakeMap (ev : Operand → AV) (t : TypeId) (r : Option Operand) (H : AH) : Option Gives := match r with
  | none => some (.val (.mp H.next) (H.alloc (.map [] 0)))
  | some n => match T.und t, asNat (ev n) with
    | some (.map _ _), some _ => some (.val (.mp H.next) (H.alloc (.map [] 0)))
    | _, _ => none
def opMakeSlice (t : TypeId) (l c : AV) (H : AH) : Option Gives := match T.und t, asNat l, asNat c with
  | some (.slice e), some l, some c => match T.info e with
    | some i => match i.zero with
      | some z => bif l.ble c && Nat.blt c 100000 && Nat.blt i.bytes 100000 && z.cells.size == i.size && Nat.blt 0 i.size then some (.val (.slc H.next 0 l (.at c)) (H.alloc (.cells (repeatL (z.cells.toList.map .v) c) e))) else none
      | none => none
    | none => none
  | _, _, _ => none
def opMapUpdate (t : TypeId) (m k x : AV) (H : AH) : Option Gives := match T.und t, k with
  | some (.map kt _), .v k => match keyB T kt k with
    | some _ => void (mapPut H m k x)
    | none => none
  | _, _ => none
def opLookup (t : TypeId) (m k : AV) (ok : Bool) (H : AH) : Option Gives := match T.und t, k with
  | some (.map kt e), .v k => match keyB T kt k, mapGet H m with
    | some _, some (es, _) => match findB k es 0 with
      | some (some (_, x)) => some (.val (bif ok then mkTup [x, .v (.bool true)] else x) H)
      | some none => match T.info e with
        | some i => match i.zero with
          | some z => some (.val (bif ok then mkTup [.v z, .v (.bool false)] else .v z) H)
          | none => none
        | none => none
      | none => none
    | _, _ => none
  | _, _ => none
def opRange (t : TypeId) (x : AV) (H : AH) : Option Gives := match T.und t, x with
  | some (.map _ _), .mp b => match H.get b with
    | some (.map _ c) => some (.val (.ptr H.next 0) (H.alloc (.iter b c [] c)))
    | _ => none
  | _, _ => none
/-- The next of a map's entries, where there is no choice. -/
def nextOf (b m since : Nat) (seen : List Nat) (last : Nat) (es : List (AV × AV × Nat)) (c : Nat) (H : AH) : Option Gives :=
  bif es.all (fun e => Nat.blt e.2.2 since) && since.ble last then
    match es.filter fun e => !seen.contains e.2.2 with
    | [] => some (.val (.v (.tuple #[.bool false])) H)
    | [e] => some (.val (mkTup [.v (.bool true), e.1, e.2.1]) (H.put b (some (.iter m since (seen ++ [e.2.2]) c))))
    | _ => none
  else none
def opNext (it : AV) (isString : Bool) (H : AH) : Option Gives := match isString, it with
  | false, .ptr b 0 => match H.get b with
    | some (.iter m since seen last) => match H.get m with
      | some (.map es c) => nextOf b m since seen last es c H
      | _ => none
    | _ => none
  | _, _ => none
def opEntry (it : AV) (H : AH) : Option Gives := match it with
  | .ptr b 0 => match H.get b with
    | some (.iter m _ seen last) => match seen.getLast?, H.get m with
      | some s, some (.map es c) => bif Nat.beq c last then (match es.find? fun e => Nat.beq e.2.2 s with
        | some e => some (.val (mkTup [e.1, e.2.1]) H)
        | none => none) else none
      | _, _ => none
    | _ => none
  | _ => none
def opIndex (ev : Operand → AV) (o : Oper) (t : TypeId) (x i : AV) (H : AH) : Option Gives := match x, asNat i with
  | .v (.string s), some i => match T.und t with
    | some .string => match s.data.toList[i]? with
      | some b => some (.val (.v (.int .u8 b.toNat)) H)
      | none => none
    | _ => none
  | .agg l, some i => match T.und t with
    | some (.array n e) => match isAggB T e, sizeB T e with
      | some true, some z => bif Nat.blt i n && (i * z + z).ble l.length then some (.val (mkAgg ((l.drop (i * z)).take z)) H) else none
      | some false, some z => bif Nat.blt i n && z == 1 then one l[i]? H else none
      | _, _ => none
    | _ => none
  | _, _ => flatOp P ev o H
def opt (ev : Operand → AV) : Option Operand → Option AV
  | none => none
  | some x => some (ev x)
def strSlice (s : ByteArray) (lo hi : Option AV) (H : AH) : Option Gives :=
  match hiOf s.size s.size hi with
  | some h => match loOf h lo with
    | some l => some (.val (.v (.string (s.extract l h))) H)
    | none => none
  | none => none
def opSlice (ev : Operand → AV) (o : Oper) (t : TypeId) (x : AV) (lo hi mx : Option AV) (H : AH) : Option Gives := match x, mx with
  | .v (.string s), none => match T.und t with
    | some .string => strSlice s lo hi H
    | _ => none
  | .slc .., _ => one (evSlice T H t x lo hi mx) H
  | _, _ => flatOp P ev o H
def opEql (ev : Operand → AV) (o : Oper) (neg : Bool) (t : TypeId) (x y : AV) (H : AH) : Option Gives := match T.und t with
  | some d => match evEql d x y with
    | some b => some (.val (.v (.bool (bif neg then !b else b))) H)
    | none => flatOp P ev o H
  | none => none
def opBin (ev : Operand → AV) (o : Oper) (op : BinOp) (t : TypeId) (x y : AV) (H : AH) : Option Gives := match x, y with
  | .v (.int k a), .v (.int k' b) => bif sameKind k k' then (match intBin op k a b with | some r => some (.val (.v r) H) | none => flatOp P ev o H) else none
  | _, _ => match op with
    | .eql => opEql P T ev o false t x y H
    | .neq => opEql P T ev o true t x y H
    | _ => flatOp P ev o H
def opUn (ev : Operand → AV) (o : Oper) (op : UnOp) (x : AV) (H : AH) : Option Gives := match op, x with
  | .not, .v (.bool b) => some (.val (.v (.bool (!b))) H)
  | _, _ => flatOp P ev o H
def opConvert (ev : Operand → AV) (o : Oper) (sr d : TypeId) (x : AV) (H : AH) : Option Gives := match x, T.und d with
  | .v (.string s), some (.slice e) => match T.und sr, T.und e with
    | some .string, some (.int .u8) => some (.val (.slc H.next 0 s.size (.to 1)) (H.alloc (.froz (s.data.toList.map fun b => .v (.int .u8 b.toNat)))))
    | _, _ => none
  | _, _ => flatOp P ev o H
def opBuiltin (ev : Operand → AV) (o : Oper) (b : Builtin) (ts : Array TypeId) (args : List AV) (H : AH) : Option Gives := match evBuiltin T H b ts args with
  | some r => some r
  | none => flatOp P ev o H
def opCall (ev : Operand → AV) (o : Oper) (f : AV) (args : List AV) (H : AH) : Option Gives := match f with
  | .fn (.func f) first captured => match T.func f with
    | some fn => bif fn.body.isSome then some (.enter f (first ++ (args ++ captured)) H) else flatOp P ev o H
    | none => none
  | _ => none
def opCall0 (ev : Operand → AV) (o : Oper) (c : Call) (H : AH) : Option Gives := match c.callee with
  | .builtin b => opBuiltin P T ev o b c.argTypes (c.args.toList.map ev) H
  | .value f => opCall P T ev o (ev f) (c.args.toList.map ev) H
  | _ => none
def partsB (ev : Operand → AV) (ps : Array (Nat × Operand)) : List (Nat × AV) := ps.toList.map fun p => (p.1, ev p.2)
def evOp (ev : Operand → AV) (o : Oper) (H : AH) : Option Gives :=
  match o.op with
  | .move x => some (.val (ev x) H)
  | .assign x => some (.val (ev x) H)
  | .pick c a b => opPick (ev c) (ev a) (ev b) H
  | .extract t i => opExtract (ev t) i H
  | .load t a => opLoad T t (ev a) H
  | .store t a x => opStore T t (ev a) (ev x) H
  | .alloc e => opAlloc T e H
  | .box e x => bif (ev x).cells.all oneB then some (.val (.ptr H.next 0) (H.alloc (.cells (ev x).cells e))) else none
  | .build t parts => opBuild T t (partsB ev parts) H
  | .buildSlice t len parts => opBuildSlice T t len (partsB ev parts) H
  | .nilCheck x => opNil (ev x) H
  | .fieldAddr s x f => opFieldAddr T s (ev x) f H
  | .indexAddr t x i => opIndexAddr T t (ev x) (ev i) H
  | .field t x f => opField P T ev o t (ev x) f H
  | .makeFunc fn first captured => some (.val (.fn fn (first.toList.map ev) (captured.toList.map ev)) H)
  | .makeMap t r => opMakeMap T ev t r H
  | .makeSlice t l c => opMakeSlice T t (ev l) (ev c) H
  | .mapUpdate t m k x => opMapUpdate T t (ev m) (ev k) (ev x) H
  | .insert t m k x => opMapUpdate T t (ev m) (ev k) (ev x) H
  | .lookup t m k ok => opLookup T t (ev m) (ev k) ok H
  | .range t x => opRange T t (ev x) H
  | .next it s => opNext (ev it) s H
  | .entry it => opEntry (ev it) H
  | .index t x i => opIndex P T ev o t (ev x) (ev i) H
  | .slice t x lo hi mx => opSlice P T ev o t (ev x) (opt ev lo) (opt ev hi) (opt ev mx) H
  | .binOp op t x y _ => opBin P T ev o op t (ev x) (ev y) H
  | .unOp op _ x => opUn P ev o op (ev x) H
  | .convert s d x => opConvert P T ev o s d (ev x) H
  | .call c => opCall0 P T ev o c H
  | _ => flatOp P ev o H

/-! ### code -/
inductive EX where
  | normal
  | exit (id : Nat)
  | goto (l : Nat)
  | ret
def evalO (F : Fr) : Operand → AV
  | .tmp t => F.get t
  | .const v => .v v
  | .global g => .v (.pointer (some ⟨g, 0, none⟩))
  | .func f => .fn (.func f) [] []
def yieldedB (ops : Array Oper) (F : Fr) (j : Nat) : Option Bool :=
  match (ops[j]?).bind (·.dst) with
  | some t => match F.get t with
    | .v (.bool b) => some b
    | _ => none
  | none => none
def resOne (H : AH) (F : Fr) : ResultVar → Option AV
  | .tmp t => some (F.get t)
  | .cell a t => match F.get a with
    | .ptr b off => evLoad T H t b off
    | _ => none
def resAll (H : AH) (F : Fr) : List ResultVar → Option (List AV)
  | [] => some []
  | r :: rs => match resOne T H F r, resAll H F rs with
    | some x, some xs => some (x :: xs)
    | _, _ => none
def resOf : Option (List AV) → Option AV
  | some [x] => some x
  | some l => some (mkTup l)
  | none => none
def resultsB (H : AH) (fn : Func) (F : Fr) : Option AV := resOf (resAll T H F fn.results.toList)
def evOps (call : FuncId → List AV → AH → Option (AV × AH)) (all : Array Oper) : List Oper → Fr → AH → Option (Fr × AH)
  | [], F, H => some (F, H)
  | o :: rest, F, H =>
    bif Region.wanted o (yieldedB all F) then
      match evOp P T (evalO F) o H with
      | some (.val x H') => bif H'.next.ble 16384 then evOps call all rest (F.put o.dst x) H' else none
      | some (.enter f args H') => match call f args H' with
        | some (x, H'') => evOps call all rest (F.put o.dst x) H''
        | none => none
      | none => none
    else evOps call all rest (F.put o.dst .undef) H
/-! ### a region that draws its order: walked in the text's order, then seen to be the same in all orders -/
inductive RK where
  | skip
  | quiet
  | eff
structure Rec where
  F : Fr
  x : AV
  k : RK
  H : AH
  H' : AH
def quietOp (ev : Operand → AV) : Op → Bool
  | .convert _ _ x => !isStrB (ev x)
  | .move _ | .assign _ | .build .. | .pick .. | .extract .. | .load .. | .nilCheck _ | .fieldAddr .. | .indexAddr .. | .field .. | .makeFunc .. | .lookup .. | .index .. | .slice .. | .binOp .. | .unOp .. => true
  | .call c => match c.callee with
    | .builtin .len | .builtin .cap | .builtin .min | .builtin .max => true
    | _ => false
  | _ => false
def consR (r : Rec) (x : Option (List Rec × Fr × AH)) : Option (List Rec × Fr × AH) := match x with
  | some (l, F, H) => some (r :: l, F, H)
  | none => none
def drawnGo (call : FuncId → List AV → AH → Option (AV × AH)) (all : Array Oper) : List Oper → Fr → AH → Option (List Rec × Fr × AH)
  | [], F, H => some ([], F, H)
  | o :: rest, F, H =>
    bif Region.wanted o (yieldedB all F) then
      match evOp P T (evalO F) o H with
      | some (.val x H') => bif H'.next.ble 16384 then consR ⟨F, x, bif quietOp (evalO F) o.op then .quiet else .eff, H, H'⟩ (drawnGo call all rest (F.put o.dst x) H') else none
      | some (.enter f args H') => match call f args H' with
        | some (x, H'') => consR ⟨F, x, .eff, H, H''⟩ (drawnGo call all rest (F.put o.dst x) H'')
        | none => none
      | none => none
    else consR ⟨F, .undef, .skip, H, H⟩ (drawnGo call all rest (F.put o.dst .undef) H)
def effGo : List Rec → Nat → List (Nat × AH)
  | [], _ => []
  | r :: l, i => match r.k with
    | .eff => (i, r.H') :: effGo l (i + 1)
    | _ => effGo l (i + 1)
def eqCp : Cp → Cp → Bool
  | .at a, .at b => Nat.beq a b
  | .to a, .to b => Nat.beq a b
  | _, _ => false
def eqV : Nat → Value → Value → Bool
  | _ + 1, .bool a, .bool b => a == b
  | _ + 1, .int k a, .int l b => sameKind k l && a == b
  | _ + 1, .string a, .string b => a.data.toList == b.data.toList
  | _ + 1, .pointer none, .pointer none => true
  | _ + 1, .pointer (some ⟨a, b, none⟩), .pointer (some ⟨c, d, none⟩) => Nat.beq a c && Nat.beq b d
  | _ + 1, .slice none a b, .slice none c d => Nat.beq a c && Nat.beq b d
  | _ + 1, .map none, .map none => true
  | _ + 1, .nilFunc, .nilFunc => true
  | _ + 1, .nilIface, .nilIface => true
  | n + 1, .agg a, .agg b => a.toList.length == b.toList.length && (a.toList.zip b.toList).all fun p => eqV n p.1 p.2
  | n + 1, .tuple a, .tuple b => a.toList.length == b.toList.length && (a.toList.zip b.toList).all fun p => eqV n p.1 p.2
  | _, _, _ => false
def eqAV : Nat → AV → AV → Bool
  | n + 1, .v a, .v b => eqV (n + 1) a b
  | _ + 1, .ptr a b, .ptr c d => Nat.beq a c && Nat.beq b d
  | _ + 1, .slc a b c k, .slc a' b' c' k' => Nat.beq a a' && Nat.beq b b' && Nat.beq c c' && eqCp k k'
  | _ + 1, .mp a, .mp b => Nat.beq a b
  | _ + 1, .tl a b c d, .tl a' b' c' d' => Nat.beq a a' && Nat.beq b b' && Nat.beq c c' && Nat.beq d d'
  | n + 1, .agg a, .agg b => a.length == b.length && (a.zip b).all fun p => eqAV n p.1 p.2
  | n + 1, .tup a, .tup b => a.length == b.length && (a.zip b).all fun p => eqAV n p.1 p.2
  | n + 1, .fn (.func f) a c, .fn (.func g) b d => Nat.beq f g && (a.length == b.length && (a.zip b).all fun p => eqAV n p.1 p.2) && (c.length == d.length && (c.zip d).all fun p => eqAV n p.1 p.2)
  | _, _, _ => false
def evSame (r : Option Gives) (x : AV) : Bool := match r with
  | some (.val y _) => eqAV 4 y x
  | _ => false
/-- At whatever stage of the others' writes the operation is run: the same value. -/
def stagesOk (ms : List Nat) (o : Oper) (i : Nat) (F : Fr) (x : AV) : AH → List (Nat × AH) → Bool
  | H, [] => evSame (evOp P T (evalO F) o H) x
  | H, e :: rest => (bif (e :: rest).all (fun e => !Reg.bit ms e.1 i) then evSame (evOp P T (evalO F) o H) x else true) && (bif Reg.bit ms i e.1 then true else stagesOk ms o i F x e.2 rest)
def quietsOk (ms : List Nat) (H : AH) (E : List (Nat × AH)) : List Oper → List Rec → Nat → Bool
  | o :: l, r :: rs, i => (match r.k with
    | .quiet => stagesOk P T ms o i r.F r.x H E
    | _ => true) && quietsOk ms H E l rs (i + 1)
  | _, _, _ => true
def orderedB (ms : List Nat) : List (Nat × AH) → Bool
  | a :: b :: l => Reg.bit ms a.1 b.1 && orderedB ms (b :: l)
  | _ => true
def drawnOk (ms : List Nat) (all : Array Oper) (recs : List Rec) (H : AH) : Bool :=
  orderedB ms (effGo recs 0) && quietsOk P T ms H (effGo recs 0) all.toList recs 0
def evDrawn (call : FuncId → List AV → AH → Option (AV × AH)) (all : Array Oper) (F : Fr) (H : AH) : Option (Fr × AH) := match drawnGo P T call all all.toList F H with
  | some (recs, F', H') => bif Reg.ok all all.size && drawnOk P T (Reg.masksGo all.toList []) all recs H then some (F', H') else none
  | none => none
variable (orc : FuncId → Option (List AV → AH → Option (AV × AH)))
/-- What comes behind a part of code. -/
abbrev Ans := Option (EX × Fr × AH)
def thenC (k : Fr → AH → Ans) (r : Ans) : Ans := match r with
  | some (.normal, F, H) => k F H
  | r => r
def blockC (id : Nat) (r : Ans) : Ans := match r with
  | some (.exit i, F, H) => bif i == id then some (.normal, F, H) else r
  | r => r
def scopeC (k : Nat → Fr → AH → Ans) (r : Ans) : Ans := match r with
  | some (.goto l, F, H) => k l F H
  | r => r
def condC (c : AV) (a b : Unit → Ans) : Ans := match c with
  | .v (.bool true) => a ()
  | .v (.bool false) => b ()
  | _ => none
def opsC (r : Option (Fr × AH)) : Ans := match r with
  | some (F, H) => some (.normal, F, H)
  | none => none
def retF (fn : Func) (r : Ans) : Option (AV × AH) := match r with
  | some (.ret, F, H) => match resultsB T H fn F with
    | some x => some (x, H)
    | none => none
  | some (.normal, F, H) => match resultsB T H fn F with
    | some x => some (x, H)
    | none => none
  | _ => none
/-- One level of the run: what code makes, if calls and rounds are known. -/
def stepC (call : FuncId → List AV → AH → Option (AV × AH)) (code : Code → Fr → AH → Ans) (jump : Code → Nat → Fr → AH → Ans) (c : Code) (F : Fr) (H : AH) : Ans :=
  match c with
  | .skip => some (.normal, F, H)
  | .label _ => some (.normal, F, H)
  | .region _ ops d => opsC (bif d then evDrawn P T call ops F H else evOps P T call ops ops.toList F H)
  | .seq a b => thenC (code b) (code a F H)
  | .cond c a b => condC (evalO F c) (fun _ => code a F H) (fun _ => code b F H)
  | .block id b => blockC id (code b F H)
  | .loop b => thenC (code (.loop b)) (code b F H)
  | .scope b => scopeC (jump b) (code b F H)
  | .exit id => some (.exit id, F, H)
  | .goto l => some (.goto l, F, H)
  | .ret => some (.ret, F, H)
  | _ => none
def stepF (code : Code → Fr → AH → Ans) (f : FuncId) (args : List AV) (H : AH) : Option (AV × AH) := match T.func f with
  | some fn => match fn.body with
    | some c => bif fn.ntmps.ble 1024 && args.length.ble 1024 then retF T fn (code c ⟨max fn.ntmps args.length, Tr.build 10 args⟩ H) else none
    | none => none
  | none => none
def stepG (code : Code → Fr → AH → Ans) (jump : Code → Nat → Fr → AH → Ans) (b : Code) (l : Nat) (F : Fr) (H : AH) : Ans := match findLabel b l with
  | some rest => scopeC (jump b) (code rest F H)
  | none => some (.goto l, F, H)
variable (orc : FuncId → Option (List AV → AH → Option (AV × AH)))
structure Run where
  call : FuncId → List AV → AH → Option (AV × AH)
  code : Code → Fr → AH → Ans
  jump : Code → Nat → Fr → AH → Ans
def run : Nat → Run
  | 0 => ⟨fun _ _ _ => none, fun _ _ _ => none, fun _ _ _ _ => none⟩
  | n + 1 => ⟨fun f args H => match orc f with | some g => g args H | none => stepF T (run n).code f args H, fun c F H => stepC P T (run n).call (run n).code (run n).jump c F H, fun b l F H => stepG (run n).code (run n).jump b l F H⟩
def evF (n : Nat) (f : FuncId) (args : List AV) (H : AH) : Option (AV × AH) := (run P T orc n).call f args H
end
end Ev
end Go.Proofs.YtgmhkjmnfafccaaGreatDoor
