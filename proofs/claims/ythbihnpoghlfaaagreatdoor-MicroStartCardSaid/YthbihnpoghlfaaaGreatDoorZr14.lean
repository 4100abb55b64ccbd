import Derived.Shelf.Strings.Trim
import Derived.Shelf.Small.Utf8
import Derived.Shelf.Small.Bits
import Derived.Shelf.Small.Strs
import Derived.Shelf.Small.Wraps
import Derived.Shelf.LaysM
import Derived.Shelf.Strings.Search1
import Derived.Shelf.Strings.Search2
import Derived.Shelf.Strings.Search3
import Derived.Shelf.Strings.Cut
import Derived.Shelf.Strings.Count
import Derived.Shelf.Strings.Shaped
import Derived.Shelf.Sort.Plain
import Derived.Shelf.Strings.Prefix
import Derived.Shelf.Strings.Split
import Derived.Shelf.Strings.SplitShaped
import Derived.Shelf.Strings.Runes
import Derived.Shelf.Strings.RuneCount
import Derived.Shelf.Strings.IndexAny
import Derived.Shelf.Strings.AsciiSet
import Derived.Shelf.Strings.Explode
import Derived.Shelf.Bits.Mul64
import Derived.Shelf.Slices.Turned
import Derived.Shelf.Slices.Equal
import Derived.Ground.Names2Prog
import Derived.Shelf.Slices.Clone
import Derived.Shelf.Slices.CompactS
import Derived.Shelf.Slices.SearchI
import Derived.Shelf.Slices.Cells
import Derived.Shelf.Slices.In.SortNone
import Derived.Shelf.Slices.Empties2
import Derived.Ground.SlgnProg
import Derived.Shelf.SlicesE.Clone
import Derived.Test.YthbihnpoghlfaaaGreatDoorProg
set_option linter.unusedVariables false
set_option linter.unusedSimpArgs false
set_option maxHeartbeats 8000000
set_option maxRecDepth 100000
section
namespace Go.Proofs
open Go.Shelf
def Tryz.SW:Go.Shelf.Ren:=⟨fun| 103=>252| 210=>308| 206=>354|n=>n,fun| 9=>9| 4=>4| 24=>245| 3=>3|n=>n,fun|n=>n⟩
theorem Tryz.ZaT:Go.Proofs.Lays.n103 prog Tryz.SW:={
 mixed:=by kernel_rfl
 f103:=func252.trans (congrArg some (by kernel_rfl))
 f206:=func354.trans (congrArg some (by kernel_rfl))
 f210:=func308.trans (congrArg some (by kernel_rfl))
 t3:=underlying3
 a3:=Tryz.isAgg3
 z3:=Tryz.sizeOf3
 v3:=Tryz.zeroValue3
 t4:=underlying4
 a4:=Tryz.isAgg4
 z4:=Tryz.sizeOf4
 v4:=Tryz.zeroValue4
 t9:=underlying9
 a9:=Tryz.isAgg9
 z9:=Tryz.sizeOf9
 v9:=Tryz.zeroValue9
 t24:=underlying245
 a24:=Tryz.isAgg245
 z24:=Tryz.sizeOf245
 v24:=Tryz.zeroValue245}
open Go.RowKit in
theorem Tryz.strings_CutPrefix (s p:ByteArray) (w:World) :
  Calls prog 252 #[.string s,.string p] w fun e j=>e=.returned (.tuple #[.string ⟨(Lib.trimPrefix s.data.toList p.data.toList).toArray⟩,.bool (Lib.hasPrefix s.data.toList p.data.toList)])/\j=w:=Any.strings_CutPrefix Tryz.ZaT s p w
def Tryz.SO:Go.Shelf.Ren:=⟨fun| 189=>50| 125=>135| 257=>134| 128=>217| 129=>218| 294=>208| 295=>209| 296=>210| 297=>211| 298=>212| 299=>213| 216=>214| 300=>215| 301=>216| 328=>268| 329=>269| 330=>270| 331=>271| 332=>272| 215=>273| 343=>321|n=>n,fun| 28=>28| 3=>3| 46=>154| 0=>0| 51=>207| 53=>209| 4=>4| 183=>201| 182=>200| 131=>156| 5=>5| 9=>9| 218=>258| 222=>262| 228=>302| 229=>130|n=>n,fun|n=>n⟩
theorem Tryz.V9:Go.Proofs.Lays.n189 prog Tryz.SO:={
 mixed:=by kernel_rfl
 f125:=func135.trans (congrArg some (by kernel_rfl))
 f128:=func217.trans (congrArg some (by kernel_rfl))
 f129:=func218.trans (congrArg some (by kernel_rfl))
 f189:=func50.trans (congrArg some (by kernel_rfl))
 f215:=func273.trans (congrArg some (by kernel_rfl))
 f216:=func214.trans (congrArg some (by kernel_rfl))
 f257:=func134.trans (congrArg some (by kernel_rfl))
 f294:=func208.trans (congrArg some (by kernel_rfl))
 f295:=func209.trans (congrArg some (by kernel_rfl))
 f296:=func210.trans (congrArg some (by kernel_rfl))
 f297:=func211.trans (congrArg some (by kernel_rfl))
 f298:=func212.trans (congrArg some (by kernel_rfl))
 f299:=func213.trans (congrArg some (by kernel_rfl))
 f300:=func215.trans (congrArg some (by kernel_rfl))
 f301:=func216.trans (congrArg some (by kernel_rfl))
 f328:=func268.trans (congrArg some (by kernel_rfl))
 f329:=func269.trans (congrArg some (by kernel_rfl))
 f330:=func270.trans (congrArg some (by kernel_rfl))
 f331:=func271.trans (congrArg some (by kernel_rfl))
 f332:=func272.trans (congrArg some (by kernel_rfl))
 f343:=func321.trans (congrArg some (by kernel_rfl))
 t0:=underlying0
 a0:=Tryz.isAgg0
 z0:=Tryz.sizeOf0
 v0:=Tryz.zeroValue0
 t3:=underlying3
 a3:=Tryz.isAgg3
 z3:=Tryz.sizeOf3
 v3:=Tryz.zeroValue3
 t4:=underlying4
 a4:=Tryz.isAgg4
 z4:=Tryz.sizeOf4
 v4:=Tryz.zeroValue4
 t5:=underlying5
 a5:=Tryz.isAgg5
 z5:=Tryz.sizeOf5
 v5:=Tryz.zeroValue5
 t9:=underlying9
 a9:=Tryz.isAgg9
 z9:=Tryz.sizeOf9
 v9:=Tryz.zeroValue9
 t28:=underlying28
 a28:=Tryz.isAgg28
 z28:=Tryz.sizeOf28
 v28:=Tryz.zeroValue28
 t46:=underlying154
 a46:=Tryz.isAgg154
 z46:=Tryz.sizeOf154
 v46:=Tryz.zeroValue154
 t51:=underlying207
 a51:=Tryz.isAgg207
 z51:=Tryz.sizeOf207
 v51:=Tryz.zeroValue207
 t53:=underlying209
 a53:=Tryz.isAgg209
 z53:=Tryz.sizeOf209
 v53:=Tryz.zeroValue209
 t131:=underlying156
 a131:=Tryz.isAgg156
 z131:=Tryz.sizeOf156
 v131:=Tryz.zeroValue156
 t182:=underlying200
 a182:=Tryz.isAgg200
 z182:=Tryz.sizeOf200
 v182:=Tryz.zeroValue200
 t183:=underlying201
 a183:=Tryz.isAgg201
 z183:=Tryz.sizeOf201
 v183:=Tryz.zeroValue201
 t218:=underlying258
 a218:=Tryz.isAgg258
 z218:=Tryz.sizeOf258
 v218:=Tryz.zeroValue258
 t222:=underlying262
 a222:=Tryz.isAgg262
 z222:=Tryz.sizeOf262
 v222:=Tryz.zeroValue262
 t228:=underlying302
 a228:=Tryz.isAgg302
 z228:=Tryz.sizeOf302
 v228:=Tryz.zeroValue302
 t229:=underlying130
 a229:=Tryz.isAgg130
 z229:=Tryz.sizeOf130
 v229:=Tryz.zeroValue130}
open Go.Sort Go.RowKit in
theorem Tryz.slices_Sort_int (Bq off cap:Nat) (j:List Int) (w:World) (I:Holds (Value.int .i64) w Bq off j.toArray) (o:Bq<w.heap.size) (p:j.length<4611686018427387904) :
  Calls prog 50 #[.slice (some ⟨Bq,off,none⟩) j.length cap] w fun e J=>
   e=.returned (.tuple #[])/\∃n os,J=grow (putRow (Value.int .i64) (Sort.ahead w n) Bq off (j.mergeSort fun x y=>decide (x<=y)).toArray) os:=Any.slices_Sort_int Tryz.V9 Bq off cap j w I o p
def Tryz.QS:Go.Shelf.Ren:=⟨fun| 190=>174| 125=>135| 258=>248| 128=>217| 129=>218| 302=>298| 303=>299| 304=>300| 305=>301| 306=>302| 307=>303| 308=>304| 309=>305| 310=>306| 333=>350| 329=>269| 330=>270| 334=>351| 335=>352| 336=>353| 344=>378|n=>n,fun| 31=>22| 9=>9| 3=>3| 46=>154| 0=>0| 51=>207| 53=>209| 4=>4| 183=>201| 182=>200| 131=>156| 5=>5| 218=>258| 222=>262| 228=>302| 229=>130|n=>n,fun|n=>n⟩
theorem Tryz.Vu:Go.Proofs.Lays.n190 prog Tryz.QS:={
 mixed:=by kernel_rfl
 f125:=func135.trans (congrArg some (by kernel_rfl))
 f128:=func217.trans (congrArg some (by kernel_rfl))
 f129:=func218.trans (congrArg some (by kernel_rfl))
 f190:=func174.trans (congrArg some (by kernel_rfl))
 f258:=func248.trans (congrArg some (by kernel_rfl))
 f302:=func298.trans (congrArg some (by kernel_rfl))
 f303:=func299.trans (congrArg some (by kernel_rfl))
 f304:=func300.trans (congrArg some (by kernel_rfl))
 f305:=func301.trans (congrArg some (by kernel_rfl))
 f306:=func302.trans (congrArg some (by kernel_rfl))
 f307:=func303.trans (congrArg some (by kernel_rfl))
 f308:=func304.trans (congrArg some (by kernel_rfl))
 f309:=func305.trans (congrArg some (by kernel_rfl))
 f310:=func306.trans (congrArg some (by kernel_rfl))
 f329:=func269.trans (congrArg some (by kernel_rfl))
 f330:=func270.trans (congrArg some (by kernel_rfl))
 f333:=func350.trans (congrArg some (by kernel_rfl))
 f334:=func351.trans (congrArg some (by kernel_rfl))
 f335:=func352.trans (congrArg some (by kernel_rfl))
 f336:=func353.trans (congrArg some (by kernel_rfl))
 f344:=func378.trans (congrArg some (by kernel_rfl))
 t0:=underlying0
 a0:=Tryz.isAgg0
 z0:=Tryz.sizeOf0
 v0:=Tryz.zeroValue0
 t3:=underlying3
 a3:=Tryz.isAgg3
 z3:=Tryz.sizeOf3
 v3:=Tryz.zeroValue3
 t4:=underlying4
 a4:=Tryz.isAgg4
 z4:=Tryz.sizeOf4
 v4:=Tryz.zeroValue4
 t5:=underlying5
 a5:=Tryz.isAgg5
 z5:=Tryz.sizeOf5
 v5:=Tryz.zeroValue5
 t9:=underlying9
 a9:=Tryz.isAgg9
 z9:=Tryz.sizeOf9
 v9:=Tryz.zeroValue9
 t31:=underlying22
 a31:=Tryz.isAgg22
 z31:=Tryz.sizeOf22
 v31:=Tryz.zeroValue22
 t46:=underlying154
 a46:=Tryz.isAgg154
 z46:=Tryz.sizeOf154
 v46:=Tryz.zeroValue154
 t51:=underlying207
 a51:=Tryz.isAgg207
 z51:=Tryz.sizeOf207
 v51:=Tryz.zeroValue207
 t53:=underlying209
 a53:=Tryz.isAgg209
 z53:=Tryz.sizeOf209
 v53:=Tryz.zeroValue209
 t131:=underlying156
 a131:=Tryz.isAgg156
 z131:=Tryz.sizeOf156
 v131:=Tryz.zeroValue156
 t182:=underlying200
 a182:=Tryz.isAgg200
 z182:=Tryz.sizeOf200
 v182:=Tryz.zeroValue200
 t183:=underlying201
 a183:=Tryz.isAgg201
 z183:=Tryz.sizeOf201
 v183:=Tryz.zeroValue201
 t218:=underlying258
 a218:=Tryz.isAgg258
 z218:=Tryz.sizeOf258
 v218:=Tryz.zeroValue258
 t222:=underlying262
 a222:=Tryz.isAgg262
 z222:=Tryz.sizeOf262
 v222:=Tryz.zeroValue262
 t228:=underlying302
 a228:=Tryz.isAgg302
 z228:=Tryz.sizeOf302
 v228:=Tryz.zeroValue302
 t229:=underlying130
 a229:=Tryz.isAgg130
 z229:=Tryz.sizeOf130
 v229:=Tryz.zeroValue130}
open Go.Sort Go.RowKit in
theorem Tryz.slices_Sort_string (Bq off cap:Nat) (j:List (List UInt8)) (w:World) (I:Holds encStr w Bq off j.toArray) (o:Bq<w.heap.size) (p:j.length<4611686018427387904) :
  Calls prog 174 #[.slice (some ⟨Bq,off,none⟩) j.length cap] w fun e J=>
   e=.returned (.tuple #[])/\∃n os,J=grow (putRow encStr (Sort.ahead w n) Bq off (j.mergeSort fun x y=>decide (x<=y)).toArray) os:=Any.slices_Sort_string Tryz.Vu Bq off cap j w I o p
def Tryz.SQ:Go.Shelf.Ren:=⟨fun| 264=>379|n=>n,fun| 53=>209| 46=>154|n=>n,fun|n=>n⟩
theorem Tryz.Zak:Go.Proofs.Lays.n264 prog Tryz.SQ:={
 mixed:=by kernel_rfl
 f264:=func379.trans (congrArg some (by kernel_rfl))
 t46:=underlying154
 a46:=Tryz.isAgg154
 z46:=Tryz.sizeOf154
 v46:=Tryz.zeroValue154
 t53:=underlying209
 a53:=Tryz.isAgg209
 z53:=Tryz.sizeOf209
 v53:=Tryz.zeroValue209}
open Go.RowKit Go.Lib in
theorem Tryz.bits_Mul64 (x y:Nat) (j:x<18446744073709551616) (o:y<18446744073709551616) (w:World) :
  Calls prog 379 #[.int .u64 x,.int .u64 y] w fun e p=>e=.returned (.tuple #[.int .u64 ((x*y / 18446744073709551616:Nat):Int),.int .u64 ((x*y % 18446744073709551616:Nat):Int)])/\p=w:=Any.bits_Mul64 Tryz.Zak x y j o w
def Tryz.SE:Go.Shelf.Ren:=⟨fun| 107=>56| 108=>144|n=>n,fun| 28=>28| 3=>3| 4=>4| 0=>0|n=>n,fun|n=>n⟩
theorem Tryz.Vx:Go.Proofs.Lays.n107 prog Tryz.SE:={
 mixed:=by kernel_rfl
 f107:=func56.trans (congrArg some (by kernel_rfl))
 f108:=func144.trans (congrArg some (by kernel_rfl))
 t0:=underlying0
 a0:=Tryz.isAgg0
 z0:=Tryz.sizeOf0
 v0:=Tryz.zeroValue0
 t3:=underlying3
 a3:=Tryz.isAgg3
 z3:=Tryz.sizeOf3
 v3:=Tryz.zeroValue3
 t4:=underlying4
 a4:=Tryz.isAgg4
 z4:=Tryz.sizeOf4
 v4:=Tryz.zeroValue4
 t28:=underlying28
 a28:=Tryz.isAgg28
 z28:=Tryz.sizeOf28
 v28:=Tryz.zeroValue28}
open Go.Lib in
theorem Tryz.slices_Contains_int (b off n c:Nat) (o:List Int) (x:Int) (w:World) (I:n<=o.length) (p:n<=9223372036854775807) (J:∀j,j<o.length->w.cell? ⟨b,off+j,none⟩=some (.int .i64 (o.getD j 0))) :
  Calls prog 56 #[.slice (some ⟨b,off,none⟩) n c,.int .i64 x] w fun e R=>e=.returned (.bool ((o.take n).contains x))/\R=w:=Any.slices_Contains_int Tryz.Vx b off n c o x w I p J
open Go.Lib in
theorem Tryz.slices_Contains_int_empty (a:Option Addr) (c:Nat) (x:Int) (w:World) :
  Calls prog 56 #[.slice a 0 c,.int .i64 x] w fun e j=>e=.returned (.bool false)/\j=w:=Any.slices_Contains_int_empty Tryz.Vx a c x w
def Tryz.Sq:Go.Shelf.Ren:=⟨fun| 110=>104| 109=>186|n=>n,fun| 31=>22| 9=>9| 4=>4| 3=>3| 0=>0|n=>n,fun|n=>n⟩
theorem Tryz.VD:Go.Proofs.Lays.n110 prog Tryz.Sq:={
 mixed:=by kernel_rfl
 f109:=func186.trans (congrArg some (by kernel_rfl))
 f110:=func104.trans (congrArg some (by kernel_rfl))
 t0:=underlying0
 a0:=Tryz.isAgg0
 z0:=Tryz.sizeOf0
 v0:=Tryz.zeroValue0
 t3:=underlying3
 a3:=Tryz.isAgg3
 z3:=Tryz.sizeOf3
 v3:=Tryz.zeroValue3
 t4:=underlying4
 a4:=Tryz.isAgg4
 z4:=Tryz.sizeOf4
 v4:=Tryz.zeroValue4
 t9:=underlying9
 a9:=Tryz.isAgg9
 z9:=Tryz.sizeOf9
 v9:=Tryz.zeroValue9
 t31:=underlying22
 a31:=Tryz.isAgg22
 z31:=Tryz.sizeOf22
 v31:=Tryz.zeroValue22}
open Go.Lib in
theorem Tryz.slices_Contains_string (b off n c:Nat) (o:List ByteArray) (x:ByteArray) (w:World) (I:n<=o.length) (p:n<=9223372036854775807) (J:∀j,j<o.length->w.cell? ⟨b,off+j,none⟩=some (.string (o.getD j ByteArray.empty))) :
  Calls prog 104 #[.slice (some ⟨b,off,none⟩) n c,.string x] w fun e R=>e=.returned (.bool (Lib.containsS (o.take n) x))/\R=w:=Any.slices_Contains_string Tryz.VD b off n c o x w I p J
open Go.Lib in
theorem Tryz.slices_Contains_string_empty (a:Option Addr) (c:Nat) (x:ByteArray) (w:World) :
  Calls prog 104 #[.slice a 0 c,.string x] w fun e j=>e=.returned (.bool false)/\j=w:=Any.slices_Contains_string_empty Tryz.VD a c x w
def Tryz.Ot:Go.Shelf.Ren:=⟨fun| 16=>120|n=>n,fun| 24=>22| 9=>9| 4=>4|n=>n,fun|n=>n⟩
theorem Tryz.Lj:Go.Proofs.Lays2.n16 prog Tryz.Ot:={
 mixed:=by kernel_rfl
 f16:=func120.trans (congrArg some (by kernel_rfl))
 t4:=underlying4
 a4:=Tryz.isAgg4
 z4:=Tryz.sizeOf4
 v4:=Tryz.zeroValue4
 t9:=underlying9
 a9:=Tryz.isAgg9
 z9:=Tryz.sizeOf9
 v9:=Tryz.zeroValue9
 t24:=underlying22
 a24:=Tryz.isAgg22
 z24:=Tryz.sizeOf22
 v24:=Tryz.zeroValue22
 i9:=by kernel_rfl}
open Go.RowKit Go.Lib in
theorem Tryz.slices_Clone_string (b off n c:Nat) (o:List ByteArray) (w:World) (R:n<=o.length) (p:n*16<=140737488355328) (U:∀j,j<o.length->w.cell? ⟨b,off+j,none⟩=some (.string (o.getD j ByteArray.empty))) :
  Calls prog 120 #[.slice (some ⟨b,off,none⟩) n c] w fun e J=>∃I,e=.returned I/\J.ownsRow w.heap.size 9 1 I n ((o.take n).map (Value.string))/\I≠.slice none 0 0/\Below w.heap.size w J:=Any.slices_Clone_string Tryz.Lj b off n c o w R p U
open Go.RowKit Go.Lib in
theorem Tryz.slices_Clone_string_nil (n c:Nat) (w:World) :
  Calls prog 120 #[.slice none n c] w fun e j=>e=.returned (.slice none 0 0)/\j=w:=Any.slices_Clone_string_nil Tryz.Lj n c w
open Go.RowKit Go.Lib in
theorem Tryz.slices_Clone_string_zero (a:Addr) (c:Nat) (w:World) :
  Calls prog 120 #[.slice (some a) 0 c] w fun e o=>∃j,e=.returned j/\o.ownsRow w.heap.size 9 1 j 0 []/\j≠.slice none 0 0/\Below w.heap.size w o:=Any.slices_Clone_string_zero Tryz.Lj a c w
def Tryz.Q3:Go.Shelf.Ren:=⟨fun| 194=>175|n=>n,fun| 31=>22| 9=>9| 3=>3| 4=>4| 0=>0|n=>n,fun|n=>n⟩
theorem Tryz.VC:Go.Proofs.Lays.n194 prog Tryz.Q3:={
 mixed:=by kernel_rfl
 f194:=func175.trans (congrArg some (by kernel_rfl))
 t0:=underlying0
 a0:=Tryz.isAgg0
 z0:=Tryz.sizeOf0
 v0:=Tryz.zeroValue0
 t3:=underlying3
 a3:=Tryz.isAgg3
 z3:=Tryz.sizeOf3
 v3:=Tryz.zeroValue3
 t4:=underlying4
 a4:=Tryz.isAgg4
 z4:=Tryz.sizeOf4
 v4:=Tryz.zeroValue4
 t9:=underlying9
 a9:=Tryz.isAgg9
 z9:=Tryz.sizeOf9
 v9:=Tryz.zeroValue9
 t31:=underlying22
 a31:=Tryz.isAgg22
 z31:=Tryz.sizeOf22
 v31:=Tryz.zeroValue22}
open Go.RowKit Go.Lib Go.Sort in
theorem Tryz.slices_Compact_string (Bq off cap:Nat) (j:List (List UInt8)) (w:World) (I:Holds encStr w Bq off j.toArray) (p:j.length<=9223372036854775807) (o:j.length<=cap) :
  Calls prog 175 #[.slice (some ⟨Bq,off,none⟩) j.length cap] w fun e J=>e=.returned (.slice (some ⟨Bq,off,none⟩) (Lib.compact j).length cap)/\∃q,J=putRow encStr (Sort.ahead w q) Bq off (Lib.compact j++List.replicate (j.length-(Lib.compact j).length) []).toArray:=Any.slices_Compact_string Tryz.VC Bq off cap j w I p o
open Go.RowKit Go.Lib Go.Sort in
theorem Tryz.slices_Compact_string_empty (a:Option Addr) (cap:Nat) (w:World) :
  Calls prog 175 #[.slice a 0 cap] w fun e j=>e=.returned (.slice a 0 cap)/\j=w:=Any.slices_Compact_string_empty Tryz.VC a cap w
open Go.RowKit Go.Sort in
theorem Tryz.slices_Sort_string_none (p:Option Addr) (cap:Nat) (w:World) :
  Calls prog 174 #[.slice p 0 cap] w fun e j=>e=.returned (.tuple #[])/\j=w:=Any.slices_Sort_string_none Tryz.Vu p cap w
open Go.RowKit Go.Sort in
theorem Tryz.slices_Sort_int_none (p:Option Addr) (cap:Nat) (w:World) :
  Calls prog 50 #[.slice p 0 cap] w fun e j=>e=.returned (.tuple #[])/\j=w:=Any.slices_Sort_int_none Tryz.V9 p cap w
end Go.Proofs
end
