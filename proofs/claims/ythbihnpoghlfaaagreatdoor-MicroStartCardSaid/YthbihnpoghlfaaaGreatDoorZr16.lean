import Derived.Shelf.SlicesQ.IndexFunc
import Derived.Shelf.SlicesE.IndexFunc
import Derived.Ground.SlgfProg
import Derived.Test.YthbihnpoghlfaaaGreatDoorProg
set_option linter.unusedVariables false
set_option linter.unusedSimpArgs false
set_option maxHeartbeats 8000000
set_option maxRecDepth 100000
section
namespace Go.Proofs
open Go.Shelf
def Tryz.Xr:Go.Shelf.Ren:=⟨fun| 6=>221|n=>n,fun| 22=>23| 23=>66| 25=>212| 3=>3| 0=>0| 4=>4|n=>n,fun|n=>n⟩
theorem Tryz.ZcL:Go.Proofs.SlLaysH0.n6 prog Tryz.Xr:={
 mixed:=by kernel_rfl
 f6:=⟨Tryz.f221.name,by decide,func221.trans (congrArg some (by kernel_rfl))⟩
 t0:=underlying0
 a0:=Tryz.isAgg0
 z0:=Tryz.sizeOf0
 v0:=Tryz.zeroValue0
 t3:=underlying3
 a3:=Tryz.isAgg3
 z3:=Tryz.sizeOf3
 v3:=Tryz.zeroValue3
 t4:=underlying4
 a4:=Tryz.isAgg4
 z4:=Tryz.sizeOf4
 v4:=Tryz.zeroValue4
 t22:=underlying23
 a22:=Tryz.isAgg23
 z22:=Tryz.sizeOf23
 v22:=Tryz.zeroValue23
 t25:=underlying212
 a25:=Tryz.isAgg212
 z25:=Tryz.sizeOf212
 v25:=Tryz.zeroValue212}
def Tryz.Rf:Go.Shelf.Ren:=⟨fun| 6=>187|n=>n,fun| 22=>24| 23=>54| 25=>129| 3=>3| 0=>0| 4=>4|n=>n,fun|n=>n⟩
theorem Tryz.ZaH:Go.Proofs.SlLaysH0.n6 prog Tryz.Rf:={
 mixed:=by kernel_rfl
 f6:=⟨Tryz.f187.name,by decide,func187.trans (congrArg some (by kernel_rfl))⟩
 t0:=underlying0
 a0:=Tryz.isAgg0
 z0:=Tryz.sizeOf0
 v0:=Tryz.zeroValue0
 t3:=underlying3
 a3:=Tryz.isAgg3
 z3:=Tryz.sizeOf3
 v3:=Tryz.zeroValue3
 t4:=underlying4
 a4:=Tryz.isAgg4
 z4:=Tryz.sizeOf4
 v4:=Tryz.zeroValue4
 t22:=underlying24
 a22:=Tryz.isAgg24
 z22:=Tryz.sizeOf24
 v22:=Tryz.zeroValue24
 t25:=underlying129
 a25:=Tryz.isAgg129
 z25:=Tryz.sizeOf129
 v25:=Tryz.zeroValue129}
def Tryz.XG:Go.Shelf.Ren:=⟨fun| 8=>259| 6=>313|n=>n,fun| 22=>30| 23=>60| 25=>72| 4=>4| 3=>3| 0=>0|n=>n,fun|n=>n⟩
theorem Tryz.ZcU:Go.Proofs.SlLaysH0.n8 prog Tryz.XG:={
 mixed:=by kernel_rfl
 f6:=⟨Tryz.f313.name,by decide,func313.trans (congrArg some (by kernel_rfl))⟩
 f8:=⟨Tryz.f259.name,by decide,func259.trans (congrArg some (by kernel_rfl))⟩
 t0:=underlying0
 a0:=Tryz.isAgg0
 z0:=Tryz.sizeOf0
 v0:=Tryz.zeroValue0
 t3:=underlying3
 a3:=Tryz.isAgg3
 z3:=Tryz.sizeOf3
 v3:=Tryz.zeroValue3
 t4:=underlying4
 a4:=Tryz.isAgg4
 z4:=Tryz.sizeOf4
 v4:=Tryz.zeroValue4
 t22:=underlying30
 a22:=Tryz.isAgg30
 z22:=Tryz.sizeOf30
 v22:=Tryz.zeroValue30
 t25:=underlying72
 a25:=Tryz.isAgg72
 z25:=Tryz.sizeOf72
 v25:=Tryz.zeroValue72}
def Tryz.UE:Go.Shelf.Ren:=⟨fun| 8=>374| 6=>396|n=>n,fun| 22=>48| 23=>248| 25=>343| 4=>4| 3=>3| 0=>0|n=>n,fun|n=>n⟩
theorem Tryz.Zcy:Go.Proofs.SlLaysH0.n8 prog Tryz.UE:={
 mixed:=by kernel_rfl
 f6:=⟨Tryz.f396.name,by decide,func396.trans (congrArg some (by kernel_rfl))⟩
 f8:=⟨Tryz.f374.name,by decide,func374.trans (congrArg some (by kernel_rfl))⟩
 t0:=underlying0
 a0:=Tryz.isAgg0
 z0:=Tryz.sizeOf0
 v0:=Tryz.zeroValue0
 t3:=underlying3
 a3:=Tryz.isAgg3
 z3:=Tryz.sizeOf3
 v3:=Tryz.zeroValue3
 t4:=underlying4
 a4:=Tryz.isAgg4
 z4:=Tryz.sizeOf4
 v4:=Tryz.zeroValue4
 t22:=underlying48
 a22:=Tryz.isAgg48
 z22:=Tryz.sizeOf48
 v22:=Tryz.zeroValue48
 t25:=underlying343
 a25:=Tryz.isAgg343
 z25:=Tryz.sizeOf343
 v25:=Tryz.zeroValue343}
def Tryz.Ww:Go.Shelf.Ren:=⟨fun| 8=>85| 6=>173|n=>n,fun| 22=>22| 23=>9| 25=>104| 4=>4| 3=>3| 0=>0|n=>n,fun|n=>n⟩
theorem Tryz.ZbC:Go.Proofs.SlLaysH.n8 prog Tryz.Ww:={
 mixed:=by kernel_rfl
 f6:=⟨Tryz.f173.name,by decide,func173.trans (congrArg some (by kernel_rfl))⟩
 f8:=⟨Tryz.f85.name,by decide,func85.trans (congrArg some (by kernel_rfl))⟩
 t0:=underlying0
 a0:=Tryz.isAgg0
 z0:=Tryz.sizeOf0
 v0:=Tryz.zeroValue0
 t3:=underlying3
 a3:=Tryz.isAgg3
 z3:=Tryz.sizeOf3
 v3:=Tryz.zeroValue3
 t4:=underlying4
 a4:=Tryz.isAgg4
 z4:=Tryz.sizeOf4
 v4:=Tryz.zeroValue4
 t22:=underlying22
 a22:=Tryz.isAgg22
 z22:=Tryz.sizeOf22
 v22:=Tryz.zeroValue22
 a23:=Tryz.isAgg9
 z23:=Tryz.sizeOf9
 t25:=underlying104
 a25:=Tryz.isAgg104
 z25:=Tryz.sizeOf104
 v25:=Tryz.zeroValue104}
end Go.Proofs
end
