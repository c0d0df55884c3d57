import Derived.Shelf.Sort.Plain
import Derived.Shelf.Bits.Mul64
import Derived.Ground.NamesProg
import Derived.Test.YtkhihcleegljhaaProg
import Derived.Test.YtkhihcleegljhaaShBit
set_option linter.unusedVariables false
set_option linter.unusedSimpArgs false
set_option linter.unusedSectionVars false
namespace Go.Proofs.Ytkhihcleegljhaa
open Go.Shelf
def Try.lays189_ren:Go.Shelf.Ren:=⟨fun|189=>34|125=>50|257=>49|128=>73|129=>74|294=>64|295=>65|296=>66|297=>67|298=>68|299=>69|216=>70|300=>71|301=>72|328=>82|329=>83|330=>84|331=>85|332=>86|215=>87|343=>101|n=>n,fun|28=>33|3=>3|46=>55|0=>0|51=>104|53=>106|4=>4|183=>98|182=>97|131=>68|5=>5|9=>9|218=>114|222=>118|228=>128|229=>129|n=>n,fun|n=>n⟩
theorem Try.lays189:Go.Proofs.Lays.n189 Try.prog Try.lays189_ren:= {
 mixed:=by kernel_rfl
 f125:=Try.func50.trans (congrArg some (by kernel_rfl))
 f128:=Try.func73.trans (congrArg some (by kernel_rfl))
 f129:=Try.func74.trans (congrArg some (by kernel_rfl))
 f189:=Try.func34.trans (congrArg some (by kernel_rfl))
 f215:=Try.func87.trans (congrArg some (by kernel_rfl))
 f216:=Try.func70.trans (congrArg some (by kernel_rfl))
 f257:=Try.func49.trans (congrArg some (by kernel_rfl))
 f294:=Try.func64.trans (congrArg some (by kernel_rfl))
 f295:=Try.func65.trans (congrArg some (by kernel_rfl))
 f296:=Try.func66.trans (congrArg some (by kernel_rfl))
 f297:=Try.func67.trans (congrArg some (by kernel_rfl))
 f298:=Try.func68.trans (congrArg some (by kernel_rfl))
 f299:=Try.func69.trans (congrArg some (by kernel_rfl))
 f300:=Try.func71.trans (congrArg some (by kernel_rfl))
 f301:=Try.func72.trans (congrArg some (by kernel_rfl))
 f328:=Try.func82.trans (congrArg some (by kernel_rfl))
 f329:=Try.func83.trans (congrArg some (by kernel_rfl))
 f330:=Try.func84.trans (congrArg some (by kernel_rfl))
 f331:=Try.func85.trans (congrArg some (by kernel_rfl))
 f332:=Try.func86.trans (congrArg some (by kernel_rfl))
 f343:=Try.func101.trans (congrArg some (by kernel_rfl))
 t0:=Try.underlying0
 a0:=Try.isAgg0
 z0:=Try.sizeOf0
 v0:=Try.zeroValue0
 t3:=Try.underlying3
 a3:=Try.isAgg3
 z3:=Try.sizeOf3
 v3:=Try.zeroValue3
 t4:=Try.underlying4
 a4:=Try.isAgg4
 z4:=Try.sizeOf4
 v4:=Try.zeroValue4
 t5:=Try.underlying5
 a5:=Try.isAgg5
 z5:=Try.sizeOf5
 v5:=Try.zeroValue5
 t9:=Try.underlying9
 a9:=Try.isAgg9
 z9:=Try.sizeOf9
 v9:=Try.zeroValue9
 t28:=Try.underlying33
 a28:=Try.isAgg33
 z28:=Try.sizeOf33
 v28:=Try.zeroValue33
 t46:=Try.underlying55
 a46:=Try.isAgg55
 z46:=Try.sizeOf55
 v46:=Try.zeroValue55
 t51:=Try.underlying104
 a51:=Try.isAgg104
 z51:=Try.sizeOf104
 v51:=Try.zeroValue104
 t53:=Try.underlying106
 a53:=Try.isAgg106
 z53:=Try.sizeOf106
 v53:=Try.zeroValue106
 t131:=Try.underlying68
 a131:=Try.isAgg68
 z131:=Try.sizeOf68
 v131:=Try.zeroValue68
 t182:=Try.underlying97
 a182:=Try.isAgg97
 z182:=Try.sizeOf97
 v182:=Try.zeroValue97
 t183:=Try.underlying98
 a183:=Try.isAgg98
 z183:=Try.sizeOf98
 v183:=Try.zeroValue98
 t218:=Try.underlying114
 a218:=Try.isAgg114
 z218:=Try.sizeOf114
 v218:=Try.zeroValue114
 t222:=Try.underlying118
 a222:=Try.isAgg118
 z222:=Try.sizeOf118
 v222:=Try.zeroValue118
 t228:=Try.underlying128
 a228:=Try.isAgg128
 z228:=Try.sizeOf128
 v228:=Try.zeroValue128
 t229:=Try.underlying129
 a229:=Try.isAgg129
 z229:=Try.sizeOf129
 v229:=Try.zeroValue129}
end Go.Proofs.Ytkhihcleegljhaa
