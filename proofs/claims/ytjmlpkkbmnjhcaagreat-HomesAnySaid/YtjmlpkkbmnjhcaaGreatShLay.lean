import Derived.Shelf.Sort.Plain
import Derived.Shelf.Bits.Mul64
import Derived.Ground.NamesProg
import Derived.Test.YtjmlpkkbmnjhcaaGreatProg
import Derived.Test.YtjmlpkkbmnjhcaaGreatShStr
set_option linter.unusedVariables false
set_option linter.unusedSimpArgs false
set_option linter.unusedSectionVars false
namespace Go.Proofs.YtjmlpkkbmnjhcaaGreat
open Go.Shelf
def Tryz.lays189_ren:Go.Shelf.Ren:=⟨fun|189=>50|125=>82|257=>81|128=>102|129=>103|294=>93|295=>94|296=>95|297=>96|298=>97|299=>98|216=>99|300=>100|301=>101|328=>119|329=>120|330=>121|331=>122|332=>123|215=>124|343=>131|n=>n,fun|28=>30|3=>3|46=>102|0=>0|51=>132|53=>134|4=>4|183=>143|182=>142|131=>148|5=>5|9=>9|218=>163|222=>167|228=>173|229=>47|n=>n,fun|n=>n⟩
theorem Tryz.lays189:Go.Proofs.Lays.n189 Tryz.prog Tryz.lays189_ren:= {
 mixed:=by kernel_rfl
 f125:=Tryz.func82.trans (congrArg some (by kernel_rfl))
 f128:=Tryz.func102.trans (congrArg some (by kernel_rfl))
 f129:=Tryz.func103.trans (congrArg some (by kernel_rfl))
 f189:=Tryz.func50.trans (congrArg some (by kernel_rfl))
 f215:=Tryz.func124.trans (congrArg some (by kernel_rfl))
 f216:=Tryz.func99.trans (congrArg some (by kernel_rfl))
 f257:=Tryz.func81.trans (congrArg some (by kernel_rfl))
 f294:=Tryz.func93.trans (congrArg some (by kernel_rfl))
 f295:=Tryz.func94.trans (congrArg some (by kernel_rfl))
 f296:=Tryz.func95.trans (congrArg some (by kernel_rfl))
 f297:=Tryz.func96.trans (congrArg some (by kernel_rfl))
 f298:=Tryz.func97.trans (congrArg some (by kernel_rfl))
 f299:=Tryz.func98.trans (congrArg some (by kernel_rfl))
 f300:=Tryz.func100.trans (congrArg some (by kernel_rfl))
 f301:=Tryz.func101.trans (congrArg some (by kernel_rfl))
 f328:=Tryz.func119.trans (congrArg some (by kernel_rfl))
 f329:=Tryz.func120.trans (congrArg some (by kernel_rfl))
 f330:=Tryz.func121.trans (congrArg some (by kernel_rfl))
 f331:=Tryz.func122.trans (congrArg some (by kernel_rfl))
 f332:=Tryz.func123.trans (congrArg some (by kernel_rfl))
 f343:=Tryz.func131.trans (congrArg some (by kernel_rfl))
 t0:=Tryz.underlying0
 a0:=Tryz.isAgg0
 z0:=Tryz.sizeOf0
 v0:=Tryz.zeroValue0
 t3:=Tryz.underlying3
 a3:=Tryz.isAgg3
 z3:=Tryz.sizeOf3
 v3:=Tryz.zeroValue3
 t4:=Tryz.underlying4
 a4:=Tryz.isAgg4
 z4:=Tryz.sizeOf4
 v4:=Tryz.zeroValue4
 t5:=Tryz.underlying5
 a5:=Tryz.isAgg5
 z5:=Tryz.sizeOf5
 v5:=Tryz.zeroValue5
 t9:=Tryz.underlying9
 a9:=Tryz.isAgg9
 z9:=Tryz.sizeOf9
 v9:=Tryz.zeroValue9
 t28:=Tryz.underlying30
 a28:=Tryz.isAgg30
 z28:=Tryz.sizeOf30
 v28:=Tryz.zeroValue30
 t46:=Tryz.underlying102
 a46:=Tryz.isAgg102
 z46:=Tryz.sizeOf102
 v46:=Tryz.zeroValue102
 t51:=Tryz.underlying132
 a51:=Tryz.isAgg132
 z51:=Tryz.sizeOf132
 v51:=Tryz.zeroValue132
 t53:=Tryz.underlying134
 a53:=Tryz.isAgg134
 z53:=Tryz.sizeOf134
 v53:=Tryz.zeroValue134
 t131:=Tryz.underlying148
 a131:=Tryz.isAgg148
 z131:=Tryz.sizeOf148
 v131:=Tryz.zeroValue148
 t182:=Tryz.underlying142
 a182:=Tryz.isAgg142
 z182:=Tryz.sizeOf142
 v182:=Tryz.zeroValue142
 t183:=Tryz.underlying143
 a183:=Tryz.isAgg143
 z183:=Tryz.sizeOf143
 v183:=Tryz.zeroValue143
 t218:=Tryz.underlying163
 a218:=Tryz.isAgg163
 z218:=Tryz.sizeOf163
 v218:=Tryz.zeroValue163
 t222:=Tryz.underlying167
 a222:=Tryz.isAgg167
 z222:=Tryz.sizeOf167
 v222:=Tryz.zeroValue167
 t228:=Tryz.underlying173
 a228:=Tryz.isAgg173
 z228:=Tryz.sizeOf173
 v228:=Tryz.zeroValue173
 t229:=Tryz.underlying47
 a229:=Tryz.isAgg47
 z229:=Tryz.sizeOf47
 v229:=Tryz.zeroValue47}
end Go.Proofs.YtjmlpkkbmnjhcaaGreat
