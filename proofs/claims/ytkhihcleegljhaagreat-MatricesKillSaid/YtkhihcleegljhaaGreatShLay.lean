import Derived.Shelf.Sort.Plain
import Derived.Shelf.Bits.Mul64
import Derived.Ground.NamesProg
import Derived.Test.YtkhihcleegljhaaGreatProg
import Derived.Test.YtkhihcleegljhaaGreatShBit
set_option linter.unusedVariables false
set_option linter.unusedSimpArgs false
namespace Go.Proofs.YtkhihcleegljhaaGreat
open Go.Shelf
def Tryz.lays189_ren:Go.Shelf.Ren:=⟨fun|189=>55|125=>82|257=>81|128=>102|129=>103|294=>93|295=>94|296=>95|297=>96|298=>97|299=>98|216=>99|300=>100|301=>101|328=>120|329=>121|330=>122|331=>123|332=>124|215=>125|343=>130|n=>n,fun|28=>40|3=>3|46=>93|0=>0|51=>147|53=>149|4=>4|183=>141|182=>140|131=>103|5=>5|9=>9|218=>159|222=>163|228=>167|229=>168|n=>n,fun|n=>n⟩
theorem Tryz.lays189:Go.Proofs.Lays.n189 Tryz.prog Tryz.lays189_ren:= {
 mixed:=by kernel_rfl
 f125:=Tryz.func82.trans (congrArg some (by kernel_rfl))
 f128:=Tryz.func102.trans (congrArg some (by kernel_rfl))
 f129:=Tryz.func103.trans (congrArg some (by kernel_rfl))
 f189:=Tryz.func55.trans (congrArg some (by kernel_rfl))
 f215:=Tryz.func125.trans (congrArg some (by kernel_rfl))
 f216:=Tryz.func99.trans (congrArg some (by kernel_rfl))
 f257:=Tryz.func81.trans (congrArg some (by kernel_rfl))
 f294:=Tryz.func93.trans (congrArg some (by kernel_rfl))
 f295:=Tryz.func94.trans (congrArg some (by kernel_rfl))
 f296:=Tryz.func95.trans (congrArg some (by kernel_rfl))
 f297:=Tryz.func96.trans (congrArg some (by kernel_rfl))
 f298:=Tryz.func97.trans (congrArg some (by kernel_rfl))
 f299:=Tryz.func98.trans (congrArg some (by kernel_rfl))
 f300:=Tryz.func100.trans (congrArg some (by kernel_rfl))
 f301:=Tryz.func101.trans (congrArg some (by kernel_rfl))
 f328:=Tryz.func120.trans (congrArg some (by kernel_rfl))
 f329:=Tryz.func121.trans (congrArg some (by kernel_rfl))
 f330:=Tryz.func122.trans (congrArg some (by kernel_rfl))
 f331:=Tryz.func123.trans (congrArg some (by kernel_rfl))
 f332:=Tryz.func124.trans (congrArg some (by kernel_rfl))
 f343:=Tryz.func130.trans (congrArg some (by kernel_rfl))
 t0:=Tryz.underlying0
 a0:=Tryz.isAgg0
 z0:=Tryz.sizeOf0
 v0:=Tryz.zeroValue0
 t3:=Tryz.underlying3
 a3:=Tryz.isAgg3
 z3:=Tryz.sizeOf3
 v3:=Tryz.zeroValue3
 t4:=Tryz.underlying4
 a4:=Tryz.isAgg4
 z4:=Tryz.sizeOf4
 v4:=Tryz.zeroValue4
 t5:=Tryz.underlying5
 a5:=Tryz.isAgg5
 z5:=Tryz.sizeOf5
 v5:=Tryz.zeroValue5
 t9:=Tryz.underlying9
 a9:=Tryz.isAgg9
 z9:=Tryz.sizeOf9
 v9:=Tryz.zeroValue9
 t28:=Tryz.underlying40
 a28:=Tryz.isAgg40
 z28:=Tryz.sizeOf40
 v28:=Tryz.zeroValue40
 t46:=Tryz.underlying93
 a46:=Tryz.isAgg93
 z46:=Tryz.sizeOf93
 v46:=Tryz.zeroValue93
 t51:=Tryz.underlying147
 a51:=Tryz.isAgg147
 z51:=Tryz.sizeOf147
 v51:=Tryz.zeroValue147
 t53:=Tryz.underlying149
 a53:=Tryz.isAgg149
 z53:=Tryz.sizeOf149
 v53:=Tryz.zeroValue149
 t131:=Tryz.underlying103
 a131:=Tryz.isAgg103
 z131:=Tryz.sizeOf103
 v131:=Tryz.zeroValue103
 t182:=Tryz.underlying140
 a182:=Tryz.isAgg140
 z182:=Tryz.sizeOf140
 v182:=Tryz.zeroValue140
 t183:=Tryz.underlying141
 a183:=Tryz.isAgg141
 z183:=Tryz.sizeOf141
 v183:=Tryz.zeroValue141
 t218:=Tryz.underlying159
 a218:=Tryz.isAgg159
 z218:=Tryz.sizeOf159
 v218:=Tryz.zeroValue159
 t222:=Tryz.underlying163
 a222:=Tryz.isAgg163
 z222:=Tryz.sizeOf163
 v222:=Tryz.zeroValue163
 t228:=Tryz.underlying167
 a228:=Tryz.isAgg167
 z228:=Tryz.sizeOf167
 v228:=Tryz.zeroValue167
 t229:=Tryz.underlying168
 a229:=Tryz.isAgg168
 z229:=Tryz.sizeOf168
 v229:=Tryz.zeroValue168}
end Go.Proofs.YtkhihcleegljhaaGreat
