import Derived.Shelf.Sort.Plain
import Derived.Shelf.Bits.Mul64
import Derived.Ground.NamesProg
import Derived.Test.YtkkcidhcfkmbjaaGreatDoorProg
import Derived.Test.YtkkcidhcfkmbjaaGreatDoorShAb
set_option linter.unusedVariables false
set_option linter.unusedSimpArgs false
set_option linter.unusedSectionVars false
namespace Go.Proofs.YtkkcidhcfkmbjaaGreatDoor
open Go.Shelf
def Tryz.lays189_ren:Go.Shelf.Ren:=⟨fun|189=>200|125=>173|257=>234|128=>216|129=>217|294=>261|295=>262|296=>263|297=>264|298=>265|299=>266|216=>267|300=>268|301=>269|328=>282|329=>236|330=>237|331=>283|332=>284|215=>168|343=>291|n=>n,fun|28=>40|3=>3|46=>259|0=>0|51=>303|53=>305|4=>4|183=>297|182=>296|131=>168|5=>5|9=>9|218=>321|222=>325|228=>345|229=>346|n=>n,fun|n=>n⟩
theorem Tryz.lays189:Go.Proofs.Lays.n189 Tryz.prog Tryz.lays189_ren:= {
 mixed:=by kernel_rfl
 f125:=Tryz.func173.trans (congrArg some (by kernel_rfl))
 f128:=Tryz.func216.trans (congrArg some (by kernel_rfl))
 f129:=Tryz.func217.trans (congrArg some (by kernel_rfl))
 f189:=Tryz.func200.trans (congrArg some (by kernel_rfl))
 f215:=Tryz.func168.trans (congrArg some (by kernel_rfl))
 f216:=Tryz.func267.trans (congrArg some (by kernel_rfl))
 f257:=Tryz.func234.trans (congrArg some (by kernel_rfl))
 f294:=Tryz.func261.trans (congrArg some (by kernel_rfl))
 f295:=Tryz.func262.trans (congrArg some (by kernel_rfl))
 f296:=Tryz.func263.trans (congrArg some (by kernel_rfl))
 f297:=Tryz.func264.trans (congrArg some (by kernel_rfl))
 f298:=Tryz.func265.trans (congrArg some (by kernel_rfl))
 f299:=Tryz.func266.trans (congrArg some (by kernel_rfl))
 f300:=Tryz.func268.trans (congrArg some (by kernel_rfl))
 f301:=Tryz.func269.trans (congrArg some (by kernel_rfl))
 f328:=Tryz.func282.trans (congrArg some (by kernel_rfl))
 f329:=Tryz.func236.trans (congrArg some (by kernel_rfl))
 f330:=Tryz.func237.trans (congrArg some (by kernel_rfl))
 f331:=Tryz.func283.trans (congrArg some (by kernel_rfl))
 f332:=Tryz.func284.trans (congrArg some (by kernel_rfl))
 f343:=Tryz.func291.trans (congrArg some (by kernel_rfl))
 t0:=Tryz.underlying0
 a0:=Tryz.isAgg0
 z0:=Tryz.sizeOf0
 v0:=Tryz.zeroValue0
 t3:=Tryz.underlying3
 a3:=Tryz.isAgg3
 z3:=Tryz.sizeOf3
 v3:=Tryz.zeroValue3
 t4:=Tryz.underlying4
 a4:=Tryz.isAgg4
 z4:=Tryz.sizeOf4
 v4:=Tryz.zeroValue4
 t5:=Tryz.underlying5
 a5:=Tryz.isAgg5
 z5:=Tryz.sizeOf5
 v5:=Tryz.zeroValue5
 t9:=Tryz.underlying9
 a9:=Tryz.isAgg9
 z9:=Tryz.sizeOf9
 v9:=Tryz.zeroValue9
 t28:=Tryz.underlying40
 a28:=Tryz.isAgg40
 z28:=Tryz.sizeOf40
 v28:=Tryz.zeroValue40
 t46:=Tryz.underlying259
 a46:=Tryz.isAgg259
 z46:=Tryz.sizeOf259
 v46:=Tryz.zeroValue259
 t51:=Tryz.underlying303
 a51:=Tryz.isAgg303
 z51:=Tryz.sizeOf303
 v51:=Tryz.zeroValue303
 t53:=Tryz.underlying305
 a53:=Tryz.isAgg305
 z53:=Tryz.sizeOf305
 v53:=Tryz.zeroValue305
 t131:=Tryz.underlying168
 a131:=Tryz.isAgg168
 z131:=Tryz.sizeOf168
 v131:=Tryz.zeroValue168
 t182:=Tryz.underlying296
 a182:=Tryz.isAgg296
 z182:=Tryz.sizeOf296
 v182:=Tryz.zeroValue296
 t183:=Tryz.underlying297
 a183:=Tryz.isAgg297
 z183:=Tryz.sizeOf297
 v183:=Tryz.zeroValue297
 t218:=Tryz.underlying321
 a218:=Tryz.isAgg321
 z218:=Tryz.sizeOf321
 v218:=Tryz.zeroValue321
 t222:=Tryz.underlying325
 a222:=Tryz.isAgg325
 z222:=Tryz.sizeOf325
 v222:=Tryz.zeroValue325
 t228:=Tryz.underlying345
 a228:=Tryz.isAgg345
 z228:=Tryz.sizeOf345
 v228:=Tryz.zeroValue345
 t229:=Tryz.underlying346
 a229:=Tryz.isAgg346
 z229:=Tryz.sizeOf346
 v229:=Tryz.zeroValue346}
def Tryz.lays212_ren:Go.Shelf.Ren:=⟨fun|212=>197|263=>230|264=>231|n=>n,fun|46=>259|51=>303|146=>313|53=>305|148=>315|n=>n,fun|n=>n⟩
theorem Tryz.lays212:Go.Proofs.Lays.n212 Tryz.prog Tryz.lays212_ren:= {
 mixed:=by kernel_rfl
 f212:=Tryz.func197.trans (congrArg some (by kernel_rfl))
 f263:=Tryz.func230.trans (congrArg some (by kernel_rfl))
 f264:=Tryz.func231.trans (congrArg some (by kernel_rfl))
 t46:=Tryz.underlying259
 a46:=Tryz.isAgg259
 z46:=Tryz.sizeOf259
 v46:=Tryz.zeroValue259
 t51:=Tryz.underlying303
 a51:=Tryz.isAgg303
 z51:=Tryz.sizeOf303
 v51:=Tryz.zeroValue303
 t53:=Tryz.underlying305
 a53:=Tryz.isAgg305
 z53:=Tryz.sizeOf305
 v53:=Tryz.zeroValue305
 t146:=Tryz.underlying313
 a146:=Tryz.isAgg313
 z146:=Tryz.sizeOf313
 v146:=Tryz.zeroValue313
 t148:=Tryz.underlying315
 a148:=Tryz.isAgg315
 z148:=Tryz.sizeOf315
 v148:=Tryz.zeroValue315}
end Go.Proofs.YtkkcidhcfkmbjaaGreatDoor
