import Derived.Shelf.Sort.Plain
import Derived.Shelf.Bits.Mul64
import Derived.Ground.NamesProg
import Derived.Test.YtncblcdhmcmkmaaProg
import Derived.Test.YtncblcdhmcmkmaaShDrw
set_option linter.unusedVariables false
set_option linter.unusedSimpArgs false
namespace Go.Proofs.Ytncblcdhmcmkmaa
open Go.Shelf
def Try.lays189_ren:Go.Shelf.Ren:=⟨fun|189=>61|125=>75|257=>74|128=>88|129=>89|294=>79|295=>80|296=>81|297=>82|298=>83|299=>84|216=>85|300=>86|301=>87|328=>90|329=>91|330=>92|331=>93|332=>94|215=>95|343=>96|n=>n,fun|28=>36|3=>3|46=>111|0=>0|51=>122|53=>125|4=>4|183=>130|182=>129|131=>135|5=>5|9=>9|218=>139|222=>143|228=>145|229=>146|n=>n,fun|n=>n⟩
theorem Try.lays189:Go.Proofs.Lays.n189 Try.prog Try.lays189_ren:= {
 mixed:=by kernel_rfl
 f125:=Try.func75.trans (congrArg some (by kernel_rfl))
 f128:=Try.func88.trans (congrArg some (by kernel_rfl))
 f129:=Try.func89.trans (congrArg some (by kernel_rfl))
 f189:=Try.func61.trans (congrArg some (by kernel_rfl))
 f215:=Try.func95.trans (congrArg some (by kernel_rfl))
 f216:=Try.func85.trans (congrArg some (by kernel_rfl))
 f257:=Try.func74.trans (congrArg some (by kernel_rfl))
 f294:=Try.func79.trans (congrArg some (by kernel_rfl))
 f295:=Try.func80.trans (congrArg some (by kernel_rfl))
 f296:=Try.func81.trans (congrArg some (by kernel_rfl))
 f297:=Try.func82.trans (congrArg some (by kernel_rfl))
 f298:=Try.func83.trans (congrArg some (by kernel_rfl))
 f299:=Try.func84.trans (congrArg some (by kernel_rfl))
 f300:=Try.func86.trans (congrArg some (by kernel_rfl))
 f301:=Try.func87.trans (congrArg some (by kernel_rfl))
 f328:=Try.func90.trans (congrArg some (by kernel_rfl))
 f329:=Try.func91.trans (congrArg some (by kernel_rfl))
 f330:=Try.func92.trans (congrArg some (by kernel_rfl))
 f331:=Try.func93.trans (congrArg some (by kernel_rfl))
 f332:=Try.func94.trans (congrArg some (by kernel_rfl))
 f343:=Try.func96.trans (congrArg some (by kernel_rfl))
 t0:=Try.underlying0
 a0:=Try.isAgg0
 z0:=Try.sizeOf0
 v0:=Try.zeroValue0
 t3:=Try.underlying3
 a3:=Try.isAgg3
 z3:=Try.sizeOf3
 v3:=Try.zeroValue3
 t4:=Try.underlying4
 a4:=Try.isAgg4
 z4:=Try.sizeOf4
 v4:=Try.zeroValue4
 t5:=Try.underlying5
 a5:=Try.isAgg5
 z5:=Try.sizeOf5
 v5:=Try.zeroValue5
 t9:=Try.underlying9
 a9:=Try.isAgg9
 z9:=Try.sizeOf9
 v9:=Try.zeroValue9
 t28:=Try.underlying36
 a28:=Try.isAgg36
 z28:=Try.sizeOf36
 v28:=Try.zeroValue36
 t46:=Try.underlying111
 a46:=Try.isAgg111
 z46:=Try.sizeOf111
 v46:=Try.zeroValue111
 t51:=Try.underlying122
 a51:=Try.isAgg122
 z51:=Try.sizeOf122
 v51:=Try.zeroValue122
 t53:=Try.underlying125
 a53:=Try.isAgg125
 z53:=Try.sizeOf125
 v53:=Try.zeroValue125
 t131:=Try.underlying135
 a131:=Try.isAgg135
 z131:=Try.sizeOf135
 v131:=Try.zeroValue135
 t182:=Try.underlying129
 a182:=Try.isAgg129
 z182:=Try.sizeOf129
 v182:=Try.zeroValue129
 t183:=Try.underlying130
 a183:=Try.isAgg130
 z183:=Try.sizeOf130
 v183:=Try.zeroValue130
 t218:=Try.underlying139
 a218:=Try.isAgg139
 z218:=Try.sizeOf139
 v218:=Try.zeroValue139
 t222:=Try.underlying143
 a222:=Try.isAgg143
 z222:=Try.sizeOf143
 v222:=Try.zeroValue143
 t228:=Try.underlying145
 a228:=Try.isAgg145
 z228:=Try.sizeOf145
 v228:=Try.zeroValue145
 t229:=Try.underlying146
 a229:=Try.isAgg146
 z229:=Try.sizeOf146
 v229:=Try.zeroValue146}
def Try.lays212_ren:Go.Shelf.Ren:=⟨fun|212=>69|263=>77|264=>78|n=>n,fun|46=>111|51=>122|146=>123|53=>125|148=>126|n=>n,fun|n=>n⟩
theorem Try.lays212:Go.Proofs.Lays.n212 Try.prog Try.lays212_ren:= {
 mixed:=by kernel_rfl
 f212:=Try.func69.trans (congrArg some (by kernel_rfl))
 f263:=Try.func77.trans (congrArg some (by kernel_rfl))
 f264:=Try.func78.trans (congrArg some (by kernel_rfl))
 t46:=Try.underlying111
 a46:=Try.isAgg111
 z46:=Try.sizeOf111
 v46:=Try.zeroValue111
 t51:=Try.underlying122
 a51:=Try.isAgg122
 z51:=Try.sizeOf122
 v51:=Try.zeroValue122
 t53:=Try.underlying125
 a53:=Try.isAgg125
 z53:=Try.sizeOf125
 v53:=Try.zeroValue125
 t146:=Try.underlying123
 a146:=Try.isAgg123
 z146:=Try.sizeOf123
 v146:=Try.zeroValue123
 t148:=Try.underlying126
 a148:=Try.isAgg126
 z148:=Try.sizeOf126
 v148:=Try.zeroValue126}
end Go.Proofs.Ytncblcdhmcmkmaa
