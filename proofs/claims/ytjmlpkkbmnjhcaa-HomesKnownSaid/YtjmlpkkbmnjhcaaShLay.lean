import Derived.Shelf.Sort.Plain
import Derived.Shelf.Bits.Mul64
import Derived.Ground.NamesProg
import Derived.Test.YtjmlpkkbmnjhcaaProg
import Derived.Test.YtjmlpkkbmnjhcaaShStr
set_option linter.unusedVariables false
set_option linter.unusedSimpArgs false
set_option linter.unusedSectionVars false
namespace Go.Proofs.Ytjmlpkkbmnjhcaa
open Go.Shelf
def Try.lays189_ren:Go.Shelf.Ren:=⟨fun|189=>48|125=>67|257=>66|128=>85|129=>86|294=>76|295=>77|296=>78|297=>79|298=>80|299=>81|216=>82|300=>83|301=>84|328=>98|329=>99|330=>100|331=>101|332=>102|215=>103|343=>108|n=>n,fun|28=>30|3=>3|46=>66|0=>0|51=>96|53=>98|4=>4|183=>131|182=>130|131=>136|5=>5|9=>9|218=>146|222=>150|228=>154|229=>155|n=>n,fun|n=>n⟩
theorem Try.lays189:Go.Proofs.Lays.n189 Try.prog Try.lays189_ren:= {
 mixed:=by kernel_rfl
 f125:=Try.func67.trans (congrArg some (by kernel_rfl))
 f128:=Try.func85.trans (congrArg some (by kernel_rfl))
 f129:=Try.func86.trans (congrArg some (by kernel_rfl))
 f189:=Try.func48.trans (congrArg some (by kernel_rfl))
 f215:=Try.func103.trans (congrArg some (by kernel_rfl))
 f216:=Try.func82.trans (congrArg some (by kernel_rfl))
 f257:=Try.func66.trans (congrArg some (by kernel_rfl))
 f294:=Try.func76.trans (congrArg some (by kernel_rfl))
 f295:=Try.func77.trans (congrArg some (by kernel_rfl))
 f296:=Try.func78.trans (congrArg some (by kernel_rfl))
 f297:=Try.func79.trans (congrArg some (by kernel_rfl))
 f298:=Try.func80.trans (congrArg some (by kernel_rfl))
 f299:=Try.func81.trans (congrArg some (by kernel_rfl))
 f300:=Try.func83.trans (congrArg some (by kernel_rfl))
 f301:=Try.func84.trans (congrArg some (by kernel_rfl))
 f328:=Try.func98.trans (congrArg some (by kernel_rfl))
 f329:=Try.func99.trans (congrArg some (by kernel_rfl))
 f330:=Try.func100.trans (congrArg some (by kernel_rfl))
 f331:=Try.func101.trans (congrArg some (by kernel_rfl))
 f332:=Try.func102.trans (congrArg some (by kernel_rfl))
 f343:=Try.func108.trans (congrArg some (by kernel_rfl))
 t0:=Try.underlying0
 a0:=Try.isAgg0
 z0:=Try.sizeOf0
 v0:=Try.zeroValue0
 t3:=Try.underlying3
 a3:=Try.isAgg3
 z3:=Try.sizeOf3
 v3:=Try.zeroValue3
 t4:=Try.underlying4
 a4:=Try.isAgg4
 z4:=Try.sizeOf4
 v4:=Try.zeroValue4
 t5:=Try.underlying5
 a5:=Try.isAgg5
 z5:=Try.sizeOf5
 v5:=Try.zeroValue5
 t9:=Try.underlying9
 a9:=Try.isAgg9
 z9:=Try.sizeOf9
 v9:=Try.zeroValue9
 t28:=Try.underlying30
 a28:=Try.isAgg30
 z28:=Try.sizeOf30
 v28:=Try.zeroValue30
 t46:=Try.underlying66
 a46:=Try.isAgg66
 z46:=Try.sizeOf66
 v46:=Try.zeroValue66
 t51:=Try.underlying96
 a51:=Try.isAgg96
 z51:=Try.sizeOf96
 v51:=Try.zeroValue96
 t53:=Try.underlying98
 a53:=Try.isAgg98
 z53:=Try.sizeOf98
 v53:=Try.zeroValue98
 t131:=Try.underlying136
 a131:=Try.isAgg136
 z131:=Try.sizeOf136
 v131:=Try.zeroValue136
 t182:=Try.underlying130
 a182:=Try.isAgg130
 z182:=Try.sizeOf130
 v182:=Try.zeroValue130
 t183:=Try.underlying131
 a183:=Try.isAgg131
 z183:=Try.sizeOf131
 v183:=Try.zeroValue131
 t218:=Try.underlying146
 a218:=Try.isAgg146
 z218:=Try.sizeOf146
 v218:=Try.zeroValue146
 t222:=Try.underlying150
 a222:=Try.isAgg150
 z222:=Try.sizeOf150
 v222:=Try.zeroValue150
 t228:=Try.underlying154
 a228:=Try.isAgg154
 z228:=Try.sizeOf154
 v228:=Try.zeroValue154
 t229:=Try.underlying155
 a229:=Try.isAgg155
 z229:=Try.sizeOf155
 v229:=Try.zeroValue155}
end Go.Proofs.Ytjmlpkkbmnjhcaa
