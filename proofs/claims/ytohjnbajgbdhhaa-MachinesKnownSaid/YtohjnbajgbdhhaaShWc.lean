import Derived.Test.YtohjnbajgbdhhaaShWb
import Derived.Test.YtohjnbajgbdhhaaRows
set_option linter.unusedVariables false
set_option linter.unusedSimpArgs false
namespace Go.Proofs.Ytohjnbajgbdhhaa
namespace GV
open Go.IntWalk
set_option maxRecDepth 100000
set_option maxHeartbeats 20000000
theorem zcs:Enters Try.prog 19:=enters_of Try.func19 rfl (by kernel_rfl)
end GV
end Go.Proofs.Ytohjnbajgbdhhaa
