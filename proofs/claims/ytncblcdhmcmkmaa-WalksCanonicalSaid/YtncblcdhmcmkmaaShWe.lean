/- The walks of the functions; printed. -/
import Derived.Test.YtncblcdhmcmkmaaShWd
import Derived.Test.YtncblcdhmcmkmaaRows
namespace Go.Proofs.Ytncblcdhmcmkmaa
namespace GV
open Go.IntWalk
set_option linter.unusedVariables false
set_option linter.unusedSimpArgs false
set_option maxRecDepth 100000
set_option maxHeartbeats 20000000
theorem en18 : Enters Try.prog 18 := enters_of Try.func18 rfl (by kernel_rfl)
end GV
end Go.Proofs.Ytncblcdhmcmkmaa
