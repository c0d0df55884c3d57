import Derived.Test.YtncblcdhmcmkmaaShWc
import Derived.Test.YtncblcdhmcmkmaaRows
set_option linter.unusedVariables false
set_option linter.unusedSimpArgs false
namespace Go.Proofs.Ytncblcdhmcmkmaa
namespace GV
open Go.IntWalk
set_option maxRecDepth 100000
set_option maxHeartbeats 20000000
theorem zil:Enters Try.prog 18:=enters_of Try.func18 rfl (by kernel_rfl)
end GV
end Go.Proofs.Ytncblcdhmcmkmaa
