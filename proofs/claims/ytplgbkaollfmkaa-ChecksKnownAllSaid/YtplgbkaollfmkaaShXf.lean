import Derived.Test.YtplgbkaollfmkaaShXe
import Derived.Test.YtplgbkaollfmkaaRows
set_option linter.unusedVariables false
set_option linter.unusedSimpArgs false
namespace Go.Proofs.Ytplgbkaollfmkaa
namespace GV
open Go.IntWalk
set_option maxRecDepth 100000
set_option maxHeartbeats 20000000
theorem en9 : Enters Try.prog 9 := enters_of Try.func9 rfl (by kernel_rfl)
end GV
end Go.Proofs.Ytplgbkaollfmkaa
