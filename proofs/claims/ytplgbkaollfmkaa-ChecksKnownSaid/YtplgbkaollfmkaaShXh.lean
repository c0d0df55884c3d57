import Derived.Test.YtplgbkaollfmkaaShWa
import Derived.Test.YtplgbkaollfmkaaShXa
import Derived.Test.YtplgbkaollfmkaaShXb
import Derived.Test.YtplgbkaollfmkaaShXc
import Derived.Test.YtplgbkaollfmkaaShXd
import Derived.Test.YtplgbkaollfmkaaShXe
import Derived.Test.YtplgbkaollfmkaaRows
set_option linter.unusedVariables false
set_option linter.unusedSimpArgs false
namespace Go.Proofs.Ytplgbkaollfmkaa
namespace GV
open Go.IntWalk
set_option maxRecDepth 100000
set_option maxHeartbeats 20000000
theorem q5e: ∀ w,(sizeOf 22).run Try.prog w= .ok 1 w:=fun w=>by kernel_rfl
end GV
end Go.Proofs.Ytplgbkaollfmkaa
