import Derived.Test.YtdhccodneoebpaaShWe
import Derived.Test.YtdhccodneoebpaaRows
set_option linter.unusedVariables false
set_option linter.unusedSimpArgs false
set_option linter.unusedSectionVars false
namespace Go.Proofs.Ytdhccodneoebpaa
namespace GV
open Go.IntWalk
set_option maxRecDepth 100000
set_option maxHeartbeats 20000000
theorem zn6: ∀ w,(isAgg 25).run Try.prog w= .ok false w:=fun w=>by kernel_rfl
theorem zxa: ∀ w,(sizeOf 25).run Try.prog w= .ok 1 w:=fun w=>by kernel_rfl
end GV
end Go.Proofs.Ytdhccodneoebpaa
