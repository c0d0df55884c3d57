import Derived.Test.YtkcccdcloealfaaShWe
import Derived.Test.YtkcccdcloealfaaRows
set_option linter.unusedVariables false
set_option linter.unusedSimpArgs false
namespace Go.Proofs.Ytkcccdcloealfaa
namespace GV
open Go.IntWalk
set_option maxRecDepth 100000
set_option maxHeartbeats 20000000
theorem zu5 : Enters Try.prog 10 := enters_of Try.func10 rfl (by kernel_rfl)
end GV
end Go.Proofs.Ytkcccdcloealfaa
