import Derived.Test.YtkcccdcloealfaaGreatShXh
import Derived.Test.YtkcccdcloealfaaGreatRows
set_option linter.unusedVariables false
set_option linter.unusedSimpArgs false
namespace Go.Proofs.YtkcccdcloealfaaGreat
namespace GV
open Go.IntWalk
set_option maxRecDepth 100000
set_option maxHeartbeats 20000000
theorem q2v : Enters Tryz.prog 13 := enters_of Tryz.func13 rfl (by kernel_rfl)
end GV
end Go.Proofs.YtkcccdcloealfaaGreat
