import Derived.Test.YtkcccdcloealfaaGreatShTypes
import Derived.Test.YtkcccdcloealfaaGreatShBridge
set_option linter.unusedVariables false
set_option linter.unusedSimpArgs false
namespace Go.Proofs.YtkcccdcloealfaaGreat
namespace GV
open Go.ChangeShapes Go.WideShapes Go.ChangeAt Go.RowKit
set_option maxRecDepth 100000
theorem laid:laidOutB Tryz.prog=true:=by kernel_rfl
end GV
end Go.Proofs.YtkcccdcloealfaaGreat
