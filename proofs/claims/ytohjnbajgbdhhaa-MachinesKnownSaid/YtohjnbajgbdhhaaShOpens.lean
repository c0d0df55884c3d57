import Derived.Test.YtohjnbajgbdhhaaShTypes
import Derived.Test.YtohjnbajgbdhhaaShBridge
set_option linter.unusedVariables false
set_option linter.unusedSimpArgs false
namespace Go.Proofs.Ytohjnbajgbdhhaa
namespace GV
open Go.ChangeShapes Go.WideShapes Go.ChangeAt Go.RowKit
set_option maxRecDepth 100000
theorem laid:laidOutB Try.prog=true:=by kernel_rfl
end GV
end Go.Proofs.Ytohjnbajgbdhhaa
