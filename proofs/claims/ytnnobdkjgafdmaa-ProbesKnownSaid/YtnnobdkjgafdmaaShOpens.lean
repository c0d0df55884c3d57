import Derived.Test.YtnnobdkjgafdmaaShTypes
import Derived.Test.YtnnobdkjgafdmaaShBridge
set_option linter.unusedVariables false
set_option linter.unusedSimpArgs false
set_option linter.unusedSectionVars false
namespace Go.Proofs.Ytnnobdkjgafdmaa
namespace GV
open Go.ChangeShapes Go.WideShapes Go.ChangeAt Go.RowKit
set_option maxRecDepth 100000
theorem laid:laidOutB Try.prog=true:=by kernel_rfl
end GV
end Go.Proofs.Ytnnobdkjgafdmaa
