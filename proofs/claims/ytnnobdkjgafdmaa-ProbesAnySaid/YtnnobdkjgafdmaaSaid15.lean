import Derived.Test.YtnnobdkjgafdmaaPro15
import Derived.Test.YtnnobdkjgafdmaaShOpens
set_option linter.unusedVariables false
set_option linter.unusedSimpArgs false
set_option linter.unusedSectionVars false
namespace Go.Proofs.Ytnnobdkjgafdmaa
namespace GV
end GV
end Go.Proofs.Ytnnobdkjgafdmaa
