import Derived.Test.YtnnobdkjgafdmaaShPlain
set_option linter.unusedVariables false
set_option linter.unusedSimpArgs false
set_option linter.unusedSectionVars false
namespace Go.Proofs.Ytnnobdkjgafdmaa
namespace GV
set_option maxRecDepth 1000000
theorem ztz:z13 5000=some true:=by decide+kernel
end GV
end Go.Proofs.Ytnnobdkjgafdmaa
