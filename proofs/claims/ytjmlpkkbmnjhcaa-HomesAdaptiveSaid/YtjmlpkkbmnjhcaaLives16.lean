import Derived.Test.YtjmlpkkbmnjhcaaShPlain
set_option linter.unusedVariables false
set_option linter.unusedSimpArgs false
set_option linter.unusedSectionVars false
namespace Go.Proofs.Ytjmlpkkbmnjhcaa
namespace GV
set_option maxRecDepth 1000000
theorem zl9:iq 5000=some true:=by decide+kernel
end GV
end Go.Proofs.Ytjmlpkkbmnjhcaa
