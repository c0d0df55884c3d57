import Derived.Test.YtkcccdcloealfaaGreatBfs06
set_option linter.unusedVariables false
set_option linter.unusedSimpArgs false
namespace Go.Proofs.YtkcccdcloealfaaGreat
namespace GV
set_option maxRecDepth 1000000
theorem z6h:xx 2000=some true:=by decide+kernel
end GV
end Go.Proofs.YtkcccdcloealfaaGreat
