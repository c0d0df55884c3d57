import Derived.Test.YtkcccdcloealfaaPlain04
set_option linter.unusedVariables false
set_option linter.unusedSimpArgs false
namespace Go.Proofs.Ytkcccdcloealfaa
namespace GV
set_option maxRecDepth 1000000
theorem zcb : ma 2000 = some true := by decide +kernel
end GV
end Go.Proofs.Ytkcccdcloealfaa
