import Derived.Test.YtkcccdcloealfaaSpec09e
import Derived.Test.YtkcccdcloealfaaLives09
import Derived.Test.YtkcccdcloealfaaSpec06m
set_option linter.unusedVariables false
set_option linter.unusedSimpArgs false
namespace Go.Proofs.Ytkcccdcloealfaa
namespace GV
set_option maxRecDepth 100000
/-! ### Proper -/
/-! ### K -/
end GV
end Go.Proofs.Ytkcccdcloealfaa
