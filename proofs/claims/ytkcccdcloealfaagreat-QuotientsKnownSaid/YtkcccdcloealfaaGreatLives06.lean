import Derived.Test.YtkcccdcloealfaaGreatSpec06e
set_option linter.unusedVariables false
set_option linter.unusedSimpArgs false
namespace Go.Proofs.YtkcccdcloealfaaGreat
namespace GV
set_option maxRecDepth 1000000
end GV
end Go.Proofs.YtkcccdcloealfaaGreat
