import Derived.Test.YtjmlpkkbmnjhcaaGreatShPlain
set_option linter.unusedVariables false
set_option linter.unusedSimpArgs false
set_option linter.unusedSectionVars false
namespace Go.Proofs.YtjmlpkkbmnjhcaaGreat
namespace GV
set_option maxRecDepth 1000000
end GV
end Go.Proofs.YtjmlpkkbmnjhcaaGreat
