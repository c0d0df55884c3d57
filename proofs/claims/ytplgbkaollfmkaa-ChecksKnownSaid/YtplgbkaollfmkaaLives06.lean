import Derived.Test.YtplgbkaollfmkaaSpec06a
set_option linter.unusedVariables false
set_option linter.unusedSimpArgs false
namespace Go.Proofs.Ytplgbkaollfmkaa
namespace GV
set_option maxRecDepth 1000000
end GV
end Go.Proofs.Ytplgbkaollfmkaa
