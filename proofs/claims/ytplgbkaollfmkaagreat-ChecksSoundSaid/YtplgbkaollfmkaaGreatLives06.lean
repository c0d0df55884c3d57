import Derived.Test.YtplgbkaollfmkaaGreatSpec06a
set_option linter.unusedVariables false
set_option linter.unusedSimpArgs false
namespace Go.Proofs.YtplgbkaollfmkaaGreat
namespace GV
set_option maxRecDepth 1000000
end GV
end Go.Proofs.YtplgbkaollfmkaaGreat
