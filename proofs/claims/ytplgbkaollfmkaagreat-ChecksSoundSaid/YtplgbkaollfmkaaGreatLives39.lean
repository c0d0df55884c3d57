import Derived.Test.YtplgbkaollfmkaaGreatPlain04
set_option linter.unusedVariables false
set_option linter.unusedSimpArgs false
namespace Go.Proofs.YtplgbkaollfmkaaGreat
namespace GV
set_option maxRecDepth 1000000
theorem zn2:z2z 2000=some true:=by decide+kernel
end GV
end Go.Proofs.YtplgbkaollfmkaaGreat
