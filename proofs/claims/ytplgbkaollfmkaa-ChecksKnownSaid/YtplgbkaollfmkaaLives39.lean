import Derived.Test.YtplgbkaollfmkaaPlain04
set_option linter.unusedVariables false
set_option linter.unusedSimpArgs false
namespace Go.Proofs.Ytplgbkaollfmkaa
namespace GV
set_option maxRecDepth 1000000
theorem zjk:z1p 2000=some true:=by decide+kernel
end GV
end Go.Proofs.Ytplgbkaollfmkaa
