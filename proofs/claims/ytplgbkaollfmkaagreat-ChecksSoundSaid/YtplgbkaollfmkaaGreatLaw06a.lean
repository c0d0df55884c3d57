import Derived.Test.YtplgbkaollfmkaaGreatSpec06e
import Derived.Test.YtplgbkaollfmkaaGreatLives06
set_option linter.unusedVariables false
set_option linter.unusedSimpArgs false
namespace Go.Proofs.YtplgbkaollfmkaaGreat
namespace GV
set_option maxRecDepth 100000
theorem q2i(w:List Int)(k:Nat):cut w 0 (k:Int)=w.take k:=by simp [cut]
end GV
end Go.Proofs.YtplgbkaollfmkaaGreat
