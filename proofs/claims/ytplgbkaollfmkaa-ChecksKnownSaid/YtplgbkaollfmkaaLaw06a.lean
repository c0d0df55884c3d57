import Derived.Test.YtplgbkaollfmkaaSpec06e
import Derived.Test.YtplgbkaollfmkaaLives06
set_option linter.unusedVariables false
set_option linter.unusedSimpArgs false
namespace Go.Proofs.Ytplgbkaollfmkaa
namespace GV
set_option maxRecDepth 100000
theorem zzj(w:List Int)(k:Nat):cut w 0 (k:Int)=w.take k:=by simp [cut]
end GV
end Go.Proofs.Ytplgbkaollfmkaa
