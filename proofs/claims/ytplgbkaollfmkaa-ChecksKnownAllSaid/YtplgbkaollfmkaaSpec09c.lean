import Derived.Test.YtplgbkaollfmkaaSpec09b
import Derived.Test.YtplgbkaollfmkaaSpec04b
set_option linter.unusedVariables false
set_option linter.unusedSimpArgs false
namespace Go.Proofs.Ytplgbkaollfmkaa
namespace GV
set_option maxRecDepth 100000
/-! ### First ones -/
section
variable {N : Nat} {m : Mach}
end
end GV
end Go.Proofs.Ytplgbkaollfmkaa
