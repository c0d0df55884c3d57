import Derived.Test.YtplgbkaollfmkaaSpec09a
import Derived.Test.YtplgbkaollfmkaaSpec06k
set_option linter.unusedVariables false
set_option linter.unusedSimpArgs false
namespace Go.Proofs.Ytplgbkaollfmkaa
namespace GV
set_option maxRecDepth 100000
/-! ### First ones, merged -/
theorem zfr {m : Mach} : (z8c m).length = m.rows.length := zil _
theorem zfb {m : Mach} {s : Nat} (hs : s < m.rows.length) : (z8c m).getD s default = (cls m s : Int) := zmt hs
section
variable {N : Nat} {m : Mach}
/-! ### The map -/
end
end GV
end Go.Proofs.Ytplgbkaollfmkaa
