import Derived.Test.YtplgbkaollfmkaaSpec09a
import Derived.Test.YtplgbkaollfmkaaSpec06k
set_option linter.unusedVariables false
set_option linter.unusedSimpArgs false
namespace Go.Proofs.Ytplgbkaollfmkaa
namespace GV
set_option maxRecDepth 100000
/-! ### First ones, merged -/
theorem zht {m : Mach} : (zbe m).length = m.rows.length := zfw _
theorem zgp {m : Mach} {s : Nat} (hs : s < m.rows.length) : (zbe m).getD s default = (cls m s : Int) := zi0 hs
section
variable {N : Nat} {m : Mach}
/-! ### The map -/
end
end GV
end Go.Proofs.Ytplgbkaollfmkaa
