import Derived.Test.YtplgbkaollfmkaaShWa
import Derived.Test.YtplgbkaollfmkaaRows
set_option linter.unusedVariables false
set_option linter.unusedSimpArgs false
namespace Go.Proofs.Ytplgbkaollfmkaa
namespace GV
open Go.IntWalk
set_option maxRecDepth 100000
set_option maxHeartbeats 20000000
theorem ty5 : TyOk Try.prog 5 (zw .u8) := by
 obtain ⟨i, hi, hs⟩ : ∃ i, Try.prog.info? 5 = some i ∧ i.size = 1 := ky (by kernel_rfl);exact z13 Try.underlying5 hi rfl hs
theorem zz3 : SlOk Try.prog 41 5 (zw .u8) := ⟨Try.underlying41, ty5⟩
end GV
end Go.Proofs.Ytplgbkaollfmkaa
