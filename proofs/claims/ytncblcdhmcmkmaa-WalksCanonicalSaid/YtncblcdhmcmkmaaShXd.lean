/- The walks of the functions; printed. -/
import Derived.Test.YtncblcdhmcmkmaaShWe
import Derived.Test.YtncblcdhmcmkmaaRows
namespace Go.Proofs.Ytncblcdhmcmkmaa
namespace GV
open Go.IntWalk
set_option linter.unusedVariables false
set_option linter.unusedSimpArgs false
set_option maxRecDepth 100000
set_option maxHeartbeats 20000000
theorem ty52 {b0 : Bool} : TyOk Try.prog 52 (tSl b0 (tInt .u8)) := by
  obtain ⟨i, hi, hs⟩ : ∃ i, Try.prog.info? 52 = some i ∧ i.size = 1 := info_size (by kernel_rfl)
  exact tyOk_of Try.underlying52 hi rfl hs
theorem sl52 : SlOk Try.prog 52 5 (tInt .u8) := ⟨Try.underlying52, ty5⟩
end GV
end Go.Proofs.Ytncblcdhmcmkmaa
