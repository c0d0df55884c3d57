import Derived.Test.YtkcccdcloealfaaGreatShWe
import Derived.Test.YtkcccdcloealfaaGreatRows
set_option linter.unusedVariables false
set_option linter.unusedSimpArgs false
namespace Go.Proofs.YtkcccdcloealfaaGreat
namespace GV
open Go.IntWalk
set_option maxRecDepth 100000
set_option maxHeartbeats 20000000
theorem q02 {b0 : Bool} : TyOk Tryz.prog 25 (tSl b0 (qf .u8)) := by
 obtain ⟨i, hi, hs⟩ : ∃ i, Tryz.prog.info? 25 = some i ∧ i.size = 1 := uk (by kernel_rfl);exact z1j Tryz.underlying25 hi rfl hs
theorem q4d : SlOk Tryz.prog 25 5 (qf .u8) := ⟨Tryz.underlying25, ty5⟩
end GV
end Go.Proofs.YtkcccdcloealfaaGreat
