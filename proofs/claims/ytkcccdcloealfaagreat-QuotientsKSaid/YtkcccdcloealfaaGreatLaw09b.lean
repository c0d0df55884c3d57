
import Derived.Test.YtkcccdcloealfaaGreatLaw09a
import Derived.Test.YtkcccdcloealfaaGreatShOpens
set_option linter.unusedVariables false
set_option linter.unusedSimpArgs false
namespace Go.Proofs.YtkcccdcloealfaaGreat
namespace GV
set_option maxRecDepth 100000
/-! ### Homomorphic -/
end GV
end Go.Proofs.YtkcccdcloealfaaGreat

namespace Go.Proofs.YtkcccdcloealfaaGreat
namespace GV
set_option maxRecDepth 100000
section
variable {m : Mach} {l : List Int}
end
end GV
end Go.Proofs.YtkcccdcloealfaaGreat

namespace Go.Proofs.YtkcccdcloealfaaGreat
namespace GV
theorem wf_u8 {x : Int} (h : (Lit.int .u8 x).wf = true) : 0 ≤ x ∧ x ≤ 255 := by simpa [Lit.wf, IntKind.min, IntKind.max, IntKind.signed, IntKind.bits] using h
theorem wf_u16 {x : Int} (h : (Lit.int .u16 x).wf = true) : 0 ≤ x ∧ x ≤ 65535 := by simpa [Lit.wf, IntKind.min, IntKind.max, IntKind.signed, IntKind.bits] using h
theorem zs3 {x : Sgauntletlaw06_C} (h : zzb x) : CDOk x := ⟨wf_u8 h.1, wf_u8 h.2.1, wf_u8 h.2.2.1, fun k hk => wf_u8 (h.2.2.2.1.1 _ (lg hk)), fun k hk => wf_u16 (h.2.2.2.2.1 _ (lg hk))⟩
theorem q1t {x : Sgauntletlaw09_K} (hx : q3t x) : z00 2000 x = some true := q4h (zs3 hx)
end GV
end Go.Proofs.YtkcccdcloealfaaGreat
