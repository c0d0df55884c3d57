import Derived.Test.YtplgbkaollfmkaaShWa
import Derived.Test.YtplgbkaollfmkaaRows
set_option linter.unusedVariables false
set_option linter.unusedSimpArgs false
namespace Go.Proofs.Ytplgbkaollfmkaa
namespace GV
open _root_.Go.Proofs.Try
open Go.IntWalk
set_option maxRecDepth 100000
set_option maxHeartbeats 20000000
theorem ty5:TyOk prog 5 (zx .u8):=by
 obtain⟨i,hi,a⟩: ∃ i,prog.info? 5=some i∧i.size=1:=kv (by kernel_rfl);exact z3n underlying5 hi rfl a
theorem q4o:SlOk prog 41 5 (zx .u8):=⟨underlying41,ty5⟩
end GV
end Go.Proofs.Ytplgbkaollfmkaa
