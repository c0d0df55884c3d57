import Derived.Test.YtkcccdcloealfaaGreatShWd
import Derived.Test.YtkcccdcloealfaaGreatRows
set_option linter.unusedVariables false
set_option linter.unusedSimpArgs false
namespace Go.Proofs.YtkcccdcloealfaaGreat
namespace GV
open _root_.Go.Proofs.Tryz
open Go.IntWalk
set_option maxRecDepth 100000
set_option maxHeartbeats 20000000
theorem q35{a:Bool}:TyOk prog 25 (tSl a (qc .u8)):=by
 obtain⟨i,hi,b⟩: ∃ i,prog.info? 25=some i∧i.size=1:=wy (by kernel_rfl);exact z2n underlying25 hi rfl b
theorem q7k:SlOk prog 25 5 (qc .u8):=⟨underlying25,ty5⟩
end GV
end Go.Proofs.YtkcccdcloealfaaGreat
