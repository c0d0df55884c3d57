import Derived.Test.YtncblcdhmcmkmaaShWd
import Derived.Test.YtncblcdhmcmkmaaRows
set_option linter.unusedVariables false
set_option linter.unusedSimpArgs false
namespace Go.Proofs.Ytncblcdhmcmkmaa
namespace GV
open _root_.Go.Proofs.Try
open Go.IntWalk
set_option maxRecDepth 100000
set_option maxHeartbeats 20000000
theorem zs4{a:Bool}:TyOk prog 52 (tSl a (zw .u8)):=by
 obtain⟨i,hi,b⟩: ∃ i,prog.info? 52=some i∧i.size=1:=wu (by kernel_rfl);exact z1c underlying52 hi rfl b
theorem zrg:SlOk prog 52 5 (zw .u8):=⟨underlying52,ty5⟩
end GV
end Go.Proofs.Ytncblcdhmcmkmaa
