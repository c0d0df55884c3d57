import Derived.Test.YtplgbkaollfmkaaShPlain
import Derived.Test.YtplgbkaollfmkaaRows
set_option linter.unusedVariables false
set_option linter.unusedSimpArgs false
namespace Go.Proofs.Ytplgbkaollfmkaa
namespace GV
open Go.IntWalk
set_option maxRecDepth 100000
set_option maxHeartbeats 20000000
theorem zo3:ZeroOk Try.prog 3 (zx .i64) (0:Int) 8:=by
 obtain⟨i,zv,hi,a,c,d,f⟩:=z4y (P:=Try.prog) (e:=3) (zv:=(vi 0)) (k:=1) (b:=8) (by kernel_rfl);exact⟨i,zv,hi,a,c,d,fun R=>by subst f;exact rfl⟩
end GV
end Go.Proofs.Ytplgbkaollfmkaa
