import Derived.Test.YtnnobdkjgafdmaaShWe
import Derived.Test.YtnnobdkjgafdmaaRows
set_option linter.unusedVariables false
set_option linter.unusedSimpArgs false
set_option linter.unusedSectionVars false
namespace Go.Proofs.Ytnnobdkjgafdmaa
namespace GV
open _root_.Go.Proofs.Try
open Go.IntWalk
set_option maxRecDepth 100000
set_option maxHeartbeats 20000000
theorem zsk: ∀ w,(isAgg 28).run prog w= .ok false w:=fun w=>by kernel_rfl
theorem qax: ∀ w,(sizeOf 28).run prog w= .ok 1 w:=fun w=>by kernel_rfl
theorem qbc:ZeroOk prog 58 tHdr vs0 24:=by
 obtain⟨i,zv,hi,a,c,d,f⟩:=z3q (P:=prog) (e:=58) (zv:=vs0) (k:=1) (b:=24) (by kernel_rfl);exact⟨i,zv,hi,a,c,d,fun R=>by subst f;exact⟨rfl,rfl⟩⟩
end GV
end Go.Proofs.Ytnnobdkjgafdmaa
