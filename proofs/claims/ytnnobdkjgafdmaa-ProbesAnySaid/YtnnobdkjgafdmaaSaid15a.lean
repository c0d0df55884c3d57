import Derived.Test.YtnnobdkjgafdmaaSaid15
import Derived.Test.YtnnobdkjgafdmaaAny15
set_option linter.unusedVariables false
set_option linter.unusedSimpArgs false
set_option linter.unusedSectionVars false
namespace Go.Proofs.Ytnnobdkjgafdmaa
namespace GV
theorem zun{m:Mach}{s most:Int}(a:q2l m)(b:ok3 s)(h:ok3 most):ib 5000 m s most=some true:=zx9
end GV
end Go.Proofs.Ytnnobdkjgafdmaa
