import Derived.Test.YtnnobdkjgafdmaaSaid15
import Derived.Test.YtnnobdkjgafdmaaWds15
set_option linter.unusedVariables false
set_option linter.unusedSimpArgs false
set_option linter.unusedSectionVars false
namespace Go.Proofs.Ytnnobdkjgafdmaa
namespace GV
theorem zsd{x:Sj}{s most:Int}(a:q6s x)(b:ok5 s)(c:ok5 most):og 5000 x s most=some true:=zpt (q1q a) (wf_u8 b) (wf_u8 c)
end GV
end Go.Proofs.Ytnnobdkjgafdmaa
