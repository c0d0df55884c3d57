import Derived.Test.YtnnobdkjgafdmaaSaid15
import Derived.Test.YtnnobdkjgafdmaaChk15
set_option linter.unusedVariables false
set_option linter.unusedSimpArgs false
set_option linter.unusedSectionVars false
namespace Go.Proofs.Ytnnobdkjgafdmaa
namespace GV
theorem zpq{x:Sj}{t:Sb}(a:q2e x)(b:q1k t):tu 5000 x t=some true:=ztg (zy4 a)
end GV
end Go.Proofs.Ytnnobdkjgafdmaa
