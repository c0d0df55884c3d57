import Derived.Test.YtnnobdkjgafdmaaSaid15
import Derived.Test.YtnnobdkjgafdmaaTre15c
set_option linter.unusedVariables false
set_option linter.unusedSimpArgs false
set_option linter.unusedSectionVars false
namespace Go.Proofs.Ytnnobdkjgafdmaa
namespace GV
theorem q0r{x:Sj}(a:qcq x):z08 5000 x=some true:=q2p (q59 a)
end GV
end Go.Proofs.Ytnnobdkjgafdmaa
