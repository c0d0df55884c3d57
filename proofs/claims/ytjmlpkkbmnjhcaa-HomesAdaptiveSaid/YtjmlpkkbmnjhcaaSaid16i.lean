import Derived.Test.YtjmlpkkbmnjhcaaHom16i
import Derived.Test.YtjmlpkkbmnjhcaaSaid16m
set_option linter.unusedVariables false
set_option linter.unusedSimpArgs false
set_option linter.unusedSectionVars false
namespace Go.Proofs.Ytjmlpkkbmnjhcaa
namespace GV
theorem zgx{x:Sd}(a:zt0 x):sw 1000000 x=some true:=zih (zn6 a)
end GV
end Go.Proofs.Ytjmlpkkbmnjhcaa
