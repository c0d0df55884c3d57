/- Chapter 06: the laws Canonical, Isomorphic, Errors, told of the arguments as they are read. -/
import Derived.Test.YtncblcdhmcmkmaaSpec06k
import Derived.Test.YtncblcdhmcmkmaaLaw06b
namespace Go.Proofs.Ytncblcdhmcmkmaa
namespace GV
set_option linter.unusedVariables false
theorem isomorphic_said {x y : MDat} {sw : Int × Int} (hx : ok24 x) (hy : ok24 y) (hs : ok70 sw) : gauntletlaw06_WalksIsomorphic 2000 x y sw = some true := isomorphic_law (md_ok hx) (md_ok hy) (wf_u8 hs.1) (wf_u8 hs.2)
end GV
end Go.Proofs.Ytncblcdhmcmkmaa
