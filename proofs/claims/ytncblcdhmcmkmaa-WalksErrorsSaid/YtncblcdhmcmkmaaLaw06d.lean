/- Chapter 06: the laws Canonical, Isomorphic, Errors, told of the arguments as they are read. -/
import Derived.Test.YtncblcdhmcmkmaaSpec06k
import Derived.Test.YtncblcdhmcmkmaaLaw06b
namespace Go.Proofs.Ytncblcdhmcmkmaa
namespace GV
set_option linter.unusedVariables false
theorem errors_said {m : Mach} {x : MDat} {z : Int × Int} (hm : ok27 m) (hx : ok24 x) (hz : ok73 z) : gauntletlaw06_WalksErrors 2000 m x z = some true := errors_law (md_ok hx)
end GV
end Go.Proofs.Ytncblcdhmcmkmaa
