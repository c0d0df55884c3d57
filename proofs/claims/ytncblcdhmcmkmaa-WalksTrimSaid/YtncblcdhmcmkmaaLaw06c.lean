/- Chapter 06: the law Trim, told of the arguments as they are read. -/
import Derived.Test.YtncblcdhmcmkmaaSpec06f
import Derived.Test.YtncblcdhmcmkmaaLaw06b
namespace Go.Proofs.Ytncblcdhmcmkmaa
namespace GV
set_option linter.unusedVariables false
theorem trim_said {x : MDat} {y : WDat} (hx : ok24 x) (hy : ok54 y) : gauntletlaw06_WalksTrim 2000 x y = some true := trim_law (md_ok hx) (wd_ok hy)
end GV
end Go.Proofs.Ytncblcdhmcmkmaa
