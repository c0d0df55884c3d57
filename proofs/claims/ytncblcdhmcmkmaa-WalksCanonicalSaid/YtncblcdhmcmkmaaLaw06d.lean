/- Chapter 06: the laws Canonical, Isomorphic, Errors, told of the arguments as they are read. -/
import Derived.Test.YtncblcdhmcmkmaaSpec06k
import Derived.Test.YtncblcdhmcmkmaaLaw06b
namespace Go.Proofs.Ytncblcdhmcmkmaa
namespace GV
set_option linter.unusedVariables false
theorem canonical_said {x : MDat} {y : WDat} {swaps : List Int} (hx : ok24 x) (hy : ok54 y) (hs : ok52 swaps) : gauntletlaw06_WalksCanonical 2000 x y swaps = some true := canonical_law (md_ok hx) (wd_ok hy) (fun k hk => wf_u8 (hs.1 _ (getD_mem hk)))
end GV
end Go.Proofs.Ytncblcdhmcmkmaa
