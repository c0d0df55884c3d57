/- Chapter 06: the examples, by the kernel. -/
import Derived.Test.YtncblcdhmcmkmaaSpec06a
namespace Go.Proofs.Ytncblcdhmcmkmaa
namespace GV
set_option linter.unusedVariables false
set_option maxRecDepth 1000000
theorem lives_eq : gauntletlaw06_lives 2000 = some true := by decide +kernel
end GV
end Go.Proofs.Ytncblcdhmcmkmaa
