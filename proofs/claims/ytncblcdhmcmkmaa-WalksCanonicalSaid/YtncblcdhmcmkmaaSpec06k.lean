/- Chapter 06: what is refused; the law Errors. -/
import Derived.Test.YtncblcdhmcmkmaaSpec06j
namespace Go.Proofs.Ytncblcdhmcmkmaa
namespace GV
set_option linter.unusedVariables false
set_option maxRecDepth 100000

section
variable {N : Nat} {m : Mach}
end
end GV
end Go.Proofs.Ytncblcdhmcmkmaa
