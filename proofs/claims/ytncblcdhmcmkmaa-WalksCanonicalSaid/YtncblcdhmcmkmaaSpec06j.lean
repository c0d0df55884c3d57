/- Chapter 06: the law Isomorphic. -/
import Derived.Test.YtncblcdhmcmkmaaSpec06i
namespace Go.Proofs.Ytncblcdhmcmkmaa
namespace GV
set_option linter.unusedVariables false
set_option maxRecDepth 100000

end GV
end Go.Proofs.Ytncblcdhmcmkmaa
