/- Chapter 06: which states correspond to each other; the law Isomorphic. -/
import Derived.Test.YtncblcdhmcmkmaaSpec06h
namespace Go.Proofs.Ytncblcdhmcmkmaa
namespace GV
set_option linter.unusedVariables false
set_option maxRecDepth 100000

end GV
end Go.Proofs.Ytncblcdhmcmkmaa
