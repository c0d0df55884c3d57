/- Chapter 06: the reference's order and canonical form. -/
import Derived.Test.YtncblcdhmcmkmaaCanon06
namespace Go.Proofs.Ytncblcdhmcmkmaa
namespace GV
set_option linter.unusedVariables false
set_option maxRecDepth 100000

end GV
end Go.Proofs.Ytncblcdhmcmkmaa
