import Derived.Test.YtncblcdhmcmkmaaSpec06a
set_option linter.unusedVariables false
set_option linter.unusedSimpArgs false
namespace Go.Proofs.Ytncblcdhmcmkmaa
namespace GV
set_option maxRecDepth 1000000
theorem z5i:gp 2000=some true:=by decide+kernel
end GV
end Go.Proofs.Ytncblcdhmcmkmaa
