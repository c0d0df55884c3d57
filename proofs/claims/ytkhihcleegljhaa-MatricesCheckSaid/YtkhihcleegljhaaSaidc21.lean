import Derived.Test.YtkhihcleegljhaaChk21b
import Derived.Test.YtkhihcleegljhaaShOpens
set_option linter.unusedVariables false
set_option linter.unusedSimpArgs false
namespace Go.Proofs.Ytkhihcleegljhaa
namespace GV
theorem zgs{x:Sa}{l:List Int}(a:zp2 x)(c:znc l):wu 5000 x l=some true:=by
 have d:maxLen=9223372036854775807:=by decide
 refine ziu (by have:=a.2;omega) (fun k b=>?_)
 have:=(a.1 _ (su b)).2
 omega
end GV
end Go.Proofs.Ytkhihcleegljhaa
