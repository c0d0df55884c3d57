import Derived.Test.YtkhihcleegljhaaGreatErr21c
import Derived.Test.YtkhihcleegljhaaGreatShOpens
set_option linter.unusedVariables false
set_option linter.unusedSimpArgs false
namespace Go.Proofs.YtkhihcleegljhaaGreat
namespace GV
theorem zfz{m:Mach}{ts:List Mach}{l:List (List Int)}(a:zmj m)(b:znd ts)(c:zne l):pz 5000 m ts l=some true:=zh1
end GV
end Go.Proofs.YtkhihcleegljhaaGreat
