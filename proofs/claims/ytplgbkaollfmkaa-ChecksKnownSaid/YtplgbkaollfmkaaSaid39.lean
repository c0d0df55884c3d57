import Derived.Test.YtplgbkaollfmkaaLaw39r
import Derived.Test.YtplgbkaollfmkaaLaw39o
set_option linter.unusedVariables false
set_option linter.unusedSimpArgs false
namespace Go.Proofs.Ytplgbkaollfmkaa
namespace GV
theorem zo5{x:Sj}{w:List Int}(a:q4r x)(b:zy2 w):r9 2000 x w=some true:=zol (q0r a.1) (u8L a.2) (u8L b)
end GV
end Go.Proofs.Ytplgbkaollfmkaa
