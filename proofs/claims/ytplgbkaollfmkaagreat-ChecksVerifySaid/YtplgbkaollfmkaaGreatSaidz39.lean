import Derived.Test.YtplgbkaollfmkaaGreatLaw39r
import Derived.Test.YtplgbkaollfmkaaGreatLaw39s
import Derived.Test.YtplgbkaollfmkaaGreatLaw39zd
set_option linter.unusedVariables false
set_option linter.unusedSimpArgs false
namespace Go.Proofs.YtplgbkaollfmkaaGreat
namespace GV
theorem zny{x:Sg}{w:List Int}(a:q6v x)(b:q0d w):z03 2000 x w=some true:=zq6 (zx2 a.1) (u8L a.2) (u8L b)
theorem zpn{x:Sg}(a:q6v x):z0i 2000 x=some true:=zst (zx2 a.1) (u8L a.2)
end GV
end Go.Proofs.YtplgbkaollfmkaaGreat
