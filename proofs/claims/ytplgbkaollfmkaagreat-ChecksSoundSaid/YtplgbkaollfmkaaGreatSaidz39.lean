import Derived.Test.YtplgbkaollfmkaaGreatLaw39r
import Derived.Test.YtplgbkaollfmkaaGreatLaw39s
import Derived.Test.YtplgbkaollfmkaaGreatLaw39zd
set_option linter.unusedVariables false
set_option linter.unusedSimpArgs false
namespace Go.Proofs.YtplgbkaollfmkaaGreat
namespace GV
theorem zpm{x:Sk}{y:Sa}{z:Sn}(b:q86 x)(c:q3y y)(a:q7x z):z0b 2000 x y z=some true:=
 zsj (zwk b.1) (u8L b.2) (zwk c) (fun k d=>have h:=a.1.1 _ (lq d);⟨wf_u8 h.1,wf_u8 h.2.1,wf_u8 h.2.2⟩) (wf_u8 a.2.1) (u8L a.2.2)
end GV
end Go.Proofs.YtplgbkaollfmkaaGreat
