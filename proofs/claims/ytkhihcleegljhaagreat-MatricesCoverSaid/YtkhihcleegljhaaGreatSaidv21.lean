import Derived.Test.YtkhihcleegljhaaGreatCov21c
import Derived.Test.YtkhihcleegljhaaGreatShOpens
set_option linter.unusedVariables false
set_option linter.unusedSimpArgs false
namespace Go.Proofs.YtkhihcleegljhaaGreat
namespace GV
theorem wf_u8{x:Int}(h:(Lit.int .u8 x).wf=true):0≤x∧x≤255:=by simpa [Lit.wf,IntKind.min,IntKind.max,IntKind.signed,IntKind.bits] using h
theorem wf_u16{x:Int}(h:(Lit.int .u16 x).wf=true):0≤x∧x≤65535:=by simpa [Lit.wf,IntKind.min,IntKind.max,IntKind.signed,IntKind.bits] using h
theorem zhn{x:Sb}(h:zqr x):ib 5000 x=some true:=zk7 ⟨wf_u8 h.1,fun k a=>wf_u16 (h.2.1 _ (z00 a))⟩
end GV
end Go.Proofs.YtkhihcleegljhaaGreat
