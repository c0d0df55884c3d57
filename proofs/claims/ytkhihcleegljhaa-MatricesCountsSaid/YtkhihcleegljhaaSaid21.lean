import Derived.Test.YtkhihcleegljhaaMat21d
import Derived.Test.YtkhihcleegljhaaShOpens
set_option linter.unusedVariables false
set_option linter.unusedSimpArgs false
namespace Go.Proofs.Ytkhihcleegljhaa
namespace GV
theorem wf_u8{x:Int}(h:(Lit.int .u8 x).wf=true):0≤x∧x≤255:=by simpa [Lit.wf,IntKind.min,IntKind.max,IntKind.signed,IntKind.bits] using h
theorem wf_u16{x:Int}(h:(Lit.int .u16 x).wf=true):0≤x∧x≤65535:=by simpa [Lit.wf,IntKind.min,IntKind.max,IntKind.signed,IntKind.bits] using h
theorem zol{x:Sb}(h:zm6 x):QOk x:=⟨wf_u8 h.1,fun k a=>wf_u16 (h.2.1 _ (z1i a))⟩
theorem zej{x:Sb}{bits rows:Int}(a:zm6 x)(b:(Lit.int .u8 bits).wf=true)(c:(Lit.int .u8 rows).wf=true):pu 5000 x bits rows=some true:=zga (zol a) (wf_u8 b) (wf_u8 c)
end GV
end Go.Proofs.Ytkhihcleegljhaa
