import Derived.Test.YtjmlpkkbmnjhcaaHom16d
import Derived.Test.YtjmlpkkbmnjhcaaShOpens
set_option linter.unusedVariables false
set_option linter.unusedSimpArgs false
set_option linter.unusedSectionVars false
namespace Go.Proofs.Ytjmlpkkbmnjhcaa
namespace GV
theorem wf_u8{x:Int}(h:(Lit.int .u8 x).wf=true):0≤x∧x≤255:=by simpa [Lit.wf,IntKind.min,IntKind.max,IntKind.signed,IntKind.bits] using h
theorem wf_u16{x:Int}(h:(Lit.int .u16 x).wf=true):0≤x∧x≤65535:=by simpa [Lit.wf,IntKind.min,IntKind.max,IntKind.signed,IntKind.bits] using h
theorem zn6{x:Sd}(h:zt0 x):CDOk x:=⟨wf_u8 h.1,wf_u8 h.2.1,wf_u8 h.2.2.1,fun k a=>wf_u8 (h.2.2.2.1.1 _ (z2u a)),fun k a=>wf_u16 (h.2.2.2.2.1 _ (z2u a))⟩
theorem zlk{x:Sd}{s t:Int}(a:zt0 x)(b:ok5 s)(c:ok5 t):lw 5000 x s t=some true:=zpk (zn6 a) (wf_u8 b) (wf_u8 c)
end GV
end Go.Proofs.Ytjmlpkkbmnjhcaa
