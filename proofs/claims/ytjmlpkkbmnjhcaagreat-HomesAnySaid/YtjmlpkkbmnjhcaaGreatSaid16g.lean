import Derived.Test.YtjmlpkkbmnjhcaaGreatHom16o
import Derived.Test.YtjmlpkkbmnjhcaaGreatShOpens
set_option linter.unusedVariables false
set_option linter.unusedSimpArgs false
set_option linter.unusedSectionVars false
namespace Go.Proofs.YtjmlpkkbmnjhcaaGreat
namespace GV
theorem wf_u8{x:Int}(h:(Lit.int .u8 x).wf=true):0≤x∧x≤255:=by simpa [Lit.wf,IntKind.min,IntKind.max,IntKind.signed,IntKind.bits] using h
theorem wf_u16{x:Int}(h:(Lit.int .u16 x).wf=true):0≤x∧x≤65535:=by simpa [Lit.wf,IntKind.min,IntKind.max,IntKind.signed,IntKind.bits] using h
theorem zpt{x:Sd}(h:q0a x):CDOk x:=⟨wf_u8 h.1,wf_u8 h.2.1,wf_u8 h.2.2.1,fun k a=>wf_u8 (h.2.2.2.1.1 _ (z2e a)),fun k a=>wf_u16 (h.2.2.2.2.1 _ (z2e a))⟩
theorem q44{x:MDat}(h:q5e x):MDOk x:=⟨wf_u8 h.1,wf_u8 h.2.1,wf_u8 h.2.2.1,fun k a=>wf_u16 (h.2.2.2.2.1 _ (z2e a))⟩
theorem zsu{x:Sd}(a:q0a x):z2d 1000000 x=some true:=zww (zpt a)
theorem zt5{x:Sd}{w:List Int}{z:Int×Int}(b:q0a x)(c:q1w w)(a:q8p z):z2f 1000000 x w z=some true:=zxp (zpt b) (fun k d=>wf_u8 (c.1 _ (z2e d))) (wf_u8 a.1) (wf_u8 a.2)
theorem zx8{x:Sd}{w:List Int}(a:q0a x)(b:q1w w):z2q 1000000 x w=some true:=q06 (zpt a) (fun k c=>wf_u8 (b.1 _ (z2e c)))
theorem q0r{m:Mach}{x:MDat}{y:Sj}(b:q8f m)(a:q5e x)(c:q7e y):z3b 1000000 m x y=some true:=q3m (q44 a)
end GV
end Go.Proofs.YtjmlpkkbmnjhcaaGreat
