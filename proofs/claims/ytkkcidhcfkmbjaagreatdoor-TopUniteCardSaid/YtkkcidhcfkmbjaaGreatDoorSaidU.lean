import Derived.Test.YtkkcidhcfkmbjaaGreatDoorShOpens
import Derived.Test.YtkkcidhcfkmbjaaGreatDoorLawU
set_option linter.unusedVariables false
set_option linter.unusedSimpArgs false
set_option linter.unusedSectionVars false
namespace Go.Proofs.YtkkcidhcfkmbjaaGreatDoor
namespace GV
theorem wf_u8{x:Int}(h:(Lit.int .u8 x).wf=true):0≤x∧x≤255:=by simpa [Lit.wf,IntKind.min,IntKind.max,IntKind.signed,IntKind.bits] using h
theorem wf_u16{x:Int}(h:(Lit.int .u16 x).wf=true):0≤x∧x≤65535:=by simpa [Lit.wf,IntKind.min,IntKind.max,IntKind.signed,IntKind.bits] using h
theorem zl0{x:MDat}(h:zpz x):MDOk x:=⟨wf_u8 h.1,wf_u8 h.2.1,wf_u8 h.2.2.1,fun k a=>wf_u16 (h.2.2.2.2.1 _ (z1k a))⟩
theorem zvn{x:Sd}(h:zse x):DOk x:=⟨zl0 h.1,zl0 h.2.1,⟨wf_u8 h.2.2.2.1.1,wf_u8 h.2.2.2.1.2⟩,⟨wf_u8 h.2.2.2.2.1.1,wf_u8 h.2.2.2.2.1.2⟩⟩
theorem zjf{x:Sd}(a:zse x):ny 5000 x=some true:=zmc (Nat.le_refl _) (zvn a)
end GV
end Go.Proofs.YtkkcidhcfkmbjaaGreatDoor
