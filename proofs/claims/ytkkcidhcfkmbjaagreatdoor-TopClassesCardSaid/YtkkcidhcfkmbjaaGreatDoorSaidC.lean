import Derived.Test.YtkkcidhcfkmbjaaGreatDoorShOpens
import Derived.Test.YtkkcidhcfkmbjaaGreatDoorLawD
set_option linter.unusedVariables false
set_option linter.unusedSimpArgs false
set_option linter.unusedSectionVars false
namespace Go.Proofs.YtkkcidhcfkmbjaaGreatDoor
namespace GV
theorem wf_u8{x:Int}(h:(Lit.int .u8 x).wf=true):0≤x∧x≤255:=by simpa [Lit.wf,IntKind.min,IntKind.max,IntKind.signed,IntKind.bits] using h
theorem wf_u16{x:Int}(h:(Lit.int .u16 x).wf=true):0≤x∧x≤65535:=by simpa [Lit.wf,IntKind.min,IntKind.max,IntKind.signed,IntKind.bits] using h
theorem zm4{x:MDat}(h:zn9 x):MDOk x:=⟨wf_u8 h.1,wf_u8 h.2.1,wf_u8 h.2.2.1,fun k a=>wf_u16 (h.2.2.2.2.1 _ (lg a))⟩
theorem zcw{x:MDat}(a:zn9 x):yw 5000 x=some true:=zdv (Nat.le_refl _) (zm4 a)
end GV
end Go.Proofs.YtkkcidhcfkmbjaaGreatDoor
