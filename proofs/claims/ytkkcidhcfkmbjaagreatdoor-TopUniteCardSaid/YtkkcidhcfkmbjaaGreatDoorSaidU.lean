import Derived.Test.YtkkcidhcfkmbjaaGreatDoorShOpens
import Derived.Test.YtkkcidhcfkmbjaaGreatDoorLawU
set_option linter.unusedVariables false
set_option linter.unusedSimpArgs false
set_option linter.unusedSectionVars false
namespace Go.Proofs.YtkkcidhcfkmbjaaGreatDoor
namespace GV
theorem wf_u8{x:Int}(h:(Lit.int .u8 x).wf=true):0≤x∧x≤255:=by simpa [Lit.wf,IntKind.min,IntKind.max,IntKind.signed,IntKind.bits] using h
theorem wf_u16{x:Int}(h:(Lit.int .u16 x).wf=true):0≤x∧x≤65535:=by simpa [Lit.wf,IntKind.min,IntKind.max,IntKind.signed,IntKind.bits] using h
theorem zli{x:MDat}(h:zq6 x):MDOk x:=⟨wf_u8 h.1,wf_u8 h.2.1,wf_u8 h.2.2.1,fun k a=>wf_u16 (h.2.2.2.2.1 _ (z1p a))⟩
theorem zvr{x:Sd}(h:zrz x):DOk x:=⟨zli h.1,zli h.2.1,⟨wf_u8 h.2.2.2.1.1,wf_u8 h.2.2.2.1.2⟩,⟨wf_u8 h.2.2.2.2.1.1,wf_u8 h.2.2.2.2.1.2⟩⟩
theorem ziy{x:Sd}(a:zrz x):nk 5000 x=some true:=zmn (Nat.le_refl _) (zvr a)
end GV
end Go.Proofs.YtkkcidhcfkmbjaaGreatDoor
