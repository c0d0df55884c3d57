import Derived.Test.YtkkcidhcfkmbjaaGreatDoorShOpens
import Derived.Test.YtkkcidhcfkmbjaaGreatDoorLawM
set_option linter.unusedVariables false
set_option linter.unusedSimpArgs false
set_option linter.unusedSectionVars false
namespace Go.Proofs.YtkkcidhcfkmbjaaGreatDoor
namespace GV
theorem wf_u8{x:Int}(h:(Lit.int .u8 x).wf=true):0≤x∧x≤255:=by simpa [Lit.wf,IntKind.min,IntKind.max,IntKind.signed,IntKind.bits] using h
theorem wf_u16{x:Int}(h:(Lit.int .u16 x).wf=true):0≤x∧x≤65535:=by simpa [Lit.wf,IntKind.min,IntKind.max,IntKind.signed,IntKind.bits] using h
theorem zp6{x:MDat}(h:zw9 x):MDOk x:=⟨wf_u8 h.1,wf_u8 h.2.1,wf_u8 h.2.2.1,fun k a=>wf_u16 (h.2.2.2.2.1 _ (z0i a))⟩
theorem q15{x:Sd}(h:zxs x):DOk x:=⟨zp6 h.1,zp6 h.2.1,⟨wf_u8 h.2.2.2.1.1,wf_u8 h.2.2.2.1.2⟩,⟨wf_u8 h.2.2.2.2.1.1,wf_u8 h.2.2.2.2.1.2⟩⟩
theorem ztf{x:Sd}(a:zxs x):fe 5000 x=some true:=zvi (Nat.le_refl _) (q15 a)
end GV
end Go.Proofs.YtkkcidhcfkmbjaaGreatDoor
