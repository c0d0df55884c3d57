import Derived.Test.YtkkcidhcfkmbjaaGreatDoorShOpens
import Derived.Test.YtkkcidhcfkmbjaaGreatDoorLawG
set_option linter.unusedVariables false
set_option linter.unusedSimpArgs false
set_option linter.unusedSectionVars false
namespace Go.Proofs.YtkkcidhcfkmbjaaGreatDoor
namespace GV
theorem wf_u8{x:Int}(h:(Lit.int .u8 x).wf=true):0≤x∧x≤255:=by simpa [Lit.wf,IntKind.min,IntKind.max,IntKind.signed,IntKind.bits] using h
theorem wf_u16{x:Int}(h:(Lit.int .u16 x).wf=true):0≤x∧x≤65535:=by simpa [Lit.wf,IntKind.min,IntKind.max,IntKind.signed,IntKind.bits] using h
theorem zpw{x:MDat}(h:zr8 x):MDOk x:=⟨wf_u8 h.1,wf_u8 h.2.1,wf_u8 h.2.2.1,fun k a=>wf_u16 (h.2.2.2.2.1 _ (z0x a))⟩
theorem zlg{x:MDat}{way out:Int}(a:zr8 x)(b:(Lit.int .u8 way).wf=true)(c:(Lit.int .u8 out).wf=true):cz 5000 x way out=some true:=znj (Nat.le_refl _) (zpw a) (wf_u8 b) (wf_u8 c)
end GV
end Go.Proofs.YtkkcidhcfkmbjaaGreatDoor
