import Derived.Test.YtkkcidhcfkmbjaaGreatDoorShOpens
import Derived.Test.YtkkcidhcfkmbjaaGreatDoorTb05
set_option linter.unusedVariables false
set_option linter.unusedSimpArgs false
set_option linter.unusedSectionVars false
namespace Go.Proofs.YtkkcidhcfkmbjaaGreatDoor
namespace GV
theorem wf_u8{x:Int}(h:(Lit.int .u8 x).wf=true):0≤x∧x≤255:=by simpa [Lit.wf,IntKind.min,IntKind.max,IntKind.signed,IntKind.bits] using h
theorem wf_u16{x:Int}(h:(Lit.int .u16 x).wf=true):0≤x∧x≤65535:=by simpa [Lit.wf,IntKind.min,IntKind.max,IntKind.signed,IntKind.bits] using h
theorem zpf{x:MDat}(h:zqq x):MDOk x:=⟨wf_u8 h.1,wf_u8 h.2.1,wf_u8 h.2.2.1,fun k a=>wf_u16 (h.2.2.2.2.1 _ (z6c a))⟩
theorem zp6{x:WDat}(h:zqx x):WDOk x:=⟨fun k a=>wf_u8 (h.1 _ (z6c a))⟩
theorem zld{x:Sc}{y:WDat}(a:zto x)(b:zqx y):ak 100000 x y=some true:=zgh (zpf a.1) (wf_u8 a.2) (zp6 b)
end GV
end Go.Proofs.YtkkcidhcfkmbjaaGreatDoor
