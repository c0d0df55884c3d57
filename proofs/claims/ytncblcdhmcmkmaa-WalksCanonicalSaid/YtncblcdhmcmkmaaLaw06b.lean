/- Chapter 06: the laws Access and Path, told of the arguments as they are read. -/
import Derived.Test.YtncblcdhmcmkmaaLaw06a
import Derived.Test.YtncblcdhmcmkmaaShOpens
namespace Go.Proofs.Ytncblcdhmcmkmaa
namespace GV
set_option linter.unusedVariables false

theorem wf_u8 {x : Int} (h : (Lit.int .u8 x).wf = true) : 0 ≤ x ∧ x ≤ 255 := by simpa [Lit.wf, IntKind.min, IntKind.max, IntKind.signed, IntKind.bits] using h
theorem wf_u16 {x : Int} (h : (Lit.int .u16 x).wf = true) : 0 ≤ x ∧ x ≤ 65535 := by simpa [Lit.wf, IntKind.min, IntKind.max, IntKind.signed, IntKind.bits] using h
theorem md_ok {x : MDat} (h : ok24 x) : MDOk x := ⟨wf_u8 h.1, wf_u8 h.2.1, wf_u8 h.2.2.1, fun k hk => wf_u16 (h.2.2.2.2.1 _ (getD_mem hk))⟩
theorem wd_ok {x : WDat} (h : ok54 x) : WDOk x := ⟨fun k hk => wf_u8 (h.1 _ (getD_mem hk))⟩
end GV
end Go.Proofs.Ytncblcdhmcmkmaa
