/- Chapter 06: the laws C and Known, told of the arguments as they are read. -/
import Derived.Test.YtncblcdhmcmkmaaSpec06l
import Derived.Test.YtncblcdhmcmkmaaLaw06b
namespace Go.Proofs.Ytncblcdhmcmkmaa
namespace GV
set_option linter.unusedVariables false
theorem cdat_ok {x : Sgauntletlaw06_C} (h : ok77 x) : CDOk x := ⟨wf_u8 h.1, wf_u8 h.2.1, wf_u8 h.2.2.1, fun k hk => wf_u8 (h.2.2.2.1.1 _ (getD_mem hk)), fun k hk => wf_u16 (h.2.2.2.2.1 _ (getD_mem hk))⟩
theorem c_said {x : Sgauntletlaw06_C} (hx : ok77 x) : gauntletlaw06_WalksC 2000 x = some true := c_law (cdat_ok hx)
end GV
end Go.Proofs.Ytncblcdhmcmkmaa
