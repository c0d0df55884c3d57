/- Chapter 04: the laws, told of the arguments as they are read. -/
import Derived.Test.YtohjnbajgbdhhaaLaw04e
import Derived.Test.YtohjnbajgbdhhaaShOpens
namespace Go.Proofs.Ytohjnbajgbdhhaa
namespace GV
set_option linter.unusedVariables false

theorem wf_u8 {x : Int} (h : (Lit.int .u8 x).wf = true) : 0 ≤ x ∧ x ≤ 255 := by simpa [Lit.wf, IntKind.min, IntKind.max, IntKind.signed, IntKind.bits] using h
theorem wf_u16 {x : Int} (h : (Lit.int .u16 x).wf = true) : 0 ≤ x ∧ x ≤ 65535 := by simpa [Lit.wf, IntKind.min, IntKind.max, IntKind.signed, IntKind.bits] using h
theorem mem_getD {α : Type} [Inhabited α] {X : List α} {k : Nat} (h : k < X.length) : X.getD k default ∈ X := getD_mem h
theorem md_ok {x : MDat} (h : ok24 x) : MDOk x := ⟨wf_u8 h.1, wf_u8 h.2.1, wf_u8 h.2.2.1, fun k hk => wf_u16 (h.2.2.2.2.1 _ (getD_mem hk))⟩
theorem wd_ok {x : WDat} (h : ok48 x) : WDOk x := ⟨fun k hk => wf_u8 (h.1 _ (getD_mem hk))⟩
theorem run_said {x : MDat} {y : WDat} {f : Int} (hx : ok24 x) (hy : ok48 y) (hf : (Lit.int .u8 f).wf = true) : gauntletlaw04_MachinesRun 2000 x y f = some true := run_law (md_ok hx) (wd_ok hy) (wf_u8 hf)
theorem same_said {x y : MDat} {raw : Mach} (hx : ok24 x) (hy : ok24 y) (hr : ok27 raw) : gauntletlaw04_MachinesSame 2000 x y raw = some true := same_law (md_ok hx) (md_ok hy)
theorem shape_said {x : MDat} (hx : ok24 x) : gauntletlaw04_MachinesShape 2000 x = some true := shape_law (md_ok hx)
theorem split_said {x : MDat} {y : WDat × WDat} {f : Int} (hx : ok24 x) (hy : ok60 y) (hf : (Lit.int .u8 f).wf = true) : gauntletlaw04_MachinesSplit 2000 x y f = some true := split_law (md_ok hx) (wd_ok hy.1) (wd_ok hy.2) (wf_u8 hf)
theorem wf_i64 {x : Int} (h : (Lit.int .i64 x).wf = true) : -9223372036854775808 ≤ x ∧ x ≤ 9223372036854775807 := by simpa [Lit.wf, IntKind.min, IntKind.max, IntKind.signed, IntKind.bits] using h
theorem check_said {m : Mach} {p : Int × Int} {w : List Int} (hm : ok27 m) (hp : ok42 p) (hw : ok49 w) : gauntletlaw04_MachinesCheck 2000 m p w = some true := check_law
theorem with_said {x : MDat} {p : Int × Int} {e : Edge} (hx : ok24 x) (hp : ok70 p) (he : ok40 e) : gauntletlaw04_MachinesWith 2000 x p e = some true := with_law (md_ok hx) (wf_u8 hp.1) (wf_u8 hp.2)
end GV
end Go.Proofs.Ytohjnbajgbdhhaa
