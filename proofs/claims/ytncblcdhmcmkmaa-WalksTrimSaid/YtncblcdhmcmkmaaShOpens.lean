/- How the arguments of the laws read; printed. -/
import Derived.Test.YtncblcdhmcmkmaaShTypes
import Derived.Test.YtncblcdhmcmkmaaShBridge
namespace Go.Proofs.Ytncblcdhmcmkmaa
namespace GV
open Go.ChangeShapes Go.WideShapes Go.ChangeAt Go.RowKit
set_option linter.unusedVariables false
set_option maxRecDepth 100000
def ok5 (x : Int) : Prop := (Lit.int .u8 x).wf = true
theorem op5 : Opens Try.prog 5 (tInt .u8) ok5 := by
  have h := opens_int Try.underlying5 (by kernel_rfl)
  exact h
def ok4 (x : Bool) : Prop := True
theorem op4 : Opens Try.prog 4 tBool ok4 := by
  have h := opens_bool Try.underlying4 (by kernel_rfl)
  exact h
def ok80 (x : Int) : Prop := (Lit.int .u16 x).wf = true
theorem op80 : Opens Try.prog 80 (tInt .u16) ok80 := by
  have h := opens_int Try.underlying80 (by kernel_rfl)
  exact h
def ok22 (x : (List Int)) : Prop := (∀ y ∈ x, ok80 y) ∧ x.length ≤ maxLen
theorem op22 : Opens Try.prog 22 (tSl false (tInt .u16)) ok22 := by
  have h := opens_slice Try.underlying22 (by kernel_rfl) op80 (Nat.le_of_ble_eq_true rfl)
  exact h
def ok24 (x : MDat) : Prop := ok5 x.states ∧ ok5 x.ins ∧ ok5 x.outs ∧ ok4 x.part ∧ ok22 x.edges
theorem op24 : Opens Try.prog 24 (kMDat false) ok24 := by
  have h := opens_as (fun x : MDat => (x.states, x.ins, x.outs, x.part, x.edges)) (fun a => (⟨a.1, a.2.1, a.2.2.1, a.2.2.2.1, a.2.2.2.2⟩ : MDat)) (fun _ => rfl) (opens_struct [(5, 0), (5, 1), (5, 2), (4, 3), (22, 4)] Try.underlying24 rfl (by kernel_rfl) (parts_cons op5 rfl (parts_cons op5 rfl (parts_cons op5 rfl (parts_cons op4 rfl (parts_last op22))))))
  exact h
def ok52 (x : (List Int)) : Prop := (∀ y ∈ x, ok5 y) ∧ x.length ≤ maxLen
theorem op52 : Opens Try.prog 52 (tSl false (tInt .u8)) ok52 := by
  have h := opens_slice Try.underlying52 (by kernel_rfl) op5 (Nat.le_of_ble_eq_true rfl)
  exact h
def ok54 (x : WDat) : Prop := ok52 x.syms
theorem op54 : Opens Try.prog 54 (kWDat false) ok54 := by
  have h := opens_as (fun x : WDat => x.syms) (fun a => (⟨a⟩ : WDat)) (fun _ => rfl) (opens_struct [(52, 0)] Try.underlying54 rfl (by kernel_rfl) (parts_one (parts_last op52)))
  exact h
theorem laid : laidOutB Try.prog = true := by kernel_rfl
end GV
end Go.Proofs.Ytncblcdhmcmkmaa
