/- How the arguments of the laws read; printed. -/
import Derived.Test.YtohjnbajgbdhhaaShTypes
import Derived.Test.YtohjnbajgbdhhaaShBridge
namespace Go.Proofs.Ytohjnbajgbdhhaa
namespace GV
open Go.ChangeShapes Go.WideShapes Go.ChangeAt Go.RowKit
set_option linter.unusedVariables false
set_option maxRecDepth 100000
def ok5 (x : Int) : Prop := (Lit.int .u8 x).wf = true
theorem op5 : Opens Try.prog 5 (tInt .u8) ok5 := by
  have h := opens_int Try.underlying5 (by kernel_rfl)
  exact h
def ok4 (x : Bool) : Prop := True
theorem op4 : Opens Try.prog 4 tBool ok4 := by
  have h := opens_bool Try.underlying4 (by kernel_rfl)
  exact h
def ok75 (x : Int) : Prop := (Lit.int .u16 x).wf = true
theorem op75 : Opens Try.prog 75 (tInt .u16) ok75 := by
  have h := opens_int Try.underlying75 (by kernel_rfl)
  exact h
def ok22 (x : (List Int)) : Prop := (∀ y ∈ x, ok75 y) ∧ x.length ≤ maxLen
theorem op22 : Opens Try.prog 22 (tSl false (tInt .u16)) ok22 := by
  have h := opens_slice Try.underlying22 (by kernel_rfl) op75 (Nat.le_of_ble_eq_true rfl)
  exact h
def ok24 (x : MDat) : Prop := ok5 x.states ∧ ok5 x.ins ∧ ok5 x.outs ∧ ok4 x.part ∧ ok22 x.edges
theorem op24 : Opens Try.prog 24 (kMDat false) ok24 := by
  have h := opens_as (fun x : MDat => (x.states, x.ins, x.outs, x.part, x.edges)) (fun a => (⟨a.1, a.2.1, a.2.2.1, a.2.2.2.1, a.2.2.2.2⟩ : MDat)) (fun _ => rfl) (opens_struct [(5, 0), (5, 1), (5, 2), (4, 3), (22, 4)] Try.underlying24 rfl (by kernel_rfl) (parts_cons op5 rfl (parts_cons op5 rfl (parts_cons op5 rfl (parts_cons op4 rfl (parts_last op22))))))
  exact h
def ok46 (x : (List Int)) : Prop := (∀ y ∈ x, ok5 y) ∧ x.length ≤ maxLen
theorem op46 : Opens Try.prog 46 (tSl false (tInt .u8)) ok46 := by
  have h := opens_slice Try.underlying46 (by kernel_rfl) op5 (Nat.le_of_ble_eq_true rfl)
  exact h
def ok48 (x : WDat) : Prop := ok46 x.syms
theorem op48 : Opens Try.prog 48 (kWDat false) ok48 := by
  have h := opens_as (fun x : WDat => x.syms) (fun a => (⟨a⟩ : WDat)) (fun _ => rfl) (opens_struct [(46, 0)] Try.underlying48 rfl (by kernel_rfl) (parts_one (parts_last op46)))
  exact h
def ok60 (x : (WDat × WDat)) : Prop := ok48 x.1 ∧ ok48 x.2
theorem op60 : Opens Try.prog 60 (kA2WDat false false) ok60 := by
  have h := opens_as (fun x : (WDat × WDat) => (x.1, x.2)) (fun a => ((a.1, a.2) : (WDat × WDat))) (fun _ => rfl) (opens_array [(48, 0), (48, 1)] Try.underlying60 (by kernel_rfl) (by kernel_rfl) (parts_cons op48 rfl (parts_last op48)))
  exact h
def ok3 (x : Int) : Prop := (Lit.int .i64 x).wf = true
theorem op3 : Opens Try.prog 3 (tInt .i64) ok3 := by
  have h := opens_int Try.underlying3 (by kernel_rfl)
  exact h
def ok40 (x : Edge) : Prop := ok3 x.to ∧ ok3 x.out
theorem op40 : Opens Try.prog 40 kEdge ok40 := by
  have h := opens_as (fun x : Edge => (x.to, x.out)) (fun a => (⟨a.1, a.2⟩ : Edge)) (fun _ => rfl) (opens_struct [(3, 0), (3, 1)] Try.underlying40 rfl (by kernel_rfl) (parts_cons op3 rfl (parts_last op3)))
  exact h
def ok41 (x : (List Edge)) : Prop := (∀ y ∈ x, ok40 y) ∧ x.length ≤ maxLen
theorem op41 : Opens Try.prog 41 (tSl false kEdge) ok41 := by
  have h := opens_slice Try.underlying41 (by kernel_rfl) op40 (Nat.le_of_ble_eq_true rfl)
  exact h
def ok25 (x : (List (List Edge))) : Prop := (∀ y ∈ x, ok41 y) ∧ x.length ≤ maxLen
theorem op25 : Opens Try.prog 25 (tSl false (tSl false kEdge)) ok25 := by
  have h := opens_slice Try.underlying25 (by kernel_rfl) op41 (Nat.le_of_ble_eq_true rfl)
  exact h
def ok27 (x : Mach) : Prop := ok3 x.inputs ∧ ok3 x.outputs ∧ ok25 x.rows
theorem op27 : Opens Try.prog 27 (kMach false false) ok27 := by
  have h := opens_as (fun x : Mach => (x.inputs, x.outputs, x.rows)) (fun a => (⟨a.1, a.2.1, a.2.2⟩ : Mach)) (fun _ => rfl) (opens_struct [(3, 0), (3, 1), (25, 2)] Try.underlying27 rfl (by kernel_rfl) (parts_cons op3 rfl (parts_cons op3 rfl (parts_last op25))))
  exact h
def ok42 (x : (Int × Int)) : Prop := ok3 x.1 ∧ ok3 x.2
theorem op42 : Opens Try.prog 42 kA2tInti64 ok42 := by
  have h := opens_as (fun x : (Int × Int) => (x.1, x.2)) (fun a => ((a.1, a.2) : (Int × Int))) (fun _ => rfl) (opens_array [(3, 0), (3, 1)] Try.underlying42 (by kernel_rfl) (by kernel_rfl) (parts_cons op3 rfl (parts_last op3)))
  exact h
def ok49 (x : (List Int)) : Prop := (∀ y ∈ x, ok3 y) ∧ x.length ≤ maxLen
theorem op49 : Opens Try.prog 49 (tSl false (tInt .i64)) ok49 := by
  have h := opens_slice Try.underlying49 (by kernel_rfl) op3 (Nat.le_of_ble_eq_true rfl)
  exact h
def ok70 (x : (Int × Int)) : Prop := ok5 x.1 ∧ ok5 x.2
theorem op70 : Opens Try.prog 70 kA2tIntu8 ok70 := by
  have h := opens_as (fun x : (Int × Int) => (x.1, x.2)) (fun a => ((a.1, a.2) : (Int × Int))) (fun _ => rfl) (opens_array [(5, 0), (5, 1)] Try.underlying70 (by kernel_rfl) (by kernel_rfl) (parts_cons op5 rfl (parts_last op5)))
  exact h
theorem laid : laidOutB Try.prog = true := by kernel_rfl
end GV
end Go.Proofs.Ytohjnbajgbdhhaa
