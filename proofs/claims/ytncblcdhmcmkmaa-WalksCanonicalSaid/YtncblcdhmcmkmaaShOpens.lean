/- How the arguments of the laws read; printed. -/
import Derived.Test.YtncblcdhmcmkmaaShTypes
import Derived.Test.YtncblcdhmcmkmaaShBridge
namespace Go.Proofs.Ytncblcdhmcmkmaa
namespace GV
open Go.ChangeShapes Go.WideShapes Go.ChangeAt Go.RowKit
set_option linter.unusedVariables false
set_option maxRecDepth 100000
def ok5 (x : Int) : Prop := (Lit.int .u8 x).wf = true
theorem op5 : Opens Try.prog 5 (tInt .u8) ok5 := by
  have h := opens_int Try.underlying5 (by kernel_rfl)
  exact h
def ok4 (x : Bool) : Prop := True
theorem op4 : Opens Try.prog 4 tBool ok4 := by
  have h := opens_bool Try.underlying4 (by kernel_rfl)
  exact h
def ok80 (x : Int) : Prop := (Lit.int .u16 x).wf = true
theorem op80 : Opens Try.prog 80 (tInt .u16) ok80 := by
  have h := opens_int Try.underlying80 (by kernel_rfl)
  exact h
def ok22 (x : (List Int)) : Prop := (∀ y ∈ x, ok80 y) ∧ x.length ≤ maxLen
theorem op22 : Opens Try.prog 22 (tSl false (tInt .u16)) ok22 := by
  have h := opens_slice Try.underlying22 (by kernel_rfl) op80 (Nat.le_of_ble_eq_true rfl)
  exact h
def ok24 (x : MDat) : Prop := ok5 x.states ∧ ok5 x.ins ∧ ok5 x.outs ∧ ok4 x.part ∧ ok22 x.edges
theorem op24 : Opens Try.prog 24 (kMDat false) ok24 := by
  have h := opens_as (fun x : MDat => (x.states, x.ins, x.outs, x.part, x.edges)) (fun a => (⟨a.1, a.2.1, a.2.2.1, a.2.2.2.1, a.2.2.2.2⟩ : MDat)) (fun _ => rfl) (opens_struct [(5, 0), (5, 1), (5, 2), (4, 3), (22, 4)] Try.underlying24 rfl (by kernel_rfl) (parts_cons op5 rfl (parts_cons op5 rfl (parts_cons op5 rfl (parts_cons op4 rfl (parts_last op22))))))
  exact h
def ok52 (x : (List Int)) : Prop := (∀ y ∈ x, ok5 y) ∧ x.length ≤ maxLen
theorem op52 : Opens Try.prog 52 (tSl false (tInt .u8)) ok52 := by
  have h := opens_slice Try.underlying52 (by kernel_rfl) op5 (Nat.le_of_ble_eq_true rfl)
  exact h
def ok54 (x : WDat) : Prop := ok52 x.syms
theorem op54 : Opens Try.prog 54 (kWDat false) ok54 := by
  have h := opens_as (fun x : WDat => x.syms) (fun a => (⟨a⟩ : WDat)) (fun _ => rfl) (opens_struct [(52, 0)] Try.underlying54 rfl (by kernel_rfl) (parts_one (parts_last op52)))
  exact h
def ok70 (x : (Int × Int)) : Prop := ok5 x.1 ∧ ok5 x.2
theorem op70 : Opens Try.prog 70 kA2tIntu8 ok70 := by
  have h := opens_as (fun x : (Int × Int) => (x.1, x.2)) (fun a => ((a.1, a.2) : (Int × Int))) (fun _ => rfl) (opens_array [(5, 0), (5, 1)] Try.underlying70 (by kernel_rfl) (by kernel_rfl) (parts_cons op5 rfl (parts_last op5)))
  exact h
def ok3 (x : Int) : Prop := (Lit.int .i64 x).wf = true
theorem op3 : Opens Try.prog 3 (tInt .i64) ok3 := by
  have h := opens_int Try.underlying3 (by kernel_rfl)
  exact h
def ok49 (x : Edge) : Prop := ok3 x.to ∧ ok3 x.out
theorem op49 : Opens Try.prog 49 kEdge ok49 := by
  have h := opens_as (fun x : Edge => (x.to, x.out)) (fun a => (⟨a.1, a.2⟩ : Edge)) (fun _ => rfl) (opens_struct [(3, 0), (3, 1)] Try.underlying49 rfl (by kernel_rfl) (parts_cons op3 rfl (parts_last op3)))
  exact h
def ok50 (x : (List Edge)) : Prop := (∀ y ∈ x, ok49 y) ∧ x.length ≤ maxLen
theorem op50 : Opens Try.prog 50 (tSl false kEdge) ok50 := by
  have h := opens_slice Try.underlying50 (by kernel_rfl) op49 (Nat.le_of_ble_eq_true rfl)
  exact h
def ok25 (x : (List (List Edge))) : Prop := (∀ y ∈ x, ok50 y) ∧ x.length ≤ maxLen
theorem op25 : Opens Try.prog 25 (tSl false (tSl false kEdge)) ok25 := by
  have h := opens_slice Try.underlying25 (by kernel_rfl) op50 (Nat.le_of_ble_eq_true rfl)
  exact h
def ok27 (x : Mach) : Prop := ok3 x.inputs ∧ ok3 x.outputs ∧ ok25 x.rows
theorem op27 : Opens Try.prog 27 (kMach false false) ok27 := by
  have h := opens_as (fun x : Mach => (x.inputs, x.outputs, x.rows)) (fun a => (⟨a.1, a.2.1, a.2.2⟩ : Mach)) (fun _ => rfl) (opens_struct [(3, 0), (3, 1), (25, 2)] Try.underlying27 rfl (by kernel_rfl) (parts_cons op3 rfl (parts_cons op3 rfl (parts_last op25))))
  exact h
def ok73 (x : (Int × Int)) : Prop := ok3 x.1 ∧ ok3 x.2
theorem op73 : Opens Try.prog 73 kA2tInti64 ok73 := by
  have h := opens_as (fun x : (Int × Int) => (x.1, x.2)) (fun a => ((a.1, a.2) : (Int × Int))) (fun _ => rfl) (opens_array [(3, 0), (3, 1)] Try.underlying73 (by kernel_rfl) (by kernel_rfl) (parts_cons op3 rfl (parts_last op3)))
  exact h
def ok77 (x : Sgauntletlaw06_C) : Prop := ok5 x.f_States ∧ ok5 x.f_Inputs ∧ ok5 x.f_Outputs ∧ ok52 x.f_Tree ∧ ok22 x.f_Edges
theorem op77 : Opens Try.prog 77 (kSgauntletlaw06_C false false) ok77 := by
  have h := opens_as (fun x : Sgauntletlaw06_C => (x.f_States, x.f_Inputs, x.f_Outputs, x.f_Tree, x.f_Edges)) (fun a => (⟨a.1, a.2.1, a.2.2.1, a.2.2.2.1, a.2.2.2.2⟩ : Sgauntletlaw06_C)) (fun _ => rfl) (opens_struct [(5, 0), (5, 1), (5, 2), (52, 3), (22, 4)] Try.underlying77 rfl (by kernel_rfl) (parts_cons op5 rfl (parts_cons op5 rfl (parts_cons op5 rfl (parts_cons op52 rfl (parts_last op22))))))
  exact h
theorem laid : laidOutB Try.prog = true := by kernel_rfl
end GV
end Go.Proofs.Ytncblcdhmcmkmaa
