import Derived.Test.YtplgbkaollfmkaaShTypes
import Derived.Test.YtplgbkaollfmkaaShBridge
set_option linter.unusedVariables false
set_option linter.unusedSimpArgs false
namespace Go.Proofs.Ytplgbkaollfmkaa
namespace GV
open Go.ChangeShapes Go.WideShapes Go.ChangeAt Go.RowKit
set_option maxRecDepth 100000
def ok5 (x : Int) : Prop := (Lit.int .u8 x).wf = true
theorem op5 : z3g Try.prog 5 (zw .u8) ok5 := by
  have h := zdw Try.underlying5 (by kernel_rfl)
  exact h
def zwk (x : (List Int)) : Prop := (∀ y ∈ x, ok5 y) ∧ x.length ≤ maxLen
theorem zxo : z3g Try.prog 41 (tSl false (zw .u8)) zwk := by
  have h := z5i Try.underlying41 (by kernel_rfl) op5 (Nat.le_of_ble_eq_true rfl)
  exact h
def zu3 (x : Int) : Prop := (Lit.int .u16 x).wf = true
theorem zws : z3g Try.prog 114 (zw .u16) zu3 := by
  have h := zdw Try.underlying114 (by kernel_rfl)
  exact h
def zvx (x : (List Int)) : Prop := (∀ y ∈ x, zu3 y) ∧ x.length ≤ maxLen
theorem zzd : z3g Try.prog 42 (tSl false (zw .u16)) zvx := by
  have h := z5i Try.underlying42 (by kernel_rfl) zws (Nat.le_of_ble_eq_true rfl)
  exact h
def zuv (x : Sgauntletlaw06_C) : Prop := ok5 x.f_States ∧ ok5 x.f_Inputs ∧ ok5 x.f_Outputs ∧ zwk x.f_Tree ∧ zvx x.f_Edges
theorem zyf : z3g Try.prog 44 (bn false false) zuv := by
  have h := zgc (fun x : Sgauntletlaw06_C => (x.f_States, x.f_Inputs, x.f_Outputs, x.f_Tree, x.f_Edges)) (fun a => (⟨a.1, a.2.1, a.2.2.1, a.2.2.2.1, a.2.2.2.2⟩ : Sgauntletlaw06_C)) (fun _ => rfl) (z9j [(5, 0), (5, 1), (5, 2), (41, 3), (42, 4)] Try.underlying44 rfl (by kernel_rfl) (z3m op5 rfl (z3m op5 rfl (z3m op5 rfl (z3m zxo rfl (zc0 zzd))))))
  exact h
def ok3 (x : Int) : Prop := (Lit.int .i64 x).wf = true
theorem op3 : z3g Try.prog 3 (zw .i64) ok3 := by
  have h := zdw Try.underlying3 (by kernel_rfl)
  exact h
def zvd (x : (List Int)) : Prop := (∀ y ∈ x, ok3 y) ∧ x.length ≤ maxLen
theorem zwa : z3g Try.prog 25 (tSl false (zw .i64)) zvd := by
  have h := z5i Try.underlying25 (by kernel_rfl) op3 (Nat.le_of_ble_eq_true rfl)
  exact h
def zvj (x : Edge) : Prop := ok3 x.to ∧ ok3 x.out
theorem zzc : z3g Try.prog 62 kEdge zvj := by
  have h := zgc (fun x : Edge => (x.to, x.out)) (fun a => (⟨a.1, a.2⟩ : Edge)) (fun _ => rfl) (z9j [(3, 0), (3, 1)] Try.underlying62 rfl (by kernel_rfl) (z3m op3 rfl (zc0 op3)))
  exact h
def zx9 (x : (List Edge)) : Prop := (∀ y ∈ x, zvj y) ∧ x.length ≤ maxLen
theorem zz7 : z3g Try.prog 26 (tSl false kEdge) zx9 := by
  have h := z5i Try.underlying26 (by kernel_rfl) zzc (Nat.le_of_ble_eq_true rfl)
  exact h
def zw1 (x : (List (List Edge))) : Prop := (∀ y ∈ x, zx9 y) ∧ x.length ≤ maxLen
theorem zxu : z3g Try.prog 22 (tSl false (tSl false kEdge)) zw1 := by
  have h := z5i Try.underlying22 (by kernel_rfl) zz7 (Nat.le_of_ble_eq_true rfl)
  exact h
def zvr (x : Mach) : Prop := ok3 x.inputs ∧ ok3 x.outputs ∧ zw1 x.rows
theorem zzg : z3g Try.prog 24 (jf false false) zvr := by
  have h := zgc (fun x : Mach => (x.inputs, x.outputs, x.rows)) (fun a => (⟨a.1, a.2.1, a.2.2⟩ : Mach)) (fun _ => rfl) (z9j [(3, 0), (3, 1), (22, 2)] Try.underlying24 rfl (by kernel_rfl) (z3m op3 rfl (z3m op3 rfl (zc0 zxu))))
  exact h
theorem laid : laidOutB Try.prog = true := by kernel_rfl
end GV
end Go.Proofs.Ytplgbkaollfmkaa
