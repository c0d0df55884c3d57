import Derived.Test.YtkcccdcloealfaaGreatShTypes
import Derived.Test.YtkcccdcloealfaaGreatShBridge
set_option linter.unusedVariables false
set_option linter.unusedSimpArgs false
namespace Go.Proofs.YtkcccdcloealfaaGreat
namespace GV
open Go.ChangeShapes Go.WideShapes Go.ChangeAt Go.RowKit
set_option maxRecDepth 100000
def ok5 (x : Int) : Prop := (Lit.int .u8 x).wf = true
theorem op5 : z4i Tryz.prog 5 (qf .u8) ok5 := by
  have h := zh8 Tryz.underlying5 (by kernel_rfl)
  exact h
def q3r (x : Int) : Prop := (Lit.int .u16 x).wf = true
theorem q5v : z4i Tryz.prog 64 (qf .u16) q3r := by
  have h := zh8 Tryz.underlying64 (by kernel_rfl)
  exact h
def q2u (x : (List Int)) : Prop := (∀ y ∈ x, q3r y) ∧ x.length ≤ maxLen
theorem q38 : z4i Tryz.prog 22 (tSl false (qf .u16)) q2u := by
  have h := zac Tryz.underlying22 (by kernel_rfl) q5v (Nat.le_of_ble_eq_true rfl)
  exact h
def q2w (x : (List Int)) : Prop := (∀ y ∈ x, ok5 y) ∧ x.length ≤ maxLen
theorem q56 : z4i Tryz.prog 25 (tSl false (qf .u8)) q2w := by
  have h := zac Tryz.underlying25 (by kernel_rfl) op5 (Nat.le_of_ble_eq_true rfl)
  exact h
def zzb (x : Sgauntletlaw06_C) : Prop := ok5 x.f_States ∧ ok5 x.f_Inputs ∧ ok5 x.f_Outputs ∧ q2w x.f_Tree ∧ q2u x.f_Edges
theorem q52 : z4i Tryz.prog 52 (yn false false) zzb := by
  have h := zb6 (fun x : Sgauntletlaw06_C => (x.f_States, x.f_Inputs, x.f_Outputs, x.f_Tree, x.f_Edges)) (fun a => (⟨a.1, a.2.1, a.2.2.1, a.2.2.2.1, a.2.2.2.2⟩ : Sgauntletlaw06_C)) (fun _ => rfl) (z4x [(5, 0), (5, 1), (5, 2), (25, 3), (22, 4)] Tryz.underlying52 rfl (by kernel_rfl) (z2k op5 rfl (z2k op5 rfl (z2k op5 rfl (z2k q56 rfl (z7y q38))))))
  exact h
def q3t (x : Sgauntletlaw09_K) : Prop := zzb x.f_C
theorem q5d : z4i Tryz.prog 59 (z1l false false) q3t := by
  have h := zb6 (fun x : Sgauntletlaw09_K => x.f_C) (fun a => (⟨a⟩ : Sgauntletlaw09_K)) (fun _ => rfl) (z4x [(52, 0)] Tryz.underlying59 rfl (by kernel_rfl) (zl0 (z7y q52)))
  exact h
theorem laid : laidOutB Tryz.prog = true := by kernel_rfl
end GV
end Go.Proofs.YtkcccdcloealfaaGreat
