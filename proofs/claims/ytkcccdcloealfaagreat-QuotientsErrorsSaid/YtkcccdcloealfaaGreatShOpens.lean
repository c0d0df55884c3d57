import Derived.Test.YtkcccdcloealfaaGreatShTypes
import Derived.Test.YtkcccdcloealfaaGreatShBridge
set_option linter.unusedVariables false
set_option linter.unusedSimpArgs false
namespace Go.Proofs.YtkcccdcloealfaaGreat
namespace GV
open Go.ChangeShapes Go.WideShapes Go.ChangeAt Go.RowKit
set_option maxRecDepth 100000
def ok5 (x : Int) : Prop := (Lit.int .u8 x).wf = true
theorem op5 : z4i Tryz.prog 5 (qf .u8) ok5 := by
  have h := zh8 Tryz.underlying5 (by kernel_rfl)
  exact h
def ok4 (x : Bool) : Prop := True
theorem op4 : z4i Tryz.prog 4 wh ok4 := by
  have h := zq8 Tryz.underlying4 (by kernel_rfl)
  exact h
def q3r (x : Int) : Prop := (Lit.int .u16 x).wf = true
theorem q5v : z4i Tryz.prog 64 (qf .u16) q3r := by
  have h := zh8 Tryz.underlying64 (by kernel_rfl)
  exact h
def q2u (x : (List Int)) : Prop := (∀ y ∈ x, q3r y) ∧ x.length ≤ maxLen
theorem q38 : z4i Tryz.prog 22 (tSl false (qf .u16)) q2u := by
  have h := zac Tryz.underlying22 (by kernel_rfl) q5v (Nat.le_of_ble_eq_true rfl)
  exact h
def zu1 (x : MDat) : Prop := ok5 x.states ∧ ok5 x.ins ∧ ok5 x.outs ∧ ok4 x.part ∧ q2u x.edges
theorem zzy : z4i Tryz.prog 24 (z5x false) zu1 := by
  have h := zb6 (fun x : MDat => (x.states, x.ins, x.outs, x.part, x.edges)) (fun a => (⟨a.1, a.2.1, a.2.2.1, a.2.2.2.1, a.2.2.2.2⟩ : MDat)) (fun _ => rfl) (z4x [(5, 0), (5, 1), (5, 2), (4, 3), (22, 4)] Tryz.underlying24 rfl (by kernel_rfl) (z2k op5 rfl (z2k op5 rfl (z2k op5 rfl (z2k op4 rfl (z7y q38))))))
  exact h
def q2w (x : (List Int)) : Prop := (∀ y ∈ x, ok5 y) ∧ x.length ≤ maxLen
theorem q56 : z4i Tryz.prog 25 (tSl false (qf .u8)) q2w := by
  have h := zac Tryz.underlying25 (by kernel_rfl) op5 (Nat.le_of_ble_eq_true rfl)
  exact h
def zzu (x : WDat) : Prop := q2w x.syms
theorem q51 : z4i Tryz.prog 27 (zfv false) zzu := by
  have h := zb6 (fun x : WDat => x.syms) (fun a => (⟨a⟩ : WDat)) (fun _ => rfl) (z4x [(25, 0)] Tryz.underlying27 rfl (by kernel_rfl) (zl0 (z7y q56)))
  exact h
def zzb (x : Sgauntletlaw06_C) : Prop := ok5 x.f_States ∧ ok5 x.f_Inputs ∧ ok5 x.f_Outputs ∧ q2w x.f_Tree ∧ q2u x.f_Edges
theorem q52 : z4i Tryz.prog 52 (yn false false) zzb := by
  have h := zb6 (fun x : Sgauntletlaw06_C => (x.f_States, x.f_Inputs, x.f_Outputs, x.f_Tree, x.f_Edges)) (fun a => (⟨a.1, a.2.1, a.2.2.1, a.2.2.2.1, a.2.2.2.2⟩ : Sgauntletlaw06_C)) (fun _ => rfl) (z4x [(5, 0), (5, 1), (5, 2), (25, 3), (22, 4)] Tryz.underlying52 rfl (by kernel_rfl) (z2k op5 rfl (z2k op5 rfl (z2k op5 rfl (z2k q56 rfl (z7y q38))))))
  exact h
def ok3 (x : Int) : Prop := (Lit.int .i64 x).wf = true
theorem op3 : z4i Tryz.prog 3 (qf .i64) ok3 := by
  have h := zh8 Tryz.underlying3 (by kernel_rfl)
  exact h
def q3v (x : Edge) : Prop := ok3 x.to ∧ ok3 x.out
theorem q5j : z4i Tryz.prog 62 kEdge q3v := by
  have h := zb6 (fun x : Edge => (x.to, x.out)) (fun a => (⟨a.1, a.2⟩ : Edge)) (fun _ => rfl) (z4x [(3, 0), (3, 1)] Tryz.underlying62 rfl (by kernel_rfl) (z2k op3 rfl (z7y op3)))
  exact h
def q3a (x : (List Edge)) : Prop := (∀ y ∈ x, q3v y) ∧ x.length ≤ maxLen
theorem q5p : z4i Tryz.prog 56 (tSl false kEdge) q3a := by
  have h := zac Tryz.underlying56 (by kernel_rfl) q5j (Nat.le_of_ble_eq_true rfl)
  exact h
def q4p (x : (List (List Edge))) : Prop := (∀ y ∈ x, q3a y) ∧ x.length ≤ maxLen
theorem q5q : z4i Tryz.prog 28 (tSl false (tSl false kEdge)) q4p := by
  have h := zac Tryz.underlying28 (by kernel_rfl) q5p (Nat.le_of_ble_eq_true rfl)
  exact h
def q5a (x : Mach) : Prop := ok3 x.inputs ∧ ok3 x.outputs ∧ q4p x.rows
theorem q6r : z4i Tryz.prog 30 (qj false false) q5a := by
  have h := zb6 (fun x : Mach => (x.inputs, x.outputs, x.rows)) (fun a => (⟨a.1, a.2.1, a.2.2⟩ : Mach)) (fun _ => rfl) (z4x [(3, 0), (3, 1), (28, 2)] Tryz.underlying30 rfl (by kernel_rfl) (z2k op3 rfl (z2k op3 rfl (z7y q5q))))
  exact h
theorem laid : laidOutB Tryz.prog = true := by kernel_rfl
end GV
end Go.Proofs.YtkcccdcloealfaaGreat
