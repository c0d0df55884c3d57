import Derived.Test.YtkcccdcloealfaaShTypes
import Derived.Test.YtkcccdcloealfaaShBridge
set_option linter.unusedVariables false
set_option linter.unusedSimpArgs false
namespace Go.Proofs.Ytkcccdcloealfaa
namespace GV
open Go.ChangeShapes Go.WideShapes Go.ChangeAt Go.RowKit
set_option maxRecDepth 100000
def ok5 (x : Int) : Prop := (Lit.int .u8 x).wf = true
theorem op5 : z11 Try.prog 5 (qc .u8) ok5 := by
  have h := zc4 Try.underlying5 (by kernel_rfl)
  exact h
def ok4 (x : Bool) : Prop := True
theorem op4 : z11 Try.prog 4 ol ok4 := by
  have h := zll Try.underlying4 (by kernel_rfl)
  exact h
def ok32 (x : Int) : Prop := (Lit.int .u16 x).wf = true
theorem zxr : z11 Try.prog 32 (qc .u16) ok32 := by
  have h := zc4 Try.underlying32 (by kernel_rfl)
  exact h
def zue (x : (List Int)) : Prop := (∀ y ∈ x, ok32 y) ∧ x.length ≤ maxLen
theorem zvv : z11 Try.prog 22 (tSl false (qc .u16)) zue := by
  have h := z8d Try.underlying22 (by kernel_rfl) zxr (Nat.le_of_ble_eq_true rfl)
  exact h
def zqs (x : MDat) : Prop := ok5 x.states ∧ ok5 x.ins ∧ ok5 x.outs ∧ ok4 x.part ∧ zue x.edges
theorem zv9 : z11 Try.prog 24 (z0m false) zqs := by
  have h := zeg (fun x : MDat => (x.states, x.ins, x.outs, x.part, x.edges)) (fun a => (⟨a.1, a.2.1, a.2.2.1, a.2.2.2.1, a.2.2.2.2⟩ : MDat)) (fun _ => rfl) (zbi [(5, 0), (5, 1), (5, 2), (4, 3), (22, 4)] Try.underlying24 rfl (by kernel_rfl) (z4s op5 rfl (z4s op5 rfl (z4s op5 rfl (z4s op4 rfl (za9 zvv))))))
  exact h
def zwr (x : (MDat × MDat)) : Prop := zqs x.1 ∧ zqs x.2
theorem zx5 : z11 Try.prog 43 (zaz false false) zwr := by
  have h := zeg (fun x : (MDat × MDat) => (x.1, x.2)) (fun a => ((a.1, a.2) : (MDat × MDat))) (fun _ => rfl) (zk2 [(24, 0), (24, 5)] Try.underlying43 (by kernel_rfl) (by kernel_rfl) (z4s zv9 rfl (za9 zv9)))
  exact h
def ok3 (x : Int) : Prop := (Lit.int .i64 x).wf = true
theorem op3 : z11 Try.prog 3 (qc .i64) ok3 := by
  have h := zc4 Try.underlying3 (by kernel_rfl)
  exact h
def zwk (x : (List Int)) : Prop := (∀ y ∈ x, ok3 y) ∧ x.length ≤ maxLen
theorem zx7 : z11 Try.prog 39 (tSl false (qc .i64)) zwk := by
  have h := z8d Try.underlying39 (by kernel_rfl) op3 (Nat.le_of_ble_eq_true rfl)
  exact h
def zvt (x : (List Int)) : Prop := (∀ y ∈ x, ok5 y) ∧ x.length ≤ maxLen
theorem zyj : z11 Try.prog 44 (tSl false (qc .u8)) zvt := by
  have h := z8d Try.underlying44 (by kernel_rfl) op5 (Nat.le_of_ble_eq_true rfl)
  exact h
def zuh (x : WDat) : Prop := zvt x.syms
theorem zyk : z11 Try.prog 46 (ze8 false) zuh := by
  have h := zeg (fun x : WDat => x.syms) (fun a => (⟨a⟩ : WDat)) (fun _ => rfl) (zbi [(44, 0)] Try.underlying46 rfl (by kernel_rfl) (znw (za9 zyj)))
  exact h
theorem laid : laidOutB Try.prog = true := by kernel_rfl
end GV
end Go.Proofs.Ytkcccdcloealfaa
