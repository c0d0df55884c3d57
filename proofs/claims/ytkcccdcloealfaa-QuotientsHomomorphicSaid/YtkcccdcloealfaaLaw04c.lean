import Derived.Test.YtkcccdcloealfaaSpec04b
set_option linter.unusedVariables false
set_option linter.unusedSimpArgs false
namespace Go.Proofs.Ytkcccdcloealfaa
namespace GV
set_option maxRecDepth 100000
theorem zns {α : Type} {X Y : List α} {k : Nat} {d : α} (h : X.length ≤ k) : (X ++ Y).getD k d = Y.getD (k - X.length) d := by
  simp only [List.getD_eq_getElem?_getD]; rw [List.getElem?_append_right h]
theorem z5a {n : Int} {u v : List Int} (hu : WOk n u) (hv : WOk n v) : WOk n (u ++ v) := fun k hk => by
  rw [List.length_append] at hk
  by_cases h : k < u.length
  · rw [znn h]; exact hu k h
  · rw [zns (by omega)]; exact hv _ (by omega)
/-! ### The shape of a machine -/
end GV
end Go.Proofs.Ytkcccdcloealfaa
