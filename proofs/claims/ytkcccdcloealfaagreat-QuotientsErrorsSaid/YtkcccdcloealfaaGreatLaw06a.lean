import Derived.Test.YtkcccdcloealfaaGreatSpec06e
import Derived.Test.YtkcccdcloealfaaGreatLives06
set_option linter.unusedVariables false
set_option linter.unusedSimpArgs false
namespace Go.Proofs.YtkcccdcloealfaaGreat
namespace GV
set_option maxRecDepth 100000
theorem q0w {x : MDat} (h : MDOk x) : (mOf x).rows.length ≤ 6 ∧ (mOf x).inputs ≤ 3 := by
  have h1 := h.st; have h2 := h.ins
  have a1 : 1 ≤ x.n ∧ x.n ≤ 6 := by unfold MDat.n; omega
  have a2 : 1 ≤ x.inp ∧ x.inp ≤ 3 := by unfold MDat.inp; omega
  have hl : (mOf x).rows.length = x.n.toNat := by simp [mOf]
  exact ⟨by omega, a2.2⟩
theorem zxs (w : List Int) (k : Nat) : cut w 0 (k : Int) = w.take k := by simp [cut]
end GV
end Go.Proofs.YtkcccdcloealfaaGreat
