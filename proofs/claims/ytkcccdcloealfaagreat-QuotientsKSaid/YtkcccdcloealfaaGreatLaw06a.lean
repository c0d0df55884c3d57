import Derived.Test.YtkcccdcloealfaaGreatSpec06e
import Derived.Test.YtkcccdcloealfaaGreatLives06
set_option linter.unusedVariables false
set_option linter.unusedSimpArgs false
namespace Go.Proofs.YtkcccdcloealfaaGreat
namespace GV
set_option maxRecDepth 100000
theorem zxs (w : List Int) (k : Nat) : cut w 0 (k : Int) = w.take k := by simp [cut]
end GV
end Go.Proofs.YtkcccdcloealfaaGreat
