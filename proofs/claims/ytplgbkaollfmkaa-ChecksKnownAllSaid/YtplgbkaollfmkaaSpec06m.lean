import Derived.Test.YtplgbkaollfmkaaSpec06k
import Derived.Test.YtplgbkaollfmkaaSpec06l
set_option linter.unusedVariables false
set_option linter.unusedSimpArgs false
namespace Go.Proofs.Ytplgbkaollfmkaa
namespace GV
set_option maxRecDepth 1000000
def RngL (b : Int) (l : List Int) : Prop := ∀ z ∈ l, 0 ≤ z ∧ z ≤ b
theorem RngL.get {b : Int} {l : List Int} (h : RngL b l) (k : Nat) (hk : k < l.length) : 0 ≤ l.getD k default ∧ l.getD k default ≤ b := h _ (l5 hk)
end GV
end Go.Proofs.Ytplgbkaollfmkaa
