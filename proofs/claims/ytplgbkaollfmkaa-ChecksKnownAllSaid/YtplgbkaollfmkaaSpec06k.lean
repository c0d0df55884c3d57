
import Derived.Test.YtplgbkaollfmkaaPart06
set_option linter.unusedVariables false
set_option linter.unusedSimpArgs false
namespace Go.Proofs.Ytplgbkaollfmkaa
namespace GV
set_option maxRecDepth 100000
end GV
end Go.Proofs.Ytplgbkaollfmkaa

namespace Go.Proofs.Ytplgbkaollfmkaa
namespace GV
set_option maxRecDepth 100000
section
variable {m : Mach} {L : List Nat}
end
/-! ### The states in their order -/
section
variable {m : Mach} {s0 : Nat} {P : List BE}
end
section
variable {m : Mach} {L : List Nat}
end
end GV
end Go.Proofs.Ytplgbkaollfmkaa

namespace Go.Proofs.Ytplgbkaollfmkaa
namespace GV
set_option maxRecDepth 100000
end GV
end Go.Proofs.Ytplgbkaollfmkaa

namespace Go.Proofs.Ytplgbkaollfmkaa
namespace GV
set_option maxRecDepth 100000
structure Num (n : Nat) (L : List Nat) : Prop where
  len : L.length = n
  rng : ∀ k, k < n → L.getD k 0 < n
  inj : ∀ i j, i < n → j < n → L.getD i 0 = L.getD j 0 → i = j
  sur : ∀ s, s < n → ∃ k, k < n ∧ L.getD k 0 = s
  zero : L.getD 0 0 = 0
def tr (a b k : Nat) : Nat := if k = b then a else if k = a then b else k
section
variable {m : Mach} {L : List Nat}
end
theorem zkx {α β : Type} {b : Bool} {e : Option α} {v : α} {k : Option α → Option β} (hb : b = true) (he : e = some v) : bd (gop b e) k = k (some v) := by
  rw [zi1 (fun _ => he), hb]; rfl
end GV
end Go.Proofs.Ytplgbkaollfmkaa

namespace Go.Proofs.Ytplgbkaollfmkaa
namespace GV
set_option maxRecDepth 100000
end GV
end Go.Proofs.Ytplgbkaollfmkaa

namespace Go.Proofs.Ytplgbkaollfmkaa
namespace GV
set_option maxRecDepth 100000
end GV
end Go.Proofs.Ytplgbkaollfmkaa

namespace Go.Proofs.Ytplgbkaollfmkaa
namespace GV
set_option maxRecDepth 100000
section
variable {N : Nat} {m : Mach}
end
end GV
end Go.Proofs.Ytplgbkaollfmkaa
