import Derived.Test.YtkkcidhcfkmbjaaGreatDoorDsep
set_option linter.unusedVariables false
set_option linter.unusedSimpArgs false
set_option linter.unusedSectionVars false
namespace Go.Proofs.YtkkcidhcfkmbjaaGreatDoor
namespace GV
set_option maxRecDepth 100000
/-! ### Tables that are filled place by place-/
section
variable {n I p s i : Nat} {G : Nat → Nat → Edge}
end
end GV
end Go.Proofs.YtkkcidhcfkmbjaaGreatDoor
