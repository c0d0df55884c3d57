import Derived.Test.YtplgbkaollfmkaaPlain04
set_option linter.unusedVariables false
set_option linter.unusedSimpArgs false
namespace Go.Proofs.Ytplgbkaollfmkaa
namespace GV
set_option maxRecDepth 1000000
theorem z8x : mq 2000 = some true := by decide +kernel
theorem zn7 : df 2000 (⟨0, 0, ([] : List (List Edge))⟩ : Mach) = some 1 ∧ mr 2000 (⟨0, 0, ([] : List (List Edge))⟩ : Mach) = some 1 := by decide +kernel
end GV
end Go.Proofs.Ytplgbkaollfmkaa
