/- Chapter 06: the law Isomorphic. -/
import Derived.Test.YtncblcdhmcmkmaaSpec06i
namespace Go.Proofs.Ytncblcdhmcmkmaa
namespace GV
set_option linter.unusedVariables false
set_option maxRecDepth 100000

theorem bd_ex {α β : Type} {e : Option α} {k : α → Option β} {P : α → Prop} {r : Option β} (h : ∃ v, e = some v ∧ P v) (hk : ∀ v, P v → k v = r) : bd e k = r := by
  obtain ⟨v, hv, hp⟩ := h
  rw [bd_pos hv]; exact hk v hp
end GV
end Go.Proofs.Ytncblcdhmcmkmaa
