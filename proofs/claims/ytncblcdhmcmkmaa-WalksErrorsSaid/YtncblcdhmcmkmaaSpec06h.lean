/- Chapter 06: other numberings; the law Canonical. -/
import Derived.Test.YtncblcdhmcmkmaaSpec06g
namespace Go.Proofs.Ytncblcdhmcmkmaa
namespace GV
set_option linter.unusedVariables false
set_option maxRecDepth 100000

/-- A numbering of n states that leaves the initial one. -/
structure Num (n : Nat) (L : List Nat) : Prop where
  len : L.length = n
  rng : ∀ k, k < n → L.getD k 0 < n
  inj : ∀ i j, i < n → j < n → L.getD i 0 = L.getD j 0 → i = j
  sur : ∀ s, s < n → ∃ k, k < n ∧ L.getD k 0 = s
  zero : L.getD 0 0 = 0
section
variable {m : Mach} {L : List Nat}
end
theorem g_bd {α β : Type} {b : Bool} {e : Option α} {v : α} {k : Option α → Option β} (hb : b = true) (he : e = some v) : bd (gop b e) k = k (some v) := by
  rw [bd_gop (fun _ => he), hb]; rfl
end GV
end Go.Proofs.Ytncblcdhmcmkmaa
