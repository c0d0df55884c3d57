import Derived.Test.YtplgbkaollfmkaaSpec06m
import Derived.Test.YtplgbkaollfmkaaLives39
set_option linter.unusedVariables false
set_option linter.unusedSimpArgs false
namespace Go.Proofs.Ytplgbkaollfmkaa
namespace GV
set_option maxRecDepth 100000
/-! ### Long words -/
def zds (m : Mach) (i : Int) : Bool := decide (i < 0) || decide (m.inputs ≤ i)
def z4w (m : Mach) (w : List Int) : Int := if 1024 < w.length then 3 else if w.any (zds m) = true then 1 else 0
theorem zq9 {m : Mach} {w : List Int} (h : w.any (zds m) = false) : WOk m.inputs w := fun k hk => by
  have := List.any_eq_false.1 h _ (l5 hk)
  unfold zds at this
  simp only [Bool.or_eq_true, decide_eq_true_eq, not_or] at this
  omega
theorem zjx {m : Mach} {w : List Int} (h : z4w m w = 0) : w.length ≤ 1024 ∧ WOk m.inputs w := by
  unfold z4w at h
  split at h
  · exact absurd h (by decide)
  · split at h
    · exact absurd h (by decide)
    · rename_i h1 h2
      exact ⟨by omega, zq9 (by simpa using h2)⟩
theorem zfe {N : Nat} {m : Mach} {w : List Int} (hN : 1100 ≤ N) : l8 N m w = some (z4w m w) := by
  unfold l8 z4w
  by_cases h : 1024 < w.length
  · rw [mr (by omega), if_pos h]
  · rw [p9 (by omega), if_neg h, qh (zev (p := zds m) (fun k hk => rfl) (by omega) (by omega))]
    cases hb : w.any (zds m)
    · rfl
    · rfl
/-! ### Responses -/
end GV
end Go.Proofs.Ytplgbkaollfmkaa
