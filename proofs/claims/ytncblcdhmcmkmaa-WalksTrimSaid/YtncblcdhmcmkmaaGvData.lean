/- The program's data as Lean data. -/
import Derived.Test.YtncblcdhmcmkmaaGvWo
namespace Go.Proofs.Ytncblcdhmcmkmaa
namespace GV
set_option linter.unusedVariables false

structure Edge where
  to : Int
  out : Int
  deriving DecidableEq, Inhabited
structure Mach where
  inputs : Int
  outputs : Int
  rows : List (List Edge)
  deriving DecidableEq, Inhabited

/-- A struct of one field. -/
def tOne {α : Type} (A : Ty α) : Ty α where
  size := A.size
  agg := true
  rep := A.rep
  len h := A.len h
  mono hle h := A.mono hle h
  one h := by cases h
  cell h := A.cell h
theorem part_one {α : Type} {A : Ty α} : Part (tOne A) 0 A id :=
  ⟨by simp [tOne], fun R cs x h => by rw [List.drop_zero, ← A.len h, List.take_length]; exact h⟩
end GV
end Go.Proofs.Ytncblcdhmcmkmaa
