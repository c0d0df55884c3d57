/-
  No cell of these rows narrows 'for every input' (looked for: loops, veiled, ifaces, maps, wideKeys, modest, calm, conditions, laid).
  DERIVED. THE GIVEN ROWS OF THIS SEAT. 3 by the template 'for every input the law returns true; each argument reads behind the call as it read before'; 0 by the template 'total and deterministic' (their statements: YtkhihcleegljhaaGreatTotals.lean).
  GIVEN WITH THE SEED: the statements are not yours to turn. If you find one false, say at which input.
  Laid BY PROGRAM, IN A SANDBOX (cutbox-rows.mjs): the forced cells as the released guide's own fill.sh prints them over the translation c8cd62b321ed74c8… (all of the seat's roots in one cut). By AI agents, Wed Nov 11 2026. No macro, syntax, notation, axiom, sorry.
-/
import Derived.Test.YtkhihcleegljhaaGreatChecked
import GoSem.Claim
import GoSem.ClaimJoined
import GoSem.ClaimMapViews
import Derived.JoinedTies
import Derived.KernelRfl
namespace Go.Proofs.YtkhihcleegljhaaGreat
/- THE CELL 'sum', in the pinned program and in every row, IS THE sha256 OF THE DUMP (.gsa) THAT YtkhihcleegljhaaGreatProg.lean LOADS. Nothing in Lean hashes anything: it is a label: what it is worth is what the hold of that sum in a sandbox is worth. -/
noncomputable def Tryz.pinned : Pinned := { name := "ytkhihcleegljhaagreat", sum := "c8cd62b321ed74c826b27e6e95caee4df5e7118b9b86a3ad1074d8a0997c2c33", checked := Tryz.checked }
namespace Rows
def none {H : Type} : Left H := { results := [], args := [] }

/-- 'gauntletlaw21.MatricesKill': WHATEVER THE INPUT: true; the input reads as it did. -/
def matricesKillSpec : ChangeSpec := { name := "matricesKill", fn := fun _ => fun
  | [d1, d2, d3] => { results := [.lit (.bool true)], args := [d1, d2, d3] }
  | _ => none }
def matricesKillRow : OpenClaim := { program := "ytkhihcleegljhaagreat", sum := "c8cd62b321ed74c826b27e6e95caee4df5e7118b9b86a3ad1074d8a0997c2c33", func := "gauntlet/gauntletlaw21.MatricesKill", spec := "matricesKill", unfollowed := true, recurses := true, apart := false }
def MatricesKillSaid : Prop := matricesKillRow.holds Tryz.pinned (OpenSpec.ofChange matricesKillSpec)

/-- ITS FALSE NEIGHBOUR: 'it returns false'. Refute it at one input. -/
def matricesKillWrong : ChangeSpec := { name := "matricesKill", fn := fun _ => fun
  | [d1, d2, d3] => { results := [.lit (.bool false)], args := [d1, d2, d3] }
  | _ => none }
def MatricesKillWrongFalsely : Prop := matricesKillRow.holds Tryz.pinned (OpenSpec.ofChange matricesKillWrong)

/-- 'gauntletlaw21.MatricesCover': WHATEVER THE INPUT: true; the input reads as it did. -/
def matricesCoverSpec : ChangeSpec := { name := "matricesCover", fn := fun _ => fun
  | [d] => { results := [.lit (.bool true)], args := [d] }
  | _ => none }
def matricesCoverRow : OpenClaim := { program := "ytkhihcleegljhaagreat", sum := "c8cd62b321ed74c826b27e6e95caee4df5e7118b9b86a3ad1074d8a0997c2c33", func := "gauntlet/gauntletlaw21.MatricesCover", spec := "matricesCover", unfollowed := true, recurses := true, apart := false }
def MatricesCoverSaid : Prop := matricesCoverRow.holds Tryz.pinned (OpenSpec.ofChange matricesCoverSpec)

/-- ITS FALSE NEIGHBOUR: 'it returns false'. Refute it at one input. -/
def matricesCoverWrong : ChangeSpec := { name := "matricesCover", fn := fun _ => fun
  | [d] => { results := [.lit (.bool false)], args := [d] }
  | _ => none }
def MatricesCoverWrongFalsely : Prop := matricesCoverRow.holds Tryz.pinned (OpenSpec.ofChange matricesCoverWrong)

/-- 'gauntletlaw21.MatricesErrors': WHATEVER THE INPUT: true; the input reads as it did. -/
def matricesErrorsSpec : ChangeSpec := { name := "matricesErrors", fn := fun _ => fun
  | [d1, d2, d3] => { results := [.lit (.bool true)], args := [d1, d2, d3] }
  | _ => none }
def matricesErrorsRow : OpenClaim := { program := "ytkhihcleegljhaagreat", sum := "c8cd62b321ed74c826b27e6e95caee4df5e7118b9b86a3ad1074d8a0997c2c33", func := "gauntlet/gauntletlaw21.MatricesErrors", spec := "matricesErrors", unfollowed := true, recurses := true, apart := false }
def MatricesErrorsSaid : Prop := matricesErrorsRow.holds Tryz.pinned (OpenSpec.ofChange matricesErrorsSpec)

/-- ITS FALSE NEIGHBOUR: 'it returns false'. Refute it at one input. -/
def matricesErrorsWrong : ChangeSpec := { name := "matricesErrors", fn := fun _ => fun
  | [d1, d2, d3] => { results := [.lit (.bool false)], args := [d1, d2, d3] }
  | _ => none }
def MatricesErrorsWrongFalsely : Prop := matricesErrorsRow.holds Tryz.pinned (OpenSpec.ofChange matricesErrorsWrong)

/- THE SECOND FORM. 'bulk': how many values and letters a reading holds, each counted each time it is reached (what is shared counts as often as it is met; a slice's spare places count too). A statement '..UptoSaid' is the law's where the arguments, and the package variables that the reading takes, are together of bulk at most 1048576: NARROWER than '..Said'. Prove '..Said' where nothing that the law and all that it calls make is longer than what came in: it says more and counts as full. Else prove '..UptoSaid'. A law counts once. -/
mutual
def uptoBulk {H : Type} : DataW H → Nat
  | .lit (.string bytes) => bytes.length + 1
  | .lit _ => 1
  | .nil => 1
  | .ptr d => uptoBulk d + 1
  | .slice elems spare => uptoBulkAll elems + uptoBulkAll spare + 1
  | .agg parts => uptoBulkAll parts + 1
  | .iface _ d => uptoBulk d + 1
  | .map entries => uptoBulkEntries entries + 1
  | .held _ => 1
def uptoBulkAll {H : Type} : List (DataW H) → Nat
  | [] => 0
  | d :: r => uptoBulk d + uptoBulkAll r
def uptoBulkEntries {H : Type} : List (Lit × DataW H) → Nat
  | [] => 0
  | x :: r => uptoBulkEntry x + uptoBulkEntries r
def uptoBulkEntry {H : Type} : Lit × DataW H → Nat
  | (.string bytes, d) => bytes.length + uptoBulk d + 1
  | (_, d) => uptoBulk d + 1
 end
def uptoSmall : (H : Type) → List (DataW H) → Bool := fun _ ds => decide (uptoBulkAll ds ≤ 1048576)
def OpenSpec.upto (s : _root_.Go.ChangeSpec) : _root_.Go.OpenSpec := { _root_.Go.OpenSpec.ofChange s with cond := some uptoSmall }

/-- 'gauntletlaw21.MatricesKill', WHERE WHAT IT READS IS OF BULK AT MOST 1048576: true; the input reads as it did. -/
def matricesKillUptoRow : OpenClaim := { program := "ytkhihcleegljhaagreat", sum := "c8cd62b321ed74c826b27e6e95caee4df5e7118b9b86a3ad1074d8a0997c2c33", func := "gauntlet/gauntletlaw21.MatricesKill", spec := "matricesKill", unfollowed := true, recurses := true, apart := false, narrowed := true }
def MatricesKillUptoSaid : Prop := matricesKillUptoRow.holds Tryz.pinned (OpenSpec.upto matricesKillSpec)

/-- 'gauntletlaw21.MatricesCover', WHERE WHAT IT READS IS OF BULK AT MOST 1048576: true; the input reads as it did. -/
def matricesCoverUptoRow : OpenClaim := { program := "ytkhihcleegljhaagreat", sum := "c8cd62b321ed74c826b27e6e95caee4df5e7118b9b86a3ad1074d8a0997c2c33", func := "gauntlet/gauntletlaw21.MatricesCover", spec := "matricesCover", unfollowed := true, recurses := true, apart := false, narrowed := true }
def MatricesCoverUptoSaid : Prop := matricesCoverUptoRow.holds Tryz.pinned (OpenSpec.upto matricesCoverSpec)

/-- 'gauntletlaw21.MatricesErrors', WHERE WHAT IT READS IS OF BULK AT MOST 1048576: true; the input reads as it did. -/
def matricesErrorsUptoRow : OpenClaim := { program := "ytkhihcleegljhaagreat", sum := "c8cd62b321ed74c826b27e6e95caee4df5e7118b9b86a3ad1074d8a0997c2c33", func := "gauntlet/gauntletlaw21.MatricesErrors", spec := "matricesErrors", unfollowed := true, recurses := true, apart := false, narrowed := true }
def MatricesErrorsUptoSaid : Prop := matricesErrorsUptoRow.holds Tryz.pinned (OpenSpec.upto matricesErrorsSpec)

end Rows
end Go.Proofs.YtkhihcleegljhaaGreat
