/-
  No cell of these rows narrows 'for every input' (looked for: loops, veiled, ifaces, maps, wideKeys, modest, calm, conditions, laid).
  DERIVED. THE GIVEN ROWS OF THIS SEAT. 8 by the template 'for every input the law returns true; each argument reads behind the call as it read before'; 0 by the template 'total and deterministic' (their statements: YtdhccodneoebpaaTotals.lean).
  GIVEN WITH THE SEED: the statements are not yours to turn. If you find one false, say at which input.
  Laid BY PROGRAM, IN A SANDBOX (cutbox-rows.mjs): the forced cells as the released guide's own fill.sh prints them over the translation cbc737ba61f17d76… (all of the seat's roots in one cut). By AI agents, Wed Nov 11 2026. No macro, syntax, notation, axiom, sorry.
-/
import Derived.Test.YtdhccodneoebpaaChecked
import GoSem.Claim
import GoSem.ClaimJoined
import GoSem.ClaimMapViews
import Derived.JoinedTies
import Derived.KernelRfl
namespace Go.Proofs.Ytdhccodneoebpaa
/- THE CELL 'sum', in the pinned program and in every row, IS THE sha256 OF THE DUMP (.gsa) THAT YtdhccodneoebpaaProg.lean LOADS. Nothing in Lean hashes anything: it is a label: what it is worth is what the hold of that sum in a sandbox is worth. -/
noncomputable def Try.pinned : Pinned := { name := "ytdhccodneoebpaa", sum := "cbc737ba61f17d76e35badfbfd7321f465d6dbe5a0bfc9dd2430f94b9c30a9fa", checked := Try.checked }
namespace Rows
def none {H : Type} : Left H := { results := [], args := [] }

/-- 'gauntletlaw38.ToursKnots': WHATEVER THE INPUT: true; the input reads as it did. -/
def toursKnotsSpec : ChangeSpec := { name := "toursKnots", fn := fun _ => fun
  | [d] => { results := [.lit (.bool true)], args := [d] }
  | _ => none }
def toursKnotsRow : OpenClaim := { program := "ytdhccodneoebpaa", sum := "cbc737ba61f17d76e35badfbfd7321f465d6dbe5a0bfc9dd2430f94b9c30a9fa", func := "gauntlet/gauntletlaw38.ToursKnots", spec := "toursKnots", unfollowed := true, recurses := true, plainKeys := false, apart := false }
def ToursKnotsSaid : Prop := toursKnotsRow.holds Try.pinned (OpenSpec.ofChange toursKnotsSpec)

/-- ITS FALSE NEIGHBOUR: 'it returns false'. Refute it at one input. -/
def toursKnotsWrong : ChangeSpec := { name := "toursKnots", fn := fun _ => fun
  | [d] => { results := [.lit (.bool false)], args := [d] }
  | _ => none }
def ToursKnotsWrongFalsely : Prop := toursKnotsRow.holds Try.pinned (OpenSpec.ofChange toursKnotsWrong)

/-- 'gauntletlaw38.ToursTour': WHATEVER THE INPUT: true; the input reads as it did. -/
def toursTourSpec : ChangeSpec := { name := "toursTour", fn := fun _ => fun
  | [d1, d2] => { results := [.lit (.bool true)], args := [d1, d2] }
  | _ => none }
def toursTourRow : OpenClaim := { program := "ytdhccodneoebpaa", sum := "cbc737ba61f17d76e35badfbfd7321f465d6dbe5a0bfc9dd2430f94b9c30a9fa", func := "gauntlet/gauntletlaw38.ToursTour", spec := "toursTour", unfollowed := true, recurses := true, plainKeys := false, apart := false }
def ToursTourSaid : Prop := toursTourRow.holds Try.pinned (OpenSpec.ofChange toursTourSpec)

/-- ITS FALSE NEIGHBOUR: 'it returns false'. Refute it at one input. -/
def toursTourWrong : ChangeSpec := { name := "toursTour", fn := fun _ => fun
  | [d1, d2] => { results := [.lit (.bool false)], args := [d1, d2] }
  | _ => none }
def ToursTourWrongFalsely : Prop := toursTourRow.holds Try.pinned (OpenSpec.ofChange toursTourWrong)

/-- 'gauntletlaw38.ToursExact': WHATEVER THE INPUT: true; the input reads as it did. -/
def toursExactSpec : ChangeSpec := { name := "toursExact", fn := fun _ => fun
  | [d1, d2] => { results := [.lit (.bool true)], args := [d1, d2] }
  | _ => none }
def toursExactRow : OpenClaim := { program := "ytdhccodneoebpaa", sum := "cbc737ba61f17d76e35badfbfd7321f465d6dbe5a0bfc9dd2430f94b9c30a9fa", func := "gauntlet/gauntletlaw38.ToursExact", spec := "toursExact", unfollowed := true, recurses := true, plainKeys := false, apart := false }
def ToursExactSaid : Prop := toursExactRow.holds Try.pinned (OpenSpec.ofChange toursExactSpec)

/-- ITS FALSE NEIGHBOUR: 'it returns false'. Refute it at one input. -/
def toursExactWrong : ChangeSpec := { name := "toursExact", fn := fun _ => fun
  | [d1, d2] => { results := [.lit (.bool false)], args := [d1, d2] }
  | _ => none }
def ToursExactWrongFalsely : Prop := toursExactRow.holds Try.pinned (OpenSpec.ofChange toursExactWrong)

/-- 'gauntletlaw38.ToursLength': WHATEVER THE INPUT: true; the input reads as it did. -/
def toursLengthSpec : ChangeSpec := { name := "toursLength", fn := fun _ => fun
  | [d] => { results := [.lit (.bool true)], args := [d] }
  | _ => none }
def toursLengthRow : OpenClaim := { program := "ytdhccodneoebpaa", sum := "cbc737ba61f17d76e35badfbfd7321f465d6dbe5a0bfc9dd2430f94b9c30a9fa", func := "gauntlet/gauntletlaw38.ToursLength", spec := "toursLength", unfollowed := true, recurses := true, plainKeys := false, apart := false }
def ToursLengthSaid : Prop := toursLengthRow.holds Try.pinned (OpenSpec.ofChange toursLengthSpec)

/-- ITS FALSE NEIGHBOUR: 'it returns false'. Refute it at one input. -/
def toursLengthWrong : ChangeSpec := { name := "toursLength", fn := fun _ => fun
  | [d] => { results := [.lit (.bool false)], args := [d] }
  | _ => none }
def ToursLengthWrongFalsely : Prop := toursLengthRow.holds Try.pinned (OpenSpec.ofChange toursLengthWrong)

/-- 'gauntletlaw38.ToursGreat': WHATEVER THE INPUT: true; the input reads as it did. -/
def toursGreatSpec : ChangeSpec := { name := "toursGreat", fn := fun _ => fun
  | [d] => { results := [.lit (.bool true)], args := [d] }
  | _ => none }
def toursGreatRow : OpenClaim := { program := "ytdhccodneoebpaa", sum := "cbc737ba61f17d76e35badfbfd7321f465d6dbe5a0bfc9dd2430f94b9c30a9fa", func := "gauntlet/gauntletlaw38.ToursGreat", spec := "toursGreat", unfollowed := true, recurses := true, plainKeys := false, apart := false }
def ToursGreatSaid : Prop := toursGreatRow.holds Try.pinned (OpenSpec.ofChange toursGreatSpec)

/-- ITS FALSE NEIGHBOUR: 'it returns false'. Refute it at one input. -/
def toursGreatWrong : ChangeSpec := { name := "toursGreat", fn := fun _ => fun
  | [d] => { results := [.lit (.bool false)], args := [d] }
  | _ => none }
def ToursGreatWrongFalsely : Prop := toursGreatRow.holds Try.pinned (OpenSpec.ofChange toursGreatWrong)

/-- 'gauntletlaw38.ToursKnown': WHATEVER THE INPUT: true; the input reads as it did. -/
def toursKnownSpec : ChangeSpec := { name := "toursKnown", fn := fun _ => fun
  | [] => { results := [.lit (.bool true)], args := [] }
  | _ => none }
def toursKnownRow : OpenClaim := { program := "ytdhccodneoebpaa", sum := "cbc737ba61f17d76e35badfbfd7321f465d6dbe5a0bfc9dd2430f94b9c30a9fa", func := "gauntlet/gauntletlaw38.ToursKnown", spec := "toursKnown", unfollowed := true, recurses := true, plainKeys := false, apart := false }
def ToursKnownSaid : Prop := toursKnownRow.holds Try.pinned (OpenSpec.ofChange toursKnownSpec)

/-- ITS FALSE NEIGHBOUR: 'it returns false'. Refute it at one input. -/
def toursKnownWrong : ChangeSpec := { name := "toursKnown", fn := fun _ => fun
  | [] => { results := [.lit (.bool false)], args := [] }
  | _ => none }
def ToursKnownWrongFalsely : Prop := toursKnownRow.holds Try.pinned (OpenSpec.ofChange toursKnownWrong)

/-- 'gauntletlaw38.ToursTakes': WHATEVER THE INPUT: true; the input reads as it did. -/
def toursTakesSpec : ChangeSpec := { name := "toursTakes", fn := fun _ => fun
  | [d1, d2, d3] => { results := [.lit (.bool true)], args := [d1, d2, d3] }
  | _ => none }
def toursTakesRow : OpenClaim := { program := "ytdhccodneoebpaa", sum := "cbc737ba61f17d76e35badfbfd7321f465d6dbe5a0bfc9dd2430f94b9c30a9fa", func := "gauntlet/gauntletlaw38.ToursTakes", spec := "toursTakes", unfollowed := true, recurses := true, plainKeys := false, apart := false }
def ToursTakesSaid : Prop := toursTakesRow.holds Try.pinned (OpenSpec.ofChange toursTakesSpec)

/-- ITS FALSE NEIGHBOUR: 'it returns false'. Refute it at one input. -/
def toursTakesWrong : ChangeSpec := { name := "toursTakes", fn := fun _ => fun
  | [d1, d2, d3] => { results := [.lit (.bool false)], args := [d1, d2, d3] }
  | _ => none }
def ToursTakesWrongFalsely : Prop := toursTakesRow.holds Try.pinned (OpenSpec.ofChange toursTakesWrong)

/-- 'gauntletlaw38.ToursErrors': WHATEVER THE INPUT: true; the input reads as it did. -/
def toursErrorsSpec : ChangeSpec := { name := "toursErrors", fn := fun _ => fun
  | [d] => { results := [.lit (.bool true)], args := [d] }
  | _ => none }
def toursErrorsRow : OpenClaim := { program := "ytdhccodneoebpaa", sum := "cbc737ba61f17d76e35badfbfd7321f465d6dbe5a0bfc9dd2430f94b9c30a9fa", func := "gauntlet/gauntletlaw38.ToursErrors", spec := "toursErrors", unfollowed := true, recurses := true, plainKeys := false, apart := false }
def ToursErrorsSaid : Prop := toursErrorsRow.holds Try.pinned (OpenSpec.ofChange toursErrorsSpec)

/-- ITS FALSE NEIGHBOUR: 'it returns false'. Refute it at one input. -/
def toursErrorsWrong : ChangeSpec := { name := "toursErrors", fn := fun _ => fun
  | [d] => { results := [.lit (.bool false)], args := [d] }
  | _ => none }
def ToursErrorsWrongFalsely : Prop := toursErrorsRow.holds Try.pinned (OpenSpec.ofChange toursErrorsWrong)

/- THE SECOND FORM. 'bulk': how many values and letters a reading holds, each counted each time it is reached (what is shared counts as often as it is met; a slice's spare places count too). A statement '..UptoSaid' is the law's where the arguments, and the package variables that the reading takes, are together of bulk at most 1048576: NARROWER than '..Said'. Prove '..Said' where nothing that the law and all that it calls make is longer than what came in: it says more and counts as full. Else prove '..UptoSaid'. A law counts once. -/
mutual
def uptoBulk {H : Type} : DataW H → Nat
  | .lit (.string bytes) => bytes.length + 1
  | .lit _ => 1
  | .nil => 1
  | .ptr d => uptoBulk d + 1
  | .slice elems spare => uptoBulkAll elems + uptoBulkAll spare + 1
  | .agg parts => uptoBulkAll parts + 1
  | .iface _ d => uptoBulk d + 1
  | .map entries => uptoBulkEntries entries + 1
  | .held _ => 1
def uptoBulkAll {H : Type} : List (DataW H) → Nat
  | [] => 0
  | d :: r => uptoBulk d + uptoBulkAll r
def uptoBulkEntries {H : Type} : List (Lit × DataW H) → Nat
  | [] => 0
  | x :: r => uptoBulkEntry x + uptoBulkEntries r
def uptoBulkEntry {H : Type} : Lit × DataW H → Nat
  | (.string bytes, d) => bytes.length + uptoBulk d + 1
  | (_, d) => uptoBulk d + 1
 end
def uptoSmall : (H : Type) → List (DataW H) → Bool := fun _ ds => decide (uptoBulkAll ds ≤ 1048576)
def OpenSpec.upto (s : _root_.Go.ChangeSpec) : _root_.Go.OpenSpec := { _root_.Go.OpenSpec.ofChange s with cond := some uptoSmall }

/-- 'gauntletlaw38.ToursKnots', WHERE WHAT IT READS IS OF BULK AT MOST 1048576: true; the input reads as it did. -/
def toursKnotsUptoRow : OpenClaim := { program := "ytdhccodneoebpaa", sum := "cbc737ba61f17d76e35badfbfd7321f465d6dbe5a0bfc9dd2430f94b9c30a9fa", func := "gauntlet/gauntletlaw38.ToursKnots", spec := "toursKnots", unfollowed := true, recurses := true, plainKeys := false, apart := false, narrowed := true }
def ToursKnotsUptoSaid : Prop := toursKnotsUptoRow.holds Try.pinned (OpenSpec.upto toursKnotsSpec)

/-- 'gauntletlaw38.ToursTour', WHERE WHAT IT READS IS OF BULK AT MOST 1048576: true; the input reads as it did. -/
def toursTourUptoRow : OpenClaim := { program := "ytdhccodneoebpaa", sum := "cbc737ba61f17d76e35badfbfd7321f465d6dbe5a0bfc9dd2430f94b9c30a9fa", func := "gauntlet/gauntletlaw38.ToursTour", spec := "toursTour", unfollowed := true, recurses := true, plainKeys := false, apart := false, narrowed := true }
def ToursTourUptoSaid : Prop := toursTourUptoRow.holds Try.pinned (OpenSpec.upto toursTourSpec)

/-- 'gauntletlaw38.ToursExact', WHERE WHAT IT READS IS OF BULK AT MOST 1048576: true; the input reads as it did. -/
def toursExactUptoRow : OpenClaim := { program := "ytdhccodneoebpaa", sum := "cbc737ba61f17d76e35badfbfd7321f465d6dbe5a0bfc9dd2430f94b9c30a9fa", func := "gauntlet/gauntletlaw38.ToursExact", spec := "toursExact", unfollowed := true, recurses := true, plainKeys := false, apart := false, narrowed := true }
def ToursExactUptoSaid : Prop := toursExactUptoRow.holds Try.pinned (OpenSpec.upto toursExactSpec)

/-- 'gauntletlaw38.ToursLength', WHERE WHAT IT READS IS OF BULK AT MOST 1048576: true; the input reads as it did. -/
def toursLengthUptoRow : OpenClaim := { program := "ytdhccodneoebpaa", sum := "cbc737ba61f17d76e35badfbfd7321f465d6dbe5a0bfc9dd2430f94b9c30a9fa", func := "gauntlet/gauntletlaw38.ToursLength", spec := "toursLength", unfollowed := true, recurses := true, plainKeys := false, apart := false, narrowed := true }
def ToursLengthUptoSaid : Prop := toursLengthUptoRow.holds Try.pinned (OpenSpec.upto toursLengthSpec)

/-- 'gauntletlaw38.ToursGreat', WHERE WHAT IT READS IS OF BULK AT MOST 1048576: true; the input reads as it did. -/
def toursGreatUptoRow : OpenClaim := { program := "ytdhccodneoebpaa", sum := "cbc737ba61f17d76e35badfbfd7321f465d6dbe5a0bfc9dd2430f94b9c30a9fa", func := "gauntlet/gauntletlaw38.ToursGreat", spec := "toursGreat", unfollowed := true, recurses := true, plainKeys := false, apart := false, narrowed := true }
def ToursGreatUptoSaid : Prop := toursGreatUptoRow.holds Try.pinned (OpenSpec.upto toursGreatSpec)

/-- 'gauntletlaw38.ToursKnown', WHERE WHAT IT READS IS OF BULK AT MOST 1048576: true; the input reads as it did. -/
def toursKnownUptoRow : OpenClaim := { program := "ytdhccodneoebpaa", sum := "cbc737ba61f17d76e35badfbfd7321f465d6dbe5a0bfc9dd2430f94b9c30a9fa", func := "gauntlet/gauntletlaw38.ToursKnown", spec := "toursKnown", unfollowed := true, recurses := true, plainKeys := false, apart := false, narrowed := true }
def ToursKnownUptoSaid : Prop := toursKnownUptoRow.holds Try.pinned (OpenSpec.upto toursKnownSpec)

/-- 'gauntletlaw38.ToursTakes', WHERE WHAT IT READS IS OF BULK AT MOST 1048576: true; the input reads as it did. -/
def toursTakesUptoRow : OpenClaim := { program := "ytdhccodneoebpaa", sum := "cbc737ba61f17d76e35badfbfd7321f465d6dbe5a0bfc9dd2430f94b9c30a9fa", func := "gauntlet/gauntletlaw38.ToursTakes", spec := "toursTakes", unfollowed := true, recurses := true, plainKeys := false, apart := false, narrowed := true }
def ToursTakesUptoSaid : Prop := toursTakesUptoRow.holds Try.pinned (OpenSpec.upto toursTakesSpec)

/-- 'gauntletlaw38.ToursErrors', WHERE WHAT IT READS IS OF BULK AT MOST 1048576: true; the input reads as it did. -/
def toursErrorsUptoRow : OpenClaim := { program := "ytdhccodneoebpaa", sum := "cbc737ba61f17d76e35badfbfd7321f465d6dbe5a0bfc9dd2430f94b9c30a9fa", func := "gauntlet/gauntletlaw38.ToursErrors", spec := "toursErrors", unfollowed := true, recurses := true, plainKeys := false, apart := false, narrowed := true }
def ToursErrorsUptoSaid : Prop := toursErrorsUptoRow.holds Try.pinned (OpenSpec.upto toursErrorsSpec)

end Rows
end Go.Proofs.Ytdhccodneoebpaa
