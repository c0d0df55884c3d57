/-
  No cell of these rows narrows 'for every input' (looked for: loops, veiled, ifaces, maps, wideKeys, modest, calm, conditions, laid).
  DERIVED. THE GIVEN ROWS OF THIS SEAT. 3 by the template 'for every input the law returns true; each argument reads behind the call as it read before'; 0 by the template 'total and deterministic' (their statements: YtjmlpkkbmnjhcaaTotals.lean).
  GIVEN WITH THE SEED: the statements are not yours to turn. If you find one false, say at which input.
  Laid BY PROGRAM, IN A SANDBOX (cutbox-rows.mjs): the forced cells as the released guide's own fill.sh prints them over the translation fc6de24595797b5a… (all of the seat's roots in one cut). By AI agents, Wed Nov 11 2026. No macro, syntax, notation, axiom, sorry.
-/
import Derived.Test.YtjmlpkkbmnjhcaaChecked
import GoSem.Claim
import GoSem.ClaimJoined
import GoSem.ClaimMapViews
import Derived.JoinedTies
import Derived.KernelRfl
namespace Go.Proofs.Ytjmlpkkbmnjhcaa
/- THE CELL 'sum', in the pinned program and in every row, IS THE sha256 OF THE DUMP (.gsa) THAT YtjmlpkkbmnjhcaaProg.lean LOADS. Nothing in Lean hashes anything: it is a label: what it is worth is what the hold of that sum in a sandbox is worth. -/
noncomputable def Try.pinned : Pinned := { name := "ytjmlpkkbmnjhcaa", sum := "fc6de24595797b5a882440a88baa70c6d629c4ca685cf438cf2e0bb980961ea3", checked := Try.checked }
namespace Rows
def none {H : Type} : Left H := { results := [], args := [] }

/-- 'gauntletlaw16.HomesMerge': WHATEVER THE INPUT: true; the input reads as it did. -/
def homesMergeSpec : ChangeSpec := { name := "homesMerge", fn := fun _ => fun
  | [d1, d2, d3] => { results := [.lit (.bool true)], args := [d1, d2, d3] }
  | _ => none }
def homesMergeRow : OpenClaim := { program := "ytjmlpkkbmnjhcaa", sum := "fc6de24595797b5a882440a88baa70c6d629c4ca685cf438cf2e0bb980961ea3", func := "gauntlet/gauntletlaw16.HomesMerge", spec := "homesMerge", unfollowed := true, recurses := true, apart := false }
def HomesMergeSaid : Prop := homesMergeRow.holds Try.pinned (OpenSpec.ofChange homesMergeSpec)

/-- ITS FALSE NEIGHBOUR: 'it returns false'. Refute it at one input. -/
def homesMergeWrong : ChangeSpec := { name := "homesMerge", fn := fun _ => fun
  | [d1, d2, d3] => { results := [.lit (.bool false)], args := [d1, d2, d3] }
  | _ => none }
def HomesMergeWrongFalsely : Prop := homesMergeRow.holds Try.pinned (OpenSpec.ofChange homesMergeWrong)

/-- 'gauntletlaw16.HomesAdaptive': WHATEVER THE INPUT: true; the input reads as it did. -/
def homesAdaptiveSpec : ChangeSpec := { name := "homesAdaptive", fn := fun _ => fun
  | [d] => { results := [.lit (.bool true)], args := [d] }
  | _ => none }
def homesAdaptiveRow : OpenClaim := { program := "ytjmlpkkbmnjhcaa", sum := "fc6de24595797b5a882440a88baa70c6d629c4ca685cf438cf2e0bb980961ea3", func := "gauntlet/gauntletlaw16.HomesAdaptive", spec := "homesAdaptive", unfollowed := true, recurses := true, apart := false }
def HomesAdaptiveSaid : Prop := homesAdaptiveRow.holds Try.pinned (OpenSpec.ofChange homesAdaptiveSpec)

/-- ITS FALSE NEIGHBOUR: 'it returns false'. Refute it at one input. -/
def homesAdaptiveWrong : ChangeSpec := { name := "homesAdaptive", fn := fun _ => fun
  | [d] => { results := [.lit (.bool false)], args := [d] }
  | _ => none }
def HomesAdaptiveWrongFalsely : Prop := homesAdaptiveRow.holds Try.pinned (OpenSpec.ofChange homesAdaptiveWrong)

/-- 'gauntletlaw16.HomesKnown': WHATEVER THE INPUT: true; the input reads as it did. -/
def homesKnownSpec : ChangeSpec := { name := "homesKnown", fn := fun _ => fun
  | [] => { results := [.lit (.bool true)], args := [] }
  | _ => none }
def homesKnownRow : OpenClaim := { program := "ytjmlpkkbmnjhcaa", sum := "fc6de24595797b5a882440a88baa70c6d629c4ca685cf438cf2e0bb980961ea3", func := "gauntlet/gauntletlaw16.HomesKnown", spec := "homesKnown", unfollowed := true, recurses := true, apart := false }
def HomesKnownSaid : Prop := homesKnownRow.holds Try.pinned (OpenSpec.ofChange homesKnownSpec)

/-- ITS FALSE NEIGHBOUR: 'it returns false'. Refute it at one input. -/
def homesKnownWrong : ChangeSpec := { name := "homesKnown", fn := fun _ => fun
  | [] => { results := [.lit (.bool false)], args := [] }
  | _ => none }
def HomesKnownWrongFalsely : Prop := homesKnownRow.holds Try.pinned (OpenSpec.ofChange homesKnownWrong)

/- THE SECOND FORM. 'bulk': how many values and letters a reading holds, each counted each time it is reached (what is shared counts as often as it is met; a slice's spare places count too). A statement '..UptoSaid' is the law's where the arguments, and the package variables that the reading takes, are together of bulk at most 1048576: NARROWER than '..Said'. Prove '..Said' where nothing that the law and all that it calls make is longer than what came in: it says more and counts as full. Else prove '..UptoSaid'. A law counts once. -/
mutual
def uptoBulk {H : Type} : DataW H → Nat
  | .lit (.string bytes) => bytes.length + 1
  | .lit _ => 1
  | .nil => 1
  | .ptr d => uptoBulk d + 1
  | .slice elems spare => uptoBulkAll elems + uptoBulkAll spare + 1
  | .agg parts => uptoBulkAll parts + 1
  | .iface _ d => uptoBulk d + 1
  | .map entries => uptoBulkEntries entries + 1
  | .held _ => 1
def uptoBulkAll {H : Type} : List (DataW H) → Nat
  | [] => 0
  | d :: r => uptoBulk d + uptoBulkAll r
def uptoBulkEntries {H : Type} : List (Lit × DataW H) → Nat
  | [] => 0
  | x :: r => uptoBulkEntry x + uptoBulkEntries r
def uptoBulkEntry {H : Type} : Lit × DataW H → Nat
  | (.string bytes, d) => bytes.length + uptoBulk d + 1
  | (_, d) => uptoBulk d + 1
 end
def uptoSmall : (H : Type) → List (DataW H) → Bool := fun _ ds => decide (uptoBulkAll ds ≤ 1048576)
def OpenSpec.upto (s : _root_.Go.ChangeSpec) : _root_.Go.OpenSpec := { _root_.Go.OpenSpec.ofChange s with cond := some uptoSmall }

/-- 'gauntletlaw16.HomesMerge', WHERE WHAT IT READS IS OF BULK AT MOST 1048576: true; the input reads as it did. -/
def homesMergeUptoRow : OpenClaim := { program := "ytjmlpkkbmnjhcaa", sum := "fc6de24595797b5a882440a88baa70c6d629c4ca685cf438cf2e0bb980961ea3", func := "gauntlet/gauntletlaw16.HomesMerge", spec := "homesMerge", unfollowed := true, recurses := true, apart := false, narrowed := true }
def HomesMergeUptoSaid : Prop := homesMergeUptoRow.holds Try.pinned (OpenSpec.upto homesMergeSpec)

/-- 'gauntletlaw16.HomesAdaptive', WHERE WHAT IT READS IS OF BULK AT MOST 1048576: true; the input reads as it did. -/
def homesAdaptiveUptoRow : OpenClaim := { program := "ytjmlpkkbmnjhcaa", sum := "fc6de24595797b5a882440a88baa70c6d629c4ca685cf438cf2e0bb980961ea3", func := "gauntlet/gauntletlaw16.HomesAdaptive", spec := "homesAdaptive", unfollowed := true, recurses := true, apart := false, narrowed := true }
def HomesAdaptiveUptoSaid : Prop := homesAdaptiveUptoRow.holds Try.pinned (OpenSpec.upto homesAdaptiveSpec)

/-- 'gauntletlaw16.HomesKnown', WHERE WHAT IT READS IS OF BULK AT MOST 1048576: true; the input reads as it did. -/
def homesKnownUptoRow : OpenClaim := { program := "ytjmlpkkbmnjhcaa", sum := "fc6de24595797b5a882440a88baa70c6d629c4ca685cf438cf2e0bb980961ea3", func := "gauntlet/gauntletlaw16.HomesKnown", spec := "homesKnown", unfollowed := true, recurses := true, apart := false, narrowed := true }
def HomesKnownUptoSaid : Prop := homesKnownUptoRow.holds Try.pinned (OpenSpec.upto homesKnownSpec)

end Rows
end Go.Proofs.Ytjmlpkkbmnjhcaa
