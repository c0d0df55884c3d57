/-
  No cell of these rows narrows 'for every input' (looked for: loops, veiled, ifaces, maps, wideKeys, modest, calm, conditions, laid).
  DERIVED. THE GIVEN ROWS OF THIS SEAT. 8 by the template 'for every input the law returns true; each argument reads behind the call as it read before'; 0 by the template 'total and deterministic' (their statements: YtncblcdhmcmkmaaTotals.lean).
  GIVEN WITH THE SEED: the statements are not yours to turn. If you find one false, say at which input.
  Laid BY PROGRAM, IN A SANDBOX (cutbox-rows.mjs): the forced cells as the released guide's own fill.sh prints them over the translation 94b461c896cfc911… (all of the seat's roots in one cut). By AI agents, Wed Nov 11 2026. No macro, syntax, notation, axiom, sorry.
-/
import Derived.Test.YtncblcdhmcmkmaaChecked
import GoSem.Claim
import GoSem.ClaimJoined
import GoSem.ClaimMapViews
import Derived.JoinedTies
import Derived.KernelRfl
namespace Go.Proofs.Ytncblcdhmcmkmaa
/- THE CELL 'sum', in the pinned program and in every row, IS THE sha256 OF THE DUMP (.gsa) THAT YtncblcdhmcmkmaaProg.lean LOADS. Nothing in Lean hashes anything: it is a label: what it is worth is what the hold of that sum in a sandbox is worth. -/
noncomputable def Try.pinned : Pinned := { name := "ytncblcdhmcmkmaa", sum := "94b461c896cfc9118b2cc698f985a27ea8a9e97c62be4c8340bcf8a4ebec5028", checked := Try.checked }
namespace Rows
def none {H : Type} : Left H := { results := [], args := [] }

/-- 'gauntletlaw06.WalksAccess': WHATEVER THE INPUT: true; the input reads as it did. -/
def walksAccessSpec : ChangeSpec := { name := "walksAccess", fn := fun _ => fun
  | [d] => { results := [.lit (.bool true)], args := [d] }
  | _ => none }
def walksAccessRow : OpenClaim := { program := "ytncblcdhmcmkmaa", sum := "94b461c896cfc9118b2cc698f985a27ea8a9e97c62be4c8340bcf8a4ebec5028", func := "gauntlet/gauntletlaw06.WalksAccess", spec := "walksAccess", unfollowed := true, recurses := true, apart := false }
def WalksAccessSaid : Prop := walksAccessRow.holds Try.pinned (OpenSpec.ofChange walksAccessSpec)

/-- ITS FALSE NEIGHBOUR: 'it returns false'. Refute it at one input. -/
def walksAccessWrong : ChangeSpec := { name := "walksAccess", fn := fun _ => fun
  | [d] => { results := [.lit (.bool false)], args := [d] }
  | _ => none }
def WalksAccessWrongFalsely : Prop := walksAccessRow.holds Try.pinned (OpenSpec.ofChange walksAccessWrong)

/-- 'gauntletlaw06.WalksPath': WHATEVER THE INPUT: true; the input reads as it did. -/
def walksPathSpec : ChangeSpec := { name := "walksPath", fn := fun _ => fun
  | [d1, d2, d3] => { results := [.lit (.bool true)], args := [d1, d2, d3] }
  | _ => none }
def walksPathRow : OpenClaim := { program := "ytncblcdhmcmkmaa", sum := "94b461c896cfc9118b2cc698f985a27ea8a9e97c62be4c8340bcf8a4ebec5028", func := "gauntlet/gauntletlaw06.WalksPath", spec := "walksPath", unfollowed := true, recurses := true, apart := false }
def WalksPathSaid : Prop := walksPathRow.holds Try.pinned (OpenSpec.ofChange walksPathSpec)

/-- ITS FALSE NEIGHBOUR: 'it returns false'. Refute it at one input. -/
def walksPathWrong : ChangeSpec := { name := "walksPath", fn := fun _ => fun
  | [d1, d2, d3] => { results := [.lit (.bool false)], args := [d1, d2, d3] }
  | _ => none }
def WalksPathWrongFalsely : Prop := walksPathRow.holds Try.pinned (OpenSpec.ofChange walksPathWrong)

/-- 'gauntletlaw06.WalksTrim': WHATEVER THE INPUT: true; the input reads as it did. -/
def walksTrimSpec : ChangeSpec := { name := "walksTrim", fn := fun _ => fun
  | [d1, d2] => { results := [.lit (.bool true)], args := [d1, d2] }
  | _ => none }
def walksTrimRow : OpenClaim := { program := "ytncblcdhmcmkmaa", sum := "94b461c896cfc9118b2cc698f985a27ea8a9e97c62be4c8340bcf8a4ebec5028", func := "gauntlet/gauntletlaw06.WalksTrim", spec := "walksTrim", unfollowed := true, recurses := true, apart := false }
def WalksTrimSaid : Prop := walksTrimRow.holds Try.pinned (OpenSpec.ofChange walksTrimSpec)

/-- ITS FALSE NEIGHBOUR: 'it returns false'. Refute it at one input. -/
def walksTrimWrong : ChangeSpec := { name := "walksTrim", fn := fun _ => fun
  | [d1, d2] => { results := [.lit (.bool false)], args := [d1, d2] }
  | _ => none }
def WalksTrimWrongFalsely : Prop := walksTrimRow.holds Try.pinned (OpenSpec.ofChange walksTrimWrong)

/-- 'gauntletlaw06.WalksCanonical': WHATEVER THE INPUT: true; the input reads as it did. -/
def walksCanonicalSpec : ChangeSpec := { name := "walksCanonical", fn := fun _ => fun
  | [d1, d2, d3] => { results := [.lit (.bool true)], args := [d1, d2, d3] }
  | _ => none }
def walksCanonicalRow : OpenClaim := { program := "ytncblcdhmcmkmaa", sum := "94b461c896cfc9118b2cc698f985a27ea8a9e97c62be4c8340bcf8a4ebec5028", func := "gauntlet/gauntletlaw06.WalksCanonical", spec := "walksCanonical", unfollowed := true, recurses := true, apart := false }
def WalksCanonicalSaid : Prop := walksCanonicalRow.holds Try.pinned (OpenSpec.ofChange walksCanonicalSpec)

/-- ITS FALSE NEIGHBOUR: 'it returns false'. Refute it at one input. -/
def walksCanonicalWrong : ChangeSpec := { name := "walksCanonical", fn := fun _ => fun
  | [d1, d2, d3] => { results := [.lit (.bool false)], args := [d1, d2, d3] }
  | _ => none }
def WalksCanonicalWrongFalsely : Prop := walksCanonicalRow.holds Try.pinned (OpenSpec.ofChange walksCanonicalWrong)

/-- 'gauntletlaw06.WalksIsomorphic': WHATEVER THE INPUT: true; the input reads as it did. -/
def walksIsomorphicSpec : ChangeSpec := { name := "walksIsomorphic", fn := fun _ => fun
  | [d1, d2, d3] => { results := [.lit (.bool true)], args := [d1, d2, d3] }
  | _ => none }
def walksIsomorphicRow : OpenClaim := { program := "ytncblcdhmcmkmaa", sum := "94b461c896cfc9118b2cc698f985a27ea8a9e97c62be4c8340bcf8a4ebec5028", func := "gauntlet/gauntletlaw06.WalksIsomorphic", spec := "walksIsomorphic", unfollowed := true, recurses := true, apart := false }
def WalksIsomorphicSaid : Prop := walksIsomorphicRow.holds Try.pinned (OpenSpec.ofChange walksIsomorphicSpec)

/-- ITS FALSE NEIGHBOUR: 'it returns false'. Refute it at one input. -/
def walksIsomorphicWrong : ChangeSpec := { name := "walksIsomorphic", fn := fun _ => fun
  | [d1, d2, d3] => { results := [.lit (.bool false)], args := [d1, d2, d3] }
  | _ => none }
def WalksIsomorphicWrongFalsely : Prop := walksIsomorphicRow.holds Try.pinned (OpenSpec.ofChange walksIsomorphicWrong)

/-- 'gauntletlaw06.WalksErrors': WHATEVER THE INPUT: true; the input reads as it did. -/
def walksErrorsSpec : ChangeSpec := { name := "walksErrors", fn := fun _ => fun
  | [d1, d2, d3] => { results := [.lit (.bool true)], args := [d1, d2, d3] }
  | _ => none }
def walksErrorsRow : OpenClaim := { program := "ytncblcdhmcmkmaa", sum := "94b461c896cfc9118b2cc698f985a27ea8a9e97c62be4c8340bcf8a4ebec5028", func := "gauntlet/gauntletlaw06.WalksErrors", spec := "walksErrors", unfollowed := true, recurses := true, apart := false }
def WalksErrorsSaid : Prop := walksErrorsRow.holds Try.pinned (OpenSpec.ofChange walksErrorsSpec)

/-- ITS FALSE NEIGHBOUR: 'it returns false'. Refute it at one input. -/
def walksErrorsWrong : ChangeSpec := { name := "walksErrors", fn := fun _ => fun
  | [d1, d2, d3] => { results := [.lit (.bool false)], args := [d1, d2, d3] }
  | _ => none }
def WalksErrorsWrongFalsely : Prop := walksErrorsRow.holds Try.pinned (OpenSpec.ofChange walksErrorsWrong)

/-- 'gauntletlaw06.WalksC': WHATEVER THE INPUT: true; the input reads as it did. -/
def walksCSpec : ChangeSpec := { name := "walksC", fn := fun _ => fun
  | [d] => { results := [.lit (.bool true)], args := [d] }
  | _ => none }
def walksCRow : OpenClaim := { program := "ytncblcdhmcmkmaa", sum := "94b461c896cfc9118b2cc698f985a27ea8a9e97c62be4c8340bcf8a4ebec5028", func := "gauntlet/gauntletlaw06.WalksC", spec := "walksC", unfollowed := true, recurses := true, apart := false }
def WalksCSaid : Prop := walksCRow.holds Try.pinned (OpenSpec.ofChange walksCSpec)

/-- ITS FALSE NEIGHBOUR: 'it returns false'. Refute it at one input. -/
def walksCWrong : ChangeSpec := { name := "walksC", fn := fun _ => fun
  | [d] => { results := [.lit (.bool false)], args := [d] }
  | _ => none }
def WalksCWrongFalsely : Prop := walksCRow.holds Try.pinned (OpenSpec.ofChange walksCWrong)

/-- 'gauntletlaw06.WalksKnown': WHATEVER THE INPUT: true; the input reads as it did. -/
def walksKnownSpec : ChangeSpec := { name := "walksKnown", fn := fun _ => fun
  | [] => { results := [.lit (.bool true)], args := [] }
  | _ => none }
def walksKnownRow : OpenClaim := { program := "ytncblcdhmcmkmaa", sum := "94b461c896cfc9118b2cc698f985a27ea8a9e97c62be4c8340bcf8a4ebec5028", func := "gauntlet/gauntletlaw06.WalksKnown", spec := "walksKnown", unfollowed := true, recurses := true, apart := false }
def WalksKnownSaid : Prop := walksKnownRow.holds Try.pinned (OpenSpec.ofChange walksKnownSpec)

/-- ITS FALSE NEIGHBOUR: 'it returns false'. Refute it at one input. -/
def walksKnownWrong : ChangeSpec := { name := "walksKnown", fn := fun _ => fun
  | [] => { results := [.lit (.bool false)], args := [] }
  | _ => none }
def WalksKnownWrongFalsely : Prop := walksKnownRow.holds Try.pinned (OpenSpec.ofChange walksKnownWrong)

/- THE SECOND FORM. 'bulk': how many values and letters a reading holds, each counted each time it is reached (what is shared counts as often as it is met; a slice's spare places count too). A statement '..UptoSaid' is the law's where the arguments, and the package variables that the reading takes, are together of bulk at most 1048576: NARROWER than '..Said'. Prove '..Said' where nothing that the law and all that it calls make is longer than what came in: it says more and counts as full. Else prove '..UptoSaid'. A law counts once. -/
mutual
def uptoBulk {H : Type} : DataW H → Nat
  | .lit (.string bytes) => bytes.length + 1
  | .lit _ => 1
  | .nil => 1
  | .ptr d => uptoBulk d + 1
  | .slice elems spare => uptoBulkAll elems + uptoBulkAll spare + 1
  | .agg parts => uptoBulkAll parts + 1
  | .iface _ d => uptoBulk d + 1
  | .map entries => uptoBulkEntries entries + 1
  | .held _ => 1
def uptoBulkAll {H : Type} : List (DataW H) → Nat
  | [] => 0
  | d :: r => uptoBulk d + uptoBulkAll r
def uptoBulkEntries {H : Type} : List (Lit × DataW H) → Nat
  | [] => 0
  | x :: r => uptoBulkEntry x + uptoBulkEntries r
def uptoBulkEntry {H : Type} : Lit × DataW H → Nat
  | (.string bytes, d) => bytes.length + uptoBulk d + 1
  | (_, d) => uptoBulk d + 1
 end
def uptoSmall : (H : Type) → List (DataW H) → Bool := fun _ ds => decide (uptoBulkAll ds ≤ 1048576)
def OpenSpec.upto (s : _root_.Go.ChangeSpec) : _root_.Go.OpenSpec := { _root_.Go.OpenSpec.ofChange s with cond := some uptoSmall }

/-- 'gauntletlaw06.WalksAccess', WHERE WHAT IT READS IS OF BULK AT MOST 1048576: true; the input reads as it did. -/
def walksAccessUptoRow : OpenClaim := { program := "ytncblcdhmcmkmaa", sum := "94b461c896cfc9118b2cc698f985a27ea8a9e97c62be4c8340bcf8a4ebec5028", func := "gauntlet/gauntletlaw06.WalksAccess", spec := "walksAccess", unfollowed := true, recurses := true, apart := false, narrowed := true }
def WalksAccessUptoSaid : Prop := walksAccessUptoRow.holds Try.pinned (OpenSpec.upto walksAccessSpec)

/-- 'gauntletlaw06.WalksPath', WHERE WHAT IT READS IS OF BULK AT MOST 1048576: true; the input reads as it did. -/
def walksPathUptoRow : OpenClaim := { program := "ytncblcdhmcmkmaa", sum := "94b461c896cfc9118b2cc698f985a27ea8a9e97c62be4c8340bcf8a4ebec5028", func := "gauntlet/gauntletlaw06.WalksPath", spec := "walksPath", unfollowed := true, recurses := true, apart := false, narrowed := true }
def WalksPathUptoSaid : Prop := walksPathUptoRow.holds Try.pinned (OpenSpec.upto walksPathSpec)

/-- 'gauntletlaw06.WalksTrim', WHERE WHAT IT READS IS OF BULK AT MOST 1048576: true; the input reads as it did. -/
def walksTrimUptoRow : OpenClaim := { program := "ytncblcdhmcmkmaa", sum := "94b461c896cfc9118b2cc698f985a27ea8a9e97c62be4c8340bcf8a4ebec5028", func := "gauntlet/gauntletlaw06.WalksTrim", spec := "walksTrim", unfollowed := true, recurses := true, apart := false, narrowed := true }
def WalksTrimUptoSaid : Prop := walksTrimUptoRow.holds Try.pinned (OpenSpec.upto walksTrimSpec)

/-- 'gauntletlaw06.WalksCanonical', WHERE WHAT IT READS IS OF BULK AT MOST 1048576: true; the input reads as it did. -/
def walksCanonicalUptoRow : OpenClaim := { program := "ytncblcdhmcmkmaa", sum := "94b461c896cfc9118b2cc698f985a27ea8a9e97c62be4c8340bcf8a4ebec5028", func := "gauntlet/gauntletlaw06.WalksCanonical", spec := "walksCanonical", unfollowed := true, recurses := true, apart := false, narrowed := true }
def WalksCanonicalUptoSaid : Prop := walksCanonicalUptoRow.holds Try.pinned (OpenSpec.upto walksCanonicalSpec)

/-- 'gauntletlaw06.WalksIsomorphic', WHERE WHAT IT READS IS OF BULK AT MOST 1048576: true; the input reads as it did. -/
def walksIsomorphicUptoRow : OpenClaim := { program := "ytncblcdhmcmkmaa", sum := "94b461c896cfc9118b2cc698f985a27ea8a9e97c62be4c8340bcf8a4ebec5028", func := "gauntlet/gauntletlaw06.WalksIsomorphic", spec := "walksIsomorphic", unfollowed := true, recurses := true, apart := false, narrowed := true }
def WalksIsomorphicUptoSaid : Prop := walksIsomorphicUptoRow.holds Try.pinned (OpenSpec.upto walksIsomorphicSpec)

/-- 'gauntletlaw06.WalksErrors', WHERE WHAT IT READS IS OF BULK AT MOST 1048576: true; the input reads as it did. -/
def walksErrorsUptoRow : OpenClaim := { program := "ytncblcdhmcmkmaa", sum := "94b461c896cfc9118b2cc698f985a27ea8a9e97c62be4c8340bcf8a4ebec5028", func := "gauntlet/gauntletlaw06.WalksErrors", spec := "walksErrors", unfollowed := true, recurses := true, apart := false, narrowed := true }
def WalksErrorsUptoSaid : Prop := walksErrorsUptoRow.holds Try.pinned (OpenSpec.upto walksErrorsSpec)

/-- 'gauntletlaw06.WalksC', WHERE WHAT IT READS IS OF BULK AT MOST 1048576: true; the input reads as it did. -/
def walksCUptoRow : OpenClaim := { program := "ytncblcdhmcmkmaa", sum := "94b461c896cfc9118b2cc698f985a27ea8a9e97c62be4c8340bcf8a4ebec5028", func := "gauntlet/gauntletlaw06.WalksC", spec := "walksC", unfollowed := true, recurses := true, apart := false, narrowed := true }
def WalksCUptoSaid : Prop := walksCUptoRow.holds Try.pinned (OpenSpec.upto walksCSpec)

/-- 'gauntletlaw06.WalksKnown', WHERE WHAT IT READS IS OF BULK AT MOST 1048576: true; the input reads as it did. -/
def walksKnownUptoRow : OpenClaim := { program := "ytncblcdhmcmkmaa", sum := "94b461c896cfc9118b2cc698f985a27ea8a9e97c62be4c8340bcf8a4ebec5028", func := "gauntlet/gauntletlaw06.WalksKnown", spec := "walksKnown", unfollowed := true, recurses := true, apart := false, narrowed := true }
def WalksKnownUptoSaid : Prop := walksKnownUptoRow.holds Try.pinned (OpenSpec.upto walksKnownSpec)

end Rows
end Go.Proofs.Ytncblcdhmcmkmaa
