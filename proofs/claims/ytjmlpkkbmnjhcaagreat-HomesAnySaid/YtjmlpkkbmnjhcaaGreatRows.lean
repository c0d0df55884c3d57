/-
  No cell of these rows narrows 'for every input' (looked for: loops, veiled, ifaces, maps, wideKeys, modest, calm, conditions, laid).
  DERIVED. THE GIVEN ROWS OF THIS SEAT. 4 by the template 'for every input the law returns true; each argument reads behind the call as it read before'; 0 by the template 'total and deterministic' (their statements: YtjmlpkkbmnjhcaaGreatTotals.lean).
  GIVEN WITH THE SEED: the statements are not yours to turn. If you find one false, say at which input.
  Laid BY PROGRAM, IN A SANDBOX (cutbox-rows.mjs): the forced cells as the released guide's own fill.sh prints them over the translation 1ffa32d466c087a7… (all of the seat's roots in one cut). By AI agents, Wed Nov 11 2026. No macro, syntax, notation, axiom, sorry.
-/
import Derived.Test.YtjmlpkkbmnjhcaaGreatChecked
import GoSem.Claim
import GoSem.ClaimJoined
import GoSem.ClaimMapViews
import Derived.JoinedTies
import Derived.KernelRfl
namespace Go.Proofs.YtjmlpkkbmnjhcaaGreat
/- THE CELL 'sum', in the pinned program and in every row, IS THE sha256 OF THE DUMP (.gsa) THAT YtjmlpkkbmnjhcaaGreatProg.lean LOADS. Nothing in Lean hashes anything: it is a label: what it is worth is what the hold of that sum in a sandbox is worth. -/
noncomputable def Tryz.pinned : Pinned := { name := "ytjmlpkkbmnjhcaagreat", sum := "1ffa32d466c087a7c7d5f6c356ea23f47e9bda4ec9029df78a6bed52088ccdcb", checked := Tryz.checked }
namespace Rows
def none {H : Type} : Left H := { results := [], args := [] }

/-- 'gauntletlaw16.HomesWords': WHATEVER THE INPUT: true; the input reads as it did. -/
def homesWordsSpec : ChangeSpec := { name := "homesWords", fn := fun _ => fun
  | [d] => { results := [.lit (.bool true)], args := [d] }
  | _ => none }
def homesWordsRow : OpenClaim := { program := "ytjmlpkkbmnjhcaagreat", sum := "1ffa32d466c087a7c7d5f6c356ea23f47e9bda4ec9029df78a6bed52088ccdcb", func := "gauntlet/gauntletlaw16.HomesWords", spec := "homesWords", unfollowed := true, recurses := true, apart := false }
def HomesWordsSaid : Prop := homesWordsRow.holds Tryz.pinned (OpenSpec.ofChange homesWordsSpec)

/-- ITS FALSE NEIGHBOUR: 'it returns false'. Refute it at one input. -/
def homesWordsWrong : ChangeSpec := { name := "homesWords", fn := fun _ => fun
  | [d] => { results := [.lit (.bool false)], args := [d] }
  | _ => none }
def HomesWordsWrongFalsely : Prop := homesWordsRow.holds Tryz.pinned (OpenSpec.ofChange homesWordsWrong)

/-- 'gauntletlaw16.HomesAfter': WHATEVER THE INPUT: true; the input reads as it did. -/
def homesAfterSpec : ChangeSpec := { name := "homesAfter", fn := fun _ => fun
  | [d1, d2, d3] => { results := [.lit (.bool true)], args := [d1, d2, d3] }
  | _ => none }
def homesAfterRow : OpenClaim := { program := "ytjmlpkkbmnjhcaagreat", sum := "1ffa32d466c087a7c7d5f6c356ea23f47e9bda4ec9029df78a6bed52088ccdcb", func := "gauntlet/gauntletlaw16.HomesAfter", spec := "homesAfter", unfollowed := true, recurses := true, apart := false }
def HomesAfterSaid : Prop := homesAfterRow.holds Tryz.pinned (OpenSpec.ofChange homesAfterSpec)

/-- ITS FALSE NEIGHBOUR: 'it returns false'. Refute it at one input. -/
def homesAfterWrong : ChangeSpec := { name := "homesAfter", fn := fun _ => fun
  | [d1, d2, d3] => { results := [.lit (.bool false)], args := [d1, d2, d3] }
  | _ => none }
def HomesAfterWrongFalsely : Prop := homesAfterRow.holds Tryz.pinned (OpenSpec.ofChange homesAfterWrong)

/-- 'gauntletlaw16.HomesMore': WHATEVER THE INPUT: true; the input reads as it did. -/
def homesMoreSpec : ChangeSpec := { name := "homesMore", fn := fun _ => fun
  | [d1, d2] => { results := [.lit (.bool true)], args := [d1, d2] }
  | _ => none }
def homesMoreRow : OpenClaim := { program := "ytjmlpkkbmnjhcaagreat", sum := "1ffa32d466c087a7c7d5f6c356ea23f47e9bda4ec9029df78a6bed52088ccdcb", func := "gauntlet/gauntletlaw16.HomesMore", spec := "homesMore", unfollowed := true, recurses := true, apart := false }
def HomesMoreSaid : Prop := homesMoreRow.holds Tryz.pinned (OpenSpec.ofChange homesMoreSpec)

/-- ITS FALSE NEIGHBOUR: 'it returns false'. Refute it at one input. -/
def homesMoreWrong : ChangeSpec := { name := "homesMore", fn := fun _ => fun
  | [d1, d2] => { results := [.lit (.bool false)], args := [d1, d2] }
  | _ => none }
def HomesMoreWrongFalsely : Prop := homesMoreRow.holds Tryz.pinned (OpenSpec.ofChange homesMoreWrong)

/-- 'gauntletlaw16.HomesAny': WHATEVER THE INPUT: true; the input reads as it did. -/
def homesAnySpec : ChangeSpec := { name := "homesAny", fn := fun _ => fun
  | [d1, d2, d3] => { results := [.lit (.bool true)], args := [d1, d2, d3] }
  | _ => none }
def homesAnyRow : OpenClaim := { program := "ytjmlpkkbmnjhcaagreat", sum := "1ffa32d466c087a7c7d5f6c356ea23f47e9bda4ec9029df78a6bed52088ccdcb", func := "gauntlet/gauntletlaw16.HomesAny", spec := "homesAny", unfollowed := true, recurses := true, apart := false }
def HomesAnySaid : Prop := homesAnyRow.holds Tryz.pinned (OpenSpec.ofChange homesAnySpec)

/-- ITS FALSE NEIGHBOUR: 'it returns false'. Refute it at one input. -/
def homesAnyWrong : ChangeSpec := { name := "homesAny", fn := fun _ => fun
  | [d1, d2, d3] => { results := [.lit (.bool false)], args := [d1, d2, d3] }
  | _ => none }
def HomesAnyWrongFalsely : Prop := homesAnyRow.holds Tryz.pinned (OpenSpec.ofChange homesAnyWrong)

/- THE SECOND FORM. 'bulk': how many values and letters a reading holds, each counted each time it is reached (what is shared counts as often as it is met; a slice's spare places count too). A statement '..UptoSaid' is the law's where the arguments, and the package variables that the reading takes, are together of bulk at most 1048576: NARROWER than '..Said'. Prove '..Said' where nothing that the law and all that it calls make is longer than what came in: it says more and counts as full. Else prove '..UptoSaid'. A law counts once. -/
mutual
def uptoBulk {H : Type} : DataW H → Nat
  | .lit (.string bytes) => bytes.length + 1
  | .lit _ => 1
  | .nil => 1
  | .ptr d => uptoBulk d + 1
  | .slice elems spare => uptoBulkAll elems + uptoBulkAll spare + 1
  | .agg parts => uptoBulkAll parts + 1
  | .iface _ d => uptoBulk d + 1
  | .map entries => uptoBulkEntries entries + 1
  | .held _ => 1
def uptoBulkAll {H : Type} : List (DataW H) → Nat
  | [] => 0
  | d :: r => uptoBulk d + uptoBulkAll r
def uptoBulkEntries {H : Type} : List (Lit × DataW H) → Nat
  | [] => 0
  | x :: r => uptoBulkEntry x + uptoBulkEntries r
def uptoBulkEntry {H : Type} : Lit × DataW H → Nat
  | (.string bytes, d) => bytes.length + uptoBulk d + 1
  | (_, d) => uptoBulk d + 1
 end
def uptoSmall : (H : Type) → List (DataW H) → Bool := fun _ ds => decide (uptoBulkAll ds ≤ 1048576)
def OpenSpec.upto (s : _root_.Go.ChangeSpec) : _root_.Go.OpenSpec := { _root_.Go.OpenSpec.ofChange s with cond := some uptoSmall }

/-- 'gauntletlaw16.HomesWords', WHERE WHAT IT READS IS OF BULK AT MOST 1048576: true; the input reads as it did. -/
def homesWordsUptoRow : OpenClaim := { program := "ytjmlpkkbmnjhcaagreat", sum := "1ffa32d466c087a7c7d5f6c356ea23f47e9bda4ec9029df78a6bed52088ccdcb", func := "gauntlet/gauntletlaw16.HomesWords", spec := "homesWords", unfollowed := true, recurses := true, apart := false, narrowed := true }
def HomesWordsUptoSaid : Prop := homesWordsUptoRow.holds Tryz.pinned (OpenSpec.upto homesWordsSpec)

/-- 'gauntletlaw16.HomesAfter', WHERE WHAT IT READS IS OF BULK AT MOST 1048576: true; the input reads as it did. -/
def homesAfterUptoRow : OpenClaim := { program := "ytjmlpkkbmnjhcaagreat", sum := "1ffa32d466c087a7c7d5f6c356ea23f47e9bda4ec9029df78a6bed52088ccdcb", func := "gauntlet/gauntletlaw16.HomesAfter", spec := "homesAfter", unfollowed := true, recurses := true, apart := false, narrowed := true }
def HomesAfterUptoSaid : Prop := homesAfterUptoRow.holds Tryz.pinned (OpenSpec.upto homesAfterSpec)

/-- 'gauntletlaw16.HomesMore', WHERE WHAT IT READS IS OF BULK AT MOST 1048576: true; the input reads as it did. -/
def homesMoreUptoRow : OpenClaim := { program := "ytjmlpkkbmnjhcaagreat", sum := "1ffa32d466c087a7c7d5f6c356ea23f47e9bda4ec9029df78a6bed52088ccdcb", func := "gauntlet/gauntletlaw16.HomesMore", spec := "homesMore", unfollowed := true, recurses := true, apart := false, narrowed := true }
def HomesMoreUptoSaid : Prop := homesMoreUptoRow.holds Tryz.pinned (OpenSpec.upto homesMoreSpec)

/-- 'gauntletlaw16.HomesAny', WHERE WHAT IT READS IS OF BULK AT MOST 1048576: true; the input reads as it did. -/
def homesAnyUptoRow : OpenClaim := { program := "ytjmlpkkbmnjhcaagreat", sum := "1ffa32d466c087a7c7d5f6c356ea23f47e9bda4ec9029df78a6bed52088ccdcb", func := "gauntlet/gauntletlaw16.HomesAny", spec := "homesAny", unfollowed := true, recurses := true, apart := false, narrowed := true }
def HomesAnyUptoSaid : Prop := homesAnyUptoRow.holds Tryz.pinned (OpenSpec.upto homesAnySpec)

end Rows
end Go.Proofs.YtjmlpkkbmnjhcaaGreat
