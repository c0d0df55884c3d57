/-
  No cell of these rows narrows 'for every input' (looked for: loops, veiled, ifaces, maps, wideKeys, modest, calm, conditions, laid).
  DERIVED. THE GIVEN ROWS OF THIS SEAT. 4 by the template 'for every input the law returns true; each argument reads behind the call as it read before'; 0 by the template 'total and deterministic' (their statements: YtplgbkaollfmkaaTotals.lean).
  GIVEN WITH THE SEED: the statements are not yours to turn. If you find one false, say at which input.
  Laid BY PROGRAM, IN A SANDBOX (cutbox-rows.mjs): the forced cells as the released guide's own fill.sh prints them over the translation bcfec38c3bee7212… (all of the seat's roots in one cut). By AI agents, Wed Nov 11 2026. No macro, syntax, notation, axiom, sorry.
-/
import Derived.Test.YtplgbkaollfmkaaChecked
import GoSem.Claim
import GoSem.ClaimJoined
import GoSem.ClaimMapViews
import Derived.JoinedTies
import Derived.KernelRfl
namespace Go.Proofs.Ytplgbkaollfmkaa
/- THE CELL 'sum', in the pinned program and in every row, IS THE sha256 OF THE DUMP (.gsa) THAT YtplgbkaollfmkaaProg.lean LOADS. Nothing in Lean hashes anything: it is a label: what it is worth is what the hold of that sum in a sandbox is worth. -/
noncomputable def Try.pinned : Pinned := { name := "ytplgbkaollfmkaa", sum := "bcfec38c3bee7212d2acf219dca758555669f08c33f0c8accc75379fa1906011", checked := Try.checked }
namespace Rows
def none {H : Type} : Left H := { results := [], args := [] }

/-- 'gauntletlaw39.ChecksCan': WHATEVER THE INPUT: true; the input reads as it did. -/
def checksCanSpec : ChangeSpec := { name := "checksCan", fn := fun _ => fun
  | [d1, d2] => { results := [.lit (.bool true)], args := [d1, d2] }
  | _ => none }
def checksCanRow : OpenClaim := { program := "ytplgbkaollfmkaa", sum := "bcfec38c3bee7212d2acf219dca758555669f08c33f0c8accc75379fa1906011", func := "gauntlet/gauntletlaw39.ChecksCan", spec := "checksCan", unfollowed := true, recurses := true, plainKeys := false, apart := false }
def ChecksCanSaid : Prop := checksCanRow.holds Try.pinned (OpenSpec.ofChange checksCanSpec)

/-- ITS FALSE NEIGHBOUR: 'it returns false'. Refute it at one input. -/
def checksCanWrong : ChangeSpec := { name := "checksCan", fn := fun _ => fun
  | [d1, d2] => { results := [.lit (.bool false)], args := [d1, d2] }
  | _ => none }
def ChecksCanWrongFalsely : Prop := checksCanRow.holds Try.pinned (OpenSpec.ofChange checksCanWrong)

/-- 'gauntletlaw39.ChecksKnown': WHATEVER THE INPUT: true; the input reads as it did. -/
def checksKnownSpec : ChangeSpec := { name := "checksKnown", fn := fun _ => fun
  | [d1, d2] => { results := [.lit (.bool true)], args := [d1, d2] }
  | _ => none }
def checksKnownRow : OpenClaim := { program := "ytplgbkaollfmkaa", sum := "bcfec38c3bee7212d2acf219dca758555669f08c33f0c8accc75379fa1906011", func := "gauntlet/gauntletlaw39.ChecksKnown", spec := "checksKnown", unfollowed := true, recurses := true, plainKeys := false, apart := false }
def ChecksKnownSaid : Prop := checksKnownRow.holds Try.pinned (OpenSpec.ofChange checksKnownSpec)

/-- ITS FALSE NEIGHBOUR: 'it returns false'. Refute it at one input. -/
def checksKnownWrong : ChangeSpec := { name := "checksKnown", fn := fun _ => fun
  | [d1, d2] => { results := [.lit (.bool false)], args := [d1, d2] }
  | _ => none }
def ChecksKnownWrongFalsely : Prop := checksKnownRow.holds Try.pinned (OpenSpec.ofChange checksKnownWrong)

/-- 'gauntletlaw39.ChecksResponse': WHATEVER THE INPUT: true; the input reads as it did. -/
def checksResponseSpec : ChangeSpec := { name := "checksResponse", fn := fun _ => fun
  | [d1, d2] => { results := [.lit (.bool true)], args := [d1, d2] }
  | _ => none }
def checksResponseRow : OpenClaim := { program := "ytplgbkaollfmkaa", sum := "bcfec38c3bee7212d2acf219dca758555669f08c33f0c8accc75379fa1906011", func := "gauntlet/gauntletlaw39.ChecksResponse", spec := "checksResponse", unfollowed := true, recurses := true, plainKeys := false, apart := false }
def ChecksResponseSaid : Prop := checksResponseRow.holds Try.pinned (OpenSpec.ofChange checksResponseSpec)

/-- ITS FALSE NEIGHBOUR: 'it returns false'. Refute it at one input. -/
def checksResponseWrong : ChangeSpec := { name := "checksResponse", fn := fun _ => fun
  | [d1, d2] => { results := [.lit (.bool false)], args := [d1, d2] }
  | _ => none }
def ChecksResponseWrongFalsely : Prop := checksResponseRow.holds Try.pinned (OpenSpec.ofChange checksResponseWrong)

/-- 'gauntletlaw39.ChecksKnownAll': WHATEVER THE INPUT: true; the input reads as it did. -/
def checksKnownAllSpec : ChangeSpec := { name := "checksKnownAll", fn := fun _ => fun
  | [] => { results := [.lit (.bool true)], args := [] }
  | _ => none }
def checksKnownAllRow : OpenClaim := { program := "ytplgbkaollfmkaa", sum := "bcfec38c3bee7212d2acf219dca758555669f08c33f0c8accc75379fa1906011", func := "gauntlet/gauntletlaw39.ChecksKnownAll", spec := "checksKnownAll", unfollowed := true, recurses := true, plainKeys := false, apart := false }
def ChecksKnownAllSaid : Prop := checksKnownAllRow.holds Try.pinned (OpenSpec.ofChange checksKnownAllSpec)

/-- ITS FALSE NEIGHBOUR: 'it returns false'. Refute it at one input. -/
def checksKnownAllWrong : ChangeSpec := { name := "checksKnownAll", fn := fun _ => fun
  | [] => { results := [.lit (.bool false)], args := [] }
  | _ => none }
def ChecksKnownAllWrongFalsely : Prop := checksKnownAllRow.holds Try.pinned (OpenSpec.ofChange checksKnownAllWrong)

/- THE SECOND FORM. 'bulk': how many values and letters a reading holds, each counted each time it is reached (what is shared counts as often as it is met; a slice's spare places count too). A statement '..UptoSaid' is the law's where the arguments, and the package variables that the reading takes, are together of bulk at most 1048576: NARROWER than '..Said'. Prove '..Said' where nothing that the law and all that it calls make is longer than what came in: it says more and counts as full. Else prove '..UptoSaid'. A law counts once. -/
mutual
def uptoBulk {H : Type} : DataW H → Nat
  | .lit (.string bytes) => bytes.length + 1
  | .lit _ => 1
  | .nil => 1
  | .ptr d => uptoBulk d + 1
  | .slice elems spare => uptoBulkAll elems + uptoBulkAll spare + 1
  | .agg parts => uptoBulkAll parts + 1
  | .iface _ d => uptoBulk d + 1
  | .map entries => uptoBulkEntries entries + 1
  | .held _ => 1
def uptoBulkAll {H : Type} : List (DataW H) → Nat
  | [] => 0
  | d :: r => uptoBulk d + uptoBulkAll r
def uptoBulkEntries {H : Type} : List (Lit × DataW H) → Nat
  | [] => 0
  | x :: r => uptoBulkEntry x + uptoBulkEntries r
def uptoBulkEntry {H : Type} : Lit × DataW H → Nat
  | (.string bytes, d) => bytes.length + uptoBulk d + 1
  | (_, d) => uptoBulk d + 1
 end
def uptoSmall : (H : Type) → List (DataW H) → Bool := fun _ ds => decide (uptoBulkAll ds ≤ 1048576)
def OpenSpec.upto (s : _root_.Go.ChangeSpec) : _root_.Go.OpenSpec := { _root_.Go.OpenSpec.ofChange s with cond := some uptoSmall }

/-- 'gauntletlaw39.ChecksCan', WHERE WHAT IT READS IS OF BULK AT MOST 1048576: true; the input reads as it did. -/
def checksCanUptoRow : OpenClaim := { program := "ytplgbkaollfmkaa", sum := "bcfec38c3bee7212d2acf219dca758555669f08c33f0c8accc75379fa1906011", func := "gauntlet/gauntletlaw39.ChecksCan", spec := "checksCan", unfollowed := true, recurses := true, plainKeys := false, apart := false, narrowed := true }
def ChecksCanUptoSaid : Prop := checksCanUptoRow.holds Try.pinned (OpenSpec.upto checksCanSpec)

/-- 'gauntletlaw39.ChecksKnown', WHERE WHAT IT READS IS OF BULK AT MOST 1048576: true; the input reads as it did. -/
def checksKnownUptoRow : OpenClaim := { program := "ytplgbkaollfmkaa", sum := "bcfec38c3bee7212d2acf219dca758555669f08c33f0c8accc75379fa1906011", func := "gauntlet/gauntletlaw39.ChecksKnown", spec := "checksKnown", unfollowed := true, recurses := true, plainKeys := false, apart := false, narrowed := true }
def ChecksKnownUptoSaid : Prop := checksKnownUptoRow.holds Try.pinned (OpenSpec.upto checksKnownSpec)

/-- 'gauntletlaw39.ChecksResponse', WHERE WHAT IT READS IS OF BULK AT MOST 1048576: true; the input reads as it did. -/
def checksResponseUptoRow : OpenClaim := { program := "ytplgbkaollfmkaa", sum := "bcfec38c3bee7212d2acf219dca758555669f08c33f0c8accc75379fa1906011", func := "gauntlet/gauntletlaw39.ChecksResponse", spec := "checksResponse", unfollowed := true, recurses := true, plainKeys := false, apart := false, narrowed := true }
def ChecksResponseUptoSaid : Prop := checksResponseUptoRow.holds Try.pinned (OpenSpec.upto checksResponseSpec)

/-- 'gauntletlaw39.ChecksKnownAll', WHERE WHAT IT READS IS OF BULK AT MOST 1048576: true; the input reads as it did. -/
def checksKnownAllUptoRow : OpenClaim := { program := "ytplgbkaollfmkaa", sum := "bcfec38c3bee7212d2acf219dca758555669f08c33f0c8accc75379fa1906011", func := "gauntlet/gauntletlaw39.ChecksKnownAll", spec := "checksKnownAll", unfollowed := true, recurses := true, plainKeys := false, apart := false, narrowed := true }
def ChecksKnownAllUptoSaid : Prop := checksKnownAllUptoRow.holds Try.pinned (OpenSpec.upto checksKnownAllSpec)

end Rows
end Go.Proofs.Ytplgbkaollfmkaa
