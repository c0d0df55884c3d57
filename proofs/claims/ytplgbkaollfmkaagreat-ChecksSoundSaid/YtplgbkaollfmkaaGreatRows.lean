/-
  No cell of these rows narrows 'for every input' (looked for: loops, veiled, ifaces, maps, wideKeys, modest, calm, conditions, laid).
  DERIVED. THE GIVEN ROWS OF THIS SEAT. 3 by the template 'for every input the law returns true; each argument reads behind the call as it read before'; 0 by the template 'total and deterministic' (their statements: YtplgbkaollfmkaaGreatTotals.lean).
  GIVEN WITH THE SEED: the statements are not yours to turn. If you find one false, say at which input.
  Laid BY PROGRAM, IN A SANDBOX (cutbox-rows.mjs): the forced cells as the released guide's own fill.sh prints them over the translation 2f1ee96fe34e4618… (all of the seat's roots in one cut). By AI agents, Wed Nov 11 2026. No macro, syntax, notation, axiom, sorry.
-/
import Derived.Test.YtplgbkaollfmkaaGreatChecked
import GoSem.Claim
import GoSem.ClaimJoined
import GoSem.ClaimMapViews
import Derived.JoinedTies
import Derived.KernelRfl
namespace Go.Proofs.YtplgbkaollfmkaaGreat
/- THE CELL 'sum', in the pinned program and in every row, IS THE sha256 OF THE DUMP (.gsa) THAT YtplgbkaollfmkaaGreatProg.lean LOADS. Nothing in Lean hashes anything: it is a label: what it is worth is what the hold of that sum in a sandbox is worth. -/
noncomputable def Tryz.pinned : Pinned := { name := "ytplgbkaollfmkaagreat", sum := "2f1ee96fe34e46181f46aeddb794bd629b158f83e5e5d98ff451d808c1aa34f8", checked := Tryz.checked }
namespace Rows
def none {H : Type} : Left H := { results := [], args := [] }

/-- 'gauntletlaw39.ChecksVerify': WHATEVER THE INPUT: true; the input reads as it did. -/
def checksVerifySpec : ChangeSpec := { name := "checksVerify", fn := fun _ => fun
  | [d1, d2] => { results := [.lit (.bool true)], args := [d1, d2] }
  | _ => none }
def checksVerifyRow : OpenClaim := { program := "ytplgbkaollfmkaagreat", sum := "2f1ee96fe34e46181f46aeddb794bd629b158f83e5e5d98ff451d808c1aa34f8", func := "gauntlet/gauntletlaw39.ChecksVerify", spec := "checksVerify", unfollowed := true, recurses := true, plainKeys := false, apart := false }
def ChecksVerifySaid : Prop := checksVerifyRow.holds Tryz.pinned (OpenSpec.ofChange checksVerifySpec)

/-- ITS FALSE NEIGHBOUR: 'it returns false'. Refute it at one input. -/
def checksVerifyWrong : ChangeSpec := { name := "checksVerify", fn := fun _ => fun
  | [d1, d2] => { results := [.lit (.bool false)], args := [d1, d2] }
  | _ => none }
def ChecksVerifyWrongFalsely : Prop := checksVerifyRow.holds Tryz.pinned (OpenSpec.ofChange checksVerifyWrong)

/-- 'gauntletlaw39.ChecksBuild': WHATEVER THE INPUT: true; the input reads as it did. -/
def checksBuildSpec : ChangeSpec := { name := "checksBuild", fn := fun _ => fun
  | [d] => { results := [.lit (.bool true)], args := [d] }
  | _ => none }
def checksBuildRow : OpenClaim := { program := "ytplgbkaollfmkaagreat", sum := "2f1ee96fe34e46181f46aeddb794bd629b158f83e5e5d98ff451d808c1aa34f8", func := "gauntlet/gauntletlaw39.ChecksBuild", spec := "checksBuild", unfollowed := true, recurses := true, plainKeys := false, apart := false }
def ChecksBuildSaid : Prop := checksBuildRow.holds Tryz.pinned (OpenSpec.ofChange checksBuildSpec)

/-- ITS FALSE NEIGHBOUR: 'it returns false'. Refute it at one input. -/
def checksBuildWrong : ChangeSpec := { name := "checksBuild", fn := fun _ => fun
  | [d] => { results := [.lit (.bool false)], args := [d] }
  | _ => none }
def ChecksBuildWrongFalsely : Prop := checksBuildRow.holds Tryz.pinned (OpenSpec.ofChange checksBuildWrong)

/-- 'gauntletlaw39.ChecksSound': WHATEVER THE INPUT: true; the input reads as it did. -/
def checksSoundSpec : ChangeSpec := { name := "checksSound", fn := fun _ => fun
  | [d1, d2, d3] => { results := [.lit (.bool true)], args := [d1, d2, d3] }
  | _ => none }
def checksSoundRow : OpenClaim := { program := "ytplgbkaollfmkaagreat", sum := "2f1ee96fe34e46181f46aeddb794bd629b158f83e5e5d98ff451d808c1aa34f8", func := "gauntlet/gauntletlaw39.ChecksSound", spec := "checksSound", unfollowed := true, recurses := true, plainKeys := false, apart := false }
def ChecksSoundSaid : Prop := checksSoundRow.holds Tryz.pinned (OpenSpec.ofChange checksSoundSpec)

/-- ITS FALSE NEIGHBOUR: 'it returns false'. Refute it at one input. -/
def checksSoundWrong : ChangeSpec := { name := "checksSound", fn := fun _ => fun
  | [d1, d2, d3] => { results := [.lit (.bool false)], args := [d1, d2, d3] }
  | _ => none }
def ChecksSoundWrongFalsely : Prop := checksSoundRow.holds Tryz.pinned (OpenSpec.ofChange checksSoundWrong)

/- THE SECOND FORM. 'bulk': how many values and letters a reading holds, each counted each time it is reached (what is shared counts as often as it is met; a slice's spare places count too). A statement '..UptoSaid' is the law's where the arguments, and the package variables that the reading takes, are together of bulk at most 1048576: NARROWER than '..Said'. Prove '..Said' where nothing that the law and all that it calls make is longer than what came in: it says more and counts as full. Else prove '..UptoSaid'. A law counts once. -/
mutual
def uptoBulk {H : Type} : DataW H → Nat
  | .lit (.string bytes) => bytes.length + 1
  | .lit _ => 1
  | .nil => 1
  | .ptr d => uptoBulk d + 1
  | .slice elems spare => uptoBulkAll elems + uptoBulkAll spare + 1
  | .agg parts => uptoBulkAll parts + 1
  | .iface _ d => uptoBulk d + 1
  | .map entries => uptoBulkEntries entries + 1
  | .held _ => 1
def uptoBulkAll {H : Type} : List (DataW H) → Nat
  | [] => 0
  | d :: r => uptoBulk d + uptoBulkAll r
def uptoBulkEntries {H : Type} : List (Lit × DataW H) → Nat
  | [] => 0
  | x :: r => uptoBulkEntry x + uptoBulkEntries r
def uptoBulkEntry {H : Type} : Lit × DataW H → Nat
  | (.string bytes, d) => bytes.length + uptoBulk d + 1
  | (_, d) => uptoBulk d + 1
 end
def uptoSmall : (H : Type) → List (DataW H) → Bool := fun _ ds => decide (uptoBulkAll ds ≤ 1048576)
def OpenSpec.upto (s : _root_.Go.ChangeSpec) : _root_.Go.OpenSpec := { _root_.Go.OpenSpec.ofChange s with cond := some uptoSmall }

/-- 'gauntletlaw39.ChecksVerify', WHERE WHAT IT READS IS OF BULK AT MOST 1048576: true; the input reads as it did. -/
def checksVerifyUptoRow : OpenClaim := { program := "ytplgbkaollfmkaagreat", sum := "2f1ee96fe34e46181f46aeddb794bd629b158f83e5e5d98ff451d808c1aa34f8", func := "gauntlet/gauntletlaw39.ChecksVerify", spec := "checksVerify", unfollowed := true, recurses := true, plainKeys := false, apart := false, narrowed := true }
def ChecksVerifyUptoSaid : Prop := checksVerifyUptoRow.holds Tryz.pinned (OpenSpec.upto checksVerifySpec)

/-- 'gauntletlaw39.ChecksBuild', WHERE WHAT IT READS IS OF BULK AT MOST 1048576: true; the input reads as it did. -/
def checksBuildUptoRow : OpenClaim := { program := "ytplgbkaollfmkaagreat", sum := "2f1ee96fe34e46181f46aeddb794bd629b158f83e5e5d98ff451d808c1aa34f8", func := "gauntlet/gauntletlaw39.ChecksBuild", spec := "checksBuild", unfollowed := true, recurses := true, plainKeys := false, apart := false, narrowed := true }
def ChecksBuildUptoSaid : Prop := checksBuildUptoRow.holds Tryz.pinned (OpenSpec.upto checksBuildSpec)

/-- 'gauntletlaw39.ChecksSound', WHERE WHAT IT READS IS OF BULK AT MOST 1048576: true; the input reads as it did. -/
def checksSoundUptoRow : OpenClaim := { program := "ytplgbkaollfmkaagreat", sum := "2f1ee96fe34e46181f46aeddb794bd629b158f83e5e5d98ff451d808c1aa34f8", func := "gauntlet/gauntletlaw39.ChecksSound", spec := "checksSound", unfollowed := true, recurses := true, plainKeys := false, apart := false, narrowed := true }
def ChecksSoundUptoSaid : Prop := checksSoundUptoRow.holds Tryz.pinned (OpenSpec.upto checksSoundSpec)

end Rows
end Go.Proofs.YtplgbkaollfmkaaGreat
