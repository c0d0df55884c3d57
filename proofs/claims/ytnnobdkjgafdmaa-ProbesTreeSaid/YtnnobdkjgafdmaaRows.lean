/-
  No cell of these rows narrows 'for every input' (looked for: loops, veiled, ifaces, maps, wideKeys, modest, calm, conditions, laid).
  DERIVED. THE GIVEN ROWS OF THIS SEAT. 5 by the template 'for every input the law returns true; each argument reads behind the call as it read before'; 0 by the template 'total and deterministic' (their statements: YtnnobdkjgafdmaaTotals.lean).
  GIVEN WITH THE SEED: the statements are not yours to turn. If you find one false, say at which input.
  Laid BY PROGRAM, IN A SANDBOX (cutbox-rows.mjs): the forced cells as the released guide's own fill.sh prints them over the translation e1ce95b3c0727982… (all of the seat's roots in one cut). By AI agents, Wed Nov 11 2026. No macro, syntax, notation, axiom, sorry.
-/
import Derived.Test.YtnnobdkjgafdmaaChecked
import GoSem.Claim
import GoSem.ClaimJoined
import GoSem.ClaimMapViews
import Derived.JoinedTies
import Derived.KernelRfl
namespace Go.Proofs.Ytnnobdkjgafdmaa
/- THE CELL 'sum', in the pinned program and in every row, IS THE sha256 OF THE DUMP (.gsa) THAT YtnnobdkjgafdmaaProg.lean LOADS. Nothing in Lean hashes anything: it is a label: what it is worth is what the hold of that sum in a sandbox is worth. -/
noncomputable def Try.pinned : Pinned := { name := "ytnnobdkjgafdmaa", sum := "e1ce95b3c07279820e0bd44b682ab167dc77831eb7d049b0a2395de72b55ace7", checked := Try.checked }
namespace Rows
def none {H : Type} : Left H := { results := [], args := [] }

/-- 'gauntletlaw15.ProbesWords': WHATEVER THE INPUT: true; the input reads as it did. -/
def probesWordsSpec : ChangeSpec := { name := "probesWords", fn := fun _ => fun
  | [d1, d2, d3] => { results := [.lit (.bool true)], args := [d1, d2, d3] }
  | _ => none }
def probesWordsRow : OpenClaim := { program := "ytnnobdkjgafdmaa", sum := "e1ce95b3c07279820e0bd44b682ab167dc77831eb7d049b0a2395de72b55ace7", func := "gauntlet/gauntletlaw15.ProbesWords", spec := "probesWords", unfollowed := true, recurses := true, plainKeys := false, apart := false }
def ProbesWordsSaid : Prop := probesWordsRow.holds Try.pinned (OpenSpec.ofChange probesWordsSpec)

/-- ITS FALSE NEIGHBOUR: 'it returns false'. Refute it at one input. -/
def probesWordsWrong : ChangeSpec := { name := "probesWords", fn := fun _ => fun
  | [d1, d2, d3] => { results := [.lit (.bool false)], args := [d1, d2, d3] }
  | _ => none }
def ProbesWordsWrongFalsely : Prop := probesWordsRow.holds Try.pinned (OpenSpec.ofChange probesWordsWrong)

/-- 'gauntletlaw15.ProbesTree': WHATEVER THE INPUT: true; the input reads as it did. -/
def probesTreeSpec : ChangeSpec := { name := "probesTree", fn := fun _ => fun
  | [d] => { results := [.lit (.bool true)], args := [d] }
  | _ => none }
def probesTreeRow : OpenClaim := { program := "ytnnobdkjgafdmaa", sum := "e1ce95b3c07279820e0bd44b682ab167dc77831eb7d049b0a2395de72b55ace7", func := "gauntlet/gauntletlaw15.ProbesTree", spec := "probesTree", unfollowed := true, recurses := true, plainKeys := false, apart := false }
def ProbesTreeSaid : Prop := probesTreeRow.holds Try.pinned (OpenSpec.ofChange probesTreeSpec)

/-- ITS FALSE NEIGHBOUR: 'it returns false'. Refute it at one input. -/
def probesTreeWrong : ChangeSpec := { name := "probesTree", fn := fun _ => fun
  | [d] => { results := [.lit (.bool false)], args := [d] }
  | _ => none }
def ProbesTreeWrongFalsely : Prop := probesTreeRow.holds Try.pinned (OpenSpec.ofChange probesTreeWrong)

/-- 'gauntletlaw15.ProbesCheck': WHATEVER THE INPUT: true; the input reads as it did. -/
def probesCheckSpec : ChangeSpec := { name := "probesCheck", fn := fun _ => fun
  | [d1, d2] => { results := [.lit (.bool true)], args := [d1, d2] }
  | _ => none }
def probesCheckRow : OpenClaim := { program := "ytnnobdkjgafdmaa", sum := "e1ce95b3c07279820e0bd44b682ab167dc77831eb7d049b0a2395de72b55ace7", func := "gauntlet/gauntletlaw15.ProbesCheck", spec := "probesCheck", unfollowed := true, recurses := true, plainKeys := false, apart := false }
def ProbesCheckSaid : Prop := probesCheckRow.holds Try.pinned (OpenSpec.ofChange probesCheckSpec)

/-- ITS FALSE NEIGHBOUR: 'it returns false'. Refute it at one input. -/
def probesCheckWrong : ChangeSpec := { name := "probesCheck", fn := fun _ => fun
  | [d1, d2] => { results := [.lit (.bool false)], args := [d1, d2] }
  | _ => none }
def ProbesCheckWrongFalsely : Prop := probesCheckRow.holds Try.pinned (OpenSpec.ofChange probesCheckWrong)

/-- 'gauntletlaw15.ProbesAny': WHATEVER THE INPUT: true; the input reads as it did. -/
def probesAnySpec : ChangeSpec := { name := "probesAny", fn := fun _ => fun
  | [d1, d2, d3] => { results := [.lit (.bool true)], args := [d1, d2, d3] }
  | _ => none }
def probesAnyRow : OpenClaim := { program := "ytnnobdkjgafdmaa", sum := "e1ce95b3c07279820e0bd44b682ab167dc77831eb7d049b0a2395de72b55ace7", func := "gauntlet/gauntletlaw15.ProbesAny", spec := "probesAny", unfollowed := true, recurses := true, plainKeys := false, apart := false }
def ProbesAnySaid : Prop := probesAnyRow.holds Try.pinned (OpenSpec.ofChange probesAnySpec)

/-- ITS FALSE NEIGHBOUR: 'it returns false'. Refute it at one input. -/
def probesAnyWrong : ChangeSpec := { name := "probesAny", fn := fun _ => fun
  | [d1, d2, d3] => { results := [.lit (.bool false)], args := [d1, d2, d3] }
  | _ => none }
def ProbesAnyWrongFalsely : Prop := probesAnyRow.holds Try.pinned (OpenSpec.ofChange probesAnyWrong)

/-- 'gauntletlaw15.ProbesKnown': WHATEVER THE INPUT: true; the input reads as it did. -/
def probesKnownSpec : ChangeSpec := { name := "probesKnown", fn := fun _ => fun
  | [] => { results := [.lit (.bool true)], args := [] }
  | _ => none }
def probesKnownRow : OpenClaim := { program := "ytnnobdkjgafdmaa", sum := "e1ce95b3c07279820e0bd44b682ab167dc77831eb7d049b0a2395de72b55ace7", func := "gauntlet/gauntletlaw15.ProbesKnown", spec := "probesKnown", unfollowed := true, recurses := true, plainKeys := false, apart := false }
def ProbesKnownSaid : Prop := probesKnownRow.holds Try.pinned (OpenSpec.ofChange probesKnownSpec)

/-- ITS FALSE NEIGHBOUR: 'it returns false'. Refute it at one input. -/
def probesKnownWrong : ChangeSpec := { name := "probesKnown", fn := fun _ => fun
  | [] => { results := [.lit (.bool false)], args := [] }
  | _ => none }
def ProbesKnownWrongFalsely : Prop := probesKnownRow.holds Try.pinned (OpenSpec.ofChange probesKnownWrong)

/- THE SECOND FORM. 'bulk': how many values and letters a reading holds, each counted each time it is reached (what is shared counts as often as it is met; a slice's spare places count too). A statement '..UptoSaid' is the law's where the arguments, and the package variables that the reading takes, are together of bulk at most 1048576: NARROWER than '..Said'. Prove '..Said' where nothing that the law and all that it calls make is longer than what came in: it says more and counts as full. Else prove '..UptoSaid'. A law counts once. -/
mutual
def uptoBulk {H : Type} : DataW H → Nat
  | .lit (.string bytes) => bytes.length + 1
  | .lit _ => 1
  | .nil => 1
  | .ptr d => uptoBulk d + 1
  | .slice elems spare => uptoBulkAll elems + uptoBulkAll spare + 1
  | .agg parts => uptoBulkAll parts + 1
  | .iface _ d => uptoBulk d + 1
  | .map entries => uptoBulkEntries entries + 1
  | .held _ => 1
def uptoBulkAll {H : Type} : List (DataW H) → Nat
  | [] => 0
  | d :: r => uptoBulk d + uptoBulkAll r
def uptoBulkEntries {H : Type} : List (Lit × DataW H) → Nat
  | [] => 0
  | x :: r => uptoBulkEntry x + uptoBulkEntries r
def uptoBulkEntry {H : Type} : Lit × DataW H → Nat
  | (.string bytes, d) => bytes.length + uptoBulk d + 1
  | (_, d) => uptoBulk d + 1
 end
def uptoSmall : (H : Type) → List (DataW H) → Bool := fun _ ds => decide (uptoBulkAll ds ≤ 1048576)
def OpenSpec.upto (s : _root_.Go.ChangeSpec) : _root_.Go.OpenSpec := { _root_.Go.OpenSpec.ofChange s with cond := some uptoSmall }

/-- 'gauntletlaw15.ProbesWords', WHERE WHAT IT READS IS OF BULK AT MOST 1048576: true; the input reads as it did. -/
def probesWordsUptoRow : OpenClaim := { program := "ytnnobdkjgafdmaa", sum := "e1ce95b3c07279820e0bd44b682ab167dc77831eb7d049b0a2395de72b55ace7", func := "gauntlet/gauntletlaw15.ProbesWords", spec := "probesWords", unfollowed := true, recurses := true, plainKeys := false, apart := false, narrowed := true }
def ProbesWordsUptoSaid : Prop := probesWordsUptoRow.holds Try.pinned (OpenSpec.upto probesWordsSpec)

/-- 'gauntletlaw15.ProbesTree', WHERE WHAT IT READS IS OF BULK AT MOST 1048576: true; the input reads as it did. -/
def probesTreeUptoRow : OpenClaim := { program := "ytnnobdkjgafdmaa", sum := "e1ce95b3c07279820e0bd44b682ab167dc77831eb7d049b0a2395de72b55ace7", func := "gauntlet/gauntletlaw15.ProbesTree", spec := "probesTree", unfollowed := true, recurses := true, plainKeys := false, apart := false, narrowed := true }
def ProbesTreeUptoSaid : Prop := probesTreeUptoRow.holds Try.pinned (OpenSpec.upto probesTreeSpec)

/-- 'gauntletlaw15.ProbesCheck', WHERE WHAT IT READS IS OF BULK AT MOST 1048576: true; the input reads as it did. -/
def probesCheckUptoRow : OpenClaim := { program := "ytnnobdkjgafdmaa", sum := "e1ce95b3c07279820e0bd44b682ab167dc77831eb7d049b0a2395de72b55ace7", func := "gauntlet/gauntletlaw15.ProbesCheck", spec := "probesCheck", unfollowed := true, recurses := true, plainKeys := false, apart := false, narrowed := true }
def ProbesCheckUptoSaid : Prop := probesCheckUptoRow.holds Try.pinned (OpenSpec.upto probesCheckSpec)

/-- 'gauntletlaw15.ProbesAny', WHERE WHAT IT READS IS OF BULK AT MOST 1048576: true; the input reads as it did. -/
def probesAnyUptoRow : OpenClaim := { program := "ytnnobdkjgafdmaa", sum := "e1ce95b3c07279820e0bd44b682ab167dc77831eb7d049b0a2395de72b55ace7", func := "gauntlet/gauntletlaw15.ProbesAny", spec := "probesAny", unfollowed := true, recurses := true, plainKeys := false, apart := false, narrowed := true }
def ProbesAnyUptoSaid : Prop := probesAnyUptoRow.holds Try.pinned (OpenSpec.upto probesAnySpec)

/-- 'gauntletlaw15.ProbesKnown', WHERE WHAT IT READS IS OF BULK AT MOST 1048576: true; the input reads as it did. -/
def probesKnownUptoRow : OpenClaim := { program := "ytnnobdkjgafdmaa", sum := "e1ce95b3c07279820e0bd44b682ab167dc77831eb7d049b0a2395de72b55ace7", func := "gauntlet/gauntletlaw15.ProbesKnown", spec := "probesKnown", unfollowed := true, recurses := true, plainKeys := false, apart := false, narrowed := true }
def ProbesKnownUptoSaid : Prop := probesKnownUptoRow.holds Try.pinned (OpenSpec.upto probesKnownSpec)

end Rows
end Go.Proofs.Ytnnobdkjgafdmaa
