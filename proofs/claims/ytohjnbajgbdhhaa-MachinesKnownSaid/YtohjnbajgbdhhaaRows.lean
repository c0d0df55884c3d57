/-
  No cell of these rows narrows 'for every input' (looked for: loops, veiled, ifaces, maps, wideKeys, modest, calm, conditions, laid).
  DERIVED. THE GIVEN ROWS OF THIS SEAT. 7 by the template 'for every input the law returns true; each argument reads behind the call as it read before'; 0 by the template 'total and deterministic' (their statements: YtohjnbajgbdhhaaTotals.lean).
  GIVEN WITH THE SEED: the statements are not yours to turn. If you find one false, say at which input.
  Laid BY PROGRAM, IN A SANDBOX (cutbox-rows.mjs): the forced cells as the released guide's own fill.sh prints them over the translation ce6cff225d8c5b47… (all of the seat's roots in one cut). By AI agents, Wed Nov 11 2026. No macro, syntax, notation, axiom, sorry.
-/
import Derived.Test.YtohjnbajgbdhhaaChecked
import GoSem.Claim
import GoSem.ClaimJoined
import GoSem.ClaimMapViews
import Derived.JoinedTies
import Derived.KernelRfl
namespace Go.Proofs.Ytohjnbajgbdhhaa
/- THE CELL 'sum', in the pinned program and in every row, IS THE sha256 OF THE DUMP (.gsa) THAT YtohjnbajgbdhhaaProg.lean LOADS. Nothing in Lean hashes anything: it is a label: what it is worth is what the hold of that sum in a sandbox is worth. -/
noncomputable def Try.pinned : Pinned := { name := "ytohjnbajgbdhhaa", sum := "ce6cff225d8c5b4754f73f0c49d996bd0bf36a78eb375577381f0b4e34eb9b25", checked := Try.checked }
namespace Rows
def none {H : Type} : Left H := { results := [], args := [] }

/-- 'gauntletlaw04.MachinesShape': WHATEVER THE INPUT: true; the input reads as it did. -/
def machinesShapeSpec : ChangeSpec := { name := "machinesShape", fn := fun _ => fun
  | [d] => { results := [.lit (.bool true)], args := [d] }
  | _ => none }
def machinesShapeRow : OpenClaim := { program := "ytohjnbajgbdhhaa", sum := "ce6cff225d8c5b4754f73f0c49d996bd0bf36a78eb375577381f0b4e34eb9b25", func := "gauntlet/gauntletlaw04.MachinesShape", spec := "machinesShape", unfollowed := true, recurses := true, apart := false }
def MachinesShapeSaid : Prop := machinesShapeRow.holds Try.pinned (OpenSpec.ofChange machinesShapeSpec)

/-- ITS FALSE NEIGHBOUR: 'it returns false'. Refute it at one input. -/
def machinesShapeWrong : ChangeSpec := { name := "machinesShape", fn := fun _ => fun
  | [d] => { results := [.lit (.bool false)], args := [d] }
  | _ => none }
def MachinesShapeWrongFalsely : Prop := machinesShapeRow.holds Try.pinned (OpenSpec.ofChange machinesShapeWrong)

/-- 'gauntletlaw04.MachinesRun': WHATEVER THE INPUT: true; the input reads as it did. -/
def machinesRunSpec : ChangeSpec := { name := "machinesRun", fn := fun _ => fun
  | [d1, d2, d3] => { results := [.lit (.bool true)], args := [d1, d2, d3] }
  | _ => none }
def machinesRunRow : OpenClaim := { program := "ytohjnbajgbdhhaa", sum := "ce6cff225d8c5b4754f73f0c49d996bd0bf36a78eb375577381f0b4e34eb9b25", func := "gauntlet/gauntletlaw04.MachinesRun", spec := "machinesRun", unfollowed := true, recurses := true, apart := false }
def MachinesRunSaid : Prop := machinesRunRow.holds Try.pinned (OpenSpec.ofChange machinesRunSpec)

/-- ITS FALSE NEIGHBOUR: 'it returns false'. Refute it at one input. -/
def machinesRunWrong : ChangeSpec := { name := "machinesRun", fn := fun _ => fun
  | [d1, d2, d3] => { results := [.lit (.bool false)], args := [d1, d2, d3] }
  | _ => none }
def MachinesRunWrongFalsely : Prop := machinesRunRow.holds Try.pinned (OpenSpec.ofChange machinesRunWrong)

/-- 'gauntletlaw04.MachinesSplit': WHATEVER THE INPUT: true; the input reads as it did. -/
def machinesSplitSpec : ChangeSpec := { name := "machinesSplit", fn := fun _ => fun
  | [d1, d2, d3] => { results := [.lit (.bool true)], args := [d1, d2, d3] }
  | _ => none }
def machinesSplitRow : OpenClaim := { program := "ytohjnbajgbdhhaa", sum := "ce6cff225d8c5b4754f73f0c49d996bd0bf36a78eb375577381f0b4e34eb9b25", func := "gauntlet/gauntletlaw04.MachinesSplit", spec := "machinesSplit", unfollowed := true, recurses := true, apart := false }
def MachinesSplitSaid : Prop := machinesSplitRow.holds Try.pinned (OpenSpec.ofChange machinesSplitSpec)

/-- ITS FALSE NEIGHBOUR: 'it returns false'. Refute it at one input. -/
def machinesSplitWrong : ChangeSpec := { name := "machinesSplit", fn := fun _ => fun
  | [d1, d2, d3] => { results := [.lit (.bool false)], args := [d1, d2, d3] }
  | _ => none }
def MachinesSplitWrongFalsely : Prop := machinesSplitRow.holds Try.pinned (OpenSpec.ofChange machinesSplitWrong)

/-- 'gauntletlaw04.MachinesCheck': WHATEVER THE INPUT: true; the input reads as it did. -/
def machinesCheckSpec : ChangeSpec := { name := "machinesCheck", fn := fun _ => fun
  | [d1, d2, d3] => { results := [.lit (.bool true)], args := [d1, d2, d3] }
  | _ => none }
def machinesCheckRow : OpenClaim := { program := "ytohjnbajgbdhhaa", sum := "ce6cff225d8c5b4754f73f0c49d996bd0bf36a78eb375577381f0b4e34eb9b25", func := "gauntlet/gauntletlaw04.MachinesCheck", spec := "machinesCheck", unfollowed := true, recurses := true, apart := false }
def MachinesCheckSaid : Prop := machinesCheckRow.holds Try.pinned (OpenSpec.ofChange machinesCheckSpec)

/-- ITS FALSE NEIGHBOUR: 'it returns false'. Refute it at one input. -/
def machinesCheckWrong : ChangeSpec := { name := "machinesCheck", fn := fun _ => fun
  | [d1, d2, d3] => { results := [.lit (.bool false)], args := [d1, d2, d3] }
  | _ => none }
def MachinesCheckWrongFalsely : Prop := machinesCheckRow.holds Try.pinned (OpenSpec.ofChange machinesCheckWrong)

/-- 'gauntletlaw04.MachinesWith': WHATEVER THE INPUT: true; the input reads as it did. -/
def machinesWithSpec : ChangeSpec := { name := "machinesWith", fn := fun _ => fun
  | [d1, d2, d3] => { results := [.lit (.bool true)], args := [d1, d2, d3] }
  | _ => none }
def machinesWithRow : OpenClaim := { program := "ytohjnbajgbdhhaa", sum := "ce6cff225d8c5b4754f73f0c49d996bd0bf36a78eb375577381f0b4e34eb9b25", func := "gauntlet/gauntletlaw04.MachinesWith", spec := "machinesWith", unfollowed := true, recurses := true, apart := false }
def MachinesWithSaid : Prop := machinesWithRow.holds Try.pinned (OpenSpec.ofChange machinesWithSpec)

/-- ITS FALSE NEIGHBOUR: 'it returns false'. Refute it at one input. -/
def machinesWithWrong : ChangeSpec := { name := "machinesWith", fn := fun _ => fun
  | [d1, d2, d3] => { results := [.lit (.bool false)], args := [d1, d2, d3] }
  | _ => none }
def MachinesWithWrongFalsely : Prop := machinesWithRow.holds Try.pinned (OpenSpec.ofChange machinesWithWrong)

/-- 'gauntletlaw04.MachinesSame': WHATEVER THE INPUT: true; the input reads as it did. -/
def machinesSameSpec : ChangeSpec := { name := "machinesSame", fn := fun _ => fun
  | [d1, d2, d3] => { results := [.lit (.bool true)], args := [d1, d2, d3] }
  | _ => none }
def machinesSameRow : OpenClaim := { program := "ytohjnbajgbdhhaa", sum := "ce6cff225d8c5b4754f73f0c49d996bd0bf36a78eb375577381f0b4e34eb9b25", func := "gauntlet/gauntletlaw04.MachinesSame", spec := "machinesSame", unfollowed := true, recurses := true, apart := false }
def MachinesSameSaid : Prop := machinesSameRow.holds Try.pinned (OpenSpec.ofChange machinesSameSpec)

/-- ITS FALSE NEIGHBOUR: 'it returns false'. Refute it at one input. -/
def machinesSameWrong : ChangeSpec := { name := "machinesSame", fn := fun _ => fun
  | [d1, d2, d3] => { results := [.lit (.bool false)], args := [d1, d2, d3] }
  | _ => none }
def MachinesSameWrongFalsely : Prop := machinesSameRow.holds Try.pinned (OpenSpec.ofChange machinesSameWrong)

/-- 'gauntletlaw04.MachinesKnown': WHATEVER THE INPUT: true; the input reads as it did. -/
def machinesKnownSpec : ChangeSpec := { name := "machinesKnown", fn := fun _ => fun
  | [] => { results := [.lit (.bool true)], args := [] }
  | _ => none }
def machinesKnownRow : OpenClaim := { program := "ytohjnbajgbdhhaa", sum := "ce6cff225d8c5b4754f73f0c49d996bd0bf36a78eb375577381f0b4e34eb9b25", func := "gauntlet/gauntletlaw04.MachinesKnown", spec := "machinesKnown", unfollowed := true, recurses := true, apart := false }
def MachinesKnownSaid : Prop := machinesKnownRow.holds Try.pinned (OpenSpec.ofChange machinesKnownSpec)

/-- ITS FALSE NEIGHBOUR: 'it returns false'. Refute it at one input. -/
def machinesKnownWrong : ChangeSpec := { name := "machinesKnown", fn := fun _ => fun
  | [] => { results := [.lit (.bool false)], args := [] }
  | _ => none }
def MachinesKnownWrongFalsely : Prop := machinesKnownRow.holds Try.pinned (OpenSpec.ofChange machinesKnownWrong)

/- THE SECOND FORM. 'bulk': how many values and letters a reading holds, each counted each time it is reached (what is shared counts as often as it is met; a slice's spare places count too). A statement '..UptoSaid' is the law's where the arguments, and the package variables that the reading takes, are together of bulk at most 1048576: NARROWER than '..Said'. Prove '..Said' where nothing that the law and all that it calls make is longer than what came in: it says more and counts as full. Else prove '..UptoSaid'. A law counts once. -/
mutual
def uptoBulk {H : Type} : DataW H → Nat
  | .lit (.string bytes) => bytes.length + 1
  | .lit _ => 1
  | .nil => 1
  | .ptr d => uptoBulk d + 1
  | .slice elems spare => uptoBulkAll elems + uptoBulkAll spare + 1
  | .agg parts => uptoBulkAll parts + 1
  | .iface _ d => uptoBulk d + 1
  | .map entries => uptoBulkEntries entries + 1
  | .held _ => 1
def uptoBulkAll {H : Type} : List (DataW H) → Nat
  | [] => 0
  | d :: r => uptoBulk d + uptoBulkAll r
def uptoBulkEntries {H : Type} : List (Lit × DataW H) → Nat
  | [] => 0
  | x :: r => uptoBulkEntry x + uptoBulkEntries r
def uptoBulkEntry {H : Type} : Lit × DataW H → Nat
  | (.string bytes, d) => bytes.length + uptoBulk d + 1
  | (_, d) => uptoBulk d + 1
 end
def uptoSmall : (H : Type) → List (DataW H) → Bool := fun _ ds => decide (uptoBulkAll ds ≤ 1048576)
def OpenSpec.upto (s : _root_.Go.ChangeSpec) : _root_.Go.OpenSpec := { _root_.Go.OpenSpec.ofChange s with cond := some uptoSmall }

/-- 'gauntletlaw04.MachinesShape', WHERE WHAT IT READS IS OF BULK AT MOST 1048576: true; the input reads as it did. -/
def machinesShapeUptoRow : OpenClaim := { program := "ytohjnbajgbdhhaa", sum := "ce6cff225d8c5b4754f73f0c49d996bd0bf36a78eb375577381f0b4e34eb9b25", func := "gauntlet/gauntletlaw04.MachinesShape", spec := "machinesShape", unfollowed := true, recurses := true, apart := false, narrowed := true }
def MachinesShapeUptoSaid : Prop := machinesShapeUptoRow.holds Try.pinned (OpenSpec.upto machinesShapeSpec)

/-- 'gauntletlaw04.MachinesRun', WHERE WHAT IT READS IS OF BULK AT MOST 1048576: true; the input reads as it did. -/
def machinesRunUptoRow : OpenClaim := { program := "ytohjnbajgbdhhaa", sum := "ce6cff225d8c5b4754f73f0c49d996bd0bf36a78eb375577381f0b4e34eb9b25", func := "gauntlet/gauntletlaw04.MachinesRun", spec := "machinesRun", unfollowed := true, recurses := true, apart := false, narrowed := true }
def MachinesRunUptoSaid : Prop := machinesRunUptoRow.holds Try.pinned (OpenSpec.upto machinesRunSpec)

/-- 'gauntletlaw04.MachinesSplit', WHERE WHAT IT READS IS OF BULK AT MOST 1048576: true; the input reads as it did. -/
def machinesSplitUptoRow : OpenClaim := { program := "ytohjnbajgbdhhaa", sum := "ce6cff225d8c5b4754f73f0c49d996bd0bf36a78eb375577381f0b4e34eb9b25", func := "gauntlet/gauntletlaw04.MachinesSplit", spec := "machinesSplit", unfollowed := true, recurses := true, apart := false, narrowed := true }
def MachinesSplitUptoSaid : Prop := machinesSplitUptoRow.holds Try.pinned (OpenSpec.upto machinesSplitSpec)

/-- 'gauntletlaw04.MachinesCheck', WHERE WHAT IT READS IS OF BULK AT MOST 1048576: true; the input reads as it did. -/
def machinesCheckUptoRow : OpenClaim := { program := "ytohjnbajgbdhhaa", sum := "ce6cff225d8c5b4754f73f0c49d996bd0bf36a78eb375577381f0b4e34eb9b25", func := "gauntlet/gauntletlaw04.MachinesCheck", spec := "machinesCheck", unfollowed := true, recurses := true, apart := false, narrowed := true }
def MachinesCheckUptoSaid : Prop := machinesCheckUptoRow.holds Try.pinned (OpenSpec.upto machinesCheckSpec)

/-- 'gauntletlaw04.MachinesWith', WHERE WHAT IT READS IS OF BULK AT MOST 1048576: true; the input reads as it did. -/
def machinesWithUptoRow : OpenClaim := { program := "ytohjnbajgbdhhaa", sum := "ce6cff225d8c5b4754f73f0c49d996bd0bf36a78eb375577381f0b4e34eb9b25", func := "gauntlet/gauntletlaw04.MachinesWith", spec := "machinesWith", unfollowed := true, recurses := true, apart := false, narrowed := true }
def MachinesWithUptoSaid : Prop := machinesWithUptoRow.holds Try.pinned (OpenSpec.upto machinesWithSpec)

/-- 'gauntletlaw04.MachinesSame', WHERE WHAT IT READS IS OF BULK AT MOST 1048576: true; the input reads as it did. -/
def machinesSameUptoRow : OpenClaim := { program := "ytohjnbajgbdhhaa", sum := "ce6cff225d8c5b4754f73f0c49d996bd0bf36a78eb375577381f0b4e34eb9b25", func := "gauntlet/gauntletlaw04.MachinesSame", spec := "machinesSame", unfollowed := true, recurses := true, apart := false, narrowed := true }
def MachinesSameUptoSaid : Prop := machinesSameUptoRow.holds Try.pinned (OpenSpec.upto machinesSameSpec)

/-- 'gauntletlaw04.MachinesKnown', WHERE WHAT IT READS IS OF BULK AT MOST 1048576: true; the input reads as it did. -/
def machinesKnownUptoRow : OpenClaim := { program := "ytohjnbajgbdhhaa", sum := "ce6cff225d8c5b4754f73f0c49d996bd0bf36a78eb375577381f0b4e34eb9b25", func := "gauntlet/gauntletlaw04.MachinesKnown", spec := "machinesKnown", unfollowed := true, recurses := true, apart := false, narrowed := true }
def MachinesKnownUptoSaid : Prop := machinesKnownUptoRow.holds Try.pinned (OpenSpec.upto machinesKnownSpec)

end Rows
end Go.Proofs.Ytohjnbajgbdhhaa
