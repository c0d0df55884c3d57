/- The law gauntlet/gauntletlaw04.MachinesKnown: for every input it returns true, and each argument reads as it did; the program's walk and the law of the plain program joined. -/
import Derived.Test.YtohjnbajgbdhhaaShLMachinesKnown
import Derived.Test.YtohjnbajgbdhhaaShBridge
import Derived.Test.YtohjnbajgbdhhaaLaw04f
import Derived.Test.YtohjnbajgbdhhaaShOpens
set_option linter.unusedVariables false
set_option linter.unusedSimpArgs false
namespace Go.Proofs.Ytohjnbajgbdhhaa
namespace GV
open _root_.Go.Proofs.Try
open Go.ChangeShapes Go.WideShapes Go.ChangeAt Go.RowKit
set_option maxRecDepth 100000
theorem own_MachinesKnownProved : ownKnob prog.godebug = none := by kernel_rfl
theorem contract_MachinesKnownProved (H : Type) (enc : TypeId × Value → H) (W : World) (base : Nat) (args : Array Value) (ds gs : List (DataW H)) (before : List MemPlace)
 (hval : ∀ (j : Nat) t v, Try.f9.params[j]? = some t → args[j]? = some v → Value.okWide prog W .any base t v)
 (c : DataW.Whole enc prog Try.f9.params.toList Rows.machinesKnownSpec.vars false W args.toList ds gs before) :
 Calls prog 9 args W fun e W' => ∃ v, e = .returned v ∧ Rows.machinesKnownSpec.post enc prog Try.f9 false true false false W args v W' := by
 have hpost := fun W' (a : Same W W') => zlo (rt := 4) (P := prog) (s := Rows.machinesKnownSpec) (f := Try.f9) laid (by rw [Try.params9]; kernel_rfl) rfl rfl underlying4 (fun ds gs h => by
  rw [Try.params9] at h
  obtain ⟨_, rfl, _⟩ := trodAll_nil h
  rfl) c a
 obtain ⟨p, q, b, l, rfl, g, i⟩ := c
 have d : DataW.TrodAll enc prog W 0 (fun _ => true) true Try.f9.params.toList args.toList ds p := b
 rw [Try.params9] at d
 obtain ⟨hargs0, rfl, rfl⟩ := trodAll_nil d
 obtain rfl : args = #[] := by cases args; simp_all
 refine (zjm (z3x (N := 2000)  (zil )) (fun v R' h => h)).mono fun e W' ⟨k, a⟩ => ?_
 exact ⟨_, k, hpost W' a⟩
theorem lifted_MachinesKnownProved (os : Os) (started : os.Started) (H : Type) (enc : TypeId × Value → H) :
 ReturnsInHanded {} Try.checked os 9 .any (Rows.machinesKnownSpec.pre6 enc prog Try.f9 Rows.machinesKnownRow.domain false) (Rows.machinesKnownSpec.post enc prog Try.f9 false true false false) := by
 refine returnsInHanded_of_change (C := Try.checked) (s := Rows.machinesKnownSpec) own_MachinesKnownProved started (by kernel_rfl) func9
  (ChangeSpec.witness6 (enc := enc) (C := Try.checked) (s := Rows.machinesKnownSpec) false ⟨#[], #[], []⟩ 30 (by kernel_rfl) (by kernel_rfl) (by kernel_rfl) (by kernel_rfl)) ?_
 intro W base args ds gs before hval a _ _
 exact contract_MachinesKnownProved H enc W base args ds gs before hval a
theorem MachinesKnownProved_holds : Rows.machinesKnownRow.holds Try.pinned (OpenSpec.ofChange Rows.machinesKnownSpec) :=
 OpenClaim.holds_of_wide 9 Try.f9 rfl rfl rfl rfl rfl rfl rfl ⟨rfl, rfl, rfl, rfl, rfl⟩ rfl rfl rfl rfl rfl (by kernel_rfl) func9 (by kernel_rfl)
  (of_decide_eq_true (by kernel_rfl)) (by unfold Func.isWrapper; first | (rw [if_pos (by decide +kernel)]; kernel_rfl) | (rw [if_neg (by decide +kernel)]; exact ⟨rfl, rfl⟩))
  (fun os started H enc _ => lifted_MachinesKnownProved os started H enc)
end GV
theorem MachinesKnownProved : Rows.MachinesKnownSaid := GV.MachinesKnownProved_holds
end Go.Proofs.Ytohjnbajgbdhhaa
