/- The law gauntlet/gauntletlaw15.ProbesKnown: for every input it returns true, and each argument reads as it did; the program's walk and the law of the plain program joined. -/
import Derived.Test.YtnnobdkjgafdmaaShLProbesKnown
import Derived.Test.YtnnobdkjgafdmaaShBridge
import Derived.Test.YtnnobdkjgafdmaaKno15
import Derived.Test.YtnnobdkjgafdmaaShOpens
set_option linter.unusedVariables false
set_option linter.unusedSimpArgs false
set_option linter.unusedSectionVars false
namespace Go.Proofs.Ytnnobdkjgafdmaa
namespace GV
open _root_.Go.Proofs.Try
open Go.ChangeShapes Go.WideShapes Go.ChangeAt Go.RowKit
set_option maxRecDepth 100000
theorem own_ProbesKnownProved : ownKnob prog.godebug = none := by kernel_rfl
theorem contract_ProbesKnownProved (H : Type) (enc : TypeId × Value → H) (W : World) (base : Nat) (args : Array Value) (ds gs : List (DataW H)) (before : List MemPlace)
 (hval : ∀ (j : Nat) t v, Try.f7.params[j]? = some t → args[j]? = some v → Value.okWide prog W .any base t v)
 (c : DataW.Whole enc prog Try.f7.params.toList Rows.probesKnownSpec.vars false W args.toList ds gs before) :
 Calls prog 7 args W fun e W' => ∃ v, e = .returned v ∧ Rows.probesKnownSpec.post enc prog Try.f7 false true false false W args v W' := by
 have hpost := fun W' (a : Same W W') => zjx (rt := 4) (P := prog) (s := Rows.probesKnownSpec) (f := Try.f7) laid (by rw [Try.params7]; kernel_rfl) rfl rfl underlying4 (fun ds gs h => by
  rw [Try.params7] at h
  obtain ⟨_, rfl, _⟩ := trodAll_nil h
  rfl) c a
 obtain ⟨p, q, b, l, rfl, g, i⟩ := c
 have d : DataW.TrodAll enc prog W 0 (fun _ => true) true Try.f7.params.toList args.toList ds p := b
 rw [Try.params7] at d
 obtain ⟨hargs0, rfl, rfl⟩ := trodAll_nil d
 obtain rfl : args = #[] := by cases args; simp_all
 refine (zin (z4a (N := 5000)  (zim )) (fun v R' h => h)).mono fun e W' ⟨k, a⟩ => ?_
 exact ⟨_, k, hpost W' a⟩
theorem lifted_ProbesKnownProved (os : Os) (started : os.Started) (H : Type) (enc : TypeId × Value → H) :
 ReturnsInHanded {} Try.checked os 7 .any (Rows.probesKnownSpec.pre6 enc prog Try.f7 Rows.probesKnownRow.domain false) (Rows.probesKnownSpec.post enc prog Try.f7 false true false false) := by
 refine returnsInHanded_of_change (C := Try.checked) (s := Rows.probesKnownSpec) own_ProbesKnownProved started (by kernel_rfl) func7
  (ChangeSpec.witness6 (enc := enc) (C := Try.checked) (s := Rows.probesKnownSpec) false ⟨#[], #[], []⟩ 30 (by kernel_rfl) (by kernel_rfl) (by kernel_rfl) (by kernel_rfl)) ?_
 intro W base args ds gs before hval a _ _
 exact contract_ProbesKnownProved H enc W base args ds gs before hval a
theorem ProbesKnownProved_holds : Rows.probesKnownRow.holds Try.pinned (OpenSpec.ofChange Rows.probesKnownSpec) :=
 OpenClaim.holds_of_wide 7 Try.f7 rfl rfl rfl rfl rfl rfl rfl ⟨rfl, rfl, rfl, rfl, rfl⟩ rfl rfl rfl rfl rfl (by kernel_rfl) func7 (by kernel_rfl)
  (of_decide_eq_true (by kernel_rfl)) (by unfold Func.isWrapper; first | (rw [if_pos (by decide +kernel)]; kernel_rfl) | (rw [if_neg (by decide +kernel)]; exact ⟨rfl, rfl⟩))
  (fun os started H enc _ => lifted_ProbesKnownProved os started H enc)
end GV
theorem ProbesKnownProved : Rows.ProbesKnownSaid := GV.ProbesKnownProved_holds
end Go.Proofs.Ytnnobdkjgafdmaa
