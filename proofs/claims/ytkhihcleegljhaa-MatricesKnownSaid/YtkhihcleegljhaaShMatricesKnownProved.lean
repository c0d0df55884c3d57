/- The law gauntlet/gauntletlaw21.MatricesKnown: for every input it returns true, and each argument reads as it did; the program's walk and the law of the plain program joined. -/
import Derived.Test.YtkhihcleegljhaaShWg
import Derived.Test.YtkhihcleegljhaaShOpens
import Derived.Test.YtkhihcleegljhaaKno21d
set_option linter.unusedVariables false
set_option linter.unusedSimpArgs false
set_option linter.unusedSectionVars false
namespace Go.Proofs.Ytkhihcleegljhaa
namespace GV
open _root_.Go.Proofs.Try
open Go.ChangeShapes Go.WideShapes Go.ChangeAt Go.RowKit
set_option maxRecDepth 100000
theorem own_MatricesKnownProved : ownKnob prog.godebug = none := by kernel_rfl
theorem contract_MatricesKnownProved (H : Type) (enc : TypeId × Value → H) (W : World) (base : Nat) (args : Array Value) (ds gs : List (DataW H)) (before : List MemPlace)
 (hval : ∀ (j : Nat) t v, Try.f5.params[j]? = some t → args[j]? = some v → Value.okWide prog W .any base t v)
 (c : DataW.Whole enc prog Try.f5.params.toList Rows.matricesKnownSpec.vars false W args.toList ds gs before) :
 Calls prog 5 args W fun e W' => ∃ v, e = .returned v ∧ Rows.matricesKnownSpec.post enc prog Try.f5 false true false false W args v W' := by
 have hpost := fun W' (a : Same W W') => zi6 (rt := 4) (P := prog) (s := Rows.matricesKnownSpec) (f := Try.f5) laid (by rw [Try.params5]; kernel_rfl) rfl rfl underlying4 (fun ds gs h => by
  rw [Try.params5] at h
  obtain ⟨_, rfl, _⟩ := trodAll_nil h
  rfl) c a
 obtain ⟨p, q, b, l, rfl, g, i⟩ := c
 have d : DataW.TrodAll enc prog W 0 (fun _ => true) true Try.f5.params.toList args.toList ds p := b
 rw [Try.params5] at d
 obtain ⟨hargs0, rfl, rfl⟩ := trodAll_nil d
 obtain rfl : args = #[] := by cases args; simp_all
 refine (zgf (z3t (N := 5000)  (zfo )) (fun v R' h => h)).mono fun e W' ⟨k, a⟩ => ?_
 exact ⟨_, k, hpost W' a⟩
theorem lifted_MatricesKnownProved (os : Os) (started : os.Started) (H : Type) (enc : TypeId × Value → H) :
 ReturnsInHanded {} Try.checked os 5 .any (Rows.matricesKnownSpec.pre6 enc prog Try.f5 Rows.matricesKnownRow.domain false) (Rows.matricesKnownSpec.post enc prog Try.f5 false true false false) := by
 refine returnsInHanded_of_change (C := Try.checked) (s := Rows.matricesKnownSpec) own_MatricesKnownProved started (by kernel_rfl) func5
  (ChangeSpec.witness6 (enc := enc) (C := Try.checked) (s := Rows.matricesKnownSpec) false ⟨#[], #[], []⟩ 30 (by kernel_rfl) (by kernel_rfl) (by kernel_rfl) (by kernel_rfl)) ?_
 intro W base args ds gs before hval a _ _
 exact contract_MatricesKnownProved H enc W base args ds gs before hval a
theorem MatricesKnownProved_holds : Rows.matricesKnownRow.holds Try.pinned (OpenSpec.ofChange Rows.matricesKnownSpec) :=
 OpenClaim.holds_of_wide 5 Try.f5 rfl rfl rfl rfl rfl rfl rfl ⟨rfl, rfl, rfl, rfl, rfl⟩ rfl rfl rfl rfl rfl (by kernel_rfl) func5 (by kernel_rfl)
  (of_decide_eq_true (by kernel_rfl)) (by unfold Func.isWrapper; first | (rw [if_pos (by decide +kernel)]; kernel_rfl) | (rw [if_neg (by decide +kernel)]; exact ⟨rfl, rfl⟩))
  (fun os started H enc _ => lifted_MatricesKnownProved os started H enc)
end GV
theorem MatricesKnownProved : Rows.MatricesKnownSaid := GV.MatricesKnownProved_holds
end Go.Proofs.Ytkhihcleegljhaa
