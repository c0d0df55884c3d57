/- The law gauntlet/gauntletlaw38.ToursKnown: for every input it returns true, and each argument reads as it did; the program's walk and the law of the plain program joined. -/
import Derived.Test.YtdhccodneoebpaaShLToursKnown
import Derived.Test.YtdhccodneoebpaaShOpens
import Derived.Test.YtdhccodneoebpaaLaw38w
set_option linter.unusedVariables false
set_option linter.unusedSimpArgs false
set_option linter.unusedSectionVars false
namespace Go.Proofs.Ytdhccodneoebpaa
namespace GV
open _root_.Go.Proofs.Try
open Go.ChangeShapes Go.WideShapes Go.ChangeAt Go.RowKit
set_option maxRecDepth 100000
theorem own_ToursKnownProved : ownKnob prog.godebug = none := by kernel_rfl
theorem contract_ToursKnownProved (H : Type) (enc : TypeId × Value → H) (W : World) (base : Nat) (args : Array Value) (ds gs : List (DataW H)) (before : List MemPlace)
 (hval : ∀ (j : Nat) t v, Try.f8.params[j]? = some t → args[j]? = some v → Value.okWide prog W .any base t v)
 (c : DataW.Whole enc prog Try.f8.params.toList Rows.toursKnownSpec.vars false W args.toList ds gs before) :
 Calls prog 8 args W fun e W' => ∃ v, e = .returned v ∧ Rows.toursKnownSpec.post enc prog Try.f8 false true false false W args v W' := by
 have hpost := fun W' (a : Same W W') => zth (rt := 4) (P := prog) (s := Rows.toursKnownSpec) (f := Try.f8) laid (by rw [Try.params8]; kernel_rfl) rfl rfl underlying4 (fun ds gs h => by
  rw [Try.params8] at h
  obtain ⟨_, rfl, _⟩ := trodAll_nil h
  rfl) c a
 obtain ⟨p, q, b, l, rfl, g, i⟩ := c
 have d : DataW.TrodAll enc prog W 0 (fun _ => true) true Try.f8.params.toList args.toList ds p := b
 rw [Try.params8] at d
 obtain ⟨hargs0, rfl, rfl⟩ := trodAll_nil d
 obtain rfl : args = #[] := by cases args; simp_all
 refine (zqg (z6x (N := 2000000)  (zpa )) (fun v R' h => h)).mono fun e W' ⟨k, a⟩ => ?_
 exact ⟨_, k, hpost W' a⟩
theorem lifted_ToursKnownProved (os : Os) (started : os.Started) (H : Type) (enc : TypeId × Value → H) :
 ReturnsInHanded {} Try.checked os 8 .any (Rows.toursKnownSpec.pre6 enc prog Try.f8 Rows.toursKnownRow.domain false) (Rows.toursKnownSpec.post enc prog Try.f8 false true false false) := by
 refine returnsInHanded_of_change (C := Try.checked) (s := Rows.toursKnownSpec) own_ToursKnownProved started (by kernel_rfl) func8
  (ChangeSpec.witness6 (enc := enc) (C := Try.checked) (s := Rows.toursKnownSpec) false ⟨#[], #[], []⟩ 30 (by kernel_rfl) (by kernel_rfl) (by kernel_rfl) (by kernel_rfl)) ?_
 intro W base args ds gs before hval a _ _
 exact contract_ToursKnownProved H enc W base args ds gs before hval a
theorem ToursKnownProved_holds : Rows.toursKnownRow.holds Try.pinned (OpenSpec.ofChange Rows.toursKnownSpec) :=
 OpenClaim.holds_of_wide 8 Try.f8 rfl rfl rfl rfl rfl rfl rfl ⟨rfl, rfl, rfl, rfl, rfl⟩ rfl rfl rfl rfl rfl (by kernel_rfl) func8 (by kernel_rfl)
  (of_decide_eq_true (by kernel_rfl)) (by unfold Func.isWrapper; first | (rw [if_pos (by decide +kernel)]; kernel_rfl) | (rw [if_neg (by decide +kernel)]; exact ⟨rfl, rfl⟩))
  (fun os started H enc _ => lifted_ToursKnownProved os started H enc)
end GV
theorem ToursKnownProved : Rows.ToursKnownSaid := GV.ToursKnownProved_holds
end Go.Proofs.Ytdhccodneoebpaa
