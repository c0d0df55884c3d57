/- The law gauntlet/gauntletlaw09.QuotientsKnown: for every input it returns true, and each argument reads as it did; the program's walk and the law of the plain program joined. -/
import Derived.Test.YtkcccdcloealfaaGreatShLQuotientsKnown
import Derived.Test.YtkcccdcloealfaaGreatShBridge
import Derived.Test.YtkcccdcloealfaaGreatLaw09m
import Derived.Test.YtkcccdcloealfaaGreatShOpens
set_option linter.unusedVariables false
set_option linter.unusedSimpArgs false
namespace Go.Proofs.YtkcccdcloealfaaGreat
namespace GV
open _root_.Go.Proofs.Tryz
open Go.ChangeShapes Go.WideShapes Go.ChangeAt Go.RowKit
set_option maxRecDepth 100000
theorem own_QuotientsKnownProved : ownKnob prog.godebug = none := by kernel_rfl
theorem contract_QuotientsKnownProved (H : Type) (enc : TypeId × Value → H) (W : World) (base : Nat) (args : Array Value) (ds gs : List (DataW H)) (before : List MemPlace)
 (hval : ∀ (j : Nat) t v, Tryz.f8.params[j]? = some t → args[j]? = some v → Value.okWide prog W .any base t v)
 (c : DataW.Whole enc prog Tryz.f8.params.toList Rows.quotientsKnownSpec.vars false W args.toList ds gs before) :
 Calls prog 8 args W fun e W' => ∃ v, e = .returned v ∧ Rows.quotientsKnownSpec.post enc prog Tryz.f8 false true false false W args v W' := by
 have hpost := fun W' (a : Same W W') => q1o (rt := 4) (P := prog) (s := Rows.quotientsKnownSpec) (f := Tryz.f8) laid (by rw [Tryz.params8]; kernel_rfl) rfl rfl underlying4 (fun ds gs h => by
  rw [Tryz.params8] at h
  obtain ⟨_, rfl, _⟩ := trodAll_nil h
  rfl) c a
 obtain ⟨p, q, b, l, rfl, g, i⟩ := c
 have d : DataW.TrodAll enc prog W 0 (fun _ => true) true Tryz.f8.params.toList args.toList ds p := b
 rw [Tryz.params8] at d
 obtain ⟨hargs0, rfl, rfl⟩ := trodAll_nil d
 obtain rfl : args = #[] := by cases args; simp_all
 refine (zwh (z8r (N := 2000)  (zwm )) (fun v R' h => h)).mono fun e W' ⟨k, a⟩ => ?_
 exact ⟨_, k, hpost W' a⟩
theorem lifted_QuotientsKnownProved (os : Os) (started : os.Started) (H : Type) (enc : TypeId × Value → H) :
 ReturnsInHanded {} Tryz.checked os 8 .any (Rows.quotientsKnownSpec.pre6 enc prog Tryz.f8 Rows.quotientsKnownRow.domain false) (Rows.quotientsKnownSpec.post enc prog Tryz.f8 false true false false) := by
 refine returnsInHanded_of_change (C := Tryz.checked) (s := Rows.quotientsKnownSpec) own_QuotientsKnownProved started (by kernel_rfl) func8
  (ChangeSpec.witness6 (enc := enc) (C := Tryz.checked) (s := Rows.quotientsKnownSpec) false ⟨#[], #[], []⟩ 30 (by kernel_rfl) (by kernel_rfl) (by kernel_rfl) (by kernel_rfl)) ?_
 intro W base args ds gs before hval a _ _
 exact contract_QuotientsKnownProved H enc W base args ds gs before hval a
theorem QuotientsKnownProved_holds : Rows.quotientsKnownRow.holds Tryz.pinned (OpenSpec.ofChange Rows.quotientsKnownSpec) :=
 OpenClaim.holds_of_wide 8 Tryz.f8 rfl rfl rfl rfl rfl rfl rfl ⟨rfl, rfl, rfl, rfl, rfl⟩ rfl rfl rfl rfl rfl (by kernel_rfl) func8 (by kernel_rfl)
  (of_decide_eq_true (by kernel_rfl)) (by unfold Func.isWrapper; first | (rw [if_pos (by decide +kernel)]; kernel_rfl) | (rw [if_neg (by decide +kernel)]; exact ⟨rfl, rfl⟩))
  (fun os started H enc _ => lifted_QuotientsKnownProved os started H enc)
end GV
theorem QuotientsKnownProved : Rows.QuotientsKnownSaid := GV.QuotientsKnownProved_holds
end Go.Proofs.YtkcccdcloealfaaGreat
