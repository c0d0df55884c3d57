/- The law gauntlet/gauntletlaw39.ChecksKnownAll: for every input it returns true, and each argument reads as it did; the program's walk and the law of the plain program joined. -/
import Derived.Test.YtplgbkaollfmkaaShLChecksKnownAll
import Derived.Test.YtplgbkaollfmkaaShBridge
import Derived.Test.YtplgbkaollfmkaaLaw39q
import Derived.Test.YtplgbkaollfmkaaShOpens
set_option linter.unusedVariables false
set_option linter.unusedSimpArgs false
namespace Go.Proofs.Ytplgbkaollfmkaa
namespace GV
open Go.ChangeShapes Go.WideShapes Go.ChangeAt Go.RowKit
set_option maxRecDepth 100000
theorem own_ChecksKnownAllProved : ownKnob Try.prog.godebug = none := by kernel_rfl
theorem contract_ChecksKnownAllProved (H : Type) (enc : TypeId × Value → H) (W : World) (base : Nat) (args : Array Value) (ds gs : List (DataW H)) (before : List MemPlace)
    (hval : ∀ (j : Nat) t v, Try.f6.params[j]? = some t → args[j]? = some v → Value.okWide Try.prog W .any base t v)
    (hW : DataW.Whole enc Try.prog Try.f6.params.toList Rows.checksKnownAllSpec.vars false W args.toList ds gs before) :
    Calls Try.prog 6 args W fun e W' => ∃ v, e = .returned v ∧ Rows.checksKnownAllSpec.post enc Try.prog Try.f6 false true false false W args v W' := by
  have hpost := fun W' (hs : Same W W') => zn8 (rt := 4) (P := Try.prog) (s := Rows.checksKnownAllSpec) (f := Try.f6) laid (by rw [Try.params6]; kernel_rfl) rfl rfl Try.underlying4 (fun ds gs h => by
    rw [Try.params6] at h
    obtain ⟨_, rfl, _⟩ := trodAll_nil h
    rfl) hW hs
  obtain ⟨p, q, hA0, hV, rfl, hfz, hnd⟩ := hW
  have hA : DataW.TrodAll enc Try.prog W 0 (fun _ => true) true Try.f6.params.toList args.toList ds p := hA0
  rw [Try.params6] at hA
  obtain ⟨hargs0, rfl, rfl⟩ := trodAll_nil hA
  obtain rfl : args = #[] := by cases args; simp_all
  refine (zk0 (z1s (N := 2000)  (zfs )) (fun v R' h => h)).mono fun e W' ⟨he, hs⟩ => ?_
  exact ⟨_, he, hpost W' hs⟩
theorem lifted_ChecksKnownAllProved (os : Os) (started : os.Started) (H : Type) (enc : TypeId × Value → H) :
    ReturnsInHanded {} Try.checked os 6 .any (Rows.checksKnownAllSpec.pre6 enc Try.prog Try.f6 Rows.checksKnownAllRow.domain false) (Rows.checksKnownAllSpec.post enc Try.prog Try.f6 false true false false) := by
  refine returnsInHanded_of_change (C := Try.checked) (s := Rows.checksKnownAllSpec) own_ChecksKnownAllProved started (by kernel_rfl) Try.func6
    (ChangeSpec.witness6 (enc := enc) (C := Try.checked) (s := Rows.checksKnownAllSpec) false ⟨#[], #[], []⟩ 30 (by kernel_rfl) (by kernel_rfl) (by kernel_rfl) (by kernel_rfl)) ?_
  intro W base args ds gs before hval hW _ _
  exact contract_ChecksKnownAllProved H enc W base args ds gs before hval hW
theorem ChecksKnownAllProved_holds : Rows.checksKnownAllRow.holds Try.pinned (OpenSpec.ofChange Rows.checksKnownAllSpec) :=
  OpenClaim.holds_of_wide 6 Try.f6 rfl rfl rfl rfl rfl rfl rfl ⟨rfl, rfl, rfl, rfl, rfl⟩ rfl rfl rfl rfl rfl (by kernel_rfl) Try.func6 (by kernel_rfl)
    (of_decide_eq_true (by kernel_rfl)) (by unfold Func.isWrapper; first | (rw [if_pos (by decide +kernel)]; kernel_rfl) | (rw [if_neg (by decide +kernel)]; exact ⟨rfl, rfl⟩))
    (fun os started H enc _ => lifted_ChecksKnownAllProved os started H enc)
end GV
theorem ChecksKnownAllProved : Rows.ChecksKnownAllSaid := GV.ChecksKnownAllProved_holds
end Go.Proofs.Ytplgbkaollfmkaa
