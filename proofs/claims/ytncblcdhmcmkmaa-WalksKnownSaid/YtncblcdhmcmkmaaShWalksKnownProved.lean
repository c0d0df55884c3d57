/- The law gauntlet/gauntletlaw06.WalksKnown: for every input it returns true, and each argument reads as it did; the program's walk and the law of the plain program joined. -/
import Derived.Test.YtncblcdhmcmkmaaShLWalksKnown
import Derived.Test.YtncblcdhmcmkmaaShBridge
import Derived.Test.YtncblcdhmcmkmaaSpec06m
import Derived.Test.YtncblcdhmcmkmaaShOpens
set_option linter.unusedVariables false
set_option linter.unusedSimpArgs false
namespace Go.Proofs.Ytncblcdhmcmkmaa
namespace GV
open _root_.Go.Proofs.Try
open Go.ChangeShapes Go.WideShapes Go.ChangeAt Go.RowKit
set_option maxRecDepth 100000
theorem own_WalksKnownProved : ownKnob prog.godebug = none := by kernel_rfl
theorem contract_WalksKnownProved (H : Type) (enc : TypeId × Value → H) (W : World) (base : Nat) (args : Array Value) (ds gs : List (DataW H)) (before : List MemPlace)
 (hval : ∀ (j : Nat) t v, Try.f10.params[j]? = some t → args[j]? = some v → Value.okWide prog W .any base t v)
 (c : DataW.Whole enc prog Try.f10.params.toList Rows.walksKnownSpec.vars false W args.toList ds gs before) :
 Calls prog 10 args W fun e W' => ∃ v, e = .returned v ∧ Rows.walksKnownSpec.post enc prog Try.f10 false true false false W args v W' := by
 have hpost := fun W' (a : Same W W') => zoj (rt := 4) (P := prog) (s := Rows.walksKnownSpec) (f := Try.f10) laid (by rw [Try.params10]; kernel_rfl) rfl rfl underlying4 (fun ds gs h => by
  rw [Try.params10] at h
  obtain ⟨_, rfl, _⟩ := trodAll_nil h
  rfl) c a
 obtain ⟨p, q, b, l, rfl, g, i⟩ := c
 have d : DataW.TrodAll enc prog W 0 (fun _ => true) true Try.f10.params.toList args.toList ds p := b
 rw [Try.params10] at d
 obtain ⟨hargs0, rfl, rfl⟩ := trodAll_nil d
 obtain rfl : args = #[] := by cases args; simp_all
 refine (znf (z6g (N := 2000)  (zmf )) (fun v R' h => h)).mono fun e W' ⟨k, a⟩ => ?_
 exact ⟨_, k, hpost W' a⟩
theorem lifted_WalksKnownProved (os : Os) (started : os.Started) (H : Type) (enc : TypeId × Value → H) :
 ReturnsInHanded {} Try.checked os 10 .any (Rows.walksKnownSpec.pre6 enc prog Try.f10 Rows.walksKnownRow.domain false) (Rows.walksKnownSpec.post enc prog Try.f10 false true false false) := by
 refine returnsInHanded_of_change (C := Try.checked) (s := Rows.walksKnownSpec) own_WalksKnownProved started (by kernel_rfl) func10
  (ChangeSpec.witness6 (enc := enc) (C := Try.checked) (s := Rows.walksKnownSpec) false ⟨#[], #[], []⟩ 30 (by kernel_rfl) (by kernel_rfl) (by kernel_rfl) (by kernel_rfl)) ?_
 intro W base args ds gs before hval a _ _
 exact contract_WalksKnownProved H enc W base args ds gs before hval a
theorem WalksKnownProved_holds : Rows.walksKnownRow.holds Try.pinned (OpenSpec.ofChange Rows.walksKnownSpec) :=
 OpenClaim.holds_of_wide 10 Try.f10 rfl rfl rfl rfl rfl rfl rfl ⟨rfl, rfl, rfl, rfl, rfl⟩ rfl rfl rfl rfl rfl (by kernel_rfl) func10 (by kernel_rfl)
  (of_decide_eq_true (by kernel_rfl)) (by unfold Func.isWrapper; first | (rw [if_pos (by decide +kernel)]; kernel_rfl) | (rw [if_neg (by decide +kernel)]; exact ⟨rfl, rfl⟩))
  (fun os started H enc _ => lifted_WalksKnownProved os started H enc)
end GV
theorem WalksKnownProved : Rows.WalksKnownSaid := GV.WalksKnownProved_holds
end Go.Proofs.Ytncblcdhmcmkmaa
