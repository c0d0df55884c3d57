/- The law gauntlet/gauntletlaw21.MatricesCheck: for every input it returns true, and each argument reads as it did; the program's walk and the law of the plain program joined. -/
import Derived.Test.YtkhihcleegljhaaShLMatricesCheck
import Derived.Test.YtkhihcleegljhaaShBridge
import Derived.Test.YtkhihcleegljhaaSaidc21
import Derived.Test.YtkhihcleegljhaaShOpens
set_option linter.unusedVariables false
set_option linter.unusedSimpArgs false
namespace Go.Proofs.Ytkhihcleegljhaa
namespace GV
open _root_.Go.Proofs.Try
open Go.ChangeShapes Go.WideShapes Go.ChangeAt Go.RowKit
set_option maxRecDepth 100000
theorem own_MatricesCheckProved : ownKnob prog.godebug = none := by kernel_rfl
theorem contract_MatricesCheckProved (H : Type) (enc : TypeId × Value → H) (W : World) (base : Nat) (args : Array Value) (ds gs : List (DataW H)) (before : List MemPlace)
 (hval : ∀ (j : Nat) t v, Try.f4.params[j]? = some t → args[j]? = some v → Value.okWide prog W .any base t v)
 (g : DataW.Whole enc prog Try.f4.params.toList Rows.matricesCheckSpec.vars false W args.toList ds gs before) :
 Calls prog 4 args W fun e W' => ∃ v, e = .returned v ∧ Rows.matricesCheckSpec.post enc prog Try.f4 false true false false W args v W' := by
 have hpost := fun W' (a : Same W W') => zld (rt := 4) (P := prog) (s := Rows.matricesCheckSpec) (f := Try.f4) laid (by rw [Try.params4]; kernel_rfl) rfl rfl underlying4 (fun ds gs h => by
  rw [Try.params4] at h
  obtain ⟨I, m, J, n, _, _, _, rfl, _, _, b⟩ := trodAll_cons h
  obtain ⟨K, o, L, r, _, _, _, rfl, _, _, c⟩ := trodAll_cons b
  obtain ⟨_, rfl, _⟩ := trodAll_nil c
  rfl) g a
 obtain ⟨p, q, d, M, rfl, u, w⟩ := g
 have i : DataW.TrodAll enc prog W 0 (fun _ => true) true Try.f4.params.toList args.toList ds p := d
 rw [Try.params4] at i hval
 obtain ⟨k, vs0, O, x, Q, R, hargs, rfl, rfl, b, y⟩ := trodAll_cons i
 obtain ⟨l, z, S, A, T, U, rfl, rfl, rfl, c, B⟩ := trodAll_cons y
 obtain ⟨rfl, rfl, rfl⟩ := trodAll_nil B
 obtain rfl : args = #[k, l] := by cases args; simp_all
 obtain ⟨V, C, D⟩ := zlc zpd rfl (by rw [underlying27]) (hval 0 27 k rfl rfl) b
 obtain ⟨X, E, F⟩ := open_slice zoa underlying33 (hval 1 33 l rfl rfl) c
 refine (zif (z4r (N := 5000) C E (zgs D F)) (fun v R' h => h)).mono fun e W' ⟨G, a⟩ => ?_
 exact ⟨_, G, hpost W' a⟩
theorem lifted_MatricesCheckProved (os : Os) (started : os.Started) (H : Type) (enc : TypeId × Value → H) :
 ReturnsInHanded {} Try.checked os 4 .any (Rows.matricesCheckSpec.pre6 enc prog Try.f4 Rows.matricesCheckRow.domain false) (Rows.matricesCheckSpec.post enc prog Try.f4 false true false false) := by
 refine returnsInHanded_of_change (C := Try.checked) (s := Rows.matricesCheckSpec) own_MatricesCheckProved started (by kernel_rfl) func4
  (ChangeSpec.witness6 (enc := enc) (C := Try.checked) (s := Rows.matricesCheckSpec) false ⟨#[], #[(.agg #[(.slice none 0 0)]), (.slice none 0 0)], []⟩ 30 (by kernel_rfl) (by kernel_rfl) (by kernel_rfl) (by kernel_rfl)) ?_
 intro W base args ds gs before hval a _ _
 exact contract_MatricesCheckProved H enc W base args ds gs before hval a
theorem MatricesCheckProved_holds : Rows.matricesCheckRow.holds Try.pinned (OpenSpec.ofChange Rows.matricesCheckSpec) :=
 OpenClaim.holds_of_wide 4 Try.f4 rfl rfl rfl rfl rfl rfl rfl ⟨rfl, rfl, rfl, rfl, rfl⟩ rfl rfl rfl rfl rfl (by kernel_rfl) func4 (by kernel_rfl)
  (of_decide_eq_true (by kernel_rfl)) (by unfold Func.isWrapper; first | (rw [if_pos (by decide +kernel)]; kernel_rfl) | (rw [if_neg (by decide +kernel)]; exact ⟨rfl, rfl⟩))
  (fun os started H enc _ => lifted_MatricesCheckProved os started H enc)
end GV
theorem MatricesCheckProved : Rows.MatricesCheckSaid := GV.MatricesCheckProved_holds
end Go.Proofs.Ytkhihcleegljhaa
