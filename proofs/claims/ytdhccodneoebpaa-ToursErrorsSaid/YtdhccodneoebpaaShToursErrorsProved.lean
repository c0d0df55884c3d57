/- The law gauntlet/gauntletlaw38.ToursErrors: for every input it returns true, and each argument reads as it did; the program's walk and the law of the plain program joined. -/
import Derived.Test.YtdhccodneoebpaaShLToursErrors
import Derived.Test.YtdhccodneoebpaaShOpens
import Derived.Test.YtdhccodneoebpaaSaid38
set_option linter.unusedVariables false
set_option linter.unusedSimpArgs false
set_option linter.unusedSectionVars false
namespace Go.Proofs.Ytdhccodneoebpaa
namespace GV
open _root_.Go.Proofs.Try
open Go.ChangeShapes Go.WideShapes Go.ChangeAt Go.RowKit
set_option maxRecDepth 100000
theorem own_ToursErrorsProved : ownKnob prog.godebug = none := by kernel_rfl
theorem contract_ToursErrorsProved (H : Type) (enc : TypeId × Value → H) (W : World) (base : Nat) (args : Array Value) (ds gs : List (DataW H)) (before : List MemPlace)
 (hval : ∀ (j : Nat) t v, Try.f10.params[j]? = some t → args[j]? = some v → Value.okWide prog W .any base t v)
 (d : DataW.Whole enc prog Try.f10.params.toList Rows.toursErrorsSpec.vars false W args.toList ds gs before) :
 Calls prog 10 args W fun e W' => ∃ v, e = .returned v ∧ Rows.toursErrorsSpec.post enc prog Try.f10 false true false false W args v W' := by
 have hpost := fun W' (a : Same W W') => zg6 (rt := 4) (P := prog) (s := Rows.toursErrorsSpec) (f := Try.f10) laid (by rw [Try.params10]; kernel_rfl) rfl rfl underlying4 (fun ds gs h => by
  rw [Try.params10] at h
  obtain ⟨w0, k, y, l, _, _, _, rfl, _, _, b⟩ := trodAll_cons h
  obtain ⟨_, rfl, _⟩ := trodAll_nil b
  rfl) d a
 obtain ⟨p, q, c, z, rfl, m, n⟩ := d
 have g : DataW.TrodAll enc prog W 0 (fun _ => true) true Try.f10.params.toList args.toList ds p := c
 rw [Try.params10] at g hval
 obtain ⟨i, vs0, A, o, B, C, hargs, rfl, rfl, b, r⟩ := trodAll_cons g
 obtain ⟨rfl, rfl, rfl⟩ := trodAll_nil r
 obtain rfl : args = #[i] := by cases args; simp_all
 obtain ⟨D, u, w⟩ := zgp zy4 rfl (by rw [underlying27]) (hval 0 27 i rfl rfl) b
 refine (ze3 (z7e (N := 5000) u (zju w)) (fun v R' h => h)).mono fun e W' ⟨x, a⟩ => ?_
 exact ⟨_, x, hpost W' a⟩
theorem lifted_ToursErrorsProved (os : Os) (started : os.Started) (H : Type) (enc : TypeId × Value → H) :
 ReturnsInHanded {} Try.checked os 10 .any (Rows.toursErrorsSpec.pre6 enc prog Try.f10 Rows.toursErrorsRow.domain false) (Rows.toursErrorsSpec.post enc prog Try.f10 false true false false) := by
 refine returnsInHanded_of_change (C := Try.checked) (s := Rows.toursErrorsSpec) own_ToursErrorsProved started (by kernel_rfl) func10
  (ChangeSpec.witness6 (enc := enc) (C := Try.checked) (s := Rows.toursErrorsSpec) false ⟨#[], #[(.agg #[(.int .i64 0), (.int .i64 0), (.slice none 0 0)])], []⟩ 30 (by kernel_rfl) (by kernel_rfl) (by kernel_rfl) (by kernel_rfl)) ?_
 intro W base args ds gs before hval a _ _
 exact contract_ToursErrorsProved H enc W base args ds gs before hval a
theorem ToursErrorsProved_holds : Rows.toursErrorsRow.holds Try.pinned (OpenSpec.ofChange Rows.toursErrorsSpec) :=
 OpenClaim.holds_of_wide 10 Try.f10 rfl rfl rfl rfl rfl rfl rfl ⟨rfl, rfl, rfl, rfl, rfl⟩ rfl rfl rfl rfl rfl (by kernel_rfl) func10 (by kernel_rfl)
  (of_decide_eq_true (by kernel_rfl)) (by unfold Func.isWrapper; first | (rw [if_pos (by decide +kernel)]; kernel_rfl) | (rw [if_neg (by decide +kernel)]; exact ⟨rfl, rfl⟩))
  (fun os started H enc _ => lifted_ToursErrorsProved os started H enc)
end GV
theorem ToursErrorsProved : Rows.ToursErrorsSaid := GV.ToursErrorsProved_holds
end Go.Proofs.Ytdhccodneoebpaa
