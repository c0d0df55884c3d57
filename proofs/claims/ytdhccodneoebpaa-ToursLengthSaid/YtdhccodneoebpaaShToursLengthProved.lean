/- The law gauntlet/gauntletlaw38.ToursLength: for every input it returns true, and each argument reads as it did; the program's walk and the law of the plain program joined. -/
import Derived.Test.YtdhccodneoebpaaShLToursLength
import Derived.Test.YtdhccodneoebpaaShOpens
import Derived.Test.YtdhccodneoebpaaSaid38l
set_option linter.unusedVariables false
set_option linter.unusedSimpArgs false
set_option linter.unusedSectionVars false
namespace Go.Proofs.Ytdhccodneoebpaa
namespace GV
open _root_.Go.Proofs.Try
open Go.ChangeShapes Go.WideShapes Go.ChangeAt Go.RowKit
set_option maxRecDepth 100000
theorem own_ToursLengthProved : ownKnob prog.godebug = none := by kernel_rfl
theorem contract_ToursLengthProved (H : Type) (enc : TypeId × Value → H) (W : World) (base : Nat) (args : Array Value) (ds gs : List (DataW H)) (before : List MemPlace)
 (hval : ∀ (j : Nat) t v, Try.f6.params[j]? = some t → args[j]? = some v → Value.okWide prog W .any base t v)
 (d : DataW.Whole enc prog Try.f6.params.toList Rows.toursLengthSpec.vars false W args.toList ds gs before) :
 Calls prog 6 args W fun e W' => ∃ v, e = .returned v ∧ Rows.toursLengthSpec.post enc prog Try.f6 false true false false W args v W' := by
 have hpost := fun W' (a : Same W W') => znw (rt := 4) (P := prog) (s := Rows.toursLengthSpec) (f := Try.f6) laid (by rw [Try.params6]; kernel_rfl) rfl rfl underlying4 (fun ds gs h => by
  rw [Try.params6] at h
  obtain ⟨w0, k, e0, l, _, _, _, rfl, _, _, b⟩ := trodAll_cons h
  obtain ⟨_, rfl, _⟩ := trodAll_nil b
  rfl) d a
 obtain ⟨p, q, c, y, rfl, m, n⟩ := d
 have g : DataW.TrodAll enc prog W 0 (fun _ => true) true Try.f6.params.toList args.toList ds p := c
 rw [Try.params6] at g hval
 obtain ⟨i, vs0, z, o, A, B, hargs, rfl, rfl, b, r⟩ := trodAll_cons g
 obtain ⟨rfl, rfl, rfl⟩ := trodAll_nil r
 obtain rfl : args = #[i] := by cases args; simp_all
 obtain ⟨C, u, w⟩ := znv q5u rfl (by rw [underlying41]) (hval 0 41 i rfl rfl) b
 refine (zkx (z8f (N := 1000000) u (zpt w)) (fun v R' h => h)).mono fun e W' ⟨x, a⟩ => ?_
 exact ⟨_, x, hpost W' a⟩
theorem lifted_ToursLengthProved (os : Os) (started : os.Started) (H : Type) (enc : TypeId × Value → H) :
 ReturnsInHanded {} Try.checked os 6 .any (Rows.toursLengthSpec.pre6 enc prog Try.f6 Rows.toursLengthRow.domain false) (Rows.toursLengthSpec.post enc prog Try.f6 false true false false) := by
 refine returnsInHanded_of_change (C := Try.checked) (s := Rows.toursLengthSpec) own_ToursLengthProved started (by kernel_rfl) func6
  (ChangeSpec.witness6 (enc := enc) (C := Try.checked) (s := Rows.toursLengthSpec) false ⟨#[], #[(.agg #[(.int .u8 0), (.int .u8 0), (.slice none 0 0)])], []⟩ 30 (by kernel_rfl) (by kernel_rfl) (by kernel_rfl) (by kernel_rfl)) ?_
 intro W base args ds gs before hval a _ _
 exact contract_ToursLengthProved H enc W base args ds gs before hval a
theorem ToursLengthProved_holds : Rows.toursLengthRow.holds Try.pinned (OpenSpec.ofChange Rows.toursLengthSpec) :=
 OpenClaim.holds_of_wide 6 Try.f6 rfl rfl rfl rfl rfl rfl rfl ⟨rfl, rfl, rfl, rfl, rfl⟩ rfl rfl rfl rfl rfl (by kernel_rfl) func6 (by kernel_rfl)
  (of_decide_eq_true (by kernel_rfl)) (by unfold Func.isWrapper; first | (rw [if_pos (by decide +kernel)]; kernel_rfl) | (rw [if_neg (by decide +kernel)]; exact ⟨rfl, rfl⟩))
  (fun os started H enc _ => lifted_ToursLengthProved os started H enc)
end GV
theorem ToursLengthProved : Rows.ToursLengthSaid := GV.ToursLengthProved_holds
end Go.Proofs.Ytdhccodneoebpaa
