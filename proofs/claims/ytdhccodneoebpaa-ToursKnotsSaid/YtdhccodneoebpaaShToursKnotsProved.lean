/- The law gauntlet/gauntletlaw38.ToursKnots: for every input it returns true, and each argument reads as it did; the program's walk and the law of the plain program joined. -/
import Derived.Test.YtdhccodneoebpaaShLToursKnots
import Derived.Test.YtdhccodneoebpaaShOpens
import Derived.Test.YtdhccodneoebpaaSaid38
set_option linter.unusedVariables false
set_option linter.unusedSimpArgs false
set_option linter.unusedSectionVars false
namespace Go.Proofs.Ytdhccodneoebpaa
namespace GV
open _root_.Go.Proofs.Try
open Go.ChangeShapes Go.WideShapes Go.ChangeAt Go.RowKit
set_option maxRecDepth 100000
theorem own_ToursKnotsProved : ownKnob prog.godebug = none := by kernel_rfl
theorem contract_ToursKnotsProved (H : Type) (enc : TypeId × Value → H) (W : World) (base : Nat) (args : Array Value) (ds gs : List (DataW H)) (before : List MemPlace)
 (hval : ∀ (j : Nat) t v, Try.f3.params[j]? = some t → args[j]? = some v → Value.okWide prog W .any base t v)
 (d : DataW.Whole enc prog Try.f3.params.toList Rows.toursKnotsSpec.vars false W args.toList ds gs before) :
 Calls prog 3 args W fun e W' => ∃ v, e = .returned v ∧ Rows.toursKnotsSpec.post enc prog Try.f3 false true false false W args v W' := by
 have hpost := fun W' (a : Same W W') => zg6 (rt := 4) (P := prog) (s := Rows.toursKnotsSpec) (f := Try.f3) laid (by rw [Try.params3]; kernel_rfl) rfl rfl underlying4 (fun ds gs h => by
  rw [Try.params3] at h
  obtain ⟨w0, k, y, l, _, _, _, rfl, _, _, b⟩ := trodAll_cons h
  obtain ⟨_, rfl, _⟩ := trodAll_nil b
  rfl) d a
 obtain ⟨p, q, c, z, rfl, m, n⟩ := d
 have g : DataW.TrodAll enc prog W 0 (fun _ => true) true Try.f3.params.toList args.toList ds p := c
 rw [Try.params3] at g hval
 obtain ⟨i, vs0, A, o, B, C, hargs, rfl, rfl, b, r⟩ := trodAll_cons g
 obtain ⟨rfl, rfl, rfl⟩ := trodAll_nil r
 obtain rfl : args = #[i] := by cases args; simp_all
 obtain ⟨D, u, w⟩ := zgp zz2 rfl (by rw [underlying24]) (hval 0 24 i rfl rfl) b
 refine (ze3 (z7p (N := 5000) u (zlr w)) (fun v R' h => h)).mono fun e W' ⟨x, a⟩ => ?_
 exact ⟨_, x, hpost W' a⟩
theorem lifted_ToursKnotsProved (os : Os) (started : os.Started) (H : Type) (enc : TypeId × Value → H) :
 ReturnsInHanded {} Try.checked os 3 .any (Rows.toursKnotsSpec.pre6 enc prog Try.f3 Rows.toursKnotsRow.domain false) (Rows.toursKnotsSpec.post enc prog Try.f3 false true false false) := by
 refine returnsInHanded_of_change (C := Try.checked) (s := Rows.toursKnotsSpec) own_ToursKnotsProved started (by kernel_rfl) func3
  (ChangeSpec.witness6 (enc := enc) (C := Try.checked) (s := Rows.toursKnotsSpec) false ⟨#[], #[(.agg #[(.int .u8 0), (.int .u8 0), (.int .u8 0), (.bool false), (.slice none 0 0)])], []⟩ 30 (by kernel_rfl) (by kernel_rfl) (by kernel_rfl) (by kernel_rfl)) ?_
 intro W base args ds gs before hval a _ _
 exact contract_ToursKnotsProved H enc W base args ds gs before hval a
theorem ToursKnotsProved_holds : Rows.toursKnotsRow.holds Try.pinned (OpenSpec.ofChange Rows.toursKnotsSpec) :=
 OpenClaim.holds_of_wide 3 Try.f3 rfl rfl rfl rfl rfl rfl rfl ⟨rfl, rfl, rfl, rfl, rfl⟩ rfl rfl rfl rfl rfl (by kernel_rfl) func3 (by kernel_rfl)
  (of_decide_eq_true (by kernel_rfl)) (by unfold Func.isWrapper; first | (rw [if_pos (by decide +kernel)]; kernel_rfl) | (rw [if_neg (by decide +kernel)]; exact ⟨rfl, rfl⟩))
  (fun os started H enc _ => lifted_ToursKnotsProved os started H enc)
end GV
theorem ToursKnotsProved : Rows.ToursKnotsSaid := GV.ToursKnotsProved_holds
end Go.Proofs.Ytdhccodneoebpaa
