/- The law gauntlet/gauntletlaw38.ToursGreat: for every input it returns true, and each argument reads as it did; the program's walk and the law of the plain program joined. -/
import Derived.Test.YtdhccodneoebpaaShLToursGreat
import Derived.Test.YtdhccodneoebpaaShOpens
import Derived.Test.YtdhccodneoebpaaSaid38l
set_option linter.unusedVariables false
set_option linter.unusedSimpArgs false
set_option linter.unusedSectionVars false
namespace Go.Proofs.Ytdhccodneoebpaa
namespace GV
open _root_.Go.Proofs.Try
open Go.ChangeShapes Go.WideShapes Go.ChangeAt Go.RowKit
set_option maxRecDepth 100000
theorem own_ToursGreatProved : ownKnob prog.godebug = none := by kernel_rfl
theorem contract_ToursGreatProved (H : Type) (enc : TypeId × Value → H) (W : World) (base : Nat) (args : Array Value) (ds gs : List (DataW H)) (before : List MemPlace)
 (hval : ∀ (j : Nat) t v, Try.f7.params[j]? = some t → args[j]? = some v → Value.okWide prog W .any base t v)
 (d : DataW.Whole enc prog Try.f7.params.toList Rows.toursGreatSpec.vars false W args.toList ds gs before) :
 Calls prog 7 args W fun e W' => ∃ v, e = .returned v ∧ Rows.toursGreatSpec.post enc prog Try.f7 false true false false W args v W' := by
 have hpost := fun W' (a : Same W W') => znw (rt := 4) (P := prog) (s := Rows.toursGreatSpec) (f := Try.f7) laid (by rw [Try.params7]; kernel_rfl) rfl rfl underlying4 (fun ds gs h => by
  rw [Try.params7] at h
  obtain ⟨w0, k, e0, l, _, _, _, rfl, _, _, b⟩ := trodAll_cons h
  obtain ⟨_, rfl, _⟩ := trodAll_nil b
  rfl) d a
 obtain ⟨p, q, c, y, rfl, m, n⟩ := d
 have g : DataW.TrodAll enc prog W 0 (fun _ => true) true Try.f7.params.toList args.toList ds p := c
 rw [Try.params7] at g hval
 obtain ⟨i, vs0, z, o, A, B, hargs, rfl, rfl, b, r⟩ := trodAll_cons g
 obtain ⟨rfl, rfl, rfl⟩ := trodAll_nil r
 obtain rfl : args = #[i] := by cases args; simp_all
 obtain ⟨C, u, w⟩ := znv q50 rfl (by rw [underlying24]) (hval 0 24 i rfl rfl) b
 refine (zkx (z9a (N := 1000000) u (zql w)) (fun v R' h => h)).mono fun e W' ⟨x, a⟩ => ?_
 exact ⟨_, x, hpost W' a⟩
theorem lifted_ToursGreatProved (os : Os) (started : os.Started) (H : Type) (enc : TypeId × Value → H) :
 ReturnsInHanded {} Try.checked os 7 .any (Rows.toursGreatSpec.pre6 enc prog Try.f7 Rows.toursGreatRow.domain false) (Rows.toursGreatSpec.post enc prog Try.f7 false true false false) := by
 refine returnsInHanded_of_change (C := Try.checked) (s := Rows.toursGreatSpec) own_ToursGreatProved started (by kernel_rfl) func7
  (ChangeSpec.witness6 (enc := enc) (C := Try.checked) (s := Rows.toursGreatSpec) false ⟨#[], #[(.agg #[(.int .u8 0), (.int .u8 0), (.int .u8 0), (.bool false), (.slice none 0 0)])], []⟩ 30 (by kernel_rfl) (by kernel_rfl) (by kernel_rfl) (by kernel_rfl)) ?_
 intro W base args ds gs before hval a _ _
 exact contract_ToursGreatProved H enc W base args ds gs before hval a
theorem ToursGreatProved_holds : Rows.toursGreatRow.holds Try.pinned (OpenSpec.ofChange Rows.toursGreatSpec) :=
 OpenClaim.holds_of_wide 7 Try.f7 rfl rfl rfl rfl rfl rfl rfl ⟨rfl, rfl, rfl, rfl, rfl⟩ rfl rfl rfl rfl rfl (by kernel_rfl) func7 (by kernel_rfl)
  (of_decide_eq_true (by kernel_rfl)) (by unfold Func.isWrapper; first | (rw [if_pos (by decide +kernel)]; kernel_rfl) | (rw [if_neg (by decide +kernel)]; exact ⟨rfl, rfl⟩))
  (fun os started H enc _ => lifted_ToursGreatProved os started H enc)
end GV
theorem ToursGreatProved : Rows.ToursGreatSaid := GV.ToursGreatProved_holds
end Go.Proofs.Ytdhccodneoebpaa
