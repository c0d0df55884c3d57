/- The law gauntlet/gauntletlaw38.ToursTour: for every input it returns true, and each argument reads as it did; the program's walk and the law of the plain program joined. -/
import Derived.Test.YtdhccodneoebpaaShLToursTour
import Derived.Test.YtdhccodneoebpaaShOpens
import Derived.Test.YtdhccodneoebpaaSaid38o
set_option linter.unusedVariables false
set_option linter.unusedSimpArgs false
set_option linter.unusedSectionVars false
namespace Go.Proofs.Ytdhccodneoebpaa
namespace GV
open _root_.Go.Proofs.Try
open Go.ChangeShapes Go.WideShapes Go.ChangeAt Go.RowKit
set_option maxRecDepth 100000
theorem own_ToursTourProved : ownKnob prog.godebug = none := by kernel_rfl
theorem contract_ToursTourProved (H : Type) (enc : TypeId × Value → H) (W : World) (base : Nat) (args : Array Value) (ds gs : List (DataW H)) (before : List MemPlace)
 (hval : ∀ (j : Nat) t v, Try.f4.params[j]? = some t → args[j]? = some v → Value.okWide prog W .any base t v)
 (g : DataW.Whole enc prog Try.f4.params.toList Rows.toursTourSpec.vars false W args.toList ds gs before) :
 Calls prog 4 args W fun e W' => ∃ v, e = .returned v ∧ Rows.toursTourSpec.post enc prog Try.f4 false true false false W args v W' := by
 have hpost := fun W' (a : Same W W') => zn7 (rt := 4) (P := prog) (s := Rows.toursTourSpec) (f := Try.f4) laid (by rw [Try.params4]; kernel_rfl) rfl rfl underlying4 (fun ds gs h => by
  rw [Try.params4] at h
  obtain ⟨w0, m, e0, n, _, _, _, rfl, _, _, b⟩ := trodAll_cons h
  obtain ⟨F, o, G, r, _, _, _, rfl, _, _, c⟩ := trodAll_cons b
  obtain ⟨_, rfl, _⟩ := trodAll_nil c
  rfl) g a
 obtain ⟨p, q, d, I, rfl, u, w⟩ := g
 have i : DataW.TrodAll enc prog W 0 (fun _ => true) true Try.f4.params.toList args.toList ds p := d
 rw [Try.params4] at i hval
 obtain ⟨k, vs0, J, x, K, L, hargs, rfl, rfl, b, y⟩ := trodAll_cons i
 obtain ⟨l, z, M, A, O, Q, rfl, rfl, rfl, c, B⟩ := trodAll_cons y
 obtain ⟨rfl, rfl, rfl⟩ := trodAll_nil B
 obtain rfl : args = #[k, l] := by cases args; simp_all
 obtain ⟨R, C, D⟩ := zmj q19 rfl (by rw [underlying41]) (hval 0 41 k rfl rfl) b
 obtain ⟨S, rfl, rfl, rfl⟩ := open_bool underlying4 (hval 1 4 l rfl rfl) c
 refine (zkq (z8v (N := 1000000) C (zsj D trivial)) (fun v R' h => h)).mono fun e W' ⟨E, a⟩ => ?_
 exact ⟨_, E, hpost W' a⟩
theorem lifted_ToursTourProved (os : Os) (started : os.Started) (H : Type) (enc : TypeId × Value → H) :
 ReturnsInHanded {} Try.checked os 4 .any (Rows.toursTourSpec.pre6 enc prog Try.f4 Rows.toursTourRow.domain false) (Rows.toursTourSpec.post enc prog Try.f4 false true false false) := by
 refine returnsInHanded_of_change (C := Try.checked) (s := Rows.toursTourSpec) own_ToursTourProved started (by kernel_rfl) func4
  (ChangeSpec.witness6 (enc := enc) (C := Try.checked) (s := Rows.toursTourSpec) false ⟨#[], #[(.agg #[(.int .u8 0), (.int .u8 0), (.slice none 0 0)]), (.bool false)], []⟩ 30 (by kernel_rfl) (by kernel_rfl) (by kernel_rfl) (by kernel_rfl)) ?_
 intro W base args ds gs before hval a _ _
 exact contract_ToursTourProved H enc W base args ds gs before hval a
theorem ToursTourProved_holds : Rows.toursTourRow.holds Try.pinned (OpenSpec.ofChange Rows.toursTourSpec) :=
 OpenClaim.holds_of_wide 4 Try.f4 rfl rfl rfl rfl rfl rfl rfl ⟨rfl, rfl, rfl, rfl, rfl⟩ rfl rfl rfl rfl rfl (by kernel_rfl) func4 (by kernel_rfl)
  (of_decide_eq_true (by kernel_rfl)) (by unfold Func.isWrapper; first | (rw [if_pos (by decide +kernel)]; kernel_rfl) | (rw [if_neg (by decide +kernel)]; exact ⟨rfl, rfl⟩))
  (fun os started H enc _ => lifted_ToursTourProved os started H enc)
end GV
theorem ToursTourProved : Rows.ToursTourSaid := GV.ToursTourProved_holds
end Go.Proofs.Ytdhccodneoebpaa
