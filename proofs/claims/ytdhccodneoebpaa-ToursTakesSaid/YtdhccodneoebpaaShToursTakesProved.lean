/- The law gauntlet/gauntletlaw38.ToursTakes: for every input it returns true, and each argument reads as it did; the program's walk and the law of the plain program joined. -/
import Derived.Test.YtdhccodneoebpaaShLToursTakes
import Derived.Test.YtdhccodneoebpaaShOpens
import Derived.Test.YtdhccodneoebpaaSaid38
set_option linter.unusedVariables false
set_option linter.unusedSimpArgs false
set_option linter.unusedSectionVars false
namespace Go.Proofs.Ytdhccodneoebpaa
namespace GV
open _root_.Go.Proofs.Try
open Go.ChangeShapes Go.WideShapes Go.ChangeAt Go.RowKit
set_option maxRecDepth 100000
theorem own_ToursTakesProved : ownKnob prog.godebug = none := by kernel_rfl
theorem contract_ToursTakesProved (H : Type) (enc : TypeId × Value → H) (W : World) (base : Nat) (args : Array Value) (ds gs : List (DataW H)) (before : List MemPlace)
 (hval : ∀ (j : Nat) t v, Try.f9.params[j]? = some t → args[j]? = some v → Value.okWide prog W .any base t v)
 (i : DataW.Whole enc prog Try.f9.params.toList Rows.toursTakesSpec.vars false W args.toList ds gs before) :
 Calls prog 9 args W fun e W' => ∃ v, e = .returned v ∧ Rows.toursTakesSpec.post enc prog Try.f9 false true false false W args v W' := by
 have hpost := fun W' (a : Same W W') => zg6 (rt := 4) (P := prog) (s := Rows.toursTakesSpec) (f := Try.f9) laid (by rw [Try.params9]; kernel_rfl) rfl rfl underlying4 (fun ds gs h => by
  rw [Try.params9] at h
  obtain ⟨w0, o, R, r, _, _, _, rfl, _, _, b⟩ := trodAll_cons h
  obtain ⟨S, u, T, w, _, _, _, rfl, _, _, c⟩ := trodAll_cons b
  obtain ⟨U, x, V, y, _, _, _, rfl, _, _, d⟩ := trodAll_cons c
  obtain ⟨_, rfl, _⟩ := trodAll_nil d
  rfl) i a
 obtain ⟨p, q, g, X, rfl, z, A⟩ := i
 have k : DataW.TrodAll enc prog W 0 (fun _ => true) true Try.f9.params.toList args.toList ds p := g
 rw [Try.params9] at k hval
 obtain ⟨l, vs0, Y, B, Z, q0, hargs, rfl, rfl, b, C⟩ := trodAll_cons k
 obtain ⟨m, D, d1, E, p1, q1, rfl, rfl, rfl, c, F⟩ := trodAll_cons C
 obtain ⟨n, G, d2, I, p2, q2, rfl, rfl, rfl, d, J⟩ := trodAll_cons F
 obtain ⟨rfl, rfl, rfl⟩ := trodAll_nil J
 obtain rfl : args = #[l, m, n] := by cases args; simp_all
 obtain ⟨a0, K, L⟩ := zgp zzl rfl (by rw [underlying41]) (hval 0 41 l rfl rfl) b
 obtain ⟨a1, M, O⟩ := open_slice zzf underlying36 (hval 1 36 m rfl rfl) c
 obtain ⟨a2, rfl, rfl, rfl⟩ := open_bool underlying4 (hval 2 4 n rfl rfl) d
 refine (ze3 (z7u (N := 5000) K M (zls L O trivial)) (fun v R' h => h)).mono fun e W' ⟨Q, a⟩ => ?_
 exact ⟨_, Q, hpost W' a⟩
theorem lifted_ToursTakesProved (os : Os) (started : os.Started) (H : Type) (enc : TypeId × Value → H) :
 ReturnsInHanded {} Try.checked os 9 .any (Rows.toursTakesSpec.pre6 enc prog Try.f9 Rows.toursTakesRow.domain false) (Rows.toursTakesSpec.post enc prog Try.f9 false true false false) := by
 refine returnsInHanded_of_change (C := Try.checked) (s := Rows.toursTakesSpec) own_ToursTakesProved started (by kernel_rfl) func9
  (ChangeSpec.witness6 (enc := enc) (C := Try.checked) (s := Rows.toursTakesSpec) false ⟨#[], #[(.agg #[(.int .u8 0), (.int .u8 0), (.slice none 0 0)]), (.slice none 0 0), (.bool false)], []⟩ 30 (by kernel_rfl) (by kernel_rfl) (by kernel_rfl) (by kernel_rfl)) ?_
 intro W base args ds gs before hval a _ _
 exact contract_ToursTakesProved H enc W base args ds gs before hval a
theorem ToursTakesProved_holds : Rows.toursTakesRow.holds Try.pinned (OpenSpec.ofChange Rows.toursTakesSpec) :=
 OpenClaim.holds_of_wide 9 Try.f9 rfl rfl rfl rfl rfl rfl rfl ⟨rfl, rfl, rfl, rfl, rfl⟩ rfl rfl rfl rfl rfl (by kernel_rfl) func9 (by kernel_rfl)
  (of_decide_eq_true (by kernel_rfl)) (by unfold Func.isWrapper; first | (rw [if_pos (by decide +kernel)]; kernel_rfl) | (rw [if_neg (by decide +kernel)]; exact ⟨rfl, rfl⟩))
  (fun os started H enc _ => lifted_ToursTakesProved os started H enc)
end GV
theorem ToursTakesProved : Rows.ToursTakesSaid := GV.ToursTakesProved_holds
end Go.Proofs.Ytdhccodneoebpaa
