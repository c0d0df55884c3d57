/- The law gauntlet/gauntletlaw38.ToursExact: for every input it returns true, and each argument reads as it did; the program's walk and the law of the plain program joined. -/
import Derived.Test.YtdhccodneoebpaaShLToursExact
import Derived.Test.YtdhccodneoebpaaShOpens
import Derived.Test.YtdhccodneoebpaaSaid38e
set_option linter.unusedVariables false
set_option linter.unusedSimpArgs false
set_option linter.unusedSectionVars false
namespace Go.Proofs.Ytdhccodneoebpaa
namespace GV
open _root_.Go.Proofs.Try
open Go.ChangeShapes Go.WideShapes Go.ChangeAt Go.RowKit
set_option maxRecDepth 100000
theorem own_ToursExactProved : ownKnob prog.godebug = none := by kernel_rfl
theorem contract_ToursExactProved (H : Type) (enc : TypeId × Value → H) (W : World) (base : Nat) (args : Array Value) (ds gs : List (DataW H)) (before : List MemPlace)
 (hval : ∀ (j : Nat) t v, Try.f5.params[j]? = some t → args[j]? = some v → Value.okWide prog W .any base t v)
 (g : DataW.Whole enc prog Try.f5.params.toList Rows.toursExactSpec.vars false W args.toList ds gs before) :
 Calls prog 5 args W fun e W' => ∃ v, e = .returned v ∧ Rows.toursExactSpec.post enc prog Try.f5 false true false false W args v W' := by
 have hpost := fun W' (a : Same W W') => zn7 (rt := 4) (P := prog) (s := Rows.toursExactSpec) (f := Try.f5) laid (by rw [Try.params5]; kernel_rfl) rfl rfl underlying4 (fun ds gs h => by
  rw [Try.params5] at h
  obtain ⟨w0, m, e0, n, _, _, _, rfl, _, _, b⟩ := trodAll_cons h
  obtain ⟨F, o, G, r, _, _, _, rfl, _, _, c⟩ := trodAll_cons b
  obtain ⟨_, rfl, _⟩ := trodAll_nil c
  rfl) g a
 obtain ⟨p, q, d, I, rfl, u, w⟩ := g
 have i : DataW.TrodAll enc prog W 0 (fun _ => true) true Try.f5.params.toList args.toList ds p := d
 rw [Try.params5] at i hval
 obtain ⟨k, vs0, J, x, K, L, hargs, rfl, rfl, b, y⟩ := trodAll_cons i
 obtain ⟨l, z, M, A, O, Q, rfl, rfl, rfl, c, B⟩ := trodAll_cons y
 obtain ⟨rfl, rfl, rfl⟩ := trodAll_nil B
 obtain rfl : args = #[k, l] := by cases args; simp_all
 obtain ⟨R, C, D⟩ := zmj q19 rfl (by rw [underlying41]) (hval 0 41 k rfl rfl) b
 obtain ⟨S, rfl, rfl, rfl⟩ := open_bool underlying4 (hval 1 4 l rfl rfl) c
 refine (zkq (z8o (N := 1000000) C (zpn D trivial)) (fun v R' h => h)).mono fun e W' ⟨E, a⟩ => ?_
 exact ⟨_, E, hpost W' a⟩
theorem lifted_ToursExactProved (os : Os) (started : os.Started) (H : Type) (enc : TypeId × Value → H) :
 ReturnsInHanded {} Try.checked os 5 .any (Rows.toursExactSpec.pre6 enc prog Try.f5 Rows.toursExactRow.domain false) (Rows.toursExactSpec.post enc prog Try.f5 false true false false) := by
 refine returnsInHanded_of_change (C := Try.checked) (s := Rows.toursExactSpec) own_ToursExactProved started (by kernel_rfl) func5
  (ChangeSpec.witness6 (enc := enc) (C := Try.checked) (s := Rows.toursExactSpec) false ⟨#[], #[(.agg #[(.int .u8 0), (.int .u8 0), (.slice none 0 0)]), (.bool false)], []⟩ 30 (by kernel_rfl) (by kernel_rfl) (by kernel_rfl) (by kernel_rfl)) ?_
 intro W base args ds gs before hval a _ _
 exact contract_ToursExactProved H enc W base args ds gs before hval a
theorem ToursExactProved_holds : Rows.toursExactRow.holds Try.pinned (OpenSpec.ofChange Rows.toursExactSpec) :=
 OpenClaim.holds_of_wide 5 Try.f5 rfl rfl rfl rfl rfl rfl rfl ⟨rfl, rfl, rfl, rfl, rfl⟩ rfl rfl rfl rfl rfl (by kernel_rfl) func5 (by kernel_rfl)
  (of_decide_eq_true (by kernel_rfl)) (by unfold Func.isWrapper; first | (rw [if_pos (by decide +kernel)]; kernel_rfl) | (rw [if_neg (by decide +kernel)]; exact ⟨rfl, rfl⟩))
  (fun os started H enc _ => lifted_ToursExactProved os started H enc)
end GV
theorem ToursExactProved : Rows.ToursExactSaid := GV.ToursExactProved_holds
end Go.Proofs.Ytdhccodneoebpaa
