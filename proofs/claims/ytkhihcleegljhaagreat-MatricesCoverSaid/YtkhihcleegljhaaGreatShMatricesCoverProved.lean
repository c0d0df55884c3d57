/- The law gauntlet/gauntletlaw21.MatricesCover: for every input it returns true, and each argument reads as it did; the program's walk and the law of the plain program joined. -/
import Derived.Test.YtkhihcleegljhaaGreatShWh
import Derived.Test.YtkhihcleegljhaaGreatShBridge
import Derived.Test.YtkhihcleegljhaaGreatSaidv21
import Derived.Test.YtkhihcleegljhaaGreatShOpens
set_option linter.unusedVariables false
set_option linter.unusedSimpArgs false
namespace Go.Proofs.YtkhihcleegljhaaGreat
namespace GV
open _root_.Go.Proofs.Tryz
open Go.ChangeShapes Go.WideShapes Go.ChangeAt Go.RowKit
set_option maxRecDepth 100000
theorem own_MatricesCoverProved : ownKnob prog.godebug = none := by kernel_rfl
theorem contract_MatricesCoverProved (H : Type) (enc : TypeId × Value → H) (W : World) (base : Nat) (args : Array Value) (ds gs : List (DataW H)) (before : List MemPlace)
 (hval : ∀ (j : Nat) t v, Tryz.f4.params[j]? = some t → args[j]? = some v → Value.okWide prog W .any base t v)
 (d : DataW.Whole enc prog Tryz.f4.params.toList Rows.matricesCoverSpec.vars false W args.toList ds gs before) :
 Calls prog 4 args W fun e W' => ∃ v, e = .returned v ∧ Rows.matricesCoverSpec.post enc prog Tryz.f4 false true false false W args v W' := by
 have hpost := fun W' (a : Same W W') => zmi (rt := 4) (P := prog) (s := Rows.matricesCoverSpec) (f := Tryz.f4) laid (by rw [Tryz.params4]; kernel_rfl) rfl rfl underlying4 (fun ds gs h => by
  rw [Tryz.params4] at h
  obtain ⟨y, k, z, l, _, _, _, rfl, _, _, b⟩ := trodAll_cons h
  obtain ⟨_, rfl, _⟩ := trodAll_nil b
  rfl) d a
 obtain ⟨p, q, c, A, rfl, m, n⟩ := d
 have g : DataW.TrodAll enc prog W 0 (fun _ => true) true Tryz.f4.params.toList args.toList ds p := c
 rw [Tryz.params4] at g hval
 obtain ⟨i, vs0, B, o, C, D, hargs, rfl, rfl, b, r⟩ := trodAll_cons g
 obtain ⟨rfl, rfl, rfl⟩ := trodAll_nil r
 obtain rfl : args = #[i] := by cases args; simp_all
 obtain ⟨E, u, w⟩ := zks zrz rfl (by rw [underlying60]) (hval 0 60 i rfl rfl) b
 refine (zkh (z5j (N := 5000) u (zhn w)) (fun v R' h => h)).mono fun e W' ⟨x, a⟩ => ?_
 exact ⟨_, x, hpost W' a⟩
theorem lifted_MatricesCoverProved (os : Os) (started : os.Started) (H : Type) (enc : TypeId × Value → H) :
 ReturnsInHanded {} Tryz.checked os 4 .any (Rows.matricesCoverSpec.pre6 enc prog Tryz.f4 Rows.matricesCoverRow.domain false) (Rows.matricesCoverSpec.post enc prog Tryz.f4 false true false false) := by
 refine returnsInHanded_of_change (C := Tryz.checked) (s := Rows.matricesCoverSpec) own_MatricesCoverProved started (by kernel_rfl) func4
  (ChangeSpec.witness6 (enc := enc) (C := Tryz.checked) (s := Rows.matricesCoverSpec) false ⟨#[], #[(.agg #[(.int .u8 0), (.slice none 0 0)])], []⟩ 30 (by kernel_rfl) (by kernel_rfl) (by kernel_rfl) (by kernel_rfl)) ?_
 intro W base args ds gs before hval a _ _
 exact contract_MatricesCoverProved H enc W base args ds gs before hval a
theorem MatricesCoverProved_holds : Rows.matricesCoverRow.holds Tryz.pinned (OpenSpec.ofChange Rows.matricesCoverSpec) :=
 OpenClaim.holds_of_wide 4 Tryz.f4 rfl rfl rfl rfl rfl rfl rfl ⟨rfl, rfl, rfl, rfl, rfl⟩ rfl rfl rfl rfl rfl (by kernel_rfl) func4 (by kernel_rfl)
  (of_decide_eq_true (by kernel_rfl)) (by unfold Func.isWrapper; first | (rw [if_pos (by decide +kernel)]; kernel_rfl) | (rw [if_neg (by decide +kernel)]; exact ⟨rfl, rfl⟩))
  (fun os started H enc _ => lifted_MatricesCoverProved os started H enc)
end GV
theorem MatricesCoverProved : Rows.MatricesCoverSaid := GV.MatricesCoverProved_holds
end Go.Proofs.YtkhihcleegljhaaGreat
