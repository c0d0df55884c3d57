/- The law gauntlet/gauntletlaw39.ChecksBuild: for every input it returns true, and each argument reads as it did; the program's walk and the law of the plain program joined. -/
import Derived.Test.YtplgbkaollfmkaaGreatShLChecksBuild
import Derived.Test.YtplgbkaollfmkaaGreatShBridge
import Derived.Test.YtplgbkaollfmkaaGreatSaidz39
import Derived.Test.YtplgbkaollfmkaaGreatShOpens
set_option linter.unusedVariables false
set_option linter.unusedSimpArgs false
namespace Go.Proofs.YtplgbkaollfmkaaGreat
namespace GV
open _root_.Go.Proofs.Tryz
open Go.ChangeShapes Go.WideShapes Go.ChangeAt Go.RowKit
set_option maxRecDepth 100000
theorem own_ChecksBuildProved : ownKnob prog.godebug = none := by kernel_rfl
theorem contract_ChecksBuildProved (H : Type) (enc : TypeId × Value → H) (W : World) (base : Nat) (args : Array Value) (ds gs : List (DataW H)) (before : List MemPlace)
 (hval : ∀ (j : Nat) t v, Tryz.f4.params[j]? = some t → args[j]? = some v → Value.okWide prog W .any base t v)
 (d : DataW.Whole enc prog Tryz.f4.params.toList Rows.checksBuildSpec.vars false W args.toList ds gs before) :
 Calls prog 4 args W fun e W' => ∃ v, e = .returned v ∧ Rows.checksBuildSpec.post enc prog Tryz.f4 false true false false W args v W' := by
 have hpost := fun W' (a : Same W W') => zsa (rt := 4) (P := prog) (s := Rows.checksBuildSpec) (f := Tryz.f4) laid (by rw [Tryz.params4]; kernel_rfl) rfl rfl underlying4 (fun ds gs h => by
  rw [Tryz.params4] at h
  obtain ⟨w0, k, y, l, _, _, _, rfl, _, _, b⟩ := trodAll_cons h
  obtain ⟨_, rfl, _⟩ := trodAll_nil b
  rfl) d a
 obtain ⟨p, q, c, z, rfl, m, n⟩ := d
 have g : DataW.TrodAll enc prog W 0 (fun _ => true) true Tryz.f4.params.toList args.toList ds p := c
 rw [Tryz.params4] at g hval
 obtain ⟨i, vs0, A, o, B, C, hargs, rfl, rfl, b, r⟩ := trodAll_cons g
 obtain ⟨rfl, rfl, rfl⟩ := trodAll_nil r
 obtain rfl : args = #[i] := by cases args; simp_all
 obtain ⟨D, u, w⟩ := zsc q8m rfl (by rw [underlying29]) (hval 0 29 i rfl rfl) b
 refine (zo8 (zaq (N := 2000) u (zpn w)) (fun v R' h => h)).mono fun e W' ⟨x, a⟩ => ?_
 exact ⟨_, x, hpost W' a⟩
theorem lifted_ChecksBuildProved (os : Os) (started : os.Started) (H : Type) (enc : TypeId × Value → H) :
 ReturnsInHanded {} Tryz.checked os 4 .any (Rows.checksBuildSpec.pre6 enc prog Tryz.f4 Rows.checksBuildRow.domain false) (Rows.checksBuildSpec.post enc prog Tryz.f4 false true false false) := by
 refine returnsInHanded_of_change (C := Tryz.checked) (s := Rows.checksBuildSpec) own_ChecksBuildProved started (by kernel_rfl) func4
  (ChangeSpec.witness6 (enc := enc) (C := Tryz.checked) (s := Rows.checksBuildSpec) false ⟨#[], #[(.agg #[(.int .u8 0), (.int .u8 0), (.int .u8 0), (.slice none 0 0), (.slice none 0 0), (.slice none 0 0)])], []⟩ 30 (by kernel_rfl) (by kernel_rfl) (by kernel_rfl) (by kernel_rfl)) ?_
 intro W base args ds gs before hval a _ _
 exact contract_ChecksBuildProved H enc W base args ds gs before hval a
theorem ChecksBuildProved_holds : Rows.checksBuildRow.holds Tryz.pinned (OpenSpec.ofChange Rows.checksBuildSpec) :=
 OpenClaim.holds_of_wide 4 Tryz.f4 rfl rfl rfl rfl rfl rfl rfl ⟨rfl, rfl, rfl, rfl, rfl⟩ rfl rfl rfl rfl rfl (by kernel_rfl) func4 (by kernel_rfl)
  (of_decide_eq_true (by kernel_rfl)) (by unfold Func.isWrapper; first | (rw [if_pos (by decide +kernel)]; kernel_rfl) | (rw [if_neg (by decide +kernel)]; exact ⟨rfl, rfl⟩))
  (fun os started H enc _ => lifted_ChecksBuildProved os started H enc)
end GV
theorem ChecksBuildProved : Rows.ChecksBuildSaid := GV.ChecksBuildProved_holds
end Go.Proofs.YtplgbkaollfmkaaGreat
