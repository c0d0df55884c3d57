/- The law gauntlet/gauntletlaw15.ProbesTree: for every input it returns true, and each argument reads as it did; the program's walk and the law of the plain program joined. -/
import Derived.Test.YtnnobdkjgafdmaaShLProbesTree
import Derived.Test.YtnnobdkjgafdmaaShBridge
import Derived.Test.YtnnobdkjgafdmaaSaid15t
import Derived.Test.YtnnobdkjgafdmaaShOpens
set_option linter.unusedVariables false
set_option linter.unusedSimpArgs false
set_option linter.unusedSectionVars false
namespace Go.Proofs.Ytnnobdkjgafdmaa
namespace GV
open _root_.Go.Proofs.Try
open Go.ChangeShapes Go.WideShapes Go.ChangeAt Go.RowKit
set_option maxRecDepth 100000
theorem own_ProbesTreeProved : ownKnob prog.godebug = none := by kernel_rfl
theorem contract_ProbesTreeProved (H : Type) (enc : TypeId × Value → H) (W : World) (base : Nat) (args : Array Value) (ds gs : List (DataW H)) (before : List MemPlace)
 (hval : ∀ (j : Nat) t v, Try.f4.params[j]? = some t → args[j]? = some v → Value.okWide prog W .any base t v)
 (d : DataW.Whole enc prog Try.f4.params.toList Rows.probesTreeSpec.vars false W args.toList ds gs before) :
 Calls prog 4 args W fun e W' => ∃ v, e = .returned v ∧ Rows.probesTreeSpec.post enc prog Try.f4 false true false false W args v W' := by
 have hpost := fun W' (a : Same W W') => q4l (rt := 4) (P := prog) (s := Rows.probesTreeSpec) (f := Try.f4) laid (by rw [Try.params4]; kernel_rfl) rfl rfl underlying4 (fun ds gs h => by
  rw [Try.params4] at h
  obtain ⟨w0, k, y, l, _, _, _, rfl, _, _, b⟩ := trodAll_cons h
  obtain ⟨_, rfl, _⟩ := trodAll_nil b
  rfl) d a
 obtain ⟨p, q, c, z, rfl, m, n⟩ := d
 have g : DataW.TrodAll enc prog W 0 (fun _ => true) true Try.f4.params.toList args.toList ds p := c
 rw [Try.params4] at g hval
 obtain ⟨i, vs0, A, o, B, C, hargs, rfl, rfl, b, r⟩ := trodAll_cons g
 obtain ⟨rfl, rfl, rfl⟩ := trodAll_nil r
 obtain rfl : args = #[i] := by cases args; simp_all
 obtain ⟨D, u, w⟩ := q4f qcw rfl (by rw [underlying27]) (hval 0 27 i rfl rfl) b
 refine (q09 (zb9 (N := 5000) u (q0r w)) (fun v R' h => h)).mono fun e W' ⟨x, a⟩ => ?_
 exact ⟨_, x, hpost W' a⟩
theorem lifted_ProbesTreeProved (os : Os) (started : os.Started) (H : Type) (enc : TypeId × Value → H) :
 ReturnsInHanded {} Try.checked os 4 .any (Rows.probesTreeSpec.pre6 enc prog Try.f4 Rows.probesTreeRow.domain false) (Rows.probesTreeSpec.post enc prog Try.f4 false true false false) := by
 refine returnsInHanded_of_change (C := Try.checked) (s := Rows.probesTreeSpec) own_ProbesTreeProved started (by kernel_rfl) func4
  (ChangeSpec.witness6 (enc := enc) (C := Try.checked) (s := Rows.probesTreeSpec) false ⟨#[], #[(.agg #[(.int .u8 0), (.int .u8 0), (.int .u8 0), (.slice none 0 0), (.slice none 0 0)])], []⟩ 30 (by kernel_rfl) (by kernel_rfl) (by kernel_rfl) (by kernel_rfl)) ?_
 intro W base args ds gs before hval a _ _
 exact contract_ProbesTreeProved H enc W base args ds gs before hval a
theorem ProbesTreeProved_holds : Rows.probesTreeRow.holds Try.pinned (OpenSpec.ofChange Rows.probesTreeSpec) :=
 OpenClaim.holds_of_wide 4 Try.f4 rfl rfl rfl rfl rfl rfl rfl ⟨rfl, rfl, rfl, rfl, rfl⟩ rfl rfl rfl rfl rfl (by kernel_rfl) func4 (by kernel_rfl)
  (of_decide_eq_true (by kernel_rfl)) (by unfold Func.isWrapper; first | (rw [if_pos (by decide +kernel)]; kernel_rfl) | (rw [if_neg (by decide +kernel)]; exact ⟨rfl, rfl⟩))
  (fun os started H enc _ => lifted_ProbesTreeProved os started H enc)
end GV
theorem ProbesTreeProved : Rows.ProbesTreeSaid := GV.ProbesTreeProved_holds
end Go.Proofs.Ytnnobdkjgafdmaa
