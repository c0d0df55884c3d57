/- The law gauntlet/gauntletlaw15.ProbesCheck: for every input it returns true, and each argument reads as it did; the program's walk and the law of the plain program joined. -/
import Derived.Test.YtnnobdkjgafdmaaShLProbesCheck
import Derived.Test.YtnnobdkjgafdmaaShBridge
import Derived.Test.YtnnobdkjgafdmaaSaid15c
import Derived.Test.YtnnobdkjgafdmaaShOpens
set_option linter.unusedVariables false
set_option linter.unusedSimpArgs false
set_option linter.unusedSectionVars false
namespace Go.Proofs.Ytnnobdkjgafdmaa
namespace GV
open _root_.Go.Proofs.Try
open Go.ChangeShapes Go.WideShapes Go.ChangeAt Go.RowKit
set_option maxRecDepth 100000
theorem own_ProbesCheckProved : ownKnob prog.godebug = none := by kernel_rfl
theorem contract_ProbesCheckProved (H : Type) (enc : TypeId × Value → H) (W : World) (base : Nat) (args : Array Value) (ds gs : List (DataW H)) (before : List MemPlace)
 (hval : ∀ (j : Nat) t v, Try.f5.params[j]? = some t → args[j]? = some v → Value.okWide prog W .any base t v)
 (g : DataW.Whole enc prog Try.f5.params.toList Rows.probesCheckSpec.vars false W args.toList ds gs before) :
 Calls prog 5 args W fun e W' => ∃ v, e = .returned v ∧ Rows.probesCheckSpec.post enc prog Try.f5 false true false false W args v W' := by
 have hpost := fun W' (a : Same W W') => zvs (rt := 4) (P := prog) (s := Rows.probesCheckSpec) (f := Try.f5) laid (by rw [Try.params5]; kernel_rfl) rfl rfl underlying4 (fun ds gs h => by
  rw [Try.params5] at h
  obtain ⟨w0, m, I, n, _, _, _, rfl, _, _, b⟩ := trodAll_cons h
  obtain ⟨J, o, K, r, _, _, _, rfl, _, _, c⟩ := trodAll_cons b
  obtain ⟨_, rfl, _⟩ := trodAll_nil c
  rfl) g a
 obtain ⟨p, q, d, L, rfl, u, w⟩ := g
 have i : DataW.TrodAll enc prog W 0 (fun _ => true) true Try.f5.params.toList args.toList ds p := d
 rw [Try.params5] at i hval
 obtain ⟨k, vs0, M, x, O, Q, hargs, rfl, rfl, b, y⟩ := trodAll_cons i
 obtain ⟨l, z, R, A, S, T, rfl, rfl, rfl, c, B⟩ := trodAll_cons y
 obtain ⟨rfl, rfl, rfl⟩ := trodAll_nil B
 obtain rfl : args = #[k, l] := by cases args; simp_all
 obtain ⟨U, C, D⟩ := zo0 q4v rfl (by rw [underlying27]) (hval 0 27 k rfl rfl) b
 obtain ⟨V, E, F⟩ := zo0 q5m rfl (by rw [underlying45]) (hval 1 45 l rfl rfl) c
 refine (zst (z81 (N := 5000) C E (zpq D F)) (fun v R' h => h)).mono fun e W' ⟨G, a⟩ => ?_
 exact ⟨_, G, hpost W' a⟩
theorem lifted_ProbesCheckProved (os : Os) (started : os.Started) (H : Type) (enc : TypeId × Value → H) :
 ReturnsInHanded {} Try.checked os 5 .any (Rows.probesCheckSpec.pre6 enc prog Try.f5 Rows.probesCheckRow.domain false) (Rows.probesCheckSpec.post enc prog Try.f5 false true false false) := by
 refine returnsInHanded_of_change (C := Try.checked) (s := Rows.probesCheckSpec) own_ProbesCheckProved started (by kernel_rfl) func5
  (ChangeSpec.witness6 (enc := enc) (C := Try.checked) (s := Rows.probesCheckSpec) false ⟨#[], #[(.agg #[(.int .u8 0), (.int .u8 0), (.int .u8 0), (.slice none 0 0), (.slice none 0 0)]), (.agg #[(.slice none 0 0)])], []⟩ 30 (by kernel_rfl) (by kernel_rfl) (by kernel_rfl) (by kernel_rfl)) ?_
 intro W base args ds gs before hval a _ _
 exact contract_ProbesCheckProved H enc W base args ds gs before hval a
theorem ProbesCheckProved_holds : Rows.probesCheckRow.holds Try.pinned (OpenSpec.ofChange Rows.probesCheckSpec) :=
 OpenClaim.holds_of_wide 5 Try.f5 rfl rfl rfl rfl rfl rfl rfl ⟨rfl, rfl, rfl, rfl, rfl⟩ rfl rfl rfl rfl rfl (by kernel_rfl) func5 (by kernel_rfl)
  (of_decide_eq_true (by kernel_rfl)) (by unfold Func.isWrapper; first | (rw [if_pos (by decide +kernel)]; kernel_rfl) | (rw [if_neg (by decide +kernel)]; exact ⟨rfl, rfl⟩))
  (fun os started H enc _ => lifted_ProbesCheckProved os started H enc)
end GV
theorem ProbesCheckProved : Rows.ProbesCheckSaid := GV.ProbesCheckProved_holds
end Go.Proofs.Ytnnobdkjgafdmaa
