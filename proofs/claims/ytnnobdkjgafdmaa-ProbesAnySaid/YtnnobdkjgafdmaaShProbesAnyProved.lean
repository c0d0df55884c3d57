/- The law gauntlet/gauntletlaw15.ProbesAny: for every input it returns true, and each argument reads as it did; the program's walk and the law of the plain program joined. -/
import Derived.Test.YtnnobdkjgafdmaaShLProbesAny
import Derived.Test.YtnnobdkjgafdmaaShBridge
import Derived.Test.YtnnobdkjgafdmaaSaid15a
import Derived.Test.YtnnobdkjgafdmaaShOpens
set_option linter.unusedVariables false
set_option linter.unusedSimpArgs false
set_option linter.unusedSectionVars false
namespace Go.Proofs.Ytnnobdkjgafdmaa
namespace GV
open _root_.Go.Proofs.Try
open Go.ChangeShapes Go.WideShapes Go.ChangeAt Go.RowKit
set_option maxRecDepth 100000
theorem own_ProbesAnyProved : ownKnob prog.godebug = none := by kernel_rfl
theorem contract_ProbesAnyProved (H : Type) (enc : TypeId × Value → H) (W : World) (base : Nat) (args : Array Value) (ds gs : List (DataW H)) (before : List MemPlace)
 (hval : ∀ (j : Nat) t v, Try.f6.params[j]? = some t → args[j]? = some v → Value.okWide prog W .any base t v)
 (i : DataW.Whole enc prog Try.f6.params.toList Rows.probesAnySpec.vars false W args.toList ds gs before) :
 Calls prog 6 args W fun e W' => ∃ v, e = .returned v ∧ Rows.probesAnySpec.post enc prog Try.f6 false true false false W args v W' := by
 have hpost := fun W' (a : Same W W') => zvk (rt := 4) (P := prog) (s := Rows.probesAnySpec) (f := Try.f6) laid (by rw [Try.params6]; kernel_rfl) rfl rfl underlying4 (fun ds gs h => by
  rw [Try.params6] at h
  obtain ⟨w0, o, R, r, _, _, _, rfl, _, _, b⟩ := trodAll_cons h
  obtain ⟨S, u, T, w, _, _, _, rfl, _, _, c⟩ := trodAll_cons b
  obtain ⟨U, x, V, y, _, _, _, rfl, _, _, d⟩ := trodAll_cons c
  obtain ⟨_, rfl, _⟩ := trodAll_nil d
  rfl) i a
 obtain ⟨p, q, g, X, rfl, z, A⟩ := i
 have k : DataW.TrodAll enc prog W 0 (fun _ => true) true Try.f6.params.toList args.toList ds p := g
 rw [Try.params6] at k hval
 obtain ⟨l, vs0, Y, B, Z, q0, hargs, rfl, rfl, b, C⟩ := trodAll_cons k
 obtain ⟨m, D, d1, E, p1, q1, rfl, rfl, rfl, c, F⟩ := trodAll_cons C
 obtain ⟨n, G, d2, I, p2, q2, rfl, rfl, rfl, d, J⟩ := trodAll_cons F
 obtain ⟨rfl, rfl, rfl⟩ := trodAll_nil J
 obtain rfl : args = #[l, m, n] := by cases args; simp_all
 obtain ⟨a0, K, L⟩ := zw9 q3m rfl (by rw [underlying30]) (hval 0 30 l rfl rfl) b
 obtain ⟨a1, rfl, rfl, rfl, M⟩ := open_int underlying3 (hval 1 3 m rfl rfl) c
 obtain ⟨a2, rfl, rfl, rfl, O⟩ := open_int underlying3 (hval 2 3 n rfl rfl) d
 refine (zt1 (z7v (N := 5000) K (zun L M O)) (fun v R' h => h)).mono fun e W' ⟨Q, a⟩ => ?_
 exact ⟨_, Q, hpost W' a⟩
theorem lifted_ProbesAnyProved (os : Os) (started : os.Started) (H : Type) (enc : TypeId × Value → H) :
 ReturnsInHanded {} Try.checked os 6 .any (Rows.probesAnySpec.pre6 enc prog Try.f6 Rows.probesAnyRow.domain false) (Rows.probesAnySpec.post enc prog Try.f6 false true false false) := by
 refine returnsInHanded_of_change (C := Try.checked) (s := Rows.probesAnySpec) own_ProbesAnyProved started (by kernel_rfl) func6
  (ChangeSpec.witness6 (enc := enc) (C := Try.checked) (s := Rows.probesAnySpec) false ⟨#[], #[(.agg #[(.int .i64 0), (.int .i64 0), (.slice none 0 0)]), (.int .i64 0), (.int .i64 0)], []⟩ 30 (by kernel_rfl) (by kernel_rfl) (by kernel_rfl) (by kernel_rfl)) ?_
 intro W base args ds gs before hval a _ _
 exact contract_ProbesAnyProved H enc W base args ds gs before hval a
theorem ProbesAnyProved_holds : Rows.probesAnyRow.holds Try.pinned (OpenSpec.ofChange Rows.probesAnySpec) :=
 OpenClaim.holds_of_wide 6 Try.f6 rfl rfl rfl rfl rfl rfl rfl ⟨rfl, rfl, rfl, rfl, rfl⟩ rfl rfl rfl rfl rfl (by kernel_rfl) func6 (by kernel_rfl)
  (of_decide_eq_true (by kernel_rfl)) (by unfold Func.isWrapper; first | (rw [if_pos (by decide +kernel)]; kernel_rfl) | (rw [if_neg (by decide +kernel)]; exact ⟨rfl, rfl⟩))
  (fun os started H enc _ => lifted_ProbesAnyProved os started H enc)
end GV
theorem ProbesAnyProved : Rows.ProbesAnySaid := GV.ProbesAnyProved_holds
end Go.Proofs.Ytnnobdkjgafdmaa
