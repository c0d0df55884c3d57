/- The law gauntlet/gauntletlaw39.ChecksKnown: for every input it returns true, and each argument reads as it did; the program's walk and the law of the plain program joined. -/
import Derived.Test.YtplgbkaollfmkaaShLChecksKnownb
import Derived.Test.YtplgbkaollfmkaaShBridge
import Derived.Test.YtplgbkaollfmkaaSaid39
import Derived.Test.YtplgbkaollfmkaaShOpens
set_option linter.unusedVariables false
set_option linter.unusedSimpArgs false
namespace Go.Proofs.Ytplgbkaollfmkaa
namespace GV
open _root_.Go.Proofs.Try
open Go.ChangeShapes Go.WideShapes Go.ChangeAt Go.RowKit
set_option maxRecDepth 100000
theorem own_ChecksKnownProved : ownKnob prog.godebug = none := by kernel_rfl
theorem contract_ChecksKnownProved (H : Type) (enc : TypeId × Value → H) (W : World) (base : Nat) (args : Array Value) (ds gs : List (DataW H)) (before : List MemPlace)
 (hval : ∀ (j : Nat) t v, Try.f4.params[j]? = some t → args[j]? = some v → Value.okWide prog W .any base t v)
 (g : DataW.Whole enc prog Try.f4.params.toList Rows.checksKnownSpec.vars false W args.toList ds gs before) :
 Calls prog 4 args W fun e W' => ∃ v, e = .returned v ∧ Rows.checksKnownSpec.post enc prog Try.f4 false true false false W args v W' := by
 have hpost := fun W' (a : Same W W') => zwj (rt := 4) (P := prog) (s := Rows.checksKnownSpec) (f := Try.f4) laid (by rw [Try.params4]; kernel_rfl) rfl rfl underlying4 (fun ds gs h => by
  rw [Try.params4] at h
  obtain ⟨w0, m, I, n, _, _, _, rfl, _, _, b⟩ := trodAll_cons h
  obtain ⟨J, o, K, r, _, _, _, rfl, _, _, c⟩ := trodAll_cons b
  obtain ⟨_, rfl, _⟩ := trodAll_nil c
  rfl) g a
 obtain ⟨p, q, d, L, rfl, u, w⟩ := g
 have i : DataW.TrodAll enc prog W 0 (fun _ => true) true Try.f4.params.toList args.toList ds p := d
 rw [Try.params4] at i hval
 obtain ⟨k, vs0, M, x, O, Q, hargs, rfl, rfl, b, y⟩ := trodAll_cons i
 obtain ⟨l, z, R, A, S, T, rfl, rfl, rfl, c, B⟩ := trodAll_cons y
 obtain ⟨rfl, rfl, rfl⟩ := trodAll_nil B
 obtain rfl : args = #[k, l] := by cases args; simp_all
 obtain ⟨U, C, D⟩ := zxf q7u rfl (by rw [underlying48]) (hval 0 48 k rfl rfl) b
 obtain ⟨V, E, F⟩ := open_slice q2x underlying41 (hval 1 41 l rfl rfl) c
 refine (zuh (z94 (N := 2000) C E (zo5 D F)) (fun v R' h => h)).mono fun e W' ⟨G, a⟩ => ?_
 exact ⟨_, G, hpost W' a⟩
theorem lifted_ChecksKnownProved (os : Os) (started : os.Started) (H : Type) (enc : TypeId × Value → H) :
 ReturnsInHanded {} Try.checked os 4 .any (Rows.checksKnownSpec.pre6 enc prog Try.f4 Rows.checksKnownRow.domain false) (Rows.checksKnownSpec.post enc prog Try.f4 false true false false) := by
 refine returnsInHanded_of_change (C := Try.checked) (s := Rows.checksKnownSpec) own_ChecksKnownProved started (by kernel_rfl) func4
  (ChangeSpec.witness6 (enc := enc) (C := Try.checked) (s := Rows.checksKnownSpec) false ⟨#[], #[(.agg #[(.int .u8 0), (.int .u8 0), (.int .u8 0), (.slice none 0 0), (.slice none 0 0), (.slice none 0 0)]), (.slice none 0 0)], []⟩ 30 (by kernel_rfl) (by kernel_rfl) (by kernel_rfl) (by kernel_rfl)) ?_
 intro W base args ds gs before hval a _ _
 exact contract_ChecksKnownProved H enc W base args ds gs before hval a
theorem ChecksKnownProved_holds : Rows.checksKnownRow.holds Try.pinned (OpenSpec.ofChange Rows.checksKnownSpec) :=
 OpenClaim.holds_of_wide 4 Try.f4 rfl rfl rfl rfl rfl rfl rfl ⟨rfl, rfl, rfl, rfl, rfl⟩ rfl rfl rfl rfl rfl (by kernel_rfl) func4 (by kernel_rfl)
  (of_decide_eq_true (by kernel_rfl)) (by unfold Func.isWrapper; first | (rw [if_pos (by decide +kernel)]; kernel_rfl) | (rw [if_neg (by decide +kernel)]; exact ⟨rfl, rfl⟩))
  (fun os started H enc _ => lifted_ChecksKnownProved os started H enc)
end GV
theorem ChecksKnownProved : Rows.ChecksKnownSaid := GV.ChecksKnownProved_holds
end Go.Proofs.Ytplgbkaollfmkaa
