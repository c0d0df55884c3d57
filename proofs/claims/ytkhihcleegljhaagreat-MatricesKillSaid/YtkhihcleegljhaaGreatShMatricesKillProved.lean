/- The law gauntlet/gauntletlaw21.MatricesKill: for every input it returns true, and each argument reads as it did; the program's walk and the law of the plain program joined. -/
import Derived.Test.YtkhihcleegljhaaGreatShLMatricesKillc
import Derived.Test.YtkhihcleegljhaaGreatShBridge
import Derived.Test.YtkhihcleegljhaaGreatSaidk21
import Derived.Test.YtkhihcleegljhaaGreatShOpens
set_option linter.unusedVariables false
set_option linter.unusedSimpArgs false
namespace Go.Proofs.YtkhihcleegljhaaGreat
namespace GV
open _root_.Go.Proofs.Tryz
open Go.ChangeShapes Go.WideShapes Go.ChangeAt Go.RowKit
set_option maxRecDepth 100000
theorem own_MatricesKillProved : ownKnob prog.godebug = none := by kernel_rfl
theorem contract_MatricesKillProved (H : Type) (enc : TypeId × Value → H) (W : World) (base : Nat) (args : Array Value) (ds gs : List (DataW H)) (before : List MemPlace)
 (hval : ∀ (j : Nat) t v, Tryz.f3.params[j]? = some t → args[j]? = some v → Value.okWide prog W .any base t v)
 (i : DataW.Whole enc prog Tryz.f3.params.toList Rows.matricesKillSpec.vars false W args.toList ds gs before) :
 Calls prog 3 args W fun e W' => ∃ v, e = .returned v ∧ Rows.matricesKillSpec.post enc prog Tryz.f3 false true false false W args v W' := by
 have hpost := fun W' (a : Same W W') => zp0 (rt := 4) (P := prog) (s := Rows.matricesKillSpec) (f := Tryz.f3) laid (by rw [Tryz.params3]; kernel_rfl) rfl rfl underlying4 (fun ds gs h => by
  rw [Tryz.params3] at h
  obtain ⟨T, o, U, r, _, _, _, rfl, _, _, b⟩ := trodAll_cons h
  obtain ⟨V, u, X, w, _, _, _, rfl, _, _, c⟩ := trodAll_cons b
  obtain ⟨Y, x, Z, y, _, _, _, rfl, _, _, d⟩ := trodAll_cons c
  obtain ⟨_, rfl, _⟩ := trodAll_nil d
  rfl) i a
 obtain ⟨p, q, g, hV, rfl, z, A⟩ := i
 have k : DataW.TrodAll enc prog W 0 (fun _ => true) true Tryz.f3.params.toList args.toList ds p := g
 rw [Tryz.params3] at k hval
 obtain ⟨l, vs0, d0, B, p0, q0, hargs, rfl, rfl, b, C⟩ := trodAll_cons k
 obtain ⟨m, D, d1, E, p1, q1, rfl, rfl, rfl, c, F⟩ := trodAll_cons C
 obtain ⟨n, G, d2, I, p2, q2, rfl, rfl, rfl, d, J⟩ := trodAll_cons F
 obtain ⟨rfl, rfl, rfl⟩ := trodAll_nil J
 obtain rfl : args = #[l, m, n] := by cases args; simp_all
 obtain ⟨a0, K, L⟩ := zgd zux rfl (by rw [underlying24]) (hval 0 24 l rfl rfl) b
 obtain ⟨a1, M, O⟩ := zgd zvj rfl (by rw [underlying27]) (hval 1 27 m rfl rfl) c
 obtain ⟨a2, Q, R⟩ := zgd zul rfl (by rw [underlying33]) (hval 2 33 n rfl rfl) d
 refine (zmi (z7w (N := 5000) K M Q (zmv L O R)) (fun v R' h => h)).mono fun e W' ⟨S, a⟩ => ?_
 exact ⟨_, S, hpost W' a⟩
theorem lifted_MatricesKillProved (os : Os) (started : os.Started) (H : Type) (enc : TypeId × Value → H) :
 ReturnsInHanded {} Tryz.checked os 3 .any (Rows.matricesKillSpec.pre6 enc prog Tryz.f3 Rows.matricesKillRow.domain false) (Rows.matricesKillSpec.post enc prog Tryz.f3 false true false false) := by
 refine returnsInHanded_of_change (C := Tryz.checked) (s := Rows.matricesKillSpec) own_MatricesKillProved started (by kernel_rfl) func3
  (ChangeSpec.witness6 (enc := enc) (C := Tryz.checked) (s := Rows.matricesKillSpec) false ⟨#[], #[(.agg #[(.int .u8 0), (.int .u8 0), (.int .u8 0), (.bool false), (.slice none 0 0)]), (.agg #[(.int .u8 0), (.slice none 0 0)]), (.agg #[(.slice none 0 0), (.slice none 0 0), (.slice none 0 0)])], []⟩ 30 (by kernel_rfl) (by kernel_rfl) (by kernel_rfl) (by kernel_rfl)) ?_
 intro W base args ds gs before hval a _ _
 exact contract_MatricesKillProved H enc W base args ds gs before hval a
theorem MatricesKillProved_holds : Rows.matricesKillRow.holds Tryz.pinned (OpenSpec.ofChange Rows.matricesKillSpec) :=
 OpenClaim.holds_of_wide 3 Tryz.f3 rfl rfl rfl rfl rfl rfl rfl ⟨rfl, rfl, rfl, rfl, rfl⟩ rfl rfl rfl rfl rfl (by kernel_rfl) func3 (by kernel_rfl)
  (of_decide_eq_true (by kernel_rfl)) (by unfold Func.isWrapper; first | (rw [if_pos (by decide +kernel)]; kernel_rfl) | (rw [if_neg (by decide +kernel)]; exact ⟨rfl, rfl⟩))
  (fun os started H enc _ => lifted_MatricesKillProved os started H enc)
end GV
theorem MatricesKillProved : Rows.MatricesKillSaid := GV.MatricesKillProved_holds
end Go.Proofs.YtkhihcleegljhaaGreat
