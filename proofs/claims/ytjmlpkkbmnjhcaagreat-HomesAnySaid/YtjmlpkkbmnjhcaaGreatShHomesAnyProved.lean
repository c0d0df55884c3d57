/- The law gauntlet/gauntletlaw16.HomesAny: for every input it returns true, and each argument reads as it did; the program's walk and the law of the plain program joined. -/
import Derived.Test.YtjmlpkkbmnjhcaaGreatShLHomesAny
import Derived.Test.YtjmlpkkbmnjhcaaGreatShBridge
import Derived.Test.YtjmlpkkbmnjhcaaGreatSaid16g
import Derived.Test.YtjmlpkkbmnjhcaaGreatShOpens
set_option linter.unusedVariables false
set_option linter.unusedSimpArgs false
set_option linter.unusedSectionVars false
namespace Go.Proofs.YtjmlpkkbmnjhcaaGreat
namespace GV
open _root_.Go.Proofs.Tryz
open Go.ChangeShapes Go.WideShapes Go.ChangeAt Go.RowKit
set_option maxRecDepth 100000
theorem own_HomesAnyProved : ownKnob prog.godebug = none := by kernel_rfl
theorem contract_HomesAnyProved (H : Type) (enc : TypeId × Value → H) (W : World) (base : Nat) (args : Array Value) (ds gs : List (DataW H)) (before : List MemPlace)
 (hval : ∀ (j : Nat) t v, Tryz.f6.params[j]? = some t → args[j]? = some v → Value.okWide prog W .any base t v)
 (i : DataW.Whole enc prog Tryz.f6.params.toList Rows.homesAnySpec.vars false W args.toList ds gs before) :
 Calls prog 6 args W fun e W' => ∃ v, e = .returned v ∧ Rows.homesAnySpec.post enc prog Tryz.f6 false true false false W args v W' := by
 have hpost := fun W' (a : Same W W') => zhj (rt := 4) (P := prog) (s := Rows.homesAnySpec) (f := Tryz.f6) laid (by rw [Tryz.params6]; kernel_rfl) rfl rfl underlying4 (fun ds gs h => by
  rw [Tryz.params6] at h
  obtain ⟨w0, o, T, r, _, _, _, rfl, _, _, b⟩ := trodAll_cons h
  obtain ⟨U, u, V, w, _, _, _, rfl, _, _, c⟩ := trodAll_cons b
  obtain ⟨X, x, Y, y, _, _, _, rfl, _, _, d⟩ := trodAll_cons c
  obtain ⟨_, rfl, _⟩ := trodAll_nil d
  rfl) i a
 obtain ⟨p, q, g, Z, rfl, z, A⟩ := i
 have k : DataW.TrodAll enc prog W 0 (fun _ => true) true Tryz.f6.params.toList args.toList ds p := g
 rw [Tryz.params6] at k hval
 obtain ⟨l, vs0, d0, B, p0, q0, hargs, rfl, rfl, b, C⟩ := trodAll_cons k
 obtain ⟨m, D, d1, E, p1, q1, rfl, rfl, rfl, c, F⟩ := trodAll_cons C
 obtain ⟨n, G, d2, I, p2, q2, rfl, rfl, rfl, d, J⟩ := trodAll_cons F
 obtain ⟨rfl, rfl, rfl⟩ := trodAll_nil J
 obtain rfl : args = #[l, m, n] := by cases args; simp_all
 obtain ⟨a0, K, L⟩ := zbt qam rfl (by rw [underlying28]) (hval 0 28 l rfl rfl) b
 obtain ⟨a1, M, O⟩ := zbt qa2 rfl (by rw [underlying54]) (hval 1 54 m rfl rfl) c
 obtain ⟨a2, Q, R⟩ := zbt qa1 rfl (by rw [underlying56]) (hval 2 56 n rfl rfl) d
 refine (zg6 (zce (N := 1000000) K M Q (q0r L O R)) (fun v R' h => h)).mono fun e W' ⟨S, a⟩ => ?_
 exact ⟨_, S, hpost W' a⟩
theorem lifted_HomesAnyProved (os : Os) (started : os.Started) (H : Type) (enc : TypeId × Value → H) :
 ReturnsInHanded {} Tryz.checked os 6 .any (Rows.homesAnySpec.pre6 enc prog Tryz.f6 Rows.homesAnyRow.domain false) (Rows.homesAnySpec.post enc prog Tryz.f6 false true false false) := by
 refine returnsInHanded_of_change (C := Tryz.checked) (s := Rows.homesAnySpec) own_HomesAnyProved started (by kernel_rfl) func6
  (ChangeSpec.witness6 (enc := enc) (C := Tryz.checked) (s := Rows.homesAnySpec) false ⟨#[], #[(.agg #[(.int .i64 0), (.int .i64 0), (.slice none 0 0)]), (.agg #[(.int .u8 0), (.int .u8 0), (.int .u8 0), (.bool false), (.slice none 0 0)]), (.agg #[(.int .i64 0), (.int .i64 0), (.slice none 0 0), (.slice none 0 0), (.slice none 0 0)])], []⟩ 30 (by kernel_rfl) (by kernel_rfl) (by kernel_rfl) (by kernel_rfl)) ?_
 intro W base args ds gs before hval a _ _
 exact contract_HomesAnyProved H enc W base args ds gs before hval a
theorem HomesAnyProved_holds : Rows.homesAnyRow.holds Tryz.pinned (OpenSpec.ofChange Rows.homesAnySpec) :=
 OpenClaim.holds_of_wide 6 Tryz.f6 rfl rfl rfl rfl rfl rfl rfl ⟨rfl, rfl, rfl, rfl, rfl⟩ rfl rfl rfl rfl rfl (by kernel_rfl) func6 (by kernel_rfl)
  (of_decide_eq_true (by kernel_rfl)) (by unfold Func.isWrapper; first | (rw [if_pos (by decide +kernel)]; kernel_rfl) | (rw [if_neg (by decide +kernel)]; exact ⟨rfl, rfl⟩))
  (fun os started H enc _ => lifted_HomesAnyProved os started H enc)
end GV
theorem HomesAnyProved : Rows.HomesAnySaid := GV.HomesAnyProved_holds
end Go.Proofs.YtjmlpkkbmnjhcaaGreat
