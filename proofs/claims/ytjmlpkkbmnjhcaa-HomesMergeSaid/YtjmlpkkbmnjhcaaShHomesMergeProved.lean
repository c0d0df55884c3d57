/- The law gauntlet/gauntletlaw16.HomesMerge: for every input it returns true, and each argument reads as it did; the program's walk and the law of the plain program joined. -/
import Derived.Test.YtjmlpkkbmnjhcaaShLHomesMerge
import Derived.Test.YtjmlpkkbmnjhcaaShBridge
import Derived.Test.YtjmlpkkbmnjhcaaSaid16m
import Derived.Test.YtjmlpkkbmnjhcaaShOpens
set_option linter.unusedVariables false
set_option linter.unusedSimpArgs false
set_option linter.unusedSectionVars false
namespace Go.Proofs.Ytjmlpkkbmnjhcaa
namespace GV
open _root_.Go.Proofs.Try
open Go.ChangeShapes Go.WideShapes Go.ChangeAt Go.RowKit
set_option maxRecDepth 100000
theorem own_HomesMergeProved : ownKnob prog.godebug = none := by kernel_rfl
theorem contract_HomesMergeProved (H : Type) (enc : TypeId × Value → H) (W : World) (base : Nat) (args : Array Value) (ds gs : List (DataW H)) (before : List MemPlace)
 (hval : ∀ (j : Nat) t v, Try.f3.params[j]? = some t → args[j]? = some v → Value.okWide prog W .any base t v)
 (i : DataW.Whole enc prog Try.f3.params.toList Rows.homesMergeSpec.vars false W args.toList ds gs before) :
 Calls prog 3 args W fun e W' => ∃ v, e = .returned v ∧ Rows.homesMergeSpec.post enc prog Try.f3 false true false false W args v W' := by
 have hpost := fun W' (a : Same W W') => zka (rt := 4) (P := prog) (s := Rows.homesMergeSpec) (f := Try.f3) laid (by rw [Try.params3]; kernel_rfl) rfl rfl underlying4 (fun ds gs h => by
  rw [Try.params3] at h
  obtain ⟨w0, o, R, r, _, _, _, rfl, _, _, b⟩ := trodAll_cons h
  obtain ⟨S, u, T, w, _, _, _, rfl, _, _, c⟩ := trodAll_cons b
  obtain ⟨U, x, V, y, _, _, _, rfl, _, _, d⟩ := trodAll_cons c
  obtain ⟨_, rfl, _⟩ := trodAll_nil d
  rfl) i a
 obtain ⟨p, q, g, X, rfl, z, A⟩ := i
 have k : DataW.TrodAll enc prog W 0 (fun _ => true) true Try.f3.params.toList args.toList ds p := g
 rw [Try.params3] at k hval
 obtain ⟨l, vs0, Y, B, Z, q0, hargs, rfl, rfl, b, C⟩ := trodAll_cons k
 obtain ⟨m, D, d1, E, p1, q1, rfl, rfl, rfl, c, F⟩ := trodAll_cons C
 obtain ⟨n, G, d2, I, p2, q2, rfl, rfl, rfl, d, J⟩ := trodAll_cons F
 obtain ⟨rfl, rfl, rfl⟩ := trodAll_nil J
 obtain rfl : args = #[l, m, n] := by cases args; simp_all
 obtain ⟨a0, K, L⟩ := zkq zwq rfl (by rw [underlying25]) (hval 0 25 l rfl rfl) b
 obtain ⟨a1, rfl, rfl, rfl, M⟩ := open_int underlying5 (hval 1 5 m rfl rfl) c
 obtain ⟨a2, rfl, rfl, rfl, O⟩ := open_int underlying5 (hval 2 5 n rfl rfl) d
 refine (zhh (z7i (N := 5000) K (zlk L M O)) (fun v R' h => h)).mono fun e W' ⟨Q, a⟩ => ?_
 exact ⟨_, Q, hpost W' a⟩
theorem lifted_HomesMergeProved (os : Os) (started : os.Started) (H : Type) (enc : TypeId × Value → H) :
 ReturnsInHanded {} Try.checked os 3 .any (Rows.homesMergeSpec.pre6 enc prog Try.f3 Rows.homesMergeRow.domain false) (Rows.homesMergeSpec.post enc prog Try.f3 false true false false) := by
 refine returnsInHanded_of_change (C := Try.checked) (s := Rows.homesMergeSpec) own_HomesMergeProved started (by kernel_rfl) func3
  (ChangeSpec.witness6 (enc := enc) (C := Try.checked) (s := Rows.homesMergeSpec) false ⟨#[], #[(.agg #[(.int .u8 0), (.int .u8 0), (.int .u8 0), (.slice none 0 0), (.slice none 0 0)]), (.int .u8 0), (.int .u8 0)], []⟩ 30 (by kernel_rfl) (by kernel_rfl) (by kernel_rfl) (by kernel_rfl)) ?_
 intro W base args ds gs before hval a _ _
 exact contract_HomesMergeProved H enc W base args ds gs before hval a
theorem HomesMergeProved_holds : Rows.homesMergeRow.holds Try.pinned (OpenSpec.ofChange Rows.homesMergeSpec) :=
 OpenClaim.holds_of_wide 3 Try.f3 rfl rfl rfl rfl rfl rfl rfl ⟨rfl, rfl, rfl, rfl, rfl⟩ rfl rfl rfl rfl rfl (by kernel_rfl) func3 (by kernel_rfl)
  (of_decide_eq_true (by kernel_rfl)) (by unfold Func.isWrapper; first | (rw [if_pos (by decide +kernel)]; kernel_rfl) | (rw [if_neg (by decide +kernel)]; exact ⟨rfl, rfl⟩))
  (fun os started H enc _ => lifted_HomesMergeProved os started H enc)
end GV
theorem HomesMergeProved : Rows.HomesMergeSaid := GV.HomesMergeProved_holds
end Go.Proofs.Ytjmlpkkbmnjhcaa
