/- The law gauntlet/gauntletlaw16.HomesAdaptive: for every input it returns true, and each argument reads as it did; the program's walk and the law of the plain program joined. -/
import Derived.Test.YtjmlpkkbmnjhcaaShLHomesAdaptive
import Derived.Test.YtjmlpkkbmnjhcaaShBridge
import Derived.Test.YtjmlpkkbmnjhcaaSaid16i
import Derived.Test.YtjmlpkkbmnjhcaaShOpens
set_option linter.unusedVariables false
set_option linter.unusedSimpArgs false
set_option linter.unusedSectionVars false
namespace Go.Proofs.Ytjmlpkkbmnjhcaa
namespace GV
open _root_.Go.Proofs.Try
open Go.ChangeShapes Go.WideShapes Go.ChangeAt Go.RowKit
set_option maxRecDepth 100000
theorem own_HomesAdaptiveProved : ownKnob prog.godebug = none := by kernel_rfl
theorem contract_HomesAdaptiveProved (H : Type) (enc : TypeId × Value → H) (W : World) (base : Nat) (args : Array Value) (ds gs : List (DataW H)) (before : List MemPlace)
 (hval : ∀ (j : Nat) t v, Try.f4.params[j]? = some t → args[j]? = some v → Value.okWide prog W .any base t v)
 (d : DataW.Whole enc prog Try.f4.params.toList Rows.homesAdaptiveSpec.vars false W args.toList ds gs before) :
 Calls prog 4 args W fun e W' => ∃ v, e = .returned v ∧ Rows.homesAdaptiveSpec.post enc prog Try.f4 false true false false W args v W' := by
 have hpost := fun W' (a : Same W W') => zka (rt := 4) (P := prog) (s := Rows.homesAdaptiveSpec) (f := Try.f4) laid (by rw [Try.params4]; kernel_rfl) rfl rfl underlying4 (fun ds gs h => by
  rw [Try.params4] at h
  obtain ⟨w0, k, y, l, _, _, _, rfl, _, _, b⟩ := trodAll_cons h
  obtain ⟨_, rfl, _⟩ := trodAll_nil b
  rfl) d a
 obtain ⟨p, q, c, z, rfl, m, n⟩ := d
 have g : DataW.TrodAll enc prog W 0 (fun _ => true) true Try.f4.params.toList args.toList ds p := c
 rw [Try.params4] at g hval
 obtain ⟨i, vs0, A, o, B, C, hargs, rfl, rfl, b, r⟩ := trodAll_cons g
 obtain ⟨rfl, rfl, rfl⟩ := trodAll_nil r
 obtain rfl : args = #[i] := by cases args; simp_all
 obtain ⟨D, u, w⟩ := zkq zwq rfl (by rw [underlying25]) (hval 0 25 i rfl rfl) b
 refine (zhh (z6h (N := 1000000) u (zgx w)) (fun v R' h => h)).mono fun e W' ⟨x, a⟩ => ?_
 exact ⟨_, x, hpost W' a⟩
theorem lifted_HomesAdaptiveProved (os : Os) (started : os.Started) (H : Type) (enc : TypeId × Value → H) :
 ReturnsInHanded {} Try.checked os 4 .any (Rows.homesAdaptiveSpec.pre6 enc prog Try.f4 Rows.homesAdaptiveRow.domain false) (Rows.homesAdaptiveSpec.post enc prog Try.f4 false true false false) := by
 refine returnsInHanded_of_change (C := Try.checked) (s := Rows.homesAdaptiveSpec) own_HomesAdaptiveProved started (by kernel_rfl) func4
  (ChangeSpec.witness6 (enc := enc) (C := Try.checked) (s := Rows.homesAdaptiveSpec) false ⟨#[], #[(.agg #[(.int .u8 0), (.int .u8 0), (.int .u8 0), (.slice none 0 0), (.slice none 0 0)])], []⟩ 30 (by kernel_rfl) (by kernel_rfl) (by kernel_rfl) (by kernel_rfl)) ?_
 intro W base args ds gs before hval a _ _
 exact contract_HomesAdaptiveProved H enc W base args ds gs before hval a
theorem HomesAdaptiveProved_holds : Rows.homesAdaptiveRow.holds Try.pinned (OpenSpec.ofChange Rows.homesAdaptiveSpec) :=
 OpenClaim.holds_of_wide 4 Try.f4 rfl rfl rfl rfl rfl rfl rfl ⟨rfl, rfl, rfl, rfl, rfl⟩ rfl rfl rfl rfl rfl (by kernel_rfl) func4 (by kernel_rfl)
  (of_decide_eq_true (by kernel_rfl)) (by unfold Func.isWrapper; first | (rw [if_pos (by decide +kernel)]; kernel_rfl) | (rw [if_neg (by decide +kernel)]; exact ⟨rfl, rfl⟩))
  (fun os started H enc _ => lifted_HomesAdaptiveProved os started H enc)
end GV
theorem HomesAdaptiveProved : Rows.HomesAdaptiveSaid := GV.HomesAdaptiveProved_holds
end Go.Proofs.Ytjmlpkkbmnjhcaa
