/- The law gauntlet/gauntletlaw16.HomesMore: for every input it returns true, and each argument reads as it did; the program's walk and the law of the plain program joined. -/
import Derived.Test.YtjmlpkkbmnjhcaaGreatShLHomesMore
import Derived.Test.YtjmlpkkbmnjhcaaGreatShBridge
import Derived.Test.YtjmlpkkbmnjhcaaGreatSaid16g
import Derived.Test.YtjmlpkkbmnjhcaaGreatShOpens
set_option linter.unusedVariables false
set_option linter.unusedSimpArgs false
set_option linter.unusedSectionVars false
namespace Go.Proofs.YtjmlpkkbmnjhcaaGreat
namespace GV
open _root_.Go.Proofs.Tryz
open Go.ChangeShapes Go.WideShapes Go.ChangeAt Go.RowKit
set_option maxRecDepth 100000
theorem own_HomesMoreProved : ownKnob prog.godebug = none := by kernel_rfl
theorem contract_HomesMoreProved (H : Type) (enc : TypeId × Value → H) (W : World) (base : Nat) (args : Array Value) (ds gs : List (DataW H)) (before : List MemPlace)
 (hval : ∀ (j : Nat) t v, Tryz.f5.params[j]? = some t → args[j]? = some v → Value.okWide prog W .any base t v)
 (g : DataW.Whole enc prog Tryz.f5.params.toList Rows.homesMoreSpec.vars false W args.toList ds gs before) :
 Calls prog 5 args W fun e W' => ∃ v, e = .returned v ∧ Rows.homesMoreSpec.post enc prog Tryz.f5 false true false false W args v W' := by
 have hpost := fun W' (a : Same W W') => zhj (rt := 4) (P := prog) (s := Rows.homesMoreSpec) (f := Tryz.f5) laid (by rw [Tryz.params5]; kernel_rfl) rfl rfl underlying4 (fun ds gs h => by
  rw [Tryz.params5] at h
  obtain ⟨w0, m, I, n, _, _, _, rfl, _, _, b⟩ := trodAll_cons h
  obtain ⟨J, o, K, r, _, _, _, rfl, _, _, c⟩ := trodAll_cons b
  obtain ⟨_, rfl, _⟩ := trodAll_nil c
  rfl) g a
 obtain ⟨p, q, d, L, rfl, u, w⟩ := g
 have i : DataW.TrodAll enc prog W 0 (fun _ => true) true Tryz.f5.params.toList args.toList ds p := d
 rw [Tryz.params5] at i hval
 obtain ⟨k, vs0, M, x, O, Q, hargs, rfl, rfl, b, y⟩ := trodAll_cons i
 obtain ⟨l, z, R, A, S, T, rfl, rfl, rfl, c, B⟩ := trodAll_cons y
 obtain ⟨rfl, rfl, rfl⟩ := trodAll_nil B
 obtain rfl : args = #[k, l] := by cases args; simp_all
 obtain ⟨U, C, D⟩ := zbt q6x rfl (by rw [underlying25]) (hval 0 25 k rfl rfl) b
 obtain ⟨V, E, F⟩ := open_slice q56 underlying22 (hval 1 22 l rfl rfl) c
 refine (zg6 (zc4 (N := 1000000) C E (zx8 D F)) (fun v R' h => h)).mono fun e W' ⟨G, a⟩ => ?_
 exact ⟨_, G, hpost W' a⟩
theorem lifted_HomesMoreProved (os : Os) (started : os.Started) (H : Type) (enc : TypeId × Value → H) :
 ReturnsInHanded {} Tryz.checked os 5 .any (Rows.homesMoreSpec.pre6 enc prog Tryz.f5 Rows.homesMoreRow.domain false) (Rows.homesMoreSpec.post enc prog Tryz.f5 false true false false) := by
 refine returnsInHanded_of_change (C := Tryz.checked) (s := Rows.homesMoreSpec) own_HomesMoreProved started (by kernel_rfl) func5
  (ChangeSpec.witness6 (enc := enc) (C := Tryz.checked) (s := Rows.homesMoreSpec) false ⟨#[], #[(.agg #[(.int .u8 0), (.int .u8 0), (.int .u8 0), (.slice none 0 0), (.slice none 0 0)]), (.slice none 0 0)], []⟩ 30 (by kernel_rfl) (by kernel_rfl) (by kernel_rfl) (by kernel_rfl)) ?_
 intro W base args ds gs before hval a _ _
 exact contract_HomesMoreProved H enc W base args ds gs before hval a
theorem HomesMoreProved_holds : Rows.homesMoreRow.holds Tryz.pinned (OpenSpec.ofChange Rows.homesMoreSpec) :=
 OpenClaim.holds_of_wide 5 Tryz.f5 rfl rfl rfl rfl rfl rfl rfl ⟨rfl, rfl, rfl, rfl, rfl⟩ rfl rfl rfl rfl rfl (by kernel_rfl) func5 (by kernel_rfl)
  (of_decide_eq_true (by kernel_rfl)) (by unfold Func.isWrapper; first | (rw [if_pos (by decide +kernel)]; kernel_rfl) | (rw [if_neg (by decide +kernel)]; exact ⟨rfl, rfl⟩))
  (fun os started H enc _ => lifted_HomesMoreProved os started H enc)
end GV
theorem HomesMoreProved : Rows.HomesMoreSaid := GV.HomesMoreProved_holds
end Go.Proofs.YtjmlpkkbmnjhcaaGreat
