/- The law gauntlet/gauntletlaw16.HomesWords: for every input it returns true, and each argument reads as it did; the program's walk and the law of the plain program joined. -/
import Derived.Test.YtjmlpkkbmnjhcaaGreatShLHomesWords
import Derived.Test.YtjmlpkkbmnjhcaaGreatShBridge
import Derived.Test.YtjmlpkkbmnjhcaaGreatSaid16g
import Derived.Test.YtjmlpkkbmnjhcaaGreatShOpens
set_option linter.unusedVariables false
set_option linter.unusedSimpArgs false
set_option linter.unusedSectionVars false
namespace Go.Proofs.YtjmlpkkbmnjhcaaGreat
namespace GV
open _root_.Go.Proofs.Tryz
open Go.ChangeShapes Go.WideShapes Go.ChangeAt Go.RowKit
set_option maxRecDepth 100000
theorem own_HomesWordsProved : ownKnob prog.godebug = none := by kernel_rfl
theorem contract_HomesWordsProved (H : Type) (enc : TypeId × Value → H) (W : World) (base : Nat) (args : Array Value) (ds gs : List (DataW H)) (before : List MemPlace)
 (hval : ∀ (j : Nat) t v, Tryz.f3.params[j]? = some t → args[j]? = some v → Value.okWide prog W .any base t v)
 (d : DataW.Whole enc prog Tryz.f3.params.toList Rows.homesWordsSpec.vars false W args.toList ds gs before) :
 Calls prog 3 args W fun e W' => ∃ v, e = .returned v ∧ Rows.homesWordsSpec.post enc prog Tryz.f3 false true false false W args v W' := by
 have hpost := fun W' (a : Same W W') => zhj (rt := 4) (P := prog) (s := Rows.homesWordsSpec) (f := Tryz.f3) laid (by rw [Tryz.params3]; kernel_rfl) rfl rfl underlying4 (fun ds gs h => by
  rw [Tryz.params3] at h
  obtain ⟨w0, k, y, l, _, _, _, rfl, _, _, b⟩ := trodAll_cons h
  obtain ⟨_, rfl, _⟩ := trodAll_nil b
  rfl) d a
 obtain ⟨p, q, c, z, rfl, m, n⟩ := d
 have g : DataW.TrodAll enc prog W 0 (fun _ => true) true Tryz.f3.params.toList args.toList ds p := c
 rw [Tryz.params3] at g hval
 obtain ⟨i, vs0, A, o, B, C, hargs, rfl, rfl, b, r⟩ := trodAll_cons g
 obtain ⟨rfl, rfl, rfl⟩ := trodAll_nil r
 obtain rfl : args = #[i] := by cases args; simp_all
 obtain ⟨D, u, w⟩ := zbt q6x rfl (by rw [underlying25]) (hval 0 25 i rfl rfl) b
 refine (zg6 (zbz (N := 1000000) u (zsu w)) (fun v R' h => h)).mono fun e W' ⟨x, a⟩ => ?_
 exact ⟨_, x, hpost W' a⟩
theorem lifted_HomesWordsProved (os : Os) (started : os.Started) (H : Type) (enc : TypeId × Value → H) :
 ReturnsInHanded {} Tryz.checked os 3 .any (Rows.homesWordsSpec.pre6 enc prog Tryz.f3 Rows.homesWordsRow.domain false) (Rows.homesWordsSpec.post enc prog Tryz.f3 false true false false) := by
 refine returnsInHanded_of_change (C := Tryz.checked) (s := Rows.homesWordsSpec) own_HomesWordsProved started (by kernel_rfl) func3
  (ChangeSpec.witness6 (enc := enc) (C := Tryz.checked) (s := Rows.homesWordsSpec) false ⟨#[], #[(.agg #[(.int .u8 0), (.int .u8 0), (.int .u8 0), (.slice none 0 0), (.slice none 0 0)])], []⟩ 30 (by kernel_rfl) (by kernel_rfl) (by kernel_rfl) (by kernel_rfl)) ?_
 intro W base args ds gs before hval a _ _
 exact contract_HomesWordsProved H enc W base args ds gs before hval a
theorem HomesWordsProved_holds : Rows.homesWordsRow.holds Tryz.pinned (OpenSpec.ofChange Rows.homesWordsSpec) :=
 OpenClaim.holds_of_wide 3 Tryz.f3 rfl rfl rfl rfl rfl rfl rfl ⟨rfl, rfl, rfl, rfl, rfl⟩ rfl rfl rfl rfl rfl (by kernel_rfl) func3 (by kernel_rfl)
  (of_decide_eq_true (by kernel_rfl)) (by unfold Func.isWrapper; first | (rw [if_pos (by decide +kernel)]; kernel_rfl) | (rw [if_neg (by decide +kernel)]; exact ⟨rfl, rfl⟩))
  (fun os started H enc _ => lifted_HomesWordsProved os started H enc)
end GV
theorem HomesWordsProved : Rows.HomesWordsSaid := GV.HomesWordsProved_holds
end Go.Proofs.YtjmlpkkbmnjhcaaGreat
