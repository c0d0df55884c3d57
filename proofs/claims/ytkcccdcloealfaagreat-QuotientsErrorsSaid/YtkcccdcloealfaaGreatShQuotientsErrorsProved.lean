/- The law gauntlet/gauntletlaw09.QuotientsErrors: for every input it returns true, and each argument reads as it did; the program's walk and the law of the plain program joined. -/
import Derived.Test.YtkcccdcloealfaaGreatShLQuotientsErrors
import Derived.Test.YtkcccdcloealfaaGreatShBridge
import Derived.Test.YtkcccdcloealfaaGreatShOpens
import Derived.Test.YtkcccdcloealfaaGreatLaw09b
set_option linter.unusedVariables false
set_option linter.unusedSimpArgs false
namespace Go.Proofs.YtkcccdcloealfaaGreat
namespace GV
open Go.ChangeShapes Go.WideShapes Go.ChangeAt Go.RowKit
set_option maxRecDepth 100000
theorem own_QuotientsErrorsProved : ownKnob Tryz.prog.godebug = none := by kernel_rfl
theorem contract_QuotientsErrorsProved (H : Type) (enc : TypeId × Value → H) (W : World) (base : Nat) (args : Array Value) (ds gs : List (DataW H)) (before : List MemPlace)
    (hval : ∀ (j : Nat) t v, Tryz.f6.params[j]? = some t → args[j]? = some v → Value.okWide Tryz.prog W .any base t v)
    (hW : DataW.Whole enc Tryz.prog Tryz.f6.params.toList Rows.quotientsErrorsSpec.vars false W args.toList ds gs before) :
    Calls Tryz.prog 6 args W fun e W' => ∃ v, e = .returned v ∧ Rows.quotientsErrorsSpec.post enc Tryz.prog Tryz.f6 false true false false W args v W' := by
  have hpost := fun W' (hs : Same W W') => zd9 (rt := 4) (P := Tryz.prog) (s := Rows.quotientsErrorsSpec) (f := Tryz.f6) laid (by rw [Tryz.params6]; kernel_rfl) rfl rfl Tryz.underlying4 (fun ds gs h => by
    rw [Tryz.params6] at h
    obtain ⟨w0, ws0, e0, es0, _, _, _, rfl, _, _, h0⟩ := trodAll_cons h
    obtain ⟨w1, ws1, e1, es1, _, _, _, rfl, _, _, h1⟩ := trodAll_cons h0
    obtain ⟨_, rfl, _⟩ := trodAll_nil h1
    rfl) hW hs
  obtain ⟨p, q, hA0, hV, rfl, hfz, hnd⟩ := hW
  have hA : DataW.TrodAll enc Tryz.prog W 0 (fun _ => true) true Tryz.f6.params.toList args.toList ds p := hA0
  rw [Tryz.params6] at hA hval
  obtain ⟨v0, vs0, d0, ds0, p0, q0, hargs, rfl, rfl, h0, r0⟩ := trodAll_cons hA
  obtain ⟨v1, vs1, d1, ds1, p1, q1, rfl, rfl, rfl, h1, r1⟩ := trodAll_cons r0
  obtain ⟨rfl, rfl, rfl⟩ := trodAll_nil r1
  obtain rfl : args = #[v0, v1] := by cases args; simp_all
  obtain ⟨a0, g0, k0⟩ := z6s q6r rfl (by rw [Tryz.underlying30]) (hval 0 30 v0 rfl rfl) h0
  obtain ⟨a1, g1, k1⟩ := z6s zzy rfl (by rw [Tryz.underlying24]) (hval 1 24 v1 rfl rfl) h1
  refine (zbp (z7a (N := 2000) g0 g1 (zo9 k0 k1)) (fun v R' h => h)).mono fun e W' ⟨he, hs⟩ => ?_
  exact ⟨_, he, hpost W' hs⟩
theorem lifted_QuotientsErrorsProved (os : Os) (started : os.Started) (H : Type) (enc : TypeId × Value → H) :
    ReturnsInHanded {} Tryz.checked os 6 .any (Rows.quotientsErrorsSpec.pre6 enc Tryz.prog Tryz.f6 Rows.quotientsErrorsRow.domain false) (Rows.quotientsErrorsSpec.post enc Tryz.prog Tryz.f6 false true false false) := by
  refine returnsInHanded_of_change (C := Tryz.checked) (s := Rows.quotientsErrorsSpec) own_QuotientsErrorsProved started (by kernel_rfl) Tryz.func6
    (ChangeSpec.witness6 (enc := enc) (C := Tryz.checked) (s := Rows.quotientsErrorsSpec) false ⟨#[], #[(.agg #[(.int .i64 0), (.int .i64 0), (.slice none 0 0)]), (.agg #[(.int .u8 0), (.int .u8 0), (.int .u8 0), (.bool false), (.slice none 0 0)])], []⟩ 30 (by kernel_rfl) (by kernel_rfl) (by kernel_rfl) (by kernel_rfl)) ?_
  intro W base args ds gs before hval hW _ _
  exact contract_QuotientsErrorsProved H enc W base args ds gs before hval hW
theorem QuotientsErrorsProved_holds : Rows.quotientsErrorsRow.holds Tryz.pinned (OpenSpec.ofChange Rows.quotientsErrorsSpec) :=
  OpenClaim.holds_of_wide 6 Tryz.f6 rfl rfl rfl rfl rfl rfl rfl ⟨rfl, rfl, rfl, rfl, rfl⟩ rfl rfl rfl rfl rfl (by kernel_rfl) Tryz.func6 (by kernel_rfl)
    (of_decide_eq_true (by kernel_rfl)) (by unfold Func.isWrapper; first | (rw [if_pos (by decide +kernel)]; kernel_rfl) | (rw [if_neg (by decide +kernel)]; exact ⟨rfl, rfl⟩))
    (fun os started H enc _ => lifted_QuotientsErrorsProved os started H enc)
end GV
theorem QuotientsErrorsProved : Rows.QuotientsErrorsSaid := GV.QuotientsErrorsProved_holds
end Go.Proofs.YtkcccdcloealfaaGreat
