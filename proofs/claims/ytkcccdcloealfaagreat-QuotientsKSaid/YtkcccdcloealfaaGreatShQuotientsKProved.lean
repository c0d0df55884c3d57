/- The law gauntlet/gauntletlaw09.QuotientsK: for every input it returns true, and each argument reads as it did; the program's walk and the law of the plain program joined. -/
import Derived.Test.YtkcccdcloealfaaGreatShXl
import Derived.Test.YtkcccdcloealfaaGreatShBridge
import Derived.Test.YtkcccdcloealfaaGreatShOpens
import Derived.Test.YtkcccdcloealfaaGreatLaw09b
set_option linter.unusedVariables false
set_option linter.unusedSimpArgs false
namespace Go.Proofs.YtkcccdcloealfaaGreat
namespace GV
open Go.ChangeShapes Go.WideShapes Go.ChangeAt Go.RowKit
set_option maxRecDepth 100000
theorem own_QuotientsKProved : ownKnob Tryz.prog.godebug = none := by kernel_rfl
theorem contract_QuotientsKProved (H : Type) (enc : TypeId × Value → H) (W : World) (base : Nat) (args : Array Value) (ds gs : List (DataW H)) (before : List MemPlace)
    (hval : ∀ (j : Nat) t v, Tryz.f7.params[j]? = some t → args[j]? = some v → Value.okWide Tryz.prog W .any base t v)
    (hW : DataW.Whole enc Tryz.prog Tryz.f7.params.toList Rows.quotientsKSpec.vars false W args.toList ds gs before) :
    Calls Tryz.prog 7 args W fun e W' => ∃ v, e = .returned v ∧ Rows.quotientsKSpec.post enc Tryz.prog Tryz.f7 false true false false W args v W' := by
  have hpost := fun W' (hs : Same W W') => zd9 (rt := 4) (P := Tryz.prog) (s := Rows.quotientsKSpec) (f := Tryz.f7) laid (by rw [Tryz.params7]; kernel_rfl) rfl rfl Tryz.underlying4 (fun ds gs h => by
    rw [Tryz.params7] at h
    obtain ⟨w0, ws0, e0, es0, _, _, _, rfl, _, _, h0⟩ := trodAll_cons h
    obtain ⟨_, rfl, _⟩ := trodAll_nil h0
    rfl) hW hs
  obtain ⟨p, q, hA0, hV, rfl, hfz, hnd⟩ := hW
  have hA : DataW.TrodAll enc Tryz.prog W 0 (fun _ => true) true Tryz.f7.params.toList args.toList ds p := hA0
  rw [Tryz.params7] at hA hval
  obtain ⟨v0, vs0, d0, ds0, p0, q0, hargs, rfl, rfl, h0, r0⟩ := trodAll_cons hA
  obtain ⟨rfl, rfl, rfl⟩ := trodAll_nil r0
  obtain rfl : args = #[v0] := by cases args; simp_all
  obtain ⟨a0, g0, k0⟩ := z6s q5d rfl (by rw [Tryz.underlying59]) (hval 0 59 v0 rfl rfl) h0
  refine (zbp (z9y (N := 2000) g0 (q1t k0)) (fun v R' h => h)).mono fun e W' ⟨he, hs⟩ => ?_
  exact ⟨_, he, hpost W' hs⟩
theorem lifted_QuotientsKProved (os : Os) (started : os.Started) (H : Type) (enc : TypeId × Value → H) :
    ReturnsInHanded {} Tryz.checked os 7 .any (Rows.quotientsKSpec.pre6 enc Tryz.prog Tryz.f7 Rows.quotientsKRow.domain false) (Rows.quotientsKSpec.post enc Tryz.prog Tryz.f7 false true false false) := by
  refine returnsInHanded_of_change (C := Tryz.checked) (s := Rows.quotientsKSpec) own_QuotientsKProved started (by kernel_rfl) Tryz.func7
    (ChangeSpec.witness6 (enc := enc) (C := Tryz.checked) (s := Rows.quotientsKSpec) false ⟨#[], #[(.agg #[(.int .u8 0), (.int .u8 0), (.int .u8 0), (.slice none 0 0), (.slice none 0 0)])], []⟩ 30 (by kernel_rfl) (by kernel_rfl) (by kernel_rfl) (by kernel_rfl)) ?_
  intro W base args ds gs before hval hW _ _
  exact contract_QuotientsKProved H enc W base args ds gs before hval hW
theorem QuotientsKProved_holds : Rows.quotientsKRow.holds Tryz.pinned (OpenSpec.ofChange Rows.quotientsKSpec) :=
  OpenClaim.holds_of_wide 7 Tryz.f7 rfl rfl rfl rfl rfl rfl rfl ⟨rfl, rfl, rfl, rfl, rfl⟩ rfl rfl rfl rfl rfl (by kernel_rfl) Tryz.func7 (by kernel_rfl)
    (of_decide_eq_true (by kernel_rfl)) (by unfold Func.isWrapper; first | (rw [if_pos (by decide +kernel)]; kernel_rfl) | (rw [if_neg (by decide +kernel)]; exact ⟨rfl, rfl⟩))
    (fun os started H enc _ => lifted_QuotientsKProved os started H enc)
end GV
theorem QuotientsKProved : Rows.QuotientsKSaid := GV.QuotientsKProved_holds
end Go.Proofs.YtkcccdcloealfaaGreat
