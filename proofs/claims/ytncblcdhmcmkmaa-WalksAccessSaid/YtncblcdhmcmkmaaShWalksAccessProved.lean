/- The law gauntlet/gauntletlaw06.WalksAccess: for every input it returns true, and each argument reads as it did; the program's walk and the law of the plain program joined. -/
import Derived.Test.YtncblcdhmcmkmaaShLWalksAccess
import Derived.Test.YtncblcdhmcmkmaaShBridge
import Derived.Test.YtncblcdhmcmkmaaLaw06b
namespace Go.Proofs.Ytncblcdhmcmkmaa
namespace GV
open Go.ChangeShapes Go.WideShapes Go.ChangeAt Go.RowKit
set_option linter.unusedVariables false
set_option maxRecDepth 100000
theorem own_WalksAccessProved : ownKnob Try.prog.godebug = none := by kernel_rfl
theorem contract_WalksAccessProved (H : Type) (enc : TypeId × Value → H) (W : World) (base : Nat) (args : Array Value) (ds gs : List (DataW H)) (before : List MemPlace)
    (hval : ∀ (j : Nat) t v, Try.f3.params[j]? = some t → args[j]? = some v → Value.okWide Try.prog W .any base t v)
    (hW : DataW.Whole enc Try.prog Try.f3.params.toList Rows.walksAccessSpec.vars false W args.toList ds gs before) :
    Calls Try.prog 3 args W fun e W' => ∃ v, e = .returned v ∧ Rows.walksAccessSpec.post enc Try.prog Try.f3 false true false false W args v W' := by
  have hpost := fun W' (hs : Same W W') => law_post (rt := 4) (P := Try.prog) (s := Rows.walksAccessSpec) (f := Try.f3) laid (by rw [Try.params3]; kernel_rfl) rfl rfl Try.underlying4 (fun ds gs h => by
    rw [Try.params3] at h
    obtain ⟨w0, ws0, e0, es0, _, _, _, rfl, _, _, h0⟩ := trodAll_cons h
    obtain ⟨_, rfl, _⟩ := trodAll_nil h0
    rfl) hW hs
  obtain ⟨p, q, hA0, hV, rfl, hfz, hnd⟩ := hW
  have hA : DataW.TrodAll enc Try.prog W 0 (fun _ => true) true Try.f3.params.toList args.toList ds p := hA0
  rw [Try.params3] at hA hval
  obtain ⟨v0, vs0, d0, ds0, p0, q0, hargs, rfl, rfl, h0, r0⟩ := trodAll_cons hA
  obtain ⟨rfl, rfl, rfl⟩ := trodAll_nil r0
  obtain rfl : args = #[v0] := by cases args; simp_all
  obtain ⟨a0, g0, k0⟩ := open_agg op24 rfl (by rw [Try.underlying24]) (hval 0 24 v0 rfl rfl) h0
  refine (law_calls (c_gauntletlaw06_WalksAccess (N := 2000) g0 (access_said k0)) (fun v R' h => h)).mono fun e W' ⟨he, hs⟩ => ?_
  exact ⟨_, he, hpost W' hs⟩
theorem lifted_WalksAccessProved (os : Os) (started : os.Started) (H : Type) (enc : TypeId × Value → H) :
    ReturnsInHanded {} Try.checked os 3 .any (Rows.walksAccessSpec.pre6 enc Try.prog Try.f3 Rows.walksAccessRow.domain false) (Rows.walksAccessSpec.post enc Try.prog Try.f3 false true false false) := by
  refine returnsInHanded_of_change (C := Try.checked) (s := Rows.walksAccessSpec) own_WalksAccessProved started (by kernel_rfl) Try.func3
    (ChangeSpec.witness6 (enc := enc) (C := Try.checked) (s := Rows.walksAccessSpec) false ⟨#[], #[(.agg #[(.int .u8 0), (.int .u8 0), (.int .u8 0), (.bool false), (.slice none 0 0)])], []⟩ 30 (by kernel_rfl) (by kernel_rfl) (by kernel_rfl) (by kernel_rfl)) ?_
  intro W base args ds gs before hval hW _ _
  exact contract_WalksAccessProved H enc W base args ds gs before hval hW
theorem WalksAccessProved_holds : Rows.walksAccessRow.holds Try.pinned (OpenSpec.ofChange Rows.walksAccessSpec) :=
  OpenClaim.holds_of_wide 3 Try.f3 rfl rfl rfl rfl rfl rfl rfl ⟨rfl, rfl, rfl, rfl, rfl⟩ rfl rfl rfl rfl rfl (by kernel_rfl) Try.func3 (by kernel_rfl)
    (of_decide_eq_true (by kernel_rfl)) (by unfold Func.isWrapper; first | (rw [if_pos (by decide +kernel)]; kernel_rfl) | (rw [if_neg (by decide +kernel)]; exact ⟨rfl, rfl⟩))
    (fun os started H enc _ => lifted_WalksAccessProved os started H enc)
end GV
theorem WalksAccessProved : Rows.WalksAccessSaid := GV.WalksAccessProved_holds
end Go.Proofs.Ytncblcdhmcmkmaa
