/- The law gauntlet/gauntletlaw06.WalksC: for every input it returns true, and each argument reads as it did; the program's walk and the law of the plain program joined. -/
import Derived.Test.YtncblcdhmcmkmaaShXj
import Derived.Test.YtncblcdhmcmkmaaShBridge
import Derived.Test.YtncblcdhmcmkmaaLaw06e
namespace Go.Proofs.Ytncblcdhmcmkmaa
namespace GV
open Go.ChangeShapes Go.WideShapes Go.ChangeAt Go.RowKit
set_option linter.unusedVariables false
set_option maxRecDepth 100000
theorem own_WalksCProved : ownKnob Try.prog.godebug = none := by kernel_rfl
theorem contract_WalksCProved (H : Type) (enc : TypeId × Value → H) (W : World) (base : Nat) (args : Array Value) (ds gs : List (DataW H)) (before : List MemPlace)
    (hval : ∀ (j : Nat) t v, Try.f9.params[j]? = some t → args[j]? = some v → Value.okWide Try.prog W .any base t v)
    (hW : DataW.Whole enc Try.prog Try.f9.params.toList Rows.walksCSpec.vars false W args.toList ds gs before) :
    Calls Try.prog 9 args W fun e W' => ∃ v, e = .returned v ∧ Rows.walksCSpec.post enc Try.prog Try.f9 false true false false W args v W' := by
  have hpost := fun W' (hs : Same W W') => law_post (rt := 4) (P := Try.prog) (s := Rows.walksCSpec) (f := Try.f9) laid (by rw [Try.params9]; kernel_rfl) rfl rfl Try.underlying4 (fun ds gs h => by
    rw [Try.params9] at h
    obtain ⟨w0, ws0, e0, es0, _, _, _, rfl, _, _, h0⟩ := trodAll_cons h
    obtain ⟨_, rfl, _⟩ := trodAll_nil h0
    rfl) hW hs
  obtain ⟨p, q, hA0, hV, rfl, hfz, hnd⟩ := hW
  have hA : DataW.TrodAll enc Try.prog W 0 (fun _ => true) true Try.f9.params.toList args.toList ds p := hA0
  rw [Try.params9] at hA hval
  obtain ⟨v0, vs0, d0, ds0, p0, q0, hargs, rfl, rfl, h0, r0⟩ := trodAll_cons hA
  obtain ⟨rfl, rfl, rfl⟩ := trodAll_nil r0
  obtain rfl : args = #[v0] := by cases args; simp_all
  obtain ⟨a0, g0, k0⟩ := open_agg op77 rfl (by rw [Try.underlying77]) (hval 0 77 v0 rfl rfl) h0
  refine (law_calls (c_gauntletlaw06_WalksC (N := 2000) g0 (c_said k0)) (fun v R' h => h)).mono fun e W' ⟨he, hs⟩ => ?_
  exact ⟨_, he, hpost W' hs⟩
theorem lifted_WalksCProved (os : Os) (started : os.Started) (H : Type) (enc : TypeId × Value → H) :
    ReturnsInHanded {} Try.checked os 9 .any (Rows.walksCSpec.pre6 enc Try.prog Try.f9 Rows.walksCRow.domain false) (Rows.walksCSpec.post enc Try.prog Try.f9 false true false false) := by
  refine returnsInHanded_of_change (C := Try.checked) (s := Rows.walksCSpec) own_WalksCProved started (by kernel_rfl) Try.func9
    (ChangeSpec.witness6 (enc := enc) (C := Try.checked) (s := Rows.walksCSpec) false ⟨#[], #[(.agg #[(.int .u8 0), (.int .u8 0), (.int .u8 0), (.slice none 0 0), (.slice none 0 0)])], []⟩ 30 (by kernel_rfl) (by kernel_rfl) (by kernel_rfl) (by kernel_rfl)) ?_
  intro W base args ds gs before hval hW _ _
  exact contract_WalksCProved H enc W base args ds gs before hval hW
theorem WalksCProved_holds : Rows.walksCRow.holds Try.pinned (OpenSpec.ofChange Rows.walksCSpec) :=
  OpenClaim.holds_of_wide 9 Try.f9 rfl rfl rfl rfl rfl rfl rfl ⟨rfl, rfl, rfl, rfl, rfl⟩ rfl rfl rfl rfl rfl (by kernel_rfl) Try.func9 (by kernel_rfl)
    (of_decide_eq_true (by kernel_rfl)) (by unfold Func.isWrapper; first | (rw [if_pos (by decide +kernel)]; kernel_rfl) | (rw [if_neg (by decide +kernel)]; exact ⟨rfl, rfl⟩))
    (fun os started H enc _ => lifted_WalksCProved os started H enc)
end GV
theorem WalksCProved : Rows.WalksCSaid := GV.WalksCProved_holds
end Go.Proofs.Ytncblcdhmcmkmaa
