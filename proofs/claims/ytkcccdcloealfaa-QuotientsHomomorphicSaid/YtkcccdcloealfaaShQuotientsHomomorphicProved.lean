/- The law gauntlet/gauntletlaw09.QuotientsHomomorphic: for every input it returns true, and each argument reads as it did; the program's walk and the law of the plain program joined. -/
import Derived.Test.YtkcccdcloealfaaShLQuotientsHomomorphic
import Derived.Test.YtkcccdcloealfaaShBridge
import Derived.Test.YtkcccdcloealfaaShOpens
import Derived.Test.YtkcccdcloealfaaLaw09y
set_option linter.unusedVariables false
set_option linter.unusedSimpArgs false
namespace Go.Proofs.Ytkcccdcloealfaa
namespace GV
open Go.ChangeShapes Go.WideShapes Go.ChangeAt Go.RowKit
set_option maxRecDepth 100000
theorem own_QuotientsHomomorphicProved : ownKnob Try.prog.godebug = none := by kernel_rfl
theorem contract_QuotientsHomomorphicProved (H : Type) (enc : TypeId × Value → H) (W : World) (base : Nat) (args : Array Value) (ds gs : List (DataW H)) (before : List MemPlace)
    (hval : ∀ (j : Nat) t v, Try.f4.params[j]? = some t → args[j]? = some v → Value.okWide Try.prog W .any base t v)
    (hW : DataW.Whole enc Try.prog Try.f4.params.toList Rows.quotientsHomomorphicSpec.vars false W args.toList ds gs before) :
    Calls Try.prog 4 args W fun e W' => ∃ v, e = .returned v ∧ Rows.quotientsHomomorphicSpec.post enc Try.prog Try.f4 false true false false W args v W' := by
  have hpost := fun W' (hs : Same W W') => zk0 (rt := 4) (P := Try.prog) (s := Rows.quotientsHomomorphicSpec) (f := Try.f4) laid (by rw [Try.params4]; kernel_rfl) rfl rfl Try.underlying4 (fun ds gs h => by
    rw [Try.params4] at h
    obtain ⟨w0, ws0, e0, es0, _, _, _, rfl, _, _, h0⟩ := trodAll_cons h
    obtain ⟨w1, ws1, e1, es1, _, _, _, rfl, _, _, h1⟩ := trodAll_cons h0
    obtain ⟨w2, ws2, e2, es2, _, _, _, rfl, _, _, h2⟩ := trodAll_cons h1
    obtain ⟨_, rfl, _⟩ := trodAll_nil h2
    rfl) hW hs
  obtain ⟨p, q, hA0, hV, rfl, hfz, hnd⟩ := hW
  have hA : DataW.TrodAll enc Try.prog W 0 (fun _ => true) true Try.f4.params.toList args.toList ds p := hA0
  rw [Try.params4] at hA hval
  obtain ⟨v0, vs0, d0, ds0, p0, q0, hargs, rfl, rfl, h0, r0⟩ := trodAll_cons hA
  obtain ⟨v1, vs1, d1, ds1, p1, q1, rfl, rfl, rfl, h1, r1⟩ := trodAll_cons r0
  obtain ⟨v2, vs2, d2, ds2, p2, q2, rfl, rfl, rfl, h2, r2⟩ := trodAll_cons r1
  obtain ⟨rfl, rfl, rfl⟩ := trodAll_nil r2
  obtain rfl : args = #[v0, v1, v2] := by cases args; simp_all
  obtain ⟨a0, g0, k0⟩ := zei zx5 rfl (by rw [Try.underlying43]) (hval 0 43 v0 rfl rfl) h0
  obtain ⟨a1, g1, k1⟩ := open_slice zx7 Try.underlying39 (hval 1 39 v1 rfl rfl) h1
  obtain ⟨a2, g2, k2⟩ := zei zyk rfl (by rw [Try.underlying46]) (hval 2 46 v2 rfl rfl) h2
  refine (zfv (z16 (N := 2000) g0 g1 g2 (zc7 k0 k1 k2)) (fun v R' h => h)).mono fun e W' ⟨he, hs⟩ => ?_
  exact ⟨_, he, hpost W' hs⟩
theorem lifted_QuotientsHomomorphicProved (os : Os) (started : os.Started) (H : Type) (enc : TypeId × Value → H) :
    ReturnsInHanded {} Try.checked os 4 .any (Rows.quotientsHomomorphicSpec.pre6 enc Try.prog Try.f4 Rows.quotientsHomomorphicRow.domain false) (Rows.quotientsHomomorphicSpec.post enc Try.prog Try.f4 false true false false) := by
  refine returnsInHanded_of_change (C := Try.checked) (s := Rows.quotientsHomomorphicSpec) own_QuotientsHomomorphicProved started (by kernel_rfl) Try.func4
    (ChangeSpec.witness6 (enc := enc) (C := Try.checked) (s := Rows.quotientsHomomorphicSpec) false ⟨#[], #[(.agg #[(.int .u8 0), (.int .u8 0), (.int .u8 0), (.bool false), (.slice none 0 0), (.int .u8 0), (.int .u8 0), (.int .u8 0), (.bool false), (.slice none 0 0)]), (.slice none 0 0), (.agg #[(.slice none 0 0)])], []⟩ 30 (by kernel_rfl) (by kernel_rfl) (by kernel_rfl) (by kernel_rfl)) ?_
  intro W base args ds gs before hval hW _ _
  exact contract_QuotientsHomomorphicProved H enc W base args ds gs before hval hW
theorem QuotientsHomomorphicProved_holds : Rows.quotientsHomomorphicRow.holds Try.pinned (OpenSpec.ofChange Rows.quotientsHomomorphicSpec) :=
  OpenClaim.holds_of_wide 4 Try.f4 rfl rfl rfl rfl rfl rfl rfl ⟨rfl, rfl, rfl, rfl, rfl⟩ rfl rfl rfl rfl rfl (by kernel_rfl) Try.func4 (by kernel_rfl)
    (of_decide_eq_true (by kernel_rfl)) (by unfold Func.isWrapper; first | (rw [if_pos (by decide +kernel)]; kernel_rfl) | (rw [if_neg (by decide +kernel)]; exact ⟨rfl, rfl⟩))
    (fun os started H enc _ => lifted_QuotientsHomomorphicProved os started H enc)
end GV
theorem QuotientsHomomorphicProved : Rows.QuotientsHomomorphicSaid := GV.QuotientsHomomorphicProved_holds
end Go.Proofs.Ytkcccdcloealfaa
