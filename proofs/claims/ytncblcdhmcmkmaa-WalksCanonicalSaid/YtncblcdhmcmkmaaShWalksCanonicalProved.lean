/- The law gauntlet/gauntletlaw06.WalksCanonical: for every input it returns true, and each argument reads as it did; the program's walk and the law of the plain program joined. -/
import Derived.Test.YtncblcdhmcmkmaaShXk
import Derived.Test.YtncblcdhmcmkmaaShBridge
import Derived.Test.YtncblcdhmcmkmaaLaw06d
namespace Go.Proofs.Ytncblcdhmcmkmaa
namespace GV
open Go.ChangeShapes Go.WideShapes Go.ChangeAt Go.RowKit
set_option linter.unusedVariables false
set_option maxRecDepth 100000
theorem own_WalksCanonicalProved : ownKnob Try.prog.godebug = none := by kernel_rfl
theorem contract_WalksCanonicalProved (H : Type) (enc : TypeId × Value → H) (W : World) (base : Nat) (args : Array Value) (ds gs : List (DataW H)) (before : List MemPlace)
    (hval : ∀ (j : Nat) t v, Try.f6.params[j]? = some t → args[j]? = some v → Value.okWide Try.prog W .any base t v)
    (hW : DataW.Whole enc Try.prog Try.f6.params.toList Rows.walksCanonicalSpec.vars false W args.toList ds gs before) :
    Calls Try.prog 6 args W fun e W' => ∃ v, e = .returned v ∧ Rows.walksCanonicalSpec.post enc Try.prog Try.f6 false true false false W args v W' := by
  have hpost := fun W' (hs : Same W W') => law_post (rt := 4) (P := Try.prog) (s := Rows.walksCanonicalSpec) (f := Try.f6) laid (by rw [Try.params6]; kernel_rfl) rfl rfl Try.underlying4 (fun ds gs h => by
    rw [Try.params6] at h
    obtain ⟨w0, ws0, e0, es0, _, _, _, rfl, _, _, h0⟩ := trodAll_cons h
    obtain ⟨w1, ws1, e1, es1, _, _, _, rfl, _, _, h1⟩ := trodAll_cons h0
    obtain ⟨w2, ws2, e2, es2, _, _, _, rfl, _, _, h2⟩ := trodAll_cons h1
    obtain ⟨_, rfl, _⟩ := trodAll_nil h2
    rfl) hW hs
  obtain ⟨p, q, hA0, hV, rfl, hfz, hnd⟩ := hW
  have hA : DataW.TrodAll enc Try.prog W 0 (fun _ => true) true Try.f6.params.toList args.toList ds p := hA0
  rw [Try.params6] at hA hval
  obtain ⟨v0, vs0, d0, ds0, p0, q0, hargs, rfl, rfl, h0, r0⟩ := trodAll_cons hA
  obtain ⟨v1, vs1, d1, ds1, p1, q1, rfl, rfl, rfl, h1, r1⟩ := trodAll_cons r0
  obtain ⟨v2, vs2, d2, ds2, p2, q2, rfl, rfl, rfl, h2, r2⟩ := trodAll_cons r1
  obtain ⟨rfl, rfl, rfl⟩ := trodAll_nil r2
  obtain rfl : args = #[v0, v1, v2] := by cases args; simp_all
  obtain ⟨a0, g0, k0⟩ := open_agg op24 rfl (by rw [Try.underlying24]) (hval 0 24 v0 rfl rfl) h0
  obtain ⟨a1, g1, k1⟩ := open_agg op54 rfl (by rw [Try.underlying54]) (hval 1 54 v1 rfl rfl) h1
  obtain ⟨a2, g2, k2⟩ := open_slice op52 Try.underlying52 (hval 2 52 v2 rfl rfl) h2
  refine (law_calls (c_gauntletlaw06_WalksCanonical (N := 2000) g0 g1 g2 (canonical_said k0 k1 k2)) (fun v R' h => h)).mono fun e W' ⟨he, hs⟩ => ?_
  exact ⟨_, he, hpost W' hs⟩
theorem lifted_WalksCanonicalProved (os : Os) (started : os.Started) (H : Type) (enc : TypeId × Value → H) :
    ReturnsInHanded {} Try.checked os 6 .any (Rows.walksCanonicalSpec.pre6 enc Try.prog Try.f6 Rows.walksCanonicalRow.domain false) (Rows.walksCanonicalSpec.post enc Try.prog Try.f6 false true false false) := by
  refine returnsInHanded_of_change (C := Try.checked) (s := Rows.walksCanonicalSpec) own_WalksCanonicalProved started (by kernel_rfl) Try.func6
    (ChangeSpec.witness6 (enc := enc) (C := Try.checked) (s := Rows.walksCanonicalSpec) false ⟨#[], #[(.agg #[(.int .u8 0), (.int .u8 0), (.int .u8 0), (.bool false), (.slice none 0 0)]), (.agg #[(.slice none 0 0)]), (.slice none 0 0)], []⟩ 30 (by kernel_rfl) (by kernel_rfl) (by kernel_rfl) (by kernel_rfl)) ?_
  intro W base args ds gs before hval hW _ _
  exact contract_WalksCanonicalProved H enc W base args ds gs before hval hW
theorem WalksCanonicalProved_holds : Rows.walksCanonicalRow.holds Try.pinned (OpenSpec.ofChange Rows.walksCanonicalSpec) :=
  OpenClaim.holds_of_wide 6 Try.f6 rfl rfl rfl rfl rfl rfl rfl ⟨rfl, rfl, rfl, rfl, rfl⟩ rfl rfl rfl rfl rfl (by kernel_rfl) Try.func6 (by kernel_rfl)
    (of_decide_eq_true (by kernel_rfl)) (by unfold Func.isWrapper; first | (rw [if_pos (by decide +kernel)]; kernel_rfl) | (rw [if_neg (by decide +kernel)]; exact ⟨rfl, rfl⟩))
    (fun os started H enc _ => lifted_WalksCanonicalProved os started H enc)
end GV
theorem WalksCanonicalProved : Rows.WalksCanonicalSaid := GV.WalksCanonicalProved_holds
end Go.Proofs.Ytncblcdhmcmkmaa
