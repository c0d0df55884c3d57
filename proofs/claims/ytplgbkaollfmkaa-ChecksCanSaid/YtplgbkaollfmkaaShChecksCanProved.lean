/- The law gauntlet/gauntletlaw39.ChecksCan: for every input it returns true, and each argument reads as it did; the program's walk and the law of the plain program joined. -/
import Derived.Test.YtplgbkaollfmkaaShLChecksCan
import Derived.Test.YtplgbkaollfmkaaShBridge
import Derived.Test.YtplgbkaollfmkaaShOpens
import Derived.Test.YtplgbkaollfmkaaLaw39r
set_option linter.unusedVariables false
set_option linter.unusedSimpArgs false
namespace Go.Proofs.Ytplgbkaollfmkaa
namespace GV
open Go.ChangeShapes Go.WideShapes Go.ChangeAt Go.RowKit
set_option maxRecDepth 100000
theorem own_ChecksCanProved : ownKnob Try.prog.godebug = none := by kernel_rfl
theorem contract_ChecksCanProved (H : Type) (enc : TypeId × Value → H) (W : World) (base : Nat) (args : Array Value) (ds gs : List (DataW H)) (before : List MemPlace)
    (hval : ∀ (j : Nat) t v, Try.f3.params[j]? = some t → args[j]? = some v → Value.okWide Try.prog W .any base t v)
    (hW : DataW.Whole enc Try.prog Try.f3.params.toList Rows.checksCanSpec.vars false W args.toList ds gs before) :
    Calls Try.prog 3 args W fun e W' => ∃ v, e = .returned v ∧ Rows.checksCanSpec.post enc Try.prog Try.f3 false true false false W args v W' := by
  have hpost := fun W' (hs : Same W W') => zk5 (rt := 4) (P := Try.prog) (s := Rows.checksCanSpec) (f := Try.f3) laid (by rw [Try.params3]; kernel_rfl) rfl rfl Try.underlying4 (fun ds gs h => by
    rw [Try.params3] at h
    obtain ⟨w0, ws0, e0, es0, _, _, _, rfl, _, _, h0⟩ := trodAll_cons h
    obtain ⟨w1, ws1, e1, es1, _, _, _, rfl, _, _, h1⟩ := trodAll_cons h0
    obtain ⟨_, rfl, _⟩ := trodAll_nil h1
    rfl) hW hs
  obtain ⟨p, q, hA0, hV, rfl, hfz, hnd⟩ := hW
  have hA : DataW.TrodAll enc Try.prog W 0 (fun _ => true) true Try.f3.params.toList args.toList ds p := hA0
  rw [Try.params3] at hA hval
  obtain ⟨v0, vs0, d0, ds0, p0, q0, hargs, rfl, rfl, h0, r0⟩ := trodAll_cons hA
  obtain ⟨v1, vs1, d1, ds1, p1, q1, rfl, rfl, rfl, h1, r1⟩ := trodAll_cons r0
  obtain ⟨rfl, rfl, rfl⟩ := trodAll_nil r1
  obtain rfl : args = #[v0, v1] := by cases args; simp_all
  obtain ⟨a0, g0, k0⟩ := zkf zzg rfl (by rw [Try.underlying24]) (hval 0 24 v0 rfl rfl) h0
  obtain ⟨a1, g1, k1⟩ := open_slice zwa Try.underlying25 (hval 1 25 v1 rfl rfl) h1
  refine (zho (z7e (N := 2000) g0 g1 (zqr k0 k1)) (fun v R' h => h)).mono fun e W' ⟨he, hs⟩ => ?_
  exact ⟨_, he, hpost W' hs⟩
theorem lifted_ChecksCanProved (os : Os) (started : os.Started) (H : Type) (enc : TypeId × Value → H) :
    ReturnsInHanded {} Try.checked os 3 .any (Rows.checksCanSpec.pre6 enc Try.prog Try.f3 Rows.checksCanRow.domain false) (Rows.checksCanSpec.post enc Try.prog Try.f3 false true false false) := by
  refine returnsInHanded_of_change (C := Try.checked) (s := Rows.checksCanSpec) own_ChecksCanProved started (by kernel_rfl) Try.func3
    (ChangeSpec.witness6 (enc := enc) (C := Try.checked) (s := Rows.checksCanSpec) false ⟨#[], #[(.agg #[(.int .i64 0), (.int .i64 0), (.slice none 0 0)]), (.slice none 0 0)], []⟩ 30 (by kernel_rfl) (by kernel_rfl) (by kernel_rfl) (by kernel_rfl)) ?_
  intro W base args ds gs before hval hW _ _
  exact contract_ChecksCanProved H enc W base args ds gs before hval hW
theorem ChecksCanProved_holds : Rows.checksCanRow.holds Try.pinned (OpenSpec.ofChange Rows.checksCanSpec) :=
  OpenClaim.holds_of_wide 3 Try.f3 rfl rfl rfl rfl rfl rfl rfl ⟨rfl, rfl, rfl, rfl, rfl⟩ rfl rfl rfl rfl rfl (by kernel_rfl) Try.func3 (by kernel_rfl)
    (of_decide_eq_true (by kernel_rfl)) (by unfold Func.isWrapper; first | (rw [if_pos (by decide +kernel)]; kernel_rfl) | (rw [if_neg (by decide +kernel)]; exact ⟨rfl, rfl⟩))
    (fun os started H enc _ => lifted_ChecksCanProved os started H enc)
end GV
theorem ChecksCanProved : Rows.ChecksCanSaid := GV.ChecksCanProved_holds
end Go.Proofs.Ytplgbkaollfmkaa
