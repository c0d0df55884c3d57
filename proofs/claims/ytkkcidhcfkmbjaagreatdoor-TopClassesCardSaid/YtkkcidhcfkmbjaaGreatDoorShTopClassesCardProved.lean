/- The law gauntlet/gauntlettop.TopClasses: for every input it returns true, and each argument reads as it did, in every world that holds the listed variables; its card. -/
import Derived.Test.YtkkcidhcfkmbjaaGreatDoorSaidC
import Derived.Test.YtkkcidhcfkmbjaaGreatDoorShWc
import Derived.Test.YtkkcidhcfkmbjaaGreatDoorLaid
import Derived.Test.YtkkcidhcfkmbjaaGreatDoorCards
import Derived.Test.YtkkcidhcfkmbjaaGreatDoorTie
set_option linter.unusedVariables false
set_option linter.unusedSimpArgs false
set_option linter.unusedSectionVars false
namespace Go.Proofs.YtkkcidhcfkmbjaaGreatDoor
namespace GV
open _root_.Go.Proofs.Tryz
open Go.ChangeShapes Go.WideShapes Go.ChangeAt Go.RowKit
set_option maxRecDepth 100000
theorem own_TopClassesCardProved : ownKnob prog.godebug = none := by kernel_rfl
theorem contract_TopClassesCardProved (H : Type) (enc : TypeId × Value → H) (W : World) (base : Nat) (args : Array Value) (ds gs : List (DataW H)) (before : List MemPlace)
 (hval : ∀ (j : Nat) t v, Tryz.f4.params[j]? = some t → args[j]? = some v → Value.okWide prog W .any base t v)
 (g : DataW.Whole enc prog Tryz.f4.params.toList Rows.topClassesSpec.vars false W args.toList ds gs before) (l : laidMetH prog Rows.topClassesRow.laid W) :
 Calls prog 4 args W fun e W' => ∃ v, e = .returned v ∧ Rows.topClassesSpec.post enc prog Tryz.f4 false true false false W args v W' := by
 have a : AI.GR AI.Cc (rh0 W) := zf5 l
 have hpost := fun W' (b : Same W W') => zk3 (rt := 4) (P := prog) (s := Rows.topClassesSpec) (f := Tryz.f4) laid (by rw [Tryz.params4]; kernel_rfl) rfl rfl underlying4 (fun ds gs h => by
  rw [Tryz.params4] at h
  obtain ⟨w0, m, A, n, _, _, _, rfl, _, _, c⟩ := trodAll_cons h
  obtain ⟨_, rfl, _⟩ := trodAll_nil c
  rfl) g b
 obtain ⟨p, q, d, B, rfl, o, r⟩ := g
 have i : DataW.TrodAll enc prog W 0 (fun _ => true) true Tryz.f4.params.toList args.toList ds p := d
 rw [Tryz.params4] at i hval
 obtain ⟨k, vs0, C, u, D, E, hargs, rfl, rfl, c, w⟩ := trodAll_cons i
 obtain ⟨rfl, rfl, rfl⟩ := trodAll_nil w
 obtain rfl : args = #[k] := by cases args; simp_all
 obtain ⟨F, x, y⟩ := zkv zpq rfl (by rw [underlying24]) (hval 0 24 k rfl rfl) c
 refine (zi3 (z1o (N := 5000) x a (zcw y)) (fun v R' h => h)).mono fun e W' ⟨z, b⟩ => ?_
 exact ⟨_, z, hpost W' b⟩
theorem reads_TopClassesCardProved (os : Os) {H : Type} (enc : TypeId × Value → H) : ∃ places, DataW.whole enc prog ((laidWorld os).forCall (fun _ _ => 0) ⟨#[], #[((.agg #[(.int .u8 0), (.int .u8 0), (.int .u8 0), (.bool false), (.slice none 0 0)]) : Value)], []⟩).memory Tryz.f4.params.toList Rows.topClassesSpec.vars false (#[((.agg #[(.int .u8 0), (.int .u8 0), (.int .u8 0), (.bool false), (.slice none 0 0)]) : Value)] : Array Value).toList 30 = some ([.agg [.lit (.int .u8 0), .lit (.int .u8 0), .lit (.int .u8 0), .lit (.bool false), .nil]], [], places) :=
 ⟨[], by kernel_rfl⟩
theorem lifted_TopClassesCardProved (os : Os) (started : os.Started) (H : Type) (enc : TypeId × Value → H) (F : Stop.Interp) :
 ReturnsInHanded {} Tryz.checked os 4 .any ((OpenSpec.ofChange Rows.topClassesSpec).preRow enc prog Tryz.f4 Rows.topClassesRow.domain false Rows.topClassesRow.laid) (((OpenSpec.ofChange Rows.topClassesSpec).at F).post enc prog Tryz.f4 false true false false) := by
 obtain ⟨places, a⟩ := reads_TopClassesCardProved os enc
 refine returnsInHanded_of_row (C := Tryz.checked) (s := OpenSpec.ofChange Rows.topClassesSpec) own_TopClassesCardProved started (by kernel_rfl) func4
  (witness_row_at (enc := enc) (C := Tryz.checked) false (laidWorld os) #[((.agg #[(.int .u8 0), (.int .u8 0), (.int .u8 0), (.bool false), (.slice none 0 0)]) : Value)] rfl (by kernel_rfl) (by kernel_rfl) (by kernel_rfl)
   (OpenSpec.preRow_of_cond 30 a (by kernel_rfl) (fun k b => by cases b) (by kernel_rfl) (zk8 os _))) ?_
 intro W base args ds gs before hval c _ _ _ d _ _
 exact contract_TopClassesCardProved H enc W base args ds gs before hval c d
theorem said_TopClassesCardProved : Rows.TopClassesSaid :=
 OpenClaim.holds_of_cond 4 Tryz.f4 rfl rfl rfl rfl rfl rfl rfl ⟨rfl, rfl, rfl, rfl, rfl⟩ rfl rfl rfl rfl rfl (by kernel_rfl) func4 (by kernel_rfl)
  (of_decide_eq_true (by kernel_rfl)) (by unfold Func.isWrapper; first | (rw [if_pos (by decide +kernel)]; kernel_rfl) | (rw [if_neg (by decide +kernel)]; exact ⟨rfl, rfl⟩))
  (fun os started H enc _ F => by rw [OpenClaim.pre_eq_preRow]; exact lifted_TopClassesCardProved os started H enc F)
theorem z0o : prog.wantsStandIn 24 = false := by kernel_rfl
theorem looks_TopClassesCardProved : prog.looks [] = true := by kernel_rfl
theorem named_TopClassesCardProved : prog.funcNamed "gauntlet/gauntlettop.TopClasses" = some 4 := by kernel_rfl
theorem plain_TopClassesCardProved (g : FuncId) (fn : Func) (d : Tryz.pinned.checked.prog.funcNamed "gauntlet/gauntlettop.TopClasses" = some g) (a : Tryz.pinned.checked.prog.funcs[g]? = some fn) :
 true = Tryz.pinned.checked.prog.looks [] ∧ ∀ (j : Nat) t, fn.params[j]? = some t → Tryz.pinned.checked.prog.wantsStandIn t = false := by
 obtain rfl : g = 4 := (Option.some.inj (named_TopClassesCardProved.symm.trans d)).symm
 obtain rfl : fn = Tryz.f4 := (Option.some.inj (func4.symm.trans a)).symm
 refine ⟨looks_TopClassesCardProved.symm, fun j t b => ?_⟩
 rw [Tryz.params4] at b
 have c := Array.mem_of_getElem? b
 simp only [List.mem_toArray, List.mem_cons, List.not_mem_nil, or_false] at c
 subst c
 exact z0o
end GV
theorem TopClassesCardProved : Rows.TopClassesCardSaid :=
 Claim7.holds_tied_plain_at .later [] _ _ _ _ GV.said_TopClassesCardProved (fun _ h => by cases h) (by kernel_rfl) (fun _ h => by cases h) topClasses_row_tie rfl ⟨rfl, rfl⟩ (by kernel_rfl) rfl GV.plain_TopClassesCardProved (by kernel_rfl)
end Go.Proofs.YtkkcidhcfkmbjaaGreatDoor
