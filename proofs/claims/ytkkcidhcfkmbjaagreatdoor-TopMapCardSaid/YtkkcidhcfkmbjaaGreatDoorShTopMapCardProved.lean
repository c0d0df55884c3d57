/- The law gauntlet/gauntlettop.TopMap: for every input it returns true, and each argument reads as it did, in every world that holds the listed variables; its card. -/
import Derived.Test.YtkkcidhcfkmbjaaGreatDoorSaidM
import Derived.Test.YtkkcidhcfkmbjaaGreatDoorShWe
import Derived.Test.YtkkcidhcfkmbjaaGreatDoorLaid
import Derived.Test.YtkkcidhcfkmbjaaGreatDoorCards
import Derived.Test.YtkkcidhcfkmbjaaGreatDoorTie
set_option linter.unusedVariables false
set_option linter.unusedSimpArgs false
set_option linter.unusedSectionVars false
namespace Go.Proofs.YtkkcidhcfkmbjaaGreatDoor
namespace GV
open _root_.Go.Proofs.Tryz
open Go.ChangeShapes Go.WideShapes Go.ChangeAt Go.RowKit
set_option maxRecDepth 100000
theorem own_TopMapCardProved : ownKnob prog.godebug = none := by kernel_rfl
theorem contract_TopMapCardProved (H : Type) (enc : TypeId × Value → H) (W : World) (base : Nat) (args : Array Value) (ds gs : List (DataW H)) (before : List MemPlace)
 (hval : ∀ (j : Nat) t v, Tryz.f7.params[j]? = some t → args[j]? = some v → Value.okWide prog W .any base t v)
 (g : DataW.Whole enc prog Tryz.f7.params.toList Rows.topMapSpec.vars false W args.toList ds gs before) (l : laidMetH prog Rows.topMapRow.laid W) :
 Calls prog 7 args W fun e W' => ∃ v, e = .returned v ∧ Rows.topMapSpec.post enc prog Tryz.f7 false true false false W args v W' := by
 have a : AI.GR AI.Cc (rh0 W) := zn0 l
 have hpost := fun W' (b : Same W W') => ztj (rt := 4) (P := prog) (s := Rows.topMapSpec) (f := Tryz.f7) laid (by rw [Tryz.params7]; kernel_rfl) rfl rfl underlying4 (fun ds gs h => by
  rw [Tryz.params7] at h
  obtain ⟨w0, m, A, n, _, _, _, rfl, _, _, c⟩ := trodAll_cons h
  obtain ⟨_, rfl, _⟩ := trodAll_nil c
  rfl) g b
 obtain ⟨p, q, d, B, rfl, o, r⟩ := g
 have i : DataW.TrodAll enc prog W 0 (fun _ => true) true Tryz.f7.params.toList args.toList ds p := d
 rw [Tryz.params7] at i hval
 obtain ⟨k, vs0, C, u, D, E, hargs, rfl, rfl, c, w⟩ := trodAll_cons i
 obtain ⟨rfl, rfl, rfl⟩ := trodAll_nil w
 obtain rfl : args = #[k] := by cases args; simp_all
 obtain ⟨F, x, y⟩ := zrr q1d rfl (by rw [underlying29]) (hval 0 29 k rfl rfl) c
 refine (zpq (z9c (N := 5000) x a (ztf y)) (fun v R' h => h)).mono fun e W' ⟨z, b⟩ => ?_
 exact ⟨_, z, hpost W' b⟩
theorem reads_TopMapCardProved (os : Os) {H : Type} (enc : TypeId × Value → H) : ∃ places, DataW.whole enc prog ((laidWorld os).forCall (fun _ _ => 0) ⟨#[], #[((.agg #[(.int .u8 0), (.int .u8 0), (.int .u8 0), (.bool false), (.slice none 0 0), (.int .u8 0), (.int .u8 0), (.int .u8 0), (.bool false), (.slice none 0 0), (.bool false), (.int .u8 0), (.int .u8 0), (.int .u8 0), (.int .u8 0), (.int .i64 0), (.int .i64 0)]) : Value)], []⟩).memory Tryz.f7.params.toList Rows.topMapSpec.vars false (#[((.agg #[(.int .u8 0), (.int .u8 0), (.int .u8 0), (.bool false), (.slice none 0 0), (.int .u8 0), (.int .u8 0), (.int .u8 0), (.bool false), (.slice none 0 0), (.bool false), (.int .u8 0), (.int .u8 0), (.int .u8 0), (.int .u8 0), (.int .i64 0), (.int .i64 0)]) : Value)] : Array Value).toList 30 = some ([.agg [.agg [.lit (.int .u8 0), .lit (.int .u8 0), .lit (.int .u8 0), .lit (.bool false), .nil], .agg [.lit (.int .u8 0), .lit (.int .u8 0), .lit (.int .u8 0), .lit (.bool false), .nil], .lit (.bool false), .agg [.lit (.int .u8 0), .lit (.int .u8 0)], .agg [.lit (.int .u8 0), .lit (.int .u8 0)], .agg [.lit (.int .i64 0), .lit (.int .i64 0)]]], [], places) :=
 ⟨[], by kernel_rfl⟩
theorem lifted_TopMapCardProved (os : Os) (started : os.Started) (H : Type) (enc : TypeId × Value → H) (F : Stop.Interp) :
 ReturnsInHanded {} Tryz.checked os 7 .any ((OpenSpec.ofChange Rows.topMapSpec).preRow enc prog Tryz.f7 Rows.topMapRow.domain false Rows.topMapRow.laid) (((OpenSpec.ofChange Rows.topMapSpec).at F).post enc prog Tryz.f7 false true false false) := by
 obtain ⟨places, a⟩ := reads_TopMapCardProved os enc
 refine returnsInHanded_of_row (C := Tryz.checked) (s := OpenSpec.ofChange Rows.topMapSpec) own_TopMapCardProved started (by kernel_rfl) func7
  (witness_row_at (enc := enc) (C := Tryz.checked) false (laidWorld os) #[((.agg #[(.int .u8 0), (.int .u8 0), (.int .u8 0), (.bool false), (.slice none 0 0), (.int .u8 0), (.int .u8 0), (.int .u8 0), (.bool false), (.slice none 0 0), (.bool false), (.int .u8 0), (.int .u8 0), (.int .u8 0), (.int .u8 0), (.int .i64 0), (.int .i64 0)]) : Value)] rfl (by kernel_rfl) (by kernel_rfl) (by kernel_rfl)
   (OpenSpec.preRow_of_cond 30 a (by kernel_rfl) (fun k b => by cases b) (by kernel_rfl) (zss os _))) ?_
 intro W base args ds gs before hval c _ _ _ d _ _
 exact contract_TopMapCardProved H enc W base args ds gs before hval c d
set_option maxHeartbeats 20000000 in
theorem said_TopMapCardProved : Rows.TopMapSaid :=
 OpenClaim.holds_of_cond 7 Tryz.f7 rfl rfl rfl rfl rfl rfl rfl ⟨rfl, rfl, rfl, rfl, rfl⟩ rfl rfl rfl rfl rfl (by as_aux_lemma => kernel_rfl) func7 (by as_aux_lemma => kernel_rfl)
  (of_decide_eq_true (by as_aux_lemma => kernel_rfl)) (by as_aux_lemma => unfold Func.isWrapper; first | (rw [if_pos (by decide +kernel)]; kernel_rfl) | (rw [if_neg (by decide +kernel)]; exact ⟨rfl, rfl⟩))
  (fun os started H enc _ F => by rw [OpenClaim.pre_eq_preRow]; exact lifted_TopMapCardProved os started H enc F)
theorem z6b : prog.wantsStandIn 29 = false := by kernel_rfl
theorem looks_TopMapCardProved : prog.looks [] = true := by kernel_rfl
theorem named_TopMapCardProved : prog.funcNamed "gauntlet/gauntlettop.TopMap" = some 7 := by kernel_rfl
theorem plain_TopMapCardProved (g : FuncId) (fn : Func) (d : Tryz.pinned.checked.prog.funcNamed "gauntlet/gauntlettop.TopMap" = some g) (a : Tryz.pinned.checked.prog.funcs[g]? = some fn) :
 true = Tryz.pinned.checked.prog.looks [] ∧ ∀ (j : Nat) t, fn.params[j]? = some t → Tryz.pinned.checked.prog.wantsStandIn t = false := by
 obtain rfl : g = 7 := (Option.some.inj (named_TopMapCardProved.symm.trans d)).symm
 obtain rfl : fn = Tryz.f7 := (Option.some.inj (func7.symm.trans a)).symm
 refine ⟨looks_TopMapCardProved.symm, fun j t b => ?_⟩
 rw [Tryz.params7] at b
 have c := Array.mem_of_getElem? b
 simp only [List.mem_toArray, List.mem_cons, List.not_mem_nil, or_false] at c
 subst c
 exact z6b
end GV
theorem TopMapCardProved : Rows.TopMapCardSaid :=
 Claim7.holds_tied_plain_at .later [] _ _ _ _ GV.said_TopMapCardProved (fun _ h => by cases h) (by kernel_rfl) (fun _ h => by cases h) topMap_row_tie rfl ⟨rfl, rfl⟩ (by kernel_rfl) rfl GV.plain_TopMapCardProved (by kernel_rfl)
end Go.Proofs.YtkkcidhcfkmbjaaGreatDoor
