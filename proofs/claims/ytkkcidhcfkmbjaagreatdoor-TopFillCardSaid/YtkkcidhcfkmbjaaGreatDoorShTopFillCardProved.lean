/- The law gauntlet/gauntlettop.TopFill: for every input it returns true, and each argument reads as it did, in every world that holds the listed variables; its card. -/
import Derived.Test.YtkkcidhcfkmbjaaGreatDoorSaidF
import Derived.Test.YtkkcidhcfkmbjaaGreatDoorShWd
import Derived.Test.YtkkcidhcfkmbjaaGreatDoorLaid
import Derived.Test.YtkkcidhcfkmbjaaGreatDoorCards
import Derived.Test.YtkkcidhcfkmbjaaGreatDoorTie
set_option linter.unusedVariables false
set_option linter.unusedSimpArgs false
set_option linter.unusedSectionVars false
namespace Go.Proofs.YtkkcidhcfkmbjaaGreatDoor
namespace GV
open _root_.Go.Proofs.Tryz
open Go.ChangeShapes Go.WideShapes Go.ChangeAt Go.RowKit
set_option maxRecDepth 100000
theorem own_TopFillCardProved : ownKnob prog.godebug = none := by kernel_rfl
theorem contract_TopFillCardProved (H : Type) (enc : TypeId × Value → H) (W : World) (base : Nat) (args : Array Value) (ds gs : List (DataW H)) (before : List MemPlace)
 (hval : ∀ (j : Nat) t v, Tryz.f6.params[j]? = some t → args[j]? = some v → Value.okWide prog W .any base t v)
 (k : DataW.Whole enc prog Tryz.f6.params.toList Rows.topFillSpec.vars false W args.toList ds gs before) (r : laidMetH prog Rows.topFillRow.laid W) :
 Calls prog 6 args W fun e W' => ∃ v, e = .returned v ∧ Rows.topFillSpec.post enc prog Tryz.f6 false true false false W args v W' := by
 have a : AI.GR AI.Cc (rh0 W) := zhy r
 have hpost := fun W' (b : Same W W') => zm7 (rt := 4) (P := prog) (s := Rows.topFillSpec) (f := Tryz.f6) laid (by rw [Tryz.params6]; kernel_rfl) rfl rfl underlying4 (fun ds gs h => by
  rw [Tryz.params6] at h
  obtain ⟨w0, u, T, w, _, _, _, rfl, _, _, c⟩ := trodAll_cons h
  obtain ⟨U, x, V, y, _, _, _, rfl, _, _, d⟩ := trodAll_cons c
  obtain ⟨X, z, Y, A, _, _, _, rfl, _, _, g⟩ := trodAll_cons d
  obtain ⟨_, rfl, _⟩ := trodAll_nil g
  rfl) k b
 obtain ⟨p, q, i, Z, rfl, B, C⟩ := k
 have l : DataW.TrodAll enc prog W 0 (fun _ => true) true Tryz.f6.params.toList args.toList ds p := i
 rw [Tryz.params6] at l hval
 obtain ⟨m, vs0, d0, D, p0, q0, hargs, rfl, rfl, c, E⟩ := trodAll_cons l
 obtain ⟨n, F, d1, G, p1, q1, rfl, rfl, rfl, d, I⟩ := trodAll_cons E
 obtain ⟨o, J, d2, K, p2, q2, rfl, rfl, rfl, g, L⟩ := trodAll_cons I
 obtain ⟨rfl, rfl, rfl⟩ := trodAll_nil L
 obtain rfl : args = #[m, n, o] := by cases args; simp_all
 obtain ⟨a0, M, O⟩ := zo5 zuv rfl (by rw [underlying24]) (hval 0 24 m rfl rfl) c
 obtain ⟨a1, rfl, rfl, rfl, Q⟩ := open_int underlying5 (hval 1 5 n rfl rfl) d
 obtain ⟨a2, rfl, rfl, rfl, R⟩ := open_int underlying5 (hval 2 5 o rfl rfl) g
 refine (zkq (z5r (N := 5000) M a (zlg O Q R)) (fun v R' h => h)).mono fun e W' ⟨S, b⟩ => ?_
 exact ⟨_, S, hpost W' b⟩
theorem reads_TopFillCardProved (os : Os) {H : Type} (enc : TypeId × Value → H) : ∃ places, DataW.whole enc prog ((laidWorld os).forCall (fun _ _ => 0) ⟨#[], #[((.agg #[(.int .u8 0), (.int .u8 0), (.int .u8 0), (.bool false), (.slice none 0 0)]) : Value), ((.int .u8 0) : Value), ((.int .u8 0) : Value)], []⟩).memory Tryz.f6.params.toList Rows.topFillSpec.vars false (#[((.agg #[(.int .u8 0), (.int .u8 0), (.int .u8 0), (.bool false), (.slice none 0 0)]) : Value), ((.int .u8 0) : Value), ((.int .u8 0) : Value)] : Array Value).toList 30 = some ([.agg [.lit (.int .u8 0), .lit (.int .u8 0), .lit (.int .u8 0), .lit (.bool false), .nil], .lit (.int .u8 0), .lit (.int .u8 0)], [], places) :=
 ⟨[], by kernel_rfl⟩
theorem lifted_TopFillCardProved (os : Os) (started : os.Started) (H : Type) (enc : TypeId × Value → H) (F : Stop.Interp) :
 ReturnsInHanded {} Tryz.checked os 6 .any ((OpenSpec.ofChange Rows.topFillSpec).preRow enc prog Tryz.f6 Rows.topFillRow.domain false Rows.topFillRow.laid) (((OpenSpec.ofChange Rows.topFillSpec).at F).post enc prog Tryz.f6 false true false false) := by
 obtain ⟨places, a⟩ := reads_TopFillCardProved os enc
 refine returnsInHanded_of_row (C := Tryz.checked) (s := OpenSpec.ofChange Rows.topFillSpec) own_TopFillCardProved started (by kernel_rfl) func6
  (witness_row_at (enc := enc) (C := Tryz.checked) false (laidWorld os) #[((.agg #[(.int .u8 0), (.int .u8 0), (.int .u8 0), (.bool false), (.slice none 0 0)]) : Value), ((.int .u8 0) : Value), ((.int .u8 0) : Value)] rfl (by kernel_rfl) (by kernel_rfl) (by kernel_rfl)
   (OpenSpec.preRow_of_cond 30 a (by kernel_rfl) (fun k b => by cases b) (by kernel_rfl) (zoj os _))) ?_
 intro W base args ds gs before hval c _ _ _ d _ _
 exact contract_TopFillCardProved H enc W base args ds gs before hval c d
theorem said_TopFillCardProved : Rows.TopFillSaid :=
 OpenClaim.holds_of_cond 6 Tryz.f6 rfl rfl rfl rfl rfl rfl rfl ⟨rfl, rfl, rfl, rfl, rfl⟩ rfl rfl rfl rfl rfl (by kernel_rfl) func6 (by kernel_rfl)
  (of_decide_eq_true (by kernel_rfl)) (by unfold Func.isWrapper; first | (rw [if_pos (by decide +kernel)]; kernel_rfl) | (rw [if_neg (by decide +kernel)]; exact ⟨rfl, rfl⟩))
  (fun os started H enc _ F => by rw [OpenClaim.pre_eq_preRow]; exact lifted_TopFillCardProved os started H enc F)
theorem z05 : prog.wantsStandIn 5 = false := by kernel_rfl
theorem z2v : prog.wantsStandIn 24 = false := by kernel_rfl
theorem looks_TopFillCardProved : prog.looks [] = true := by kernel_rfl
theorem named_TopFillCardProved : prog.funcNamed "gauntlet/gauntlettop.TopFill" = some 6 := by kernel_rfl
theorem plain_TopFillCardProved (g : FuncId) (fn : Func) (d : Tryz.pinned.checked.prog.funcNamed "gauntlet/gauntlettop.TopFill" = some g) (a : Tryz.pinned.checked.prog.funcs[g]? = some fn) :
 true = Tryz.pinned.checked.prog.looks [] ∧ ∀ (j : Nat) t, fn.params[j]? = some t → Tryz.pinned.checked.prog.wantsStandIn t = false := by
 obtain rfl : g = 6 := (Option.some.inj (named_TopFillCardProved.symm.trans d)).symm
 obtain rfl : fn = Tryz.f6 := (Option.some.inj (func6.symm.trans a)).symm
 refine ⟨looks_TopFillCardProved.symm, fun j t b => ?_⟩
 rw [Tryz.params6] at b
 have c := Array.mem_of_getElem? b
 simp only [List.mem_toArray, List.mem_cons, List.not_mem_nil, or_false] at c
 obtain (rfl | rfl | rfl) := c
 ·exact z2v
 ·exact z05
 ·exact z05
end GV
theorem TopFillCardProved : Rows.TopFillCardSaid :=
 Claim7.holds_tied_plain_at .later [] _ _ _ _ GV.said_TopFillCardProved (fun _ h => by cases h) (by kernel_rfl) (fun _ h => by cases h) topFill_row_tie rfl ⟨rfl, rfl⟩ (by kernel_rfl) rfl GV.plain_TopFillCardProved (by kernel_rfl)
end Go.Proofs.YtkkcidhcfkmbjaaGreatDoor
