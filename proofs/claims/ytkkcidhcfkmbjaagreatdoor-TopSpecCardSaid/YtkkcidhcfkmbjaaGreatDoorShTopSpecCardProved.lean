/- The law gauntlet/gauntlettop.TopSpec: for every input it returns true, and each argument reads as it did, in every world that holds the listed variables; its card. -/
import Derived.Test.YtkkcidhcfkmbjaaGreatDoorShWe
import Derived.Test.YtkkcidhcfkmbjaaGreatDoorSaidS
import Derived.Test.YtkkcidhcfkmbjaaGreatDoorLaid
import Derived.Test.YtkkcidhcfkmbjaaGreatDoorCards
import Derived.Test.YtkkcidhcfkmbjaaGreatDoorTie
set_option linter.unusedVariables false
set_option linter.unusedSimpArgs false
set_option linter.unusedSectionVars false
namespace Go.Proofs.YtkkcidhcfkmbjaaGreatDoor
namespace GV
open _root_.Go.Proofs.Tryz
open Go.ChangeShapes Go.WideShapes Go.ChangeAt Go.RowKit
set_option maxRecDepth 100000
theorem own_TopSpecCardProved : ownKnob prog.godebug = none := by kernel_rfl
theorem contract_TopSpecCardProved (H : Type) (enc : TypeId × Value → H) (W : World) (base : Nat) (args : Array Value) (ds gs : List (DataW H)) (before : List MemPlace)
 (hval : ∀ (j : Nat) t v, Tryz.f5.params[j]? = some t → args[j]? = some v → Value.okWide prog W .any base t v)
 (i : DataW.Whole enc prog Tryz.f5.params.toList Rows.topSpecSpec.vars false W args.toList ds gs before) (n : laidMetH prog Rows.topSpecRow.laid W) :
 Calls prog 5 args W fun e W' => ∃ v, e = .returned v ∧ Rows.topSpecSpec.post enc prog Tryz.f5 false true false false W args v W' := by
 have a : AI.GR AI.Cc (rh0 W) := ziq n
 have hpost := fun W' (b : Same W W') => znj (rt := 4) (P := prog) (s := Rows.topSpecSpec) (f := Tryz.f5) laid (by rw [Tryz.params5]; kernel_rfl) rfl rfl underlying4 (fun ds gs h => by
  rw [Tryz.params5] at h
  obtain ⟨w0, o, K, r, _, _, _, rfl, _, _, c⟩ := trodAll_cons h
  obtain ⟨L, u, M, w, _, _, _, rfl, _, _, d⟩ := trodAll_cons c
  obtain ⟨_, rfl, _⟩ := trodAll_nil d
  rfl) i b
 obtain ⟨p, q, g, O, rfl, x, y⟩ := i
 have k : DataW.TrodAll enc prog W 0 (fun _ => true) true Tryz.f5.params.toList args.toList ds p := g
 rw [Tryz.params5] at k hval
 obtain ⟨l, vs0, Q, z, p0, R, hargs, rfl, rfl, c, A⟩ := trodAll_cons k
 obtain ⟨m, B, S, C, p1, T, rfl, rfl, rfl, d, D⟩ := trodAll_cons A
 obtain ⟨rfl, rfl, rfl⟩ := trodAll_nil D
 obtain rfl : args = #[l, m] := by cases args; simp_all
 obtain ⟨U, E, F⟩ := zhe zv8 rfl (by rw [underlying64]) (hval 0 64 l rfl rfl) c
 obtain ⟨V, G, I⟩ := zhe zuz rfl (by rw [underlying67]) (hval 1 67 m rfl rfl) d
 refine (zlc (z7e (N := 100000) E G a (zld F I)) (fun v R' h => h)).mono fun e W' ⟨J, b⟩ => ?_
 exact ⟨_, J, hpost W' b⟩
theorem reads_TopSpecCardProved (os : Os) {H : Type} (enc : TypeId × Value → H) : ∃ places, DataW.whole enc prog ((laidWorld os).forCall (fun _ _ => 0) ⟨#[], #[((.agg #[(.int .u8 0), (.int .u8 0), (.int .u8 0), (.bool false), (.slice none 0 0), (.int .u8 0)]) : Value), ((.agg #[(.slice none 0 0)]) : Value)], []⟩).memory Tryz.f5.params.toList Rows.topSpecSpec.vars false (#[((.agg #[(.int .u8 0), (.int .u8 0), (.int .u8 0), (.bool false), (.slice none 0 0), (.int .u8 0)]) : Value), ((.agg #[(.slice none 0 0)]) : Value)] : Array Value).toList 30 = some ([.agg [.agg [.lit (.int .u8 0), .lit (.int .u8 0), .lit (.int .u8 0), .lit (.bool false), .nil], .lit (.int .u8 0)], .agg [.nil]], [], places) :=
 ⟨[], by kernel_rfl⟩
theorem lifted_TopSpecCardProved (os : Os) (started : os.Started) (H : Type) (enc : TypeId × Value → H) (F : Stop.Interp) :
 ReturnsInHanded {} Tryz.checked os 5 .any ((OpenSpec.ofChange Rows.topSpecSpec).preRow enc prog Tryz.f5 Rows.topSpecRow.domain false Rows.topSpecRow.laid) (((OpenSpec.ofChange Rows.topSpecSpec).at F).post enc prog Tryz.f5 false true false false) := by
 obtain ⟨places, a⟩ := reads_TopSpecCardProved os enc
 refine returnsInHanded_of_row (C := Tryz.checked) (s := OpenSpec.ofChange Rows.topSpecSpec) own_TopSpecCardProved started (by kernel_rfl) func5
  (witness_row_at (enc := enc) (C := Tryz.checked) false (laidWorld os) #[((.agg #[(.int .u8 0), (.int .u8 0), (.int .u8 0), (.bool false), (.slice none 0 0), (.int .u8 0)]) : Value), ((.agg #[(.slice none 0 0)]) : Value)] rfl (by kernel_rfl) (by kernel_rfl) (by kernel_rfl)
   (OpenSpec.preRow_of_cond 30 a (by kernel_rfl) (fun k b => by cases b) (by kernel_rfl) (zmx os _))) ?_
 intro W base args ds gs before hval c _ _ _ d _ _
 exact contract_TopSpecCardProved H enc W base args ds gs before hval c d
set_option maxHeartbeats 20000000 in
theorem said_TopSpecCardProved : Rows.TopSpecSaid :=
 OpenClaim.holds_of_cond 5 Tryz.f5 rfl rfl rfl rfl rfl rfl rfl ⟨rfl, rfl, rfl, rfl, rfl⟩ rfl rfl rfl rfl rfl (by as_aux_lemma => kernel_rfl) func5 (by as_aux_lemma => kernel_rfl)
  (of_decide_eq_true (by as_aux_lemma => kernel_rfl)) (by as_aux_lemma => unfold Func.isWrapper; first | (rw [if_pos (by decide +kernel)]; kernel_rfl) | (rw [if_neg (by decide +kernel)]; exact ⟨rfl, rfl⟩))
  (fun os started H enc _ F => by rw [OpenClaim.pre_eq_preRow]; exact lifted_TopSpecCardProved os started H enc F)
theorem z4n : prog.wantsStandIn 64 = false := by kernel_rfl
theorem z4c : prog.wantsStandIn 67 = false := by kernel_rfl
theorem looks_TopSpecCardProved : prog.looks [] = true := by kernel_rfl
theorem named_TopSpecCardProved : prog.funcNamed "gauntlet/gauntlettop.TopSpec" = some 5 := by kernel_rfl
theorem plain_TopSpecCardProved (g : FuncId) (fn : Func) (d : Tryz.pinned.checked.prog.funcNamed "gauntlet/gauntlettop.TopSpec" = some g) (a : Tryz.pinned.checked.prog.funcs[g]? = some fn) :
 true = Tryz.pinned.checked.prog.looks [] ∧ ∀ (j : Nat) t, fn.params[j]? = some t → Tryz.pinned.checked.prog.wantsStandIn t = false := by
 obtain rfl : g = 5 := (Option.some.inj (named_TopSpecCardProved.symm.trans d)).symm
 obtain rfl : fn = Tryz.f5 := (Option.some.inj (func5.symm.trans a)).symm
 refine ⟨looks_TopSpecCardProved.symm, fun j t b => ?_⟩
 rw [Tryz.params5] at b
 have c := Array.mem_of_getElem? b
 simp only [List.mem_toArray, List.mem_cons, List.not_mem_nil, or_false] at c
 obtain (rfl | rfl) := c
 ·exact z4n
 ·exact z4c
end GV
theorem TopSpecCardProved : Rows.TopSpecCardSaid :=
 Claim7.holds_tied_plain_at .later [] _ _ _ _ GV.said_TopSpecCardProved (fun _ h => by cases h) (by kernel_rfl) (fun _ h => by cases h) topSpec_row_tie rfl ⟨rfl, rfl⟩ (by kernel_rfl) rfl GV.plain_TopSpecCardProved (by kernel_rfl)
end Go.Proofs.YtkkcidhcfkmbjaaGreatDoor
