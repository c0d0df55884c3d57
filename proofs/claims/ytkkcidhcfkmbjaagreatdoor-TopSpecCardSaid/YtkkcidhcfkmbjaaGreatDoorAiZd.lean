import Derived.Test.YtkkcidhcfkmbjaaGreatDoorAiZa
import Derived.Test.YtkkcidhcfkmbjaaGreatDoorProg
import Derived.KernelRfl
import Derived.RecoverIn
import Derived.Laws.Externs
import Derived.Lib.Bytealg
import Derived.Below
set_option linter.unusedVariables false
set_option linter.unusedSimpArgs false
set_option linter.unusedSectionVars false
namespace Go.Proofs.YtkkcidhcfkmbjaaGreatDoor
namespace GV
namespace AI

theorem u8_eq {x : UInt8} {c : Nat} (hc : c ≤ 255) : Nat.beq x.toNat c = (x == c.toUInt8) := by
  have h1 : c.toUInt8.toNat = c := by
    rw [Nat.toUInt8_eq, UInt8.toNat_ofNat']
    omega
  cases e : x == c.toUInt8 with
  | true =>
    have := eq_of_beq e
    rw [this, h1]; exact Nat.beq_refl c
  | false =>
    cases e2 : Nat.beq x.toNat c with
    | false => rfl
    | true =>
      have h2 := Nat.eq_of_beq_eq_true e2
      have : x = c.toUInt8 := by rw [← UInt8.toNat_inj, h1, h2]
      rw [this] at e; simp at e
theorem cntB_eq {c : Nat} (hc : c ≤ 255) : ∀ (l : List UInt8), cntB c (l.map (·.toNat)) = Lib.countByte l c.toUInt8
  | [] => rfl
  | x :: l => by
    have h1 : cntB c ((x :: l).map (·.toNat)) = Bool.casesOn (motive := fun _ => Nat) (Nat.beq x.toNat c) (cntB c (l.map (·.toNat))) (Nat.succ (cntB c (l.map (·.toNat)))) := rfl
    rw [h1, u8_eq hc, cntB_eq hc l]
    simp only [Lib.countByte, List.count_cons]
    cases x == c.toUInt8 <;> rfl
theorem idxB_eq {c : Nat} (hc : c ≤ 255) : ∀ (l : List UInt8) (i : Nat), idxB c (l.map (·.toNat)) i = match (List.range l.length).find? fun j => l[j]! == c.toUInt8 with
    | some j => ((i + j : Nat) : Int)
    | none => -1
  | [], i => rfl
  | x :: l, i => by
    have h1 : idxB c ((x :: l).map (·.toNat)) i = Bool.casesOn (motive := fun _ => Int) (Nat.beq x.toNat c) (idxB c (l.map (·.toNat)) (Nat.succ i)) (.ofNat i) := rfl
    rw [h1, u8_eq hc, idxB_eq hc l]
    rw [List.length_cons, List.range_succ_eq_map, List.find?_cons]
    have h2 : (x :: l)[0]! = x := rfl
    rw [h2]
    cases e : x == c.toUInt8 with
    | true => rfl
    | false =>
      simp only [List.find?_map]
      have h3 : (fun j => (x :: l)[j]! == c.toUInt8) ∘ Nat.succ = fun j => l[j]! == c.toUInt8 := by
        funext j
        simp
      rw [h3]
      cases (List.range l.length).find? fun j => l[j]! == c.toUInt8 with
      | none => rfl
      | some j => show ((Nat.succ i + j : Nat) : Int) = ((i + (j + 1) : Nat) : Int); congr 1; omega
theorem firstIdx_eq {c : Nat} (hc : c ≤ 255) (s : ByteArray) : idxB c (s.data.toList.map (·.toNat)) 0 = firstIdx s c.toUInt8 := by
  rw [idxB_eq hc]
  unfold firstIdx
  have h1 : s.data.toList.length = s.size := rfl
  have h2 : (fun j : Nat => s.data.toList[j]! == c.toUInt8) = fun i : Nat => s[i]! == c.toUInt8 := by
    funext j
    congr 1
    by_cases hj : j < s.size
    · rw [getElem!_pos s j hj, getElem!_pos s.data.toList j hj]
      rfl
    · rw [getElem!_neg s j hj, getElem!_neg s.data.toList j hj]
  rw [h1, h2]
  cases (List.range s.size).find? fun i => s[i]! == c.toUInt8 with
  | none => rfl
  | some j => show ((0 + j : Nat) : Int) = _; rw [Nat.zero_add]

section ext
variable {C : Cf}
theorem ext0 {f : Nat} {fn : Func} (hf : C.P.funcs[f]? = some fn) (hname : (fn.name == "runtime.NumGoroutine") = false) (hb : fn.body.isNone = true) (hn : Extern.findNext fn = none) (he : Extern.find fn = some Extern.BytealgIndexByte.indexByte)
    {β : Type} {al : List AV} {S : HP} {nx : Nat} {K : AV → Option β} {r : β} (hk : extK 0 al S K = some r) : ∃ v, K v = some r ∧
    ∀ R A ι w (vs : List Value), GR C R → VRs ι al vs → SR R A ι S nx w → Out C.P (Fin R A ι v S nx) ((callFunc f vs.toArray).run C.P w) := by
  unfold extK at hk
  split at hk
  · rename_i l c _
    obtain ⟨h1, hk⟩ := og_some hk
    obtain ⟨hk, h2, h3⟩ := mkI_some hk
    refine ⟨_, hk, fun R A ι w vs hG hv hs => ?_⟩
    obtain ⟨v1, ws, rfl, hv1, hws⟩ := VRs_cons.1 hv
    obtain ⟨v2, ws2, rfl, hv2, hws2⟩ := VRs_cons.1 hws
    rw [VRs_nil.1 hws2]
    rw [VR] at hv1
    rw [VR] at hv2
    obtain ⟨b, rfl, rfl⟩ := hv1
    subst hv2
    rw [run_callFunc_extern hf hname hb hn he]
    show Out C.P _ (((Extern.BytealgIndexByte.indexByte #[.string b, .int .u8 (.ofNat c)]).run C.P w).andThen _)
    rw [run_indexByte_string]
    refine ⟨ι, ILe.refl _, hs, ?_⟩
    rw [VR, firstIdx_eq (Nat.le_of_ble_eq_true h1)]
    rfl
  · contradiction
  · contradiction
  · contradiction
theorem ext1 {f : Nat} {fn : Func} (hf : C.P.funcs[f]? = some fn) (hname : (fn.name == "runtime.NumGoroutine") = false) (hb : fn.body.isNone = true) (hn : Extern.findNext fn = none) (he : Extern.find fn = some Extern.BytealgCount.count)
    {β : Type} {al : List AV} {S : HP} {nx : Nat} {K : AV → Option β} {r : β} (hk : extK 1 al S K = some r) : ∃ v, K v = some r ∧
    ∀ R A ι w (vs : List Value), GR C R → VRs ι al vs → SR R A ι S nx w → Out C.P (Fin R A ι v S nx) ((callFunc f vs.toArray).run C.P w) := by
  unfold extK at hk
  split at hk
  · contradiction
  · rename_i l c _
    obtain ⟨h1, hk⟩ := og_some hk
    obtain ⟨hk, h2, h3⟩ := mkI_some hk
    refine ⟨_, hk, fun R A ι w vs hG hv hs => ?_⟩
    obtain ⟨v1, ws, rfl, hv1, hws⟩ := VRs_cons.1 hv
    obtain ⟨v2, ws2, rfl, hv2, hws2⟩ := VRs_cons.1 hws
    rw [VRs_nil.1 hws2]
    rw [VR] at hv1
    rw [VR] at hv2
    obtain ⟨b, rfl, rfl⟩ := hv1
    subst hv2
    rw [run_callFunc_extern hf hname hb hn he]
    show Out C.P _ (((Extern.BytealgCount.count #[.string b, .int .u8 (.ofNat c)]).run C.P w).andThen _)
    rw [Lib.run_countString]
    refine ⟨ι, ILe.refl _, hs, ?_⟩
    rw [VR, cntB_eq (Nat.le_of_ble_eq_true h1)]
    rfl
  · contradiction
  · contradiction
end ext
end AI
end GV
end Go.Proofs.YtkkcidhcfkmbjaaGreatDoor

namespace Go.Proofs.YtkkcidhcfkmbjaaGreatDoor
namespace GV
namespace AI
open Go.RowKit
section steps
variable {P : Program} {ops : Array Oper} {Q : Exit → Act → List Frame → World → Prop} {a : Act} {cs : List Frame} {w w' : World} {i : Nat} {rest : List Nat} {d : Option Tmp} {op : Op} {ty : TypeId} {pos : String} {af : Array Edge} {v : Value}
theorem s_val(ho:ops[i]? =some ⟨d,op,ty,pos,af,none⟩)(hr:(execOp a.eval ⟨d,op,ty,pos,af,none⟩).run P w= .ok (.value v) w')(h:wpOpsSIn Fence.wide 0 P ops Q rest (a.put d v) cs w'):wpOpsSIn Fence.wide 0 P ops Q (i::rest) a cs w:=by
 simp only [wpOpsSIn,ho]
 refine⟨fun _ _=>trivial,?_⟩
 rw [if_pos (wanted_none rfl),hr]
 exact h
theorem s_skip(ho:ops[i]? =some ⟨d,op,ty,pos,af,none⟩)(hr:(execOp a.eval ⟨d,op,ty,pos,af,none⟩).run P w= .ok .skip w')(h:wpOpsSIn Fence.wide 0 P ops Q rest (a.put d undef) cs w'):wpOpsSIn Fence.wide 0 P ops Q (i::rest) a cs w:=by
 simp only [wpOpsSIn,ho]
 refine⟨fun _ _=>trivial,?_⟩
 rw [if_pos (wanted_none rfl),hr]
 exact h
theorem s_rec(ho:ops[i]? =some ⟨d,op,ty,pos,af,none⟩)(hr:(execOp a.eval ⟨d,op,ty,pos,af,none⟩).run P w= .ok .recover w')(hc:recoverD cs=none∨recoverD cs=some (.nilIface,cs))(h:wpOpsSIn Fence.wide 0 P ops Q rest (a.put d .nilIface) cs w'):wpOpsSIn Fence.wide 0 P ops Q (i::rest) a cs w:=by
 simp only [wpOpsSIn,ho]
 refine⟨fun _ _=>trivial,?_⟩
 rw [if_pos (wanted_none rfl),hr]
 rcases hc with hc|hc
 ·simp only [hc];exact h
 ·simp only [hc];exact h
theorem put_same{d:Nat}(hd:d<a.tmps.size):(a.put (some d) v).eval (.tmp d)=v:=by
 show (a.tmps.setIfInBounds d v).getD d undef=v
 simp [Array.getD_eq_getD_getElem?,hd]
theorem put_other{d k:Nat}(hd:k≠d):(a.put (some d) v).eval (.tmp k)=a.eval (.tmp k):=by
 show (a.tmps.setIfInBounds d v).getD k undef=a.tmps.getD k undef
 simp only [Array.getD_eq_getD_getElem?,Array.getElem?_setIfInBounds]
 rw [if_neg (fun e=>hd e.symm)]
theorem put_size{d:Option Nat}:(a.put d v).tmps.size=a.tmps.size:=by
 cases d<;>simp [Act.put]
theorem put_defers{d:Option Nat}:(a.put d v).defers=a.defers:=by cases d<;>rfl
end steps
theorem quiet83(args:Array Value)(w:World):CallsDIn Fence.wide 0 Tryz.prog 83 args .returning w fun e u w'=>(∃ v,e= .returned v)∧u= .returning∧Blw w w':=by
 refine callsDIn_of_wpSIn Tryz.func83 rfl trivial fun c₀ cs hu=>?_
 have hT:32≤({tmps:=args++Array.replicate (Tryz.f83.ntmps-args.size) undef,defers:=[]}:Act).tmps.size:=by
  rw [Tryz.ntmps83];simp;omega
 have hD:({tmps:=args++Array.replicate (Tryz.f83.ntmps-args.size) undef,defers:=[]}:Act).defers=[]:=rfl
 generalize ({tmps:=args++Array.replicate (Tryz.f83.ntmps-args.size) undef,defers:=[]}:Act)=a at hT hD
 apply wpSIn_seq
 apply wpSIn_region
 show wpOpsSIn Fence.wide 0 _ _ _ [0,1,2,3,4,5,6,7] _ _ _
 have hrec:recoverD (c₀::cs)=none∨recoverD (c₀::cs)=some (.nilIface,c₀::cs):=by
  simp [recoverD,hu]
 refine s_rec rfl rfl hrec ?_
 have e8:(a.put (some 8) .nilIface).eval (.tmp 8)= .nilIface:=put_same (by omega)
 have hT1:32≤(a.put (some 8) .nilIface).tmps.size:=by rw [put_size];exact hT
 have hD1:(a.put (some 8) .nilIface).defers=[]:=by rw [put_defers];exact hD
 generalize a.put (some 8) .nilIface=a1 at e8 hT1 hD1
 refine s_val (v:= .tuple #[.agg #[.int .i64 0,.int .i64 0],.bool false]) (w':=w) rfl (by simp only [execOp,e8];kernel_rfl) ?_
 have e9:(a1.put (some 9) (.tuple #[.agg #[.int .i64 0,.int .i64 0],.bool false])).eval (.tmp 9)= .tuple #[.agg #[.int .i64 0,.int .i64 0],.bool false]:=put_same (by omega)
 have hT2:32≤(a1.put (some 9) (.tuple #[.agg #[.int .i64 0,.int .i64 0],.bool false])).tmps.size:=by rw [put_size];exact hT1
 have hD2:(a1.put (some 9) (.tuple #[.agg #[.int .i64 0,.int .i64 0],.bool false])).defers=[]:=by rw [put_defers];exact hD1
 generalize a1.put (some 9) (.tuple #[.agg #[.int .i64 0,.int .i64 0],.bool false])=a2 at e9 hT2 hD2⊢
 refine s_val (v:= .tuple #[.agg #[.int .i64 0,.int .i64 0],.bool false]) (w':=w) rfl (by simp only [execOp,e9];rfl) ?_
 have e7:(a2.put (some 7) (.tuple #[.agg #[.int .i64 0,.int .i64 0],.bool false])).eval (.tmp 7)= .tuple #[.agg #[.int .i64 0,.int .i64 0],.bool false]:=put_same (by omega)
 have hT3:32≤(a2.put (some 7) (.tuple #[.agg #[.int .i64 0,.int .i64 0],.bool false])).tmps.size:=by rw [put_size];exact hT2
 have hD3:(a2.put (some 7) (.tuple #[.agg #[.int .i64 0,.int .i64 0],.bool false])).defers=[]:=by rw [put_defers];exact hD2
 generalize a2.put (some 7) (.tuple #[.agg #[.int .i64 0,.int .i64 0],.bool false])=a3 at e7 hT3 hD3⊢
 refine s_val (v:= .agg #[.int .i64 0,.int .i64 0]) (w':=w) rfl (by simp only [execOp,e7];rfl) ?_
 have f7:(a3.put (some 10) (.agg #[.int .i64 0,.int .i64 0])).eval (.tmp 7)= .tuple #[.agg #[.int .i64 0,.int .i64 0],.bool false]:=(put_other (by decide)).trans e7
 have f10:(a3.put (some 10) (.agg #[.int .i64 0,.int .i64 0])).eval (.tmp 10)= .agg #[.int .i64 0,.int .i64 0]:=put_same (by omega)
 have hT4:32≤(a3.put (some 10) (.agg #[.int .i64 0,.int .i64 0])).tmps.size:=by rw [put_size];exact hT3
 have hD4:(a3.put (some 10) (.agg #[.int .i64 0,.int .i64 0])).defers=[]:=by rw [put_defers];exact hD3
 generalize a3.put (some 10) (.agg #[.int .i64 0,.int .i64 0])=a4 at f7 f10 hT4 hD4⊢
 refine s_val (v:= .bool false) (w':=w) rfl (by simp only [execOp,f7];rfl) ?_
 have g10:(a4.put (some 11) (.bool false)).eval (.tmp 10)= .agg #[.int .i64 0,.int .i64 0]:=(put_other (by decide)).trans f10
 have g11:(a4.put (some 11) (.bool false)).eval (.tmp 11)= .bool false:=put_same (by omega)
 have hT5:32≤(a4.put (some 11) (.bool false)).tmps.size:=by rw [put_size];exact hT4
 have hD5:(a4.put (some 11) (.bool false)).defers=[]:=by rw [put_defers];exact hD4
 generalize a4.put (some 11) (.bool false)=a5 at g10 g11 hT5 hD5⊢
 refine s_val (v:= .pointer (some ⟨w.heap.size,0,none⟩)) (w':=w.alloc (.cells #[.int .i64 0,.int .i64 0] 154)) rfl (by
  simp only [execOp,Instr.alloc,Sem.run_bind,Tryz.zeroValue154,Result.andThen_ok,newVar,newRow,run_newObj_alloc,Sem.run_pure];rfl) ?_
 have k10:(a5.put (some 5) (.pointer (some ⟨w.heap.size,0,none⟩))).eval (.tmp 10)= .agg #[.int .i64 0,.int .i64 0]:=(put_other (by decide)).trans g10
 have k11:(a5.put (some 5) (.pointer (some ⟨w.heap.size,0,none⟩))).eval (.tmp 11)= .bool false:=(put_other (by decide)).trans g11
 have k5:(a5.put (some 5) (.pointer (some ⟨w.heap.size,0,none⟩))).eval (.tmp 5)= .pointer (some ⟨w.heap.size,0,none⟩):=put_same (by omega)
 have hT6:32≤(a5.put (some 5) (.pointer (some ⟨w.heap.size,0,none⟩))).tmps.size:=by rw [put_size];exact hT5
 have hD6:(a5.put (some 5) (.pointer (some ⟨w.heap.size,0,none⟩))).defers=[]:=by rw [put_defers];exact hD5
 generalize a5.put (some 5) (.pointer (some ⟨w.heap.size,0,none⟩))=a6 at k5 k10 k11 hT6 hD6⊢
 have hblk:(w.alloc (.cells #[.int .i64 0,.int .i64 0] 154)).heap[w.heap.size]? =some (.cells #[.int .i64 0,.int .i64 0] 154):=World.alloc_heap_new w _
 obtain⟨w2,q1,q2,q3,q4,q5⟩:=run_storeCells (P:=Tryz.prog) [.int .i64 0,.int .i64 0] [.int .i64 0,.int .i64 0] 0 0 (w.alloc (.cells #[.int .i64 0,.int .i64 0] 154)) hblk (by decide) (by intro v hv;simp at hv;rcases hv with rfl|rfl<;>rfl)
 have hb2:Blw w w2:=by
  refine⟨q4,q5,?_,fun k hk=>?_⟩
  ·have:=(Array.getElem?_eq_some_iff.1 q2).1
   omega
  ·rw [q3 k (by omega)]
   show (w.heap.push _)[k]? =_
   rw [Array.getElem?_push,if_neg (by omega)]
 have hst:(Instr.storeAt 154 (.pointer (some ⟨w.heap.size,0,none⟩)) (.agg #[.int .i64 0,.int .i64 0])).run Tryz.prog (w.alloc (.cells #[.int .i64 0,.int .i64 0] 154))= .ok () w2:=by
  simp only [Instr.storeAt,Instr.sureAddr,Sem.run_bind,Sem.run_pure,Result.andThen_ok,storeVar,Tryz.sizeOf154]
  rw [if_neg (by decide)]
  exact q1
 refine s_skip (w':=w2) rfl (by
  simp only [execOp,k5,k10,Sem.run_bind,hst,Result.andThen_ok];rfl) ?_
 have m11:(a6.put none undef).eval (.tmp 11)= .bool false:=k11
 have hT7:32≤(a6.put none undef).tmps.size:=hT6
 have hD7:(a6.put none undef).defers=[]:=hD6
 generalize a6.put none undef=a7 at m11 hT7 hD7⊢
 refine s_val (v:= .bool false) (w':=w2) rfl (by simp only [execOp,m11];rfl) ?_
 have n6:(a7.put (some 6) (.bool false)).eval (.tmp 6)= .bool false:=put_same (by omega)
 have hT8:32≤(a7.put (some 6) (.bool false)).tmps.size:=by rw [put_size];exact hT7
 have hD8:(a7.put (some 6) (.bool false)).defers=[]:=by rw [put_defers];exact hD7
 generalize a7.put (some 6) (.bool false)=a8 at n6 hT8 hD8⊢
 simp only [wpOpsSIn,Exit.thenS]
 apply wpSIn_seq
 apply wpSIn_seq
 apply wpSIn_region
 show wpOpsSIn Fence.wide 0 _ _ _ [0,1] _ _ _
 refine s_val (v:= .bool false) (w':=w2) rfl (by simp only [execOp,n6];rfl) ?_
 have p12:(a8.put (some 12) (.bool false)).eval (.tmp 12)= .bool false:=put_same (by omega)
 have hT9:32≤(a8.put (some 12) (.bool false)).tmps.size:=by rw [put_size];exact hT8
 have hD9:(a8.put (some 12) (.bool false)).defers=[]:=by rw [put_defers];exact hD8
 generalize a8.put (some 12) (.bool false)=a9 at p12 hT9 hD9⊢
 refine s_val (v:= .bool true) (w':=w2) rfl (by simp only [execOp,p12];rfl) ?_
 have p13:(a9.put (some 13) (.bool true)).eval (.tmp 13)= .bool true:=put_same (by omega)
 have hD10:(a9.put (some 13) (.bool true)).defers=[]:=by rw [put_defers];exact hD9
 generalize a9.put (some 13) (.bool true)=a10 at p13 hD10⊢
 simp only [wpOpsSIn,Exit.thenS]
 refine wpSIn_cond (t:=true) p13 ?_
 rw [if_pos rfl]
 refine wpSIn_of_wpIn rfl (wpIn_ret ?_)
 simp only [Exit.thenS,bodyPostS]
 refine⟨hD10,.returning,?_,.tuple #[],?_,⟨_,rfl⟩,rfl,hb2⟩
 ·cases c₀;simp only at hu;subst hu;rfl
 ·simp [results,Tryz.results83]
end AI
end GV
end Go.Proofs.YtkkcidhcfkmbjaaGreatDoor
