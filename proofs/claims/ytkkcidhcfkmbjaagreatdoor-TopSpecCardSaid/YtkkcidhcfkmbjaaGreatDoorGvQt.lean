import Derived.WalkKit
import Derived.RangeFuncLeaves
import Derived.RangeFuncCalls
import Derived.RangeFuncRecord
import Derived.KernelRfl
import Derived.RecoverIn
import Derived.Below
import Derived.OrdersIn
import Derived.Test.YtkkcidhcfkmbjaaGreatDoorProg
set_option linter.unusedVariables false
set_option linter.unusedSimpArgs false
set_option linter.unusedSectionVars false
namespace Go.Proofs.YtkkcidhcfkmbjaaGreatDoor
namespace GV
open _root_.Go.Proofs.Tryz
namespace QT
open Go.RowKit
theorem cell_of_block{w:World}{b off:Nat}{c:Array Value}{ty:TypeId}{fr:Nat×Nat}(h:w.heap[b]? =some (.cells c ty fr)):w.cell? ⟨b,off,none⟩=c[off]? :=by
 simp [World.cell?,h]
theorem z5k{w:World}{b off:Nat}{c:Array Value}{ty:TypeId}(h:w.heap[b]? =some (.cells c ty (0,0))):w.frozen? ⟨b,off,none⟩=false:=by
 simp [World.frozen?,h]
theorem addr_add(b off n:Nat):(⟨b,off,none⟩:Addr).add n=⟨b,off+n,none⟩:=by
 unfold Addr.add
 split
 ·rename_i h;subst h;rfl
 ·rfl
def over(cs:List Value)(off:Nat)(vs:List Value):List Value:=cs.take off++vs++cs.drop (off+vs.length)
theorem z8m{cs vs:List Value}{o:Nat}{v:Value}(h:o<cs.length):over (cs.set o v) (o+1) vs=over cs o (v::vs):=by
 unfold over
 have a:(cs.set o v).take (o+1)=cs.take o++[v]:=by
  apply List.ext_getElem?
  intro j
  simp only [List.getElem?_take,List.getElem?_set,List.getElem?_append,List.length_take,List.getElem?_singleton]
  by_cases h1:j<o
  ·rw [if_pos (by omega),if_neg (by omega),if_pos (by omega),if_pos h1]
  ·by_cases h2:j=o
   ·subst h2
    rw [if_pos (by omega),if_pos rfl,if_pos h,if_neg (by omega),if_pos (by omega)]
   ·rw [if_neg (by omega),if_neg (by omega),if_neg (by omega)]
 have b:(cs.set o v).drop (o+1+vs.length)=cs.drop (o+(v::vs).length):=by
  rw [List.drop_set_of_lt (by omega),List.length_cons]
  congr 1
  omega
 rw [a,b]
 simp
theorem run_storeCells{P:Program}{b:Nat}{bt:TypeId}: ∀ (vs:List Value) (cs:List Value) (off i:Nat) (w:World),w.heap[b]? =some (.cells cs.toArray bt (0,0))→off+i+vs.length≤cs.length→
 (∀ v∈vs,v.oneCell'=true)→ ∃ w',(storeCells ⟨b,off,none⟩ vs i).run P w= .ok () w'∧w'.heap[b]? =some (.cells (over cs (off+i) vs).toArray bt (0,0))∧(∀ k,k≠b→w'.heap[k]? =w.heap[k]?)∧w'.os=w.os∧w'.output=w.output
 | [],cs,off,i,w,a,_,_=>⟨w,rfl,by simpa [over] using a,fun _ _=>rfl,rfl,rfl⟩
 |v::vs,cs,off,i,w,a,m,n=>by
  have c:off+i<cs.length:=by simp at m;omega
  have o:w.cell? ((⟨b,off,none⟩:Addr).add i)=some cs[off+i]:=by rw [addr_add,cell_of_block a];simp [c]
  have f:w.frozen? ((⟨b,off,none⟩:Addr).add i)=false:=by rw [addr_add];exact z5k a
  have g:(w.setCell ((⟨b,off,none⟩:Addr).add i) v).heap[b]? =some (.cells (cs.set (off+i) v).toArray bt (0,0)):=by
   obtain⟨h,j⟩:=Array.getElem?_eq_some_iff.1 a
   rw [addr_add]
   show (w.heap.modify b _)[b]? =_
   rw [Array.getElem?_eq_getElem (by rw [Array.size_modify];exact h),Array.getElem_modify_self,j]
   simp
  have l: ∀ k,k≠b→(w.setCell ((⟨b,off,none⟩:Addr).add i) v).heap[k]? =w.heap[k]? :=fun k d=>by
   rw [addr_add]
   show (w.heap.modify b _)[k]? =_
   rw [Array.getElem?_modify,if_neg (fun e=>d e.symm)]
  obtain⟨w',h,j,p,q,r⟩:=run_storeCells vs (cs.set (off+i) v) off (i+1) _ g (by simp at m⊢;omega) (fun u s=>n u (List.mem_cons_of_mem _ s))
  refine⟨w',?_,?_,fun k d=>(p k d).trans (l k d),q,r⟩
  ·simp only [storeCells,Sem.run_bind,run_store _ _ _ _ _ (n v (List.mem_cons_self ..)),o,f,Bool.false_eq_true,if_false,Result.andThen_ok]
   exact h
  ·rw [j]
   rw [show off+(i+1)=off+i+1 from by omega,z8m c]
theorem wanted_none{o:Oper}{y:Nat→Option Bool}(h:o.guard=none):Region.wanted o y=true:=by simp [Region.wanted,h]
structure Blw (w w':World):Prop where
 os:w'.os=w.os
 output:w'.output=w.output
 size:w.heap.size≤w'.heap.size
 block: ∀ k,k<w.heap.size→w'.heap[k]? =w.heap[k]?
section steps
variable {P : Program} {ops : Array Oper} {Q : Exit → Act → List Frame → World → Prop} {a : Act} {cs : List Frame} {w w' : World} {i : Nat} {rest : List Nat} {d : Option Tmp} {op : Op} {ty : TypeId} {pos : String} {af : Array Edge} {v : Value}
theorem s_val(b:ops[i]? =some ⟨d,op,ty,pos,af,none⟩)(c:(execOp a.eval ⟨d,op,ty,pos,af,none⟩).run P w= .ok (.value v) w')(h:wpOpsSIn Fence.wide 0 P ops Q rest (a.put d v) cs w'):wpOpsSIn Fence.wide 0 P ops Q (i::rest) a cs w:=by
 simp only [wpOpsSIn,b]
 refine⟨fun _ _=>trivial,?_⟩
 rw [if_pos (wanted_none rfl),c]
 exact h
theorem s_skip(b:ops[i]? =some ⟨d,op,ty,pos,af,none⟩)(c:(execOp a.eval ⟨d,op,ty,pos,af,none⟩).run P w= .ok .skip w')(h:wpOpsSIn Fence.wide 0 P ops Q rest (a.put d undef) cs w'):wpOpsSIn Fence.wide 0 P ops Q (i::rest) a cs w:=by
 simp only [wpOpsSIn,b]
 refine⟨fun _ _=>trivial,?_⟩
 rw [if_pos (wanted_none rfl),c]
 exact h
theorem s_rec(c:ops[i]? =some ⟨d,op,ty,pos,af,none⟩)(e:(execOp a.eval ⟨d,op,ty,pos,af,none⟩).run P w= .ok .recover w')(b:recoverD cs=none∨recoverD cs=some (.nilIface,cs))(h:wpOpsSIn Fence.wide 0 P ops Q rest (a.put d .nilIface) cs w'):wpOpsSIn Fence.wide 0 P ops Q (i::rest) a cs w:=by
 simp only [wpOpsSIn,c]
 refine⟨fun _ _=>trivial,?_⟩
 rw [if_pos (wanted_none rfl),e]
 rcases b with b|b
 ·simp only [b];exact h
 ·simp only [b];exact h
theorem put_same{d:Nat}(b:d<a.tmps.size):(a.put (some d) v).eval (.tmp d)=v:=by
 show (a.tmps.setIfInBounds d v).getD d undef=v
 simp [Array.getD_eq_getD_getElem?,b]
theorem put_other{d k:Nat}(b:k≠d):(a.put (some d) v).eval (.tmp k)=a.eval (.tmp k):=by
 show (a.tmps.setIfInBounds d v).getD k undef=a.tmps.getD k undef
 simp only [Array.getD_eq_getD_getElem?,Array.getElem?_setIfInBounds]
 rw [if_neg (fun e=>b e.symm)]
theorem put_size{d:Option Nat}:(a.put d v).tmps.size=a.tmps.size:=by
 cases d<;>simp [Act.put]
theorem put_defers{d:Option Nat}:(a.put d v).defers=a.defers:=by cases d<;>rfl
end steps
theorem enter83(vs:Array Value)(w:World):(callFunc 83 vs).run prog w= .ok (.enter 83 vs) w:=Tryz.call83 vs w
theorem quiet83(args:Array Value)(w:World):CallsDIn Fence.wide 0 prog 83 args .returning w fun e u w'=>(∃ v,e= .returned v)∧u= .returning∧Blw w w':=by
 refine callsDIn_of_wpSIn func83 rfl trivial fun c₀ cs I=>?_
 have N:32≤({tmps:=args++Array.replicate (Tryz.f83.ntmps-args.size) undef,defers:=[]}:Act).tmps.size:=by
  rw [Tryz.ntmps83];simp;omega
 have O:({tmps:=args++Array.replicate (Tryz.f83.ntmps-args.size) undef,defers:=[]}:Act).defers=[]:=rfl
 generalize ({tmps:=args++Array.replicate (Tryz.f83.ntmps-args.size) undef,defers:=[]}:Act)=a at N O
 apply wpSIn_seq
 apply wpSIn_region
 show wpOpsSIn Fence.wide 0 _ _ _ [0,1,2,3,4,5,6,7] _ _ _
 have hrec:recoverD (c₀::cs)=none∨recoverD (c₀::cs)=some (.nilIface,c₀::cs):=by
  simp [recoverD,I]
 refine s_rec rfl rfl hrec ?_
 have Q:(a.put (some 8) .nilIface).eval (.tmp 8)= .nilIface:=put_same (by omega)
 have d:32≤(a.put (some 8) .nilIface).tmps.size:=by rw [put_size];exact N
 have f:(a.put (some 8) .nilIface).defers=[]:=by rw [put_defers];exact O
 generalize a.put (some 8) .nilIface=a1 at Q d f
 refine s_val (v:= .tuple #[.agg #[.int .i64 0,.int .i64 0],.bool false]) (w':=w) rfl (by simp only [execOp,Q];kernel_rfl) ?_
 have R:(a1.put (some 9) (.tuple #[.agg #[.int .i64 0,.int .i64 0],.bool false])).eval (.tmp 9)= .tuple #[.agg #[.int .i64 0,.int .i64 0],.bool false]:=put_same (by omega)
 have g:32≤(a1.put (some 9) (.tuple #[.agg #[.int .i64 0,.int .i64 0],.bool false])).tmps.size:=by rw [put_size];exact d
 have h:(a1.put (some 9) (.tuple #[.agg #[.int .i64 0,.int .i64 0],.bool false])).defers=[]:=by rw [put_defers];exact f
 generalize a1.put (some 9) (.tuple #[.agg #[.int .i64 0,.int .i64 0],.bool false])=a2 at R g h⊢
 refine s_val (v:= .tuple #[.agg #[.int .i64 0,.int .i64 0],.bool false]) (w':=w) rfl (by simp only [execOp,R];rfl) ?_
 have J:(a2.put (some 7) (.tuple #[.agg #[.int .i64 0,.int .i64 0],.bool false])).eval (.tmp 7)= .tuple #[.agg #[.int .i64 0,.int .i64 0],.bool false]:=put_same (by omega)
 have i:32≤(a2.put (some 7) (.tuple #[.agg #[.int .i64 0,.int .i64 0],.bool false])).tmps.size:=by rw [put_size];exact g
 have j:(a2.put (some 7) (.tuple #[.agg #[.int .i64 0,.int .i64 0],.bool false])).defers=[]:=by rw [put_defers];exact h
 generalize a2.put (some 7) (.tuple #[.agg #[.int .i64 0,.int .i64 0],.bool false])=a3 at J i j⊢
 refine s_val (v:= .agg #[.int .i64 0,.int .i64 0]) (w':=w) rfl (by simp only [execOp,J];rfl) ?_
 have S:(a3.put (some 10) (.agg #[.int .i64 0,.int .i64 0])).eval (.tmp 7)= .tuple #[.agg #[.int .i64 0,.int .i64 0],.bool false]:=(put_other (by decide)).trans J
 have l:(a3.put (some 10) (.agg #[.int .i64 0,.int .i64 0])).eval (.tmp 10)= .agg #[.int .i64 0,.int .i64 0]:=put_same (by omega)
 have m:32≤(a3.put (some 10) (.agg #[.int .i64 0,.int .i64 0])).tmps.size:=by rw [put_size];exact i
 have n:(a3.put (some 10) (.agg #[.int .i64 0,.int .i64 0])).defers=[]:=by rw [put_defers];exact j
 generalize a3.put (some 10) (.agg #[.int .i64 0,.int .i64 0])=a4 at S l m n⊢
 refine s_val (v:= .bool false) (w':=w) rfl (by simp only [execOp,S];rfl) ?_
 have o:(a4.put (some 11) (.bool false)).eval (.tmp 10)= .agg #[.int .i64 0,.int .i64 0]:=(put_other (by decide)).trans l
 have p:(a4.put (some 11) (.bool false)).eval (.tmp 11)= .bool false:=put_same (by omega)
 have q:32≤(a4.put (some 11) (.bool false)).tmps.size:=by rw [put_size];exact m
 have r:(a4.put (some 11) (.bool false)).defers=[]:=by rw [put_defers];exact n
 generalize a4.put (some 11) (.bool false)=a5 at o p q r⊢
 refine s_val (v:= .pointer (some ⟨w.heap.size,0,none⟩)) (w':=w.alloc (.cells #[.int .i64 0,.int .i64 0] 154)) rfl (by
  simp only [execOp,Instr.alloc,Sem.run_bind,Tryz.zeroValue154,Result.andThen_ok,newVar,newRow,run_newObj_alloc,Sem.run_pure];rfl) ?_
 have s:(a5.put (some 5) (.pointer (some ⟨w.heap.size,0,none⟩))).eval (.tmp 10)= .agg #[.int .i64 0,.int .i64 0]:=(put_other (by decide)).trans o
 have x:(a5.put (some 5) (.pointer (some ⟨w.heap.size,0,none⟩))).eval (.tmp 11)= .bool false:=(put_other (by decide)).trans p
 have T:(a5.put (some 5) (.pointer (some ⟨w.heap.size,0,none⟩))).eval (.tmp 5)= .pointer (some ⟨w.heap.size,0,none⟩):=put_same (by omega)
 have y:32≤(a5.put (some 5) (.pointer (some ⟨w.heap.size,0,none⟩))).tmps.size:=by rw [put_size];exact q
 have z:(a5.put (some 5) (.pointer (some ⟨w.heap.size,0,none⟩))).defers=[]:=by rw [put_defers];exact r
 generalize a5.put (some 5) (.pointer (some ⟨w.heap.size,0,none⟩))=a6 at T s x y z⊢
 have hblk:(w.alloc (.cells #[.int .i64 0,.int .i64 0] 154)).heap[w.heap.size]? =some (.cells #[.int .i64 0,.int .i64 0] 154):=World.alloc_heap_new w _
 obtain⟨c,W,X,Y,Z,q5⟩:=run_storeCells (P:=prog) [.int .i64 0,.int .i64 0] [.int .i64 0,.int .i64 0] 0 0 (w.alloc (.cells #[.int .i64 0,.int .i64 0] 154)) hblk (by decide) (by intro v U;simp at U;rcases U with rfl|rfl<;>rfl)
 have K:Blw w c:=by
  refine⟨Z,q5,?_,fun k hk=>?_⟩
  ·have:=(Array.getElem?_eq_some_iff.1 X).1
   omega
  ·rw [Y k (by omega)]
   show (w.heap.push _)[k]? =_
   rw [Array.getElem?_push,if_neg (by omega)]
 have L:(Instr.storeAt 154 (.pointer (some ⟨w.heap.size,0,none⟩)) (.agg #[.int .i64 0,.int .i64 0])).run prog (w.alloc (.cells #[.int .i64 0,.int .i64 0] 154))= .ok () c:=by
  simp only [Instr.storeAt,Instr.sureAddr,Sem.run_bind,Sem.run_pure,Result.andThen_ok,storeVar,Tryz.sizeOf154]
  rw [if_neg (by decide)]
  exact W
 refine s_skip (w':=c) rfl (by
  simp only [execOp,T,s,Sem.run_bind,L,Result.andThen_ok];rfl) ?_
 have A:(a6.put none undef).eval (.tmp 11)= .bool false:=x
 have B:32≤(a6.put none undef).tmps.size:=y
 have C:(a6.put none undef).defers=[]:=z
 generalize a6.put none undef=a7 at A B C⊢
 refine s_val (v:= .bool false) (w':=c) rfl (by simp only [execOp,A];rfl) ?_
 have V:(a7.put (some 6) (.bool false)).eval (.tmp 6)= .bool false:=put_same (by omega)
 have D:32≤(a7.put (some 6) (.bool false)).tmps.size:=by rw [put_size];exact B
 have E:(a7.put (some 6) (.bool false)).defers=[]:=by rw [put_defers];exact C
 generalize a7.put (some 6) (.bool false)=a8 at V D E⊢
 simp only [wpOpsSIn,Exit.thenS]
 apply wpSIn_seq
 apply wpSIn_seq
 apply wpSIn_region
 show wpOpsSIn Fence.wide 0 _ _ _ [0,1] _ _ _
 refine s_val (v:= .bool false) (w':=c) rfl (by simp only [execOp,V];rfl) ?_
 have F:(a8.put (some 12) (.bool false)).eval (.tmp 12)= .bool false:=put_same (by omega)
 have M:32≤(a8.put (some 12) (.bool false)).tmps.size:=by rw [put_size];exact D
 have G:(a8.put (some 12) (.bool false)).defers=[]:=by rw [put_defers];exact E
 generalize a8.put (some 12) (.bool false)=a9 at F M G⊢
 refine s_val (v:= .bool true) (w':=c) rfl (by simp only [execOp,F];rfl) ?_
 have H:(a9.put (some 13) (.bool true)).eval (.tmp 13)= .bool true:=put_same (by omega)
 have b:(a9.put (some 13) (.bool true)).defers=[]:=by rw [put_defers];exact G
 generalize a9.put (some 13) (.bool true)=a10 at H b⊢
 simp only [wpOpsSIn,Exit.thenS]
 refine wpSIn_cond (t:=true) H ?_
 rw [if_pos rfl]
 refine wpSIn_of_wpIn rfl (wpIn_ret ?_)
 simp only [Exit.thenS,bodyPostS]
 refine⟨b,.returning,?_,.tuple #[],?_,⟨_,rfl⟩,rfl,K⟩
 ·cases c₀;simp only at I;subst I;rfl
 ·simp [results,Tryz.results83]
end QT
end GV
end Go.Proofs.YtkkcidhcfkmbjaaGreatDoor
