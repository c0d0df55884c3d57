
import Derived.Test.YtkhihcleegljhaaShMap
import Derived.Test.YtkhihcleegljhaaRows
import Derived.ProofKit
import Derived.OpenShut
import Derived.JoinedCond
import Derived.Carry
import Derived.Test.YtkhihcleegljhaaShTypes
set_option linter.unusedVariables false
set_option linter.unusedSimpArgs false
set_option linter.unusedSectionVars false
namespace Go.Proofs.Ytkhihcleegljhaa
namespace GV
open Go.ChangeShapes Go.WideShapes Go.ChangeAt Go.RowKit
def rh0(W:World):RH:=⟨fun k=>W.heap[k]?,(W.os,W.heap.size),W.output⟩
theorem holds0(W:World):Holds (rh0 W) [] W:=⟨fun k o h=>h,fun f a=>(by cases a),.nil,⟨rfl,fun k o b c=>by
 have:=(Array.getElem?_eq_some_iff.1 c).1
 simp only [rh0] at b;omega⟩,rfl⟩
structure Same (W w':World):Prop where
 heap: ∀ k,k<W.heap.size→w'.heap[k]? =W.heap[k]?
 os:w'.os=W.os
 out:w'.output=W.output
 nf:NF W.heap.size w'
theorem zis{W w':World}{R':RH}(a:RH.le (rh0 W) R')(h:Holds R' [] w'):Same W w':=by
 have e:=a.os
 refine⟨fun k b=>?_,?_,h.out.trans a.out,?_⟩
 ·have c:W.heap[k]? =some (W.heap[k]'b):=Array.getElem?_eq_getElem b
  exact(h.ro k _ (a.blk k _ c)).trans c.symm
 ·have:=h.os.1;rw [e] at this;exact this
 ·have:=h.os.2;rw [e] at this;exact this
theorem Same.keptBut{W w':World}(h:Same W w')(may:MemPlace→Prop):W.keptBut w' may:=by
 refine⟨h.os,h.out,fun i hi=>?_⟩
 rw [h.heap i hi]
 split<;>simp_all
theorem Same.frozen{W w':World}(h:Same W w')(a:Addr)(b:a.block<W.heap.size):w'.frozen? a=W.frozen? a:=by
 simp only [World.frozen?,h.heap _ b]
theorem zbw{P:Program}{H:Type}{enc:TypeId×Value→H}{f:Func}{s:ChangeSpec}{apart fresh handsOn again:Bool}{W W':World}{args:Array Value}{v:Value}{ds gs:List (DataW H)}{before pa pv:List MemPlace}
 (e:DataW.Whole enc P f.params.toList s.vars apart W args.toList ds gs before)
 (hres: ∀ (b:Nat) (sp:Nat→Bool) (k:Bool),DataW.TrodAll enc P W' b sp k f.resultTypes.toList (v.resultList f.resultTypes.size) (s.fn H (ds++gs)).results [])
 (hargs: ∀ sp:Nat→Bool,(∀ p∈before,sp p.block=true)→DataW.TrodAll enc P W' 0 sp true f.params.toList args.toList (s.fn H (ds++gs)).args pa)
 (hvars: ∀ sp:Nat→Bool,(∀ p∈before,sp p.block=true)→DataW.TrodVars enc P W' sp s.vars (s.fn H (ds++gs)).vars pv)
 (d:before=pa++pv) (l:W.keptBut W' (· ∈before)) (g: ∀ a:Addr,a.block<W.heap.size→W'.frozen? a=W.frozen? a)
 (h: ∀ (j:Nat) (t:TypeId) (r:Value),f.resultTypes[j]? =some t→(v.resultList f.resultTypes.size)[j]? =some r→Value.okWide P W' .any 0 t r):
 s.post enc P f apart fresh handsOn again W args v W':=by
 have hold: ∀ p∈before,(fun b=>decide (b<W.heap.size)) p.block=true:=fun p c=>by simpa using e.lt p c
 have i:=fun p c=>e.lt p c
 refine⟨ds,gs,before,[],pa,pv,e,hres _ _ _,hargs _ hold,hvars _ hold,World.keptBut_mono (fun p c=>⟨c,?_⟩) l,fun _=>?_⟩
 ·rw [d,List.mem_append] at c
  exact Or.inr c
 ·obtain⟨_,_,_,_,_,m,n⟩:=e
  refine⟨h,_,_,([]++pa)++pv,⟨[]++pa,pv,trodAll_append (hargs _ (fun _ _=>rfl)) (hres _ _ _),hvars _ (fun _ _=>rfl),rfl,?_,?_⟩,?_⟩
  ·intro b off c
   have hp':MemPlace.cell b off∈before:=by rw [d];simpa using c
   rw [g _ (i _ hp')]
   exact m b off hp'
  ·intro o
   have:=n o
   rw [d] at this
   simpa using this
  ·intro p c _
   rw [d]
   simpa using c
theorem Same.sameAt{W w':World}(h:Same W w'){p:MemPlace}(a:p.block<W.heap.size):W.sameAt w' p:=by
 cases p with
 |cell b o=>exact World.cell?_of_block (w:=W) (h.heap b a)
 |map b=>exact h.heap b a
theorem z8h{H:Type}{enc:TypeId×Value→H}{P:Program}{W W':World}{sp:Nat→Bool}(g:laidOutB P=true)(i:Same W W'): ∀ {ts:List TypeId} {vs:List Value} {ds:List (DataW H)} {ps:List MemPlace},
 (ts.all fun t=>P.readableRec t&&decide (t<P.types.size))=true→DataW.TrodAll enc P W 0 (fun _=>true) true ts vs ds ps→(∀ p∈ps,p.block<W.heap.size)→(∀ p∈ps,sp p.block=true)→DataW.TrodAll enc P W' 0 sp true ts vs ds ps
 | [],[],[],_,_,h,_,_=>h
 | [],_::_,_,_,_,h,_,_=>by simp [DataW.TrodAll] at h
 | [],[],_::_,_,_,h,_,_=>by simp [DataW.TrodAll] at h
 |_::_,[],_,_,_,h,_,_=>by simp [DataW.TrodAll] at h
 |_::_,_::_,[],_,_,h,_,_=>by simp [DataW.TrodAll] at h
 |t::ts,v::vs,d::ds,ps,a,⟨p,q,j,k,e⟩,c,f=>by
  subst e
  simp only [List.all_cons,Bool.and_eq_true,decide_eq_true_eq] at a
  refine⟨p,q,WideElems.Trod_stays g a.1.1 a.1.2 j (fun x b=>i.sameAt (c x (List.mem_append_left _ b))) (fun x b=>f x (List.mem_append_left _ b)),?_,rfl⟩
  exact z8h g i (by rw [List.all_eq_true];intro t' ht';have:=List.all_eq_true.1 a.2 t' ht';exact this) k (fun x b=>c x (List.mem_append_right _ b)) (fun x b=>f x (List.mem_append_right _ b))
/-! ### Arguments-/
section args
variable {P : Program}
end args
theorem zi6{P:Program}{s:ChangeSpec}{f:Func}{H:Type}{enc:TypeId×Value→H}{W W':World}{args:Array Value}{ds gs:List (DataW H)}{before:List MemPlace}{rt:TypeId}(n:laidOutB P=true)
 (d:(f.params.toList.all fun t=>P.readableRec t&&decide (t<P.types.size))=true) (hvars:s.vars=[]) (a:f.resultTypes= #[rt]) (j:P.underlying rt=some .bool)
 (c: ∀ ds gs:List (DataW H),DataW.TrodAll enc P W 0 (fun _=>true) true f.params.toList args.toList ds before→s.fn H (ds++[])= {results:=[.lit (.bool true)],args:=ds})
 (k:DataW.Whole enc P f.params.toList s.vars false W args.toList ds gs before) (e:Same W W'):s.post enc P f false true false false W args (.bool true) W':=by
 have hW':=k
 obtain⟨p,q,l,m,rfl,o,r⟩:=k
 rw [hvars] at m
 obtain⟨rfl,rfl⟩:=trodVars_none m
 simp only [List.append_nil] at hW' c⊢
 have g:=c ds [] l
 refine zbw (pa:=p) (pv:=[]) hW' (fun b sp u=>?_) (fun sp h=>?_) (fun sp _=>?_) (by simp) (e.keptBut _) e.frozen (ok_one a rfl (okWide_bool_mk j _))
 ·rw [List.append_nil,g,a];exact trodAll_cons_mk (shut_bool j _) trodAll_mk0
 ·rw [List.append_nil,g];exact z8h n e d l (fun x i=>hW'.lt x i) (fun x i=>h x i)
 ·rw [List.append_nil,g,hvars];rfl
theorem zgf{P:Program}{f:FuncId}{args:Array Value}{W:World}{post:Value→RH→Prop}(h:CallP P f args (rh0 W) post)(b: ∀ v R',post v R'→v= .bool true):Calls P f args W fun e W'=>e= .returned (.bool true)∧Same W W':=
 Calls.mono (h [] W (holds0 W)) fun e w' ⟨v,c,R',a,d,g⟩=>⟨by rw [c,b v R' g],zis a d⟩
end GV
end Go.Proofs.Ytkhihcleegljhaa

namespace Go.Proofs.Ytkhihcleegljhaa
namespace GV
open Go.ChangeShapes Go.WideShapes Go.ChangeAt Go.RowKit
set_option maxRecDepth 100000
theorem laid:laidOutB Try.prog=true:=by kernel_rfl
end GV
end Go.Proofs.Ytkhihcleegljhaa
