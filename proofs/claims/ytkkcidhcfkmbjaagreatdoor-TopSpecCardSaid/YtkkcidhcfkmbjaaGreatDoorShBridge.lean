import Derived.Test.YtkkcidhcfkmbjaaGreatDoorShMap
import Derived.Test.YtkkcidhcfkmbjaaGreatDoorRows
import Derived.ProofKit
import Derived.OpenShut
import Derived.JoinedCond
import Derived.Carry
set_option linter.unusedVariables false
set_option linter.unusedSimpArgs false
set_option linter.unusedSectionVars false
namespace Go.Proofs.YtkkcidhcfkmbjaaGreatDoor
namespace GV
open Go.ChangeShapes Go.WideShapes Go.ChangeAt Go.RowKit
def rh0(W:World):RH:=⟨fun k=>W.heap[k]?,(W.os,W.heap.size),W.output⟩
theorem holds0(W:World):Holds (rh0 W) [] W:=⟨fun k o h=>h,fun f a=>(by cases a),.nil,⟨rfl,fun k o b c=>by
 have:=(Array.getElem?_eq_some_iff.1 c).1
 simp only [rh0] at b;omega⟩,rfl⟩
structure Same (W w':World):Prop where
 heap: ∀ k,k<W.heap.size→w'.heap[k]? =W.heap[k]?
 os:w'.os=W.os
 out:w'.output=W.output
 nf:NF W.heap.size w'
theorem zp5{W w':World}{R':RH}(a:RH.le (rh0 W) R')(h:Holds R' [] w'):Same W w':=by
 have e:=a.os
 refine⟨fun k b=>?_,?_,h.out.trans a.out,?_⟩
 ·have c:W.heap[k]? =some (W.heap[k]'b):=Array.getElem?_eq_getElem b
  exact(h.ro k _ (a.blk k _ c)).trans c.symm
 ·have:=h.os.1;rw [e] at this;exact this
 ·have:=h.os.2;rw [e] at this;exact this
theorem Same.keptBut{W w':World}(h:Same W w')(may:MemPlace→Prop):W.keptBut w' may:=by
 refine⟨h.os,h.out,fun i hi=>?_⟩
 rw [h.heap i hi]
 split<;>simp_all
theorem Same.frozen{W w':World}(h:Same W w')(a:Addr)(b:a.block<W.heap.size):w'.frozen? a=W.frozen? a:=by
 simp only [World.frozen?,h.heap _ b]
theorem zdn{P:Program}{H:Type}{enc:TypeId×Value→H}{f:Func}{s:ChangeSpec}{apart fresh handsOn again:Bool}{W W':World}{args:Array Value}{v:Value}{ds gs:List (DataW H)}{before pa pv:List MemPlace}
 (e:DataW.Whole enc P f.params.toList s.vars apart W args.toList ds gs before)
 (hres: ∀ (b:Nat) (sp:Nat→Bool) (k:Bool),DataW.TrodAll enc P W' b sp k f.resultTypes.toList (v.resultList f.resultTypes.size) (s.fn H (ds++gs)).results [])
 (hargs: ∀ sp:Nat→Bool,(∀ p∈before,sp p.block=true)→DataW.TrodAll enc P W' 0 sp true f.params.toList args.toList (s.fn H (ds++gs)).args pa)
 (hvars: ∀ sp:Nat→Bool,(∀ p∈before,sp p.block=true)→DataW.TrodVars enc P W' sp s.vars (s.fn H (ds++gs)).vars pv)
 (d:before=pa++pv) (l:W.keptBut W' (· ∈before)) (g: ∀ a:Addr,a.block<W.heap.size→W'.frozen? a=W.frozen? a)
 (h: ∀ (j:Nat) (t:TypeId) (r:Value),f.resultTypes[j]? =some t→(v.resultList f.resultTypes.size)[j]? =some r→Value.okWide P W' .any 0 t r):
 s.post enc P f apart fresh handsOn again W args v W':=by
 have hold: ∀ p∈before,(fun b=>decide (b<W.heap.size)) p.block=true:=fun p c=>by simpa using e.lt p c
 have i:=fun p c=>e.lt p c
 refine⟨ds,gs,before,[],pa,pv,e,hres _ _ _,hargs _ hold,hvars _ hold,World.keptBut_mono (fun p c=>⟨c,?_⟩) l,fun _=>?_⟩
 ·rw [d,List.mem_append] at c
  exact Or.inr c
 ·obtain⟨_,_,_,_,_,m,n⟩:=e
  refine⟨h,_,_,([]++pa)++pv,⟨[]++pa,pv,trodAll_append (hargs _ (fun _ _=>rfl)) (hres _ _ _),hvars _ (fun _ _=>rfl),rfl,?_,?_⟩,?_⟩
  ·intro b off c
   have hp':MemPlace.cell b off∈before:=by rw [d];simpa using c
   rw [g _ (i _ hp')]
   exact m b off hp'
  ·intro o
   have:=n o
   rw [d] at this
   simpa using this
  ·intro p c _
   rw [d]
   simpa using c
theorem Same.sameAt{W w':World}(h:Same W w'){p:MemPlace}(a:p.block<W.heap.size):W.sameAt w' p:=by
 cases p with
 |cell b o=>exact World.cell?_of_block (w:=W) (h.heap b a)
 |map b=>exact h.heap b a
theorem z8y{H:Type}{enc:TypeId×Value→H}{P:Program}{W W':World}{sp:Nat→Bool}(g:laidOutB P=true)(i:Same W W'): ∀ {ts:List TypeId} {vs:List Value} {ds:List (DataW H)} {ps:List MemPlace},
 (ts.all fun t=>P.readableRec t&&decide (t<P.types.size))=true→DataW.TrodAll enc P W 0 (fun _=>true) true ts vs ds ps→(∀ p∈ps,p.block<W.heap.size)→(∀ p∈ps,sp p.block=true)→DataW.TrodAll enc P W' 0 sp true ts vs ds ps
 | [],[],[],_,_,h,_,_=>h
 | [],_::_,_,_,_,h,_,_=>by simp [DataW.TrodAll] at h
 | [],[],_::_,_,_,h,_,_=>by simp [DataW.TrodAll] at h
 |_::_,[],_,_,_,h,_,_=>by simp [DataW.TrodAll] at h
 |_::_,_::_,[],_,_,h,_,_=>by simp [DataW.TrodAll] at h
 |t::ts,v::vs,d::ds,ps,a,⟨p,q,j,k,e⟩,c,f=>by
  subst e
  simp only [List.all_cons,Bool.and_eq_true,decide_eq_true_eq] at a
  refine⟨p,q,WideElems.Trod_stays g a.1.1 a.1.2 j (fun x b=>i.sameAt (c x (List.mem_append_left _ b))) (fun x b=>f x (List.mem_append_left _ b)),?_,rfl⟩
  exact z8y g i (by rw [List.all_eq_true];intro t' ht';have:=List.all_eq_true.1 a.2 t' ht';exact this) k (fun x b=>c x (List.mem_append_right _ b)) (fun x b=>f x (List.mem_append_right _ b))
/-! ### Arguments-/
section args
variable {P : Program}
def z2n(P:Program)(t:TypeId){α:Type}(T:Ty α)(ok:α→Prop):Prop:=
 P.cellsOf t=T.size∧ ∀ {H:Type} {enc:TypeId×Value→H} {w:World} {base:Nat} {sp:Nat→Bool} {held:Bool} {fuel:Nat} {cs:List Value} {x:DataW H×List MemPlace},DataW.trod enc P w base sp held fuel t cs=some x→ ∃ a,T.rep (rh0 w) cs a∧ok a
theorem ze1{t:TypeId}{k:IntKind}(b:P.underlying t=some (.int k))(c:P.cellsOf t=1):z2n P t (jh k) (fun n=>(Lit.int k n).wf=true):=
 ⟨c,fun h=>let⟨n,a,_,d⟩:=DataW.trod_int b h;⟨n,a,d⟩⟩
theorem zjd{t:TypeId}(b:P.underlying t=some .bool)(c:P.cellsOf t=1):z2n P t z2m (fun _=>True):=
 ⟨c,fun h=>let⟨n,a,_⟩:=DataW.trod_bool b h;⟨n,a,trivial⟩⟩
theorem zbd{α:Type}{Q:Nat→α→Prop}: ∀ (n:Nat),(∀ i,i<n→ ∃ a,Q i a)→ ∃ X:List α,X.length=n∧ ∀ i a,X[i]? =some a→Q i a
 |0,_=>⟨[],rfl,fun i a h=>by simp at h⟩
 |n+1,h=>by
  obtain⟨X,d,e⟩:=zbd n (fun i hi=>h i (by omega))
  obtain⟨a,f⟩:=h n (by omega)
  refine⟨X++[a],by simp [d],fun i b c=>?_⟩
  rw [List.getElem?_append] at c
  split at c
  ·exact e i b c
  ·rename_i hi
   have:i-X.length=0:=by
    have:=(List.getElem?_eq_some_iff.1 c).1
    simp at this;omega
   rw [this] at c
   simp at c
   subst c
   rw [show i=n by omega];exact f
theorem zbb{t e:TypeId}{α:Type}{T:Ty α}{ok:α→Prop}(B:P.underlying t=some (.slice e))(C:P.cellsOf t=1)(v:z2n P e T ok)(D:0<T.size):
 z2n P t (tSl false T) (fun X=>(∀ x∈X,ok x)∧X.length≤maxLen):=by
 refine⟨C,fun {H enc w base sp held fuel cs x} h=>?_⟩
 rcases DataW.trod_slice B h with⟨rfl,_⟩|⟨a,len,cap,elems,rest,n,_,rfl,rfl,J,K,L,hlen,l,E,F⟩
 ·exact⟨[],ko rfl l8,⟨fun x m=>(by cases m),Nat.zero_le _⟩⟩
 ·have each: ∀ i,i<len→ ∃ y,∃ cs',w.cells? base (a.add (i*T.size)) T.size=some cs'∧T.rep (rh0 w) cs' y∧ok y:=by
   intro i hi
   have z:=l i hi
   rw [List.getElem?_eq_getElem (by omega:i<elems.length),Option.bind_eq_some_iff,v.1] at z
   obtain⟨cs',b,p⟩:=z
   obtain⟨y,q,r⟩:=v.2 p
   exact⟨y,cs',b,q,r⟩
  obtain⟨X,G,A⟩:=zbd len each
  refine⟨X,ko rfl (z6o (xh.2 ⟨some a,cap,by rw [G],by omega,fun e=>(by cases e),?_⟩)),⟨fun x m=>?_,by omega⟩⟩
  ·by_cases h0:len=0
   ·left;exact List.eq_nil_of_length_eq_zero (by omega)
   ·right
    have block: ∃ c ty fr,w.heap[a.block]? =some (.cells c ty fr)∧a.spot=none:=by
     obtain⟨y,cs',b,_,_⟩:=each 0 (by omega)
     have f:=(World.cells?_some b).2.2 0 D
     have u:0<cs'.length:=by have:=(World.cells?_some b).2.1;omega
     rw [List.getElem?_eq_getElem u] at f
     simp only [World.cell?,block_add] at f
     cases hb':w.heap[a.block]? with
     |none=>rw [hb'] at f;simp at f
     |some o=>
      rw [hb'] at f
      cases o with
      |cells c ty fr=>
       refine⟨c,ty,fr,rfl,?_⟩
       simp only [Addr.add] at f
       cases k:a.spot with
       |none=>rfl
       |some s=>simp [k] at f
      |_=>simp at f
    obtain⟨c,ty,fr,g,d⟩:=block
    refine⟨a.block,a.off,c,ty,fr,by cases a;simp at d;subst d;rfl,g,fun i y p=>?_⟩
    obtain⟨cs',b,I,_⟩:=A i y p
    have k:=World.cells?_some b
    have e:cellsAt c (a.off+i*T.size) T.size=cs':=by
     apply List.ext_getElem?
     intro j
     simp only [cellsAt,List.getElem?_take,List.getElem?_drop]
     by_cases hj:j<T.size
     ·rw [if_pos hj]
      have:=k.2.2 j hj
      rw [←this]
      have ea:a=⟨a.block,a.off,none⟩:=by cases a;simp at d;subst d;rfl
      rw [ea,addr_add,addr_add]
      simp [World.cell?,g,Nat.add_assoc]
     ·rw [if_neg hj]
      rw [List.getElem?_eq_none (by rw [k.2.1];omega)]
    rw [e];exact I
  ·obtain⟨i,hi⟩:=List.getElem?_of_mem m
   obtain⟨_,_,_,h⟩:=A i x hi
   exact h
def Parts(P:Program)(fs:List (TypeId×Nat))(off:Nat){α:Type}(T:Ty α)(ok:α→Prop):Prop:=
 ∀ {H:Type} {enc:TypeId×Value→H} {w:World} {base:Nat} {sp:Nat→Bool} {held:Bool} {fuel:Nat} {cs:List Value},
  (∀ f∈fs,∃ x,DataW.trod enc P w base sp held fuel f.1 ((cs.drop f.2).take (P.cellsOf f.1))=some x)→cs.length=off+T.size→ ∃ a,T.rep (rh0 w) (cs.drop off) a∧ok a
theorem z9i{t:TypeId}{off:Nat}{α:Type}{T:Ty α}{ok:α→Prop}(h:z2n P t T ok):Parts P [(t,off)] off T ok:=by
 intro H enc w base sp held fuel cs c f
 obtain⟨x,d⟩:=c (t,off) (by simp)
 obtain⟨a,b,e⟩:=h.2 d
 rw [h.1,List.take_of_length_le (by rw [List.length_drop];omega)] at b
 exact⟨a,b,e⟩
theorem z4b{t:TypeId}{off e:Nat}{fs:List (TypeId×Nat)}{α β:Type}{A:Ty α}{B:Ty β}{c:α→Prop}{d:β→Prop}(h:z2n P t A c)(j:e=off+A.size)(k:Parts P fs e B d):Parts P ((t,off)::fs) off (mh A B) (fun x=>c x.1∧d x.2):=by
 intro H enc w base sp held fuel cs g l
 obtain⟨x,m⟩:=g (t,off) (by simp)
 obtain⟨a,i,n⟩:=h.2 m
 rw [h.1] at i
 have hl':cs.length=off+(A.size+B.size):=l
 obtain⟨b,o,p⟩:=k (fun f hf'=>g f (List.mem_cons_of_mem _ hf')) (by omega)
 refine⟨(a,b),⟨_,_,?_,i,o⟩,n,p⟩
 rw [j,←List.drop_drop,List.take_append_drop]
theorem zcx{t:TypeId}{α β:Type}{T:Ty α}{ok:α→Prop}(f:β→α)(g:α→β)(c: ∀ a,f (g a)=a)(h:z2n P t T ok):z2n P t (T.as f) (fun b=>ok (f b)):=
 ⟨h.1,fun d=>let⟨a,e,i⟩:=h.2 d;⟨g a,by show T.rep _ _ (f (g a));rw [c];exact e,by show ok (f (g a));rw [c];exact i⟩⟩
theorem zks{fs:List (TypeId×Nat)}{off:Nat}{α:Type}{T:Ty α}{ok:α→Prop}(h:Parts P fs off T ok):Parts P fs off (zpx T) ok:=fun a b=>h a b
theorem z6p{t:TypeId}{fs:Array Field}{α:Type}{T:Ty α}{ok:α→Prop}(l:List (TypeId×Nat))(d:P.underlying t=some (.struct fs))(e:fs.toList.map (fun f=>(f.type,f.offset))=l)(b:P.cellsOf t=T.size)(h:Parts P l 0 T ok):z2n P t T ok:=by
 refine⟨b,fun {H enc w base sp held fuel cs x} g=>?_⟩
 obtain⟨xs,n,_,_,j,k,m⟩:=DataW.trod_struct d g
 have:=h (H:=H) (enc:=enc) (w:=w) (base:=base) (sp:=sp) (held:=held) (fuel:=n) (cs:=cs) (fun f c=>by
  rw [←e] at c
  obtain⟨f',hf',rfl⟩:=List.mem_map.1 c
  obtain⟨i,hi⟩:=List.getElem?_of_mem hf'
  have hi':fs[i]? =some f':=by simpa using hi
  have a:i<xs.length:=by rw [k];exact(Array.getElem?_eq_some_iff.1 hi').1
  exact⟨xs[i],by rw [m i f' hi',List.getElem?_eq_getElem a]⟩) (by rw [j,b];omega)
 simpa using this
theorem zhe{H:Type}{enc:TypeId×Value→H}{w:World}{sp:Nat→Bool}{held:Bool}{base g:Nat}{r:Reach}{t:TypeId}{v:Value}{d:DataW H}{ps:List MemPlace}{α:Type}{T:Ty α}{ok:α→Prop}(i:z2n P t T ok)(j:T.agg=true)
 (b:(match P.underlying t with|some (.struct _)=>true|some (.array _ _)=>true|_=>false)=true) (hval:Value.okWide P w r g t v) (h:DataW.Trod enc P w base sp held t v d ps): ∃ a,VRep T (rh0 w) v a∧ok a:=by
 have k: ∃ cs,v= .agg cs:=by
  unfold Value.okWide at hval
  split at hval
  ·exact hval.imp fun _ h=>h.1
  ·exact hval.imp fun _ h=>h.1
  ·rename_i c f
   cases e:P.underlying t with
   |none=>rw [e] at b;cases b
   |some d'=>
    rw [e] at b
    cases d'<;>first|(cases b;done)|(exact absurd e (c _))|(exact absurd e (f _ _))
 obtain⟨cs,rfl⟩:=k
 obtain⟨fuel,l⟩:=h
 obtain⟨a,c,f⟩:=i.2 l
 exact⟨a,⟨_,c,by simp [Ty.mk',j,Value.cells]⟩,f⟩
end args
theorem znj{P:Program}{s:ChangeSpec}{f:Func}{H:Type}{enc:TypeId×Value→H}{W W':World}{args:Array Value}{ds gs:List (DataW H)}{before:List MemPlace}{rt:TypeId}(n:laidOutB P=true)
 (d:(f.params.toList.all fun t=>P.readableRec t&&decide (t<P.types.size))=true) (hvars:s.vars=[]) (a:f.resultTypes= #[rt]) (j:P.underlying rt=some .bool)
 (c: ∀ ds gs:List (DataW H),DataW.TrodAll enc P W 0 (fun _=>true) true f.params.toList args.toList ds before→s.fn H (ds++[])= {results:=[.lit (.bool true)],args:=ds})
 (k:DataW.Whole enc P f.params.toList s.vars false W args.toList ds gs before) (e:Same W W'):s.post enc P f false true false false W args (.bool true) W':=by
 have hW':=k
 obtain⟨p,q,l,m,rfl,o,r⟩:=k
 rw [hvars] at m
 obtain⟨rfl,rfl⟩:=trodVars_none m
 simp only [List.append_nil] at hW' c⊢
 have g:=c ds [] l
 refine zdn (pa:=p) (pv:=[]) hW' (fun b sp u=>?_) (fun sp h=>?_) (fun sp _=>?_) (by simp) (e.keptBut _) e.frozen (ok_one a rfl (okWide_bool_mk j _))
 ·rw [List.append_nil,g,a];exact trodAll_cons_mk (shut_bool j _) trodAll_mk0
 ·rw [List.append_nil,g];exact z8y n e d l (fun x i=>hW'.lt x i) (fun x i=>h x i)
 ·rw [List.append_nil,g,hvars];rfl
theorem zlc{P:Program}{f:FuncId}{args:Array Value}{W:World}{post:Value→RH→Prop}(h:CallP P f args (rh0 W) post)(b: ∀ v R',post v R'→v= .bool true):Calls P f args W fun e W'=>e= .returned (.bool true)∧Same W W':=
 Calls.mono (h [] W (holds0 W)) fun e w' ⟨v,c,R',a,d,g⟩=>⟨by rw [c,b v R' g],zp5 a d⟩
end GV
end Go.Proofs.YtkkcidhcfkmbjaaGreatDoor
