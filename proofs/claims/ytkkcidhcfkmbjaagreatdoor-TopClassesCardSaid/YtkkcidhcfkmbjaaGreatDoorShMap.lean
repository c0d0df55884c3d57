
import Derived.Test.YtkkcidhcfkmbjaaGreatDoorShFree
import Derived.MapKept
set_option linter.unusedVariables false
set_option linter.unusedSimpArgs false
set_option linter.unusedSectionVars false
namespace Go.Proofs.YtkkcidhcfkmbjaaGreatDoor
namespace GV
def NRep{α:Type}(t:Bool)(T:Ty α)(R:RH)(F:Frag)(v:Value)(X:List (List α)):Prop:= ∃ Vs,N2 t T R F v Vs X
theorem NRep.mono{α:Type}{t:Bool}{T:Ty α}{R R':RH}{F:Frag}{v:Value}{X:List (List α)}(h:NRep t T R F v X)(b:RH.le R R'):NRep t T R' F v X:=let⟨Vs,a⟩:=h;⟨Vs,a.mono b⟩
theorem zcj{v:Value}(h:v.oneCell'=true):v.cells=([v]:List Value).toArray:=by
 cases v<;>first|rfl|(simp [Value.oneCell'] at h;done)
section ops
variable {P : Program} {ρ : Option Nat} {l : Nat → Value} {R : RH} {O : List Frag} {dst : Option Tmp} {ty : TypeId} {pos : String} {after : Array Go.Edge} {g : Option (Nat × Bool)} {α : Type} {t : Bool} {T : Ty α} {F : Frag} {v : Value} {Vs : List Value} {X : List (List α)}
end ops
section read
variable {α : Type} {t : Bool} {T : Ty α} {R R1 : RH} {f F : Frag} {v : Value} {Vs : List Value}
end read
section frz
variable {P : Program} {ρ : Option Nat} {n : Nat} {Q : Po} {l : Nat → Value} {D : List Nat} {R : RH} {O : List Frag} {ops : Array Oper} {os : List Oper} {c : Code} {α : Type} {t : Bool} {T : Ty α} {i : Nat} {F : Frag} {v : Value} {X : List (List α)}
end frz
section appT
variable {P : Program} {ρ : Option Nat} {l : Nat → Value} {R : RH} {O : List Frag} {dst : Option Tmp} {ty : TypeId} {pos : String} {after : Array Go.Edge} {g : Option (Nat × Bool)} {α : Type} {T : Ty α}
end appT
section sliceO
variable {P : Program} {ρ : Option Nat} {l : Nat → Value} {R : RH} {O : List Frag} {α : Type} {T : Ty α}
theorem zfo{t e:TypeId}{lo hi mx:Nat}{x:Operand}{xlo xhi xmx:Option Operand}{f:Frag}{v:Value}{X:List α}(z:SlOk P t e T)(a:ev l x=v)(B:ORep T R f v X)
 (n:xlo.map (ev l)=none∧lo=0∨ ∃ k,xlo.map (ev l)=some (.int k lo)) (o:xhi.map (ev l)=none∧hi=X.length∧xmx=none∨ ∃ k,xhi.map (ev l)=some (.int k hi))
 (q:xmx.map (ev l)=none∧mx=capOf v∨ ∃ k,xmx.map (ev l)=some (.int k mx)) (C:lo≤hi) (G:hi≤X.length) (D:hi≤mx) (m:mx≤capOf v):
 ∃ u,ORep T R f u ((X.drop lo).take (hi-lo))∧capOf u=mx-lo∧ ∀ (dst:Option Tmp) (ty:TypeId) (pos:String) (after:Array Go.Edge) (g:Option (Nat×Bool)),Val P ρ ⟨dst,.slice t x xlo xhi xmx,ty,pos,after,g⟩ l R O u:=by
 obtain⟨p,d,E⟩:=z2r B
 refine⟨.slice (if mx=lo then p else p.map (·.add (lo*T.size))) (hi-lo) (mx-lo),?_,rfl,fun dst ty pos after g A w H=>?_⟩
 ·have hlen:((X.drop lo).take (hi-lo)).length=hi-lo:=by simp;omega
  rcases B with⟨rfl,rfl,rfl⟩|⟨b,pre,cs,cap,bt,rfl,rfl,F,r,j,s⟩
  ·have:mx=0:=by simpa [capOf] using m
   have:lo=0:=by omega
   have:hi=0:=by omega
   subst_vars
   simp only [Value.slice.injEq] at d
   obtain⟨rfl,_⟩:=d
   exact .inl ⟨rfl,by simp,rfl⟩
  ·simp only [Value.slice.injEq,capOf] at d m E
   obtain⟨rfl,_⟩:=d
   right
   by_cases hm:mx=lo
   ·refine⟨b,pre,cs,0,bt,?_,rfl,?_,by simp,j,fun i x a=>?_⟩
    ·rw [if_pos hm,hlen];simp only [Value.slice.injEq,true_and];omega
    ·rw [hlen];omega
    ·rw [show hi-lo=0 by omega,List.take_zero] at a;simp at a
   ·have y:lo*T.size≤cs.length:=Nat.le_trans (Nat.mul_le_mul_right _ (by omega:lo≤cap)) r
    refine⟨b,pre++cs.take (lo*T.size),cs.drop (lo*T.size),mx-lo,bt,?_,?_,by rw [hlen];omega,?_,?_,fun i x a=>?_⟩
    ·rw [if_neg hm,hlen];simp [addr_add,Nat.min_eq_left y]
    ·rw [List.append_assoc,List.take_append_drop]
    ·rw [List.length_drop,Nat.sub_mul]
     have:=Nat.mul_le_mul_right T.size m
     omega
    ·rw [List.append_assoc,List.take_append_drop];exact j
    ·rw [List.getElem?_take] at a
     split at a
     ·rw [List.getElem?_drop] at a
      have:=s (lo+i) x a
      rwa [List.drop_drop,←Nat.add_mul]
     ·cases a
 ·rw [qb (by intro c h;cases h)]
  exact z4d z.u z.e.size (a.trans d) n o q C D m (fun _=>by omega)
end sliceO
section sliceQ
variable {P : Program} {ρ : Option Nat} {n : Nat} {Q : Po} {l : Nat → Value} {D : List Nat} {R : RH} {O : List Frag} {ops : Array Oper} {rest : List Oper} {ty : TypeId} {pos : String} {after : Array Go.Edge} {d : Nat} {α : Type} {T : Ty α}
theorem zic{t e:TypeId}{lo hi mx:Nat}{x:Operand}{xlo xhi xmx:Option Operand}{f:Frag}{v:Value}{X:List α}(g:Nat.blt d n=true)(h:SlOk P t e T)(i:ev l x=v)(j:ORep T R f v X)
 (a:xlo.map (ev l)=none∧lo=0∨ ∃ k,xlo.map (ev l)=some (.int k lo)) (b:xhi.map (ev l)=none∧hi=X.length∧xmx=none∨ ∃ k,xhi.map (ev l)=some (.int k hi))
 (c:xmx.map (ev l)=none∧mx=capOf v∨ ∃ k,xmx.map (ev l)=some (.int k mx)) (m:lo≤hi) (o:hi≤X.length) (p:hi≤mx) (q:mx≤capOf v)
 (r: ∀ u,ORep T R f u ((X.drop lo).take (hi-lo))→capOf u=mx-lo→wo P ρ n ops Q rest (upd l d u) D R O):wo P ρ n ops Q (⟨some d,.slice t x xlo xhi xmx,ty,pos,after,none⟩::rest) l D R O:=by
 obtain⟨u,s,w,y⟩:=zfo (P:=P) (ρ:=ρ) (O:=O) h i j a b c m o p q
 exact uh g (y _ _ _ _ _) (r u s w)
end sliceQ
theorem z9g{place:Nat→Option (Nat×Nat)}: ∀ (ps ps':List (Nat×Value)) (cells:Array Value),ps.map (fun p=>(p.1,p.2.cells))=ps'.map (fun p=>(p.1,p.2.cells))→Instr.fill place cells ps=Instr.fill place cells ps'
 | [],[],_,_=>rfl
 | [],_::_,_,h=>by simp at h
 |_::_,[],_,h=>by simp at h
 |(i,v)::r,(j,u)::r',cells,h=>by
  simp only [List.map_cons,List.cons.injEq,Prod.mk.injEq] at h
  obtain⟨⟨rfl,a⟩,b⟩:=h
  simp only [Instr.fill,a]
  cases place i with
  |none=>rfl
  |some q=>simp only [];rw [z9g r r' _ b]
theorem za0{P:Program}{ρ:Option Nat}{l:Nat→Value}{R:RH}{O:List Frag}{dst:Option Tmp}{ty:TypeId}{pos:String}{after:Array Go.Edge}{g:Option (Nat×Bool)}{t:TypeId}{parts:List (Nat×Operand)}{ps:List (Nat×Value)}(ps':List (Nat×Value)){v:Value}(a:(parts.map fun x=>(x.1,ev l x.2))=ps)
 (b:ps.map (fun p=>(p.1,p.2.cells))=ps'.map (fun p=>(p.1,p.2.cells))) (h: ∀ w,(Instr.build t ps'.toArray).run P w= .ok v w):Val P ρ ⟨dst,.build t parts.toArray,ty,pos,after,g⟩ l R O v:=
 o5 a fun w=>by
  have:(Instr.build t ps.toArray)=(Instr.build t ps'.toArray):=by
   simp only [Instr.build,z9g (place:=_) ps ps' _ b]
  rw [this];exact h w
section step
variable {P : Program} {ρ : Option Nat} {n : Nat} {Q : Po} {l : Nat → Value} {D : List Nat} {R : RH} {O : List Frag} {ops : Array Oper} {rest : List Oper} {ty : TypeId} {pos : String} {after : Array Go.Edge} {d : Nat}
theorem zk9{op:Op}{φ:Value→RH→Prop}(b:Nat.blt d n=true)(h:Eff P ρ ⟨some d,op,ty,pos,after,none⟩ l R O (fun v R' O'=>O'=O∧φ v R'))(c: ∀ v R',RH.le R R'→φ v R'→wo P ρ n ops Q rest (upd l d v) D R' O):
 wo P ρ n ops Q (⟨some d,op,ty,pos,after,none⟩::rest) l D R O:=z03 b h fun v R' O' a ⟨e,f⟩=>by subst e;exact c v R' a f
end step
end GV
end Go.Proofs.YtkkcidhcfkmbjaaGreatDoor

namespace Go.Proofs.YtkkcidhcfkmbjaaGreatDoor
namespace GV
section p
variable {P : Program} {ρ : Option Nat} {n : Nat} {ops : Array Oper} {Q : Po} {rest : List Oper} {l : Nat → Value} {D : List Nat} {R : RH} {O : List Frag} {ty : TypeId} {pos : String} {after : Array Go.Edge} {d : Nat} {dst : Option Tmp} {g : Option (Nat × Bool)}
variable {α β : Type} {T : Ty α} {B : Ty β} {X : List α} {v u w : Value} {x y : Operand} {f F : Frag} {i j o fld : Nat} {t s : TypeId} {pr : α → β} {se : α → β → α}
end p
section q
variable {P : Program} {ρ : Option Nat} {l : Nat → Value} {R : RH} {O : List Frag} {ty : TypeId} {pos : String} {after : Array Go.Edge} {dst : Option Tmp} {g : Option (Nat × Bool)}
variable {α β : Type} [Inhabited α] {b : Bool} {T : Ty α} {B : Ty β} {Vs : List Value} {X : List (List α)} {v u w : Value} {x y : Operand} {F : Frag} {i j o r : Nat} {t : TypeId} {pr : α → β} {se : α → β → α}
end q
end GV
end Go.Proofs.YtkkcidhcfkmbjaaGreatDoor

namespace Go.Proofs.YtkkcidhcfkmbjaaGreatDoor
namespace GV
/-! ### A map's entries as a list of pairs,in the order in which the keys came-/
def z02{κ β:Type}[DecidableEq κ](z:β):List (κ×β)→κ→β
 | [],_=>z
 |p::l,k=>if k=p.1 then p.2 else z02 z l k
def mg{κ β:Type}[DecidableEq κ]:List (κ×β)→κ→Bool
 | [],_=>false
 |p::l,k=>if k=p.1 then true else mg l k
def z3a{κ β:Type}[DecidableEq κ]:List (κ×β)→κ→β→List (κ×β)
 | [],k,v=>[(k,v)]
 |p::l,k,v=>if k=p.1 then(k,v)::l else p::z3a l k v
def z0p{κ β:Type}[DecidableEq κ]:List (κ×β)→κ→Nat→Option (Nat×β)
 | [],_,_=>none
 |p::l,k,i=>if k=p.1 then some (i,p.2) else z0p l k (i+1)
def z5j(e:MapEntry):Value×Value:=(e.key,e.val)
def z9x{κ β:Type}(ke:κ→Value)(ve:β→Value)(es:Array MapEntry)(M:List (κ×β)):Prop:=es.toList.map z5j=M.map fun p=>(ke p.1,ve p.2)
structure KOk (P:Program) (kt:TypeId) {κ:Type} [DecidableEq κ] (ke:κ→Value):Prop where
 check: ∀ (b:Bool) (k:κ) (w:World),(Instr.checkKey b 10000 kt (ke k)).run P w= .ok () w
 find: ∀ {β:Type} (k:κ) (es:List MapEntry) (M:List (κ×β)) (ve:β→Value) (w:World),es.map z5j=M.map (fun p=>(ke p.1,ve p.2))→
  (Instr.findKey kt (ke k) es).run P w= .ok ((z0p M k 0).map fun p=>(p.1,ve p.2)) w
 same: ∀ k:κ,Instr.sameBits 10000 (ke k) (ke k)=true
theorem z8f{β:Type}{q q':IntKind}{k:Int}{ve:β→Value}: ∀ (es:List MapEntry) (M:List (Int×β)) (i:Nat),es.map z5j=M.map (fun p=>(Value.int q p.1,ve p.2))→
 Instr.findNow (.int q') (.int q k) es i=some ((z0p M k i).map fun p=>(p.1,ve p.2))
 | [],[],i,_=>rfl
 | [],_::_,_,h=>by simp at h
 |_::_,[],_,h=>by simp at h
 |e::es,p::M,i,h=>by
  simp only [List.map_cons,List.cons.injEq,z5j,Prod.mk.injEq] at h
  obtain⟨⟨a,b⟩,c⟩:=h
  unfold Instr.findNow
  rw [a]
  simp only [Instr.sameNow,if_pos]
  unfold z0p
  by_cases hk:k=p.1
  ·simp [hk,b]
  ·have:(k==p.1)=false:=by simpa using hk
   rw [this]
   simp only [if_neg hk]
   exact z8f es M (i+1) c
theorem zlj{P:Program}{kt:TypeId}{q:IntKind}(a:P.underlying kt=some (.int q)):KOk P kt (Value.int q) where
 check b k w:=MapKept.run_checkKey a (by simp [MapKept.IsKey]) b 9999
 find k es M ve w h:=MapKept.run_findKey a (z8f es M 0 h)
 same k:=by simp [Instr.sameBits]
section m
variable {κ β : Type} [DecidableEq κ] {ke : κ → Value} {ve : β → Value} {M : List (κ × β)} {k : κ} {z : β}
theorem zhu(i:Nat):((z0p M k i).map (·.2)).getD z=z02 z M k:=by
 induction M generalizing i with
 |nil=>rfl
 |cons p l ih=>
  unfold z0p z02
  by_cases h:k=p.1
  ·simp [h]
  ·simp only [if_neg h];exact ih (i+1)
theorem zib(i:Nat):(z0p M k i).isSome=mg M k:=by
 induction M generalizing i with
 |nil=>rfl
 |cons p l ih=>
  unfold z0p mg
  by_cases h:k=p.1
  ·simp [h]
  ·simp only [if_neg h];exact ih (i+1)
theorem zg9{i:Nat}{v:β}(h:z0p M k i=none):z3a M k v=M++[(k,v)]:=by
 induction M generalizing i with
 |nil=>rfl
 |cons p l ih=>
  unfold z0p at h
  by_cases hk:k=p.1
  ·simp [hk] at h
  ·rw [if_neg hk] at h
   simp only [z3a,if_neg hk,ih h,List.cons_append]
theorem zfy{i j:Nat}{u v:β}(h:z0p M k i=some (j,u)):i≤j∧M[j-i]? =some (k,u)∧z3a M k v=M.set (j-i) (k,v):=by
 induction M generalizing i with
 |nil=>cases h
 |cons p l ih=>
  unfold z0p at h
  by_cases hk:k=p.1
  ·rw [if_pos hk] at h
   simp only [Option.some.injEq,Prod.mk.injEq] at h
   obtain⟨rfl,rfl⟩:=h
   refine⟨Nat.le_refl _,?_,?_⟩
   ·simp [hk]
   ·simp [z3a,hk]
  ·rw [if_neg hk] at h
   obtain⟨c,a,b⟩:=ih h
   have e:j-i=(j-(i+1))+1:=by omega
   refine⟨by omega,?_,?_⟩
   ·rw [e,List.getElem?_cons_succ];exact a
   ·rw [e,List.set_cons_succ,←b];simp [z3a,hk]
end m
def MRep{κ β:Type}(ke:κ→Value)(ve:β→Value)(R:RH)(f:Frag)(v:Value)(M:List (κ×β)):Prop:=
 ∃ b es c,v= .map (some b)∧f=single b (.map es c)∧z9x ke ve es M
theorem MRep.mono{κ β:Type}{ke:κ→Value}{ve:β→Value}{R R':RH}{f:Frag}{v:Value}{M:List (κ×β)}(h:MRep ke ve R f v M)(a:RH.le R R'):MRep ke ve R' f v M:=h
section e
variable {P : Program} {ρ : Option Nat} {n : Nat} {ops : Array Oper} {Q : Po} {rest : List Oper} {l : Nat → Value} {D : List Nat} {R : RH} {O : List Frag} {ty : TypeId} {pos : String} {after : Array Go.Edge} {d : Nat} {dst : Option Tmp} {g : Option (Nat × Bool)}
variable {κ β : Type} {ke : κ → Value} {ve : β → Value} {M : List (κ × β)} {k : κ} {z : β} {t kt et : TypeId} {x y s : Operand} {v : Value} {f : Frag}
theorem zeg:Eff P ρ ⟨dst,.makeMap t none,ty,pos,after,g⟩ l R O (fun v R' O'=>R'=R∧ ∃ f,O'=f::O∧MRep ke ve R f v ([]:List (κ×β))):=by
 intro A w a;rw [qb (by intro c h;cases h)]
 simp only [execOp,Option.map,Instr.makeMap,Sem.run_bind,run_newObj,Sem.run_pure,Result.andThen_ok]
 exact⟨R,_,RH.le.refl _,ay a _,rfl,_,rfl,_,#[],0,rfl,rfl,rfl⟩
theorem z5q(a:Nat.blt d n=true)(b: ∀ v f,MRep ke ve R f v ([]:List (κ×β))→wo P ρ n ops Q rest (upd l d v) D R (f::O)):wo P ρ n ops Q (⟨some d,.makeMap t none,ty,pos,after,none⟩::rest) l D R O:=
 z03 a (zeg (ke:=ke) (ve:=ve)) fun v R' O' _ ⟨c,f,e,h⟩=>by subst c;subst e;exact b v f h
variable [DecidableEq κ]
theorem zaw{b:Nat}{es:Array MapEntry}{c:Nat}{w:World}{u:β}(m:P.underlying t=some (.map kt et))(f:KOk P kt ke)(g:w.heap[b]? =some (.map es c))(a:z9x ke ve es M):
 ∃ es' c',(Instr.mapUpdate t (.map (some b)) (ke k) (ve u)).run P w= .ok () {w with heap:=w.heap.setIfInBounds b (.map es' c')}∧z9x ke ve es' (z3a M k u):=by
 have n:=f.find k es.toList M ve w a
 unfold Instr.mapUpdate
 simp only [Sem.run_bind,run_underlying m,Result.andThen_ok,MapKept.run_getObj_map g,f.check,n]
 cases hm:z0p M k 0 with
 |none=>
  simp only [Option.map_none,MapKept.run_setObj_map _ g]
  refine⟨_,_,rfl,?_⟩
  unfold z9x at a⊢
  rw [Array.toList_push,List.map_append,a,zg9 hm,List.map_append]
  rfl
 |some p=>
  obtain⟨j,h⟩:=p
  obtain⟨_,l,o⟩:=zfy (v:=u) hm
  simp only [Option.map_some]
  have hkey:((es[j]?).map (·.key)).getD (ke k)=ke k:=by
   have d:(es.toList.map z5j)[j]? =some (ke k,ve h):=by rw [a,List.getElem?_map,show M[j]? =some (k,h) from l];rfl
   rw [List.getElem?_map,Array.getElem?_toList] at d
   cases he:es[j]? with
   |none=>rfl
   |some e=>rw [he] at d;simp only [Option.map_some,z5j,Option.some.injEq,Prod.mk.injEq] at d;simp [d.1]
  rw [hkey]
  simp only [Instr.keyThatStays,f.same,if_true,Sem.run_pure,Sem.run_bind,Result.andThen_ok,MapKept.run_setObj_map _ g]
  refine⟨_,_,rfl,?_⟩
  unfold z9x at a⊢
  rw [o,Array.toList_modify]
  apply List.ext_getElem?
  intro i
  have hi:(es.toList.map z5j)[i]? =(M.map fun p=>(ke p.1,ve p.2))[i]? :=by rw [a]
  rw [List.getElem?_map,List.getElem?_modify,List.getElem?_map,List.getElem?_set]
  rw [List.getElem?_map,List.getElem?_map] at hi
  by_cases hij:j=i
  ·subst hij
   have q:j<M.length:=(List.getElem?_eq_some_iff.1 l).1
   simp only [Nat.sub_zero,if_true,q]
   rw [show M[j]? =some (k,h) from l] at hi
   cases he:es.toList[j]? with
   |none=>rw [he] at hi;simp at hi
   |some e=>simp [z5j]
  ·simp only [Nat.sub_zero,if_neg hij]
   simpa using hi
theorem zan{u:β}{w0 q:Value}{i:Nat}(p:P.underlying t=some (.map kt et))(r:KOk P kt ke)(m:O[i]? =some f)(h:MRep ke ve R f v M)(z:ev l x=v)(B:ev l y=ke k)(C:ev l s=ve u):
 Eff P ρ ⟨dst,.mapUpdate t x y s,ty,pos,after,g⟩ l R O (fun v' R' O'=>v'=undef∧R'=R∧ ∃ f',O'=O.set i f'∧MRep ke ve R f' v (z3a M k u)):=by
 intro A w n;rw [qb (by intro c h;cases h)]
 obtain⟨b,es,c,rfl,rfl,D⟩:=h
 have a:i<O.length:=(List.getElem?_eq_some_iff.1 m).1
 have hO':(O++A)[i]? =some (single b (.map es c)):=by rw [List.getElem?_append_left a];exact m
 have o:w.heap[b]? =some (.map es c):=lu n hO' (single_same _ _)
 obtain⟨es',c',E,F⟩:=zaw (k:=k) (u:=u) p r o D
 have d:(execOp (ev l) (⟨dst,.mapUpdate t x y s,ty,pos,after,g⟩:Oper)).run P w= .ok .skip {w with heap:=w.heap.setIfInBounds b (.map es' c')}:=by
  simp only [execOp,z,B,C,Sem.run_bind,E,Result.andThen_ok]
  rfl
 rw [d]
 have e:b<w.heap.size:=(Array.getElem?_eq_some_iff.1 o).1
 refine⟨R,_,RH.le.refl _,?_,rfl,rfl,_,rfl,_,es',c',rfl,rfl,F⟩
 have:=z7k (w':= {w with heap:=w.heap.setIfInBounds b (.map es' c')}) n hO' (o':= .map es' c') (by simp [e]) (fun j G=>by simp [Ne.symm G]) rfl rfl trivial
 rwa [List.set_append_left _ _ a] at this
theorem z2v{u:β}{i:Nat}(a:P.underlying t=some (.map kt et))(b:KOk P kt ke)(c:O[i]? =some f)(h:MRep ke ve R f v M)(d:ev l x=v)(e:ev l y=ke k)(g:ev l s=ve u)
 (j: ∀ f',MRep ke ve R f' v (z3a M k u)→wo P ρ n ops Q rest l D R (O.set i f')):wo P ρ n ops Q (⟨none,.mapUpdate t x y s,ty,pos,after,none⟩::rest) l D R O:=
 z6c (zan (w0:=undef) (q:=undef) a b c h d e g) fun v' R' O' _ ⟨_,m,f',hO',h⟩=>by subst m;subst hO';exact j f' h
def MAt(ke:κ→Value)(ve:β→Value)(R:RH)(O:List Frag)(v:Value)(M:List (κ×β)):Prop:=
 ∀ A w,Holds R (O++A) w→ ∃ b es c,v= .map (some b)∧w.heap[b]? =some (.map es c)∧z9x ke ve es M
omit [DecidableEq κ] in
theorem z0s{i:Nat}(d:O[i]? =some f)(h:MRep ke ve R f v M):MAt ke ve R O v M:=by
 intro A w e
 obtain⟨b,es,c,rfl,rfl,g⟩:=h
 have a:i<O.length:=(List.getElem?_eq_some_iff.1 d).1
 exact⟨b,es,c,rfl,lu e (by rw [List.getElem?_append_left a];exact d) (single_same _ _),g⟩
omit [DecidableEq κ] in
theorem zac{at':Array TypeId}(a:at'[0]? =some t)(d:P.underlying t=some (.map kt et))(e:ev l x=v)(h:MAt ke ve R O v M):Val P ρ ⟨dst,.call ⟨.builtin .len,#[x],at'⟩,ty,pos,after,g⟩ l R O (.int .i64 M.length):=by
 intro A w f;rw [qb (by intro c h;cases h)]
 obtain⟨b,es,c,rfl,i,j⟩:=h A w f
 have k:es.size=M.length:=by
  have:=congrArg List.length j
  simpa using this
 simp [execOp,resolve,invoke,builtin,Builtin.len_,a,underlying,d,e,goInt,MapKept.run_getObj_map i,k]
theorem z9w{b:Nat}{es:Array MapEntry}{c:Nat}{w:World}(d:P.underlying t=some (.map kt et))(a:KOk P kt ke)(e: ∀ w,(zeroValue et).run P w= .ok (ve z) w)(f:w.heap[b]? =some (.map es c))(g:z9x ke ve es M)(ok:Bool):
 (Instr.lookup t (.map (some b)) (ke k) ok).run P w= .ok (if ok then .tuple #[ve (z02 z M k),.bool (mg M k)] else ve (z02 z M k)) w:=by
 have h:=a.find k es.toList M ve w g
 unfold Instr.lookup
 simp only [Sem.run_bind,run_underlying d,Result.andThen_ok,MapKept.run_getObj_map f,a.check,h,Sem.run_pure]
 rw [←zhu 0,←zib 0]
 cases hm:z0p M k 0 with
 |none=>simp [e]
 |some p=>simp
theorem z5r(a:P.underlying t=some (.map kt et))(d:KOk P kt ke)(e: ∀ w,(zeroValue et).run P w= .ok (ve z) w)(h:MAt ke ve R O v M)(f:ev l x=v)(i:ev l y=ke k):Val P ρ ⟨dst,.lookup t x y false,ty,pos,after,g⟩ l R O (ve (z02 z M k)):=by
 intro A w j;rw [qb (by intro c h;cases h)]
 obtain⟨b,es,c,rfl,m,n⟩:=h A w j
 simp only [execOp,f,i,Sem.run_bind,z9w (k:=k) a d e m n,Result.andThen_ok]
 rfl
theorem z4l(a:P.underlying t=some (.map kt et))(d:KOk P kt ke)(e: ∀ w,(zeroValue et).run P w= .ok (ve z) w)(h:MAt ke ve R O v M)(f:ev l x=v)(i:ev l y=ke k):Val P ρ ⟨dst,.lookup t x y true,ty,pos,after,g⟩ l R O (.tuple #[ve (z02 z M k),.bool (mg M k)]):=by
 intro A w j;rw [qb (by intro c h;cases h)]
 obtain⟨b,es,c,rfl,m,n⟩:=h A w j
 simp only [execOp,f,i,Sem.run_bind,z9w (k:=k) a d e m n,Result.andThen_ok]
 rfl
end e
end GV
end Go.Proofs.YtkkcidhcfkmbjaaGreatDoor
