
import Derived.Laws.CopyRow
import Derived.Laws.IdiomCopy
import Derived.Test.YtdhccodneoebpaaShMap
import Derived.Laws.StructEq
import Derived.ChangeKeysEq
import Derived.WideKeyRuns
set_option linter.unusedVariables false
set_option linter.unusedSimpArgs false
set_option linter.unusedSectionVars false
namespace Go.Proofs.Ytdhccodneoebpaa
namespace GV
section c
variable {P : Program} {ρ : Option Nat} {l : Nat → Value} {R : RH} {O : List Frag} {ty : TypeId} {pos : String} {after : Array Go.Edge} {dst : Option Tmp} {g : Option (Nat × Bool)}
variable {α : Type} {T : Ty α} {X Y : List α} {v u : Value} {x y : Operand} {f : Frag} {t e : TypeId}
end c
end GV
end Go.Proofs.Ytdhccodneoebpaa

namespace Go.Proofs.Ytdhccodneoebpaa
namespace GV
/-! ### The plain form-/
end GV
end Go.Proofs.Ytdhccodneoebpaa

namespace Go.Proofs.Ytdhccodneoebpaa
namespace GV
def mkV(ag:Bool)(cs:List Value):Value:=if ag then .agg cs.toArray else cs.headD undef
structure KTy (P:Program) (t:TypeId) (m sz:Nat) (ag:Bool) (K:List Value→Prop):Prop where
 cells:P.cellsOf t=sz
 info: ∃ i,P.info? t=some i
 len: ∀ cs,K cs→cs.length=sz
 isAgg: ∀ w,(isAgg t).run P w= .ok ag w
 one:ag=false→sz=1
 eq: ∀ d (w:World) cs cs',m≤d→K cs→K cs'→ ∃ r:Bool,(Op.equalIn d t (mkV ag cs) (mkV ag cs')).run P w= .ok r w∧(r=true↔cs=cs')
 chk: ∀ d (w:World) em cs,m≤d→K cs→(Instr.checkKey em d t (mkV ag cs)).run P w= .ok () w
section
variable {P : Program} {t e : TypeId} {m m' sz n : Nat} {ag : Bool} {K : List Value → Prop}
theorem KTy.mono(h:KTy P t m sz ag K)(b:m≤m'):KTy P t m' sz ag K:=
 {h with eq:=fun d w cs cs' a=>h.eq d w cs cs' (by omega),chk:=fun d w em cs a=>h.chk d w em cs (by omega)}
theorem KTy.part(h:KTy P t m sz ag K)(w:World){pre cs post:List Value}(b:K cs):(part t (pre++cs++post).toArray pre.length).run P w= .ok (mkV ag cs) w:=by
 obtain⟨i,hi⟩:=h.info
 have a:=h.len cs b
 unfold Go.part
 rw [Sem.run_bind,h.isAgg w,Result.andThen_ok]
 cases ag
 ·have c:=h.one rfl
  match cs,a with
  | [v],_=>
   simp only [Bool.false_eq_true,if_false]
   have:(pre++[v]++post).toArray[pre.length]? =some v:=by simp
   rw [this];rfl
  | [],a=>simp at a;omega
  |_::_::_,a=>simp at a;omega
 ·simp only [if_true,Sem.run_bind,run_sizeOf w hi,h.cells,Result.andThen_ok,Sem.run_pure]
  have:(pre++cs++post).toArray.extract pre.length (pre.length+sz)=cs.toArray:=by
   apply Array.toList_inj.1
   rw [Array.toList_extract]
   simp only [List.extract_eq_take_drop,List.append_assoc,List.drop_left,List.take_append_of_le_length (Nat.le_of_eq (show pre.length+sz-pre.length=cs.length by omega)),List.take_of_length_le (show cs.length≤pre.length+sz-pre.length by omega)]
  rw [this];rfl
theorem KTy.part'(h:KTy P t m sz ag K)(w:World){xs:List Value}{off:Nat}{pre cs post:List Value}(a:K cs)(b:xs=pre++cs++post)(c:off=pre.length):(Go.part t xs.toArray off).run P w= .ok (mkV ag cs) w:=by
 subst b;subst c;exact h.part w a
theorem znw{q:IntKind}(a:P.underlying t=some (.int q))(b:P.cellsOf t=1):KTy P t 1 1 false (fun cs=> ∃ x,cs=[.int q x]) where
 cells:=b
 info:=info_of_underlying a
 len:=by rintro cs ⟨x,rfl⟩;rfl
 isAgg w:=by simp [Go.isAgg,run_underlying a]
 one _:=rfl
 eq:=by
  rintro d w _ _ c ⟨x,rfl⟩ ⟨y,rfl⟩
  obtain⟨d,rfl⟩: ∃ d',d=d'+1:=⟨d-1,by omega⟩
  refine⟨x==y,?_,by simp⟩
  simp [mkV,Op.equalIn,run_underlying a]
 chk:=by
  rintro d w em _ c ⟨x,rfl⟩
  obtain⟨d,rfl⟩: ∃ d',d=d'+1:=⟨d-1,by omega⟩
  simp [mkV,Instr.checkKey,run_underlying a]
/-! ### Arrays-/
def zrs(n:Nat)(K:List Value→Prop)(cs:List Value):Prop:= ∃ L:List (List Value),L.length=n∧(∀ c∈L,K c)∧cs=L.flatten
theorem zkl{L:List (List Value)}(h: ∀ c∈L,c.length=sz):L.flatten.length=L.length*sz:=by
 induction L with
 |nil=>simp
 |cons c L ih=>
  rw [List.flatten_cons,List.length_append,ih (fun c a=>h c (by simp [a])),h c (by simp),List.length_cons,Nat.succ_mul,Nat.add_comm]
theorem zio(h:KTy P e m sz ag K)(d:Nat)(i:m≤d)(w:World): ∀ (L L':List (List Value)) (pre pre':List Value) (k:Nat),L.length=L'.length→(∀ c∈L,K c)→(∀ c∈L',K c)→pre.length=k*sz→pre'.length=k*sz→
 ∃ r:Bool,(Op.eqItems d e sz (pre++L.flatten).toArray (pre'++L'.flatten).toArray (List.range' k L.length)).run P w= .ok r w∧(r=true↔L.flatten=L'.flatten)
 | [],[],pre,pre',k,_,_,_,_,_=>⟨true,by simp [Op.eqItems],by simp⟩
 | [],_::_,_,_,_,a,_,_,_,_=>by simp at a
 |_::_,[],_,_,_,a,_,_,_,_=>by simp at a
 |c::L,c'::L',pre,pre',k,a,j,hK',l,hp'=>by
  have b:=j c (by simp)
  have f:=hK' c' (by simp)
  have n:=h.len c b
  have o:=h.len c' f
  obtain⟨r,p,hi⟩:=h.eq d w c c' i b f
  obtain⟨r',hr',hi'⟩:=zio h d i w L L' (pre++c) (pre'++c') (k+1) (by simpa using a) (fun c g=>j c (by simp [g])) (fun c g=>hK' c (by simp [g])) (by rw [List.length_append,l,n,Nat.succ_mul]) (by rw [List.length_append,hp',o,Nat.succ_mul])
  rw [List.append_assoc,List.append_assoc] at hr'
  have q:=h.part' (P:=P) w (xs:=pre++(c::L).flatten) (off:=k*sz) (pre:=pre) (post:=L.flatten) b (by simp) l.symm
  have s:=h.part' (P:=P) w (xs:=pre'++(c'::L').flatten) (off:=k*sz) (pre:=pre') (post:=L'.flatten) f (by simp) hp'.symm
  rw [List.length_cons,List.range'_succ]
  simp only [Op.eqItems,Sem.run_bind,q,s,p,Result.andThen_ok]
  have happ:(c::L).flatten=(c'::L').flatten↔c=c'∧L.flatten=L'.flatten:=by
   rw [List.flatten_cons,List.flatten_cons]
   exact⟨fun e=>List.append_inj e (by omega),fun⟨t,u⟩=>by rw [t,u]⟩
  cases r
  ·exact⟨false,by simp,by rw [happ];simp;intro e;exact absurd (hi.2 e) (by simp)⟩
  ·refine⟨r',by simpa [List.flatten_cons] using hr',?_⟩
   rw [happ,hi']
   simp [hi.1 rfl]
theorem znt(g:P.underlying t=some (.array n e))(q:P.cellsOf t=n*sz)(h:KTy P e m sz ag K):KTy P t (m+1) (n*sz) true (zrs n K) where
 cells:=q
 info:=info_of_underlying g
 len:=by rintro cs ⟨L,f,b,rfl⟩;rw [zkl fun c j=>h.len c (b c j),f]
 isAgg w:=by simp [Go.isAgg,run_underlying g]
 one h:=by cases h
 eq:=by
  rintro d w _ _ s ⟨L,f,b,rfl⟩ ⟨L',hl',hK',rfl⟩
  obtain⟨d,rfl⟩: ∃ d',d=d'+1:=⟨d-1,by omega⟩
  obtain⟨i,hi⟩:=h.info
  obtain⟨r,u,hiff⟩:=zio h d (by omega) w L L' [] [] 0 (by omega) b hK' (by simp) (by simp)
  refine⟨r,?_,hiff⟩
  show (Op.equalIn (d+1) t (.agg L.flatten.toArray) (.agg L'.flatten.toArray)).run P w=_
  rw [run_equalIn_array w d _ _ g hi,h.cells,List.range_eq_range',←f]
  exact u
 chk:=by
  rintro d w em _ s ⟨L,f,b,rfl⟩
  obtain⟨d,rfl⟩: ∃ d',d=d'+1:=⟨d-1,by omega⟩
  obtain⟨i,hi⟩:=h.info
  show (Instr.checkKey em (d+1) t (.agg L.flatten.toArray)).run P w=_
  rw [Instr.checkKey]
  simp only [Sem.run_bind,run_underlying g,Result.andThen_ok]
  simp only [Std.Legacy.Range.forIn_eq_forIn_range',Std.Legacy.Range.size,Nat.sub_zero,Nat.add_one_sub_one,Nat.div_one]
  rw [←f]
  have key: ∀ (L:List (List Value)) (pre:List Value) (k:Nat),(∀ c∈L,K c)→pre.length=k*sz→
   (forIn (List.range' k L.length) PUnit.unit fun i _=>do
    let a←sizeOf e
    let a←Go.part e (pre++L.flatten).toArray (i*a)
    Instr.checkKey em d e a
    pure (ForInStep.yield PUnit.unit):Sem PUnit).run P w= .ok () w:=by
   intro L
   induction L with
   |nil=>intro pre k _ _;simp
   |cons c L ih=>
    intro pre k b o
    have l:=b c (by simp)
    have v:=h.part' (P:=P) w (xs:=pre++(c::L).flatten) (off:=k*sz) (pre:=pre) (post:=L.flatten) l (by simp) o.symm
    have x:=h.chk d w em c (by omega) l
    rw [List.length_cons,List.range'_succ]
    simp only [List.forIn_cons,Sem.run_bind,run_sizeOf w hi,h.cells,Result.andThen_ok,v,x,Sem.run_pure]
    have:=ih (pre++c) (k+1) (fun c j=>b c (by simp [j])) (by rw [List.length_append,o,h.len c l,Nat.succ_mul])
    rw [List.append_assoc] at this
    simpa [List.flatten_cons] using this
  have p:=key L [] 0 b (by simp)
  rw [List.nil_append] at p
  rw [p];rfl
/-! ### Structs-/
inductive KFld (P:Program) (m:Nat):Nat→List Field→(List Value→Prop)→Prop
 |nil {off:Nat}:KFld P m off [] (fun cs=>cs=[])
 | cons {off sz : Nat} {f : Field} {fs : List Field} {ag : Bool} {K K' : List Value → Prop} : f.name ≠ "_" → f.offset = off → KTy P f.type m sz ag K → KFld P m (off + sz) fs K' → KFld P m off (f :: fs) (fun cs => ∃ a b, K a ∧ K' b ∧ cs = a ++ b)
theorem KFld.len{off:Nat}{fs:List Field}{K:List Value→Prop}(h:KFld P m off fs K): ∃ k,∀ cs,K cs→cs.length=k:=by
 induction h with
 |nil=>exact⟨0,fun cs e=>by subst e;rfl⟩
 |cons i j c l ih=>
  obtain⟨k,d⟩:=ih
  exact⟨_,by rintro cs ⟨a,b,f,g,rfl⟩;rw [List.length_append,c.len a f,d b g]⟩
end
/-! ### Finding-/
theorem zlf{α:Type}: ∀ {l:List α} {p:α×α},p∈l.zip l→p.1=p.2∧p.1∈l
 | [],p,h=>by simp at h
 |a::l,p,h=>by
  rw [List.zip_cons_cons] at h
  rcases List.mem_cons.1 h with rfl|h
  ·exact⟨rfl,by simp⟩
  ·obtain⟨b,c⟩:=zlf h
   exact⟨b,by simp [c]⟩
def zjd(v:Value):Prop:=(∃ q x,v= .int q x)∨ ∃ b,v= .bool b
theorem zgt{n:Nat}{v:Value}(h:zjd v):Instr.sameBits n v v=true:=by
 rcases h with⟨q,x,rfl⟩|⟨b,rfl⟩
 ·cases n<;>simp [Instr.sameBits]
 ·cases n<;>simp [Instr.sameBits]
theorem zix{n:Nat}{cs:List Value}(h: ∀ v∈cs,zjd v):Instr.sameBits (n+1) (.agg cs.toArray) (.agg cs.toArray)=true:=by
 simp only [Instr.sameBits,beq_self_eq_true,Bool.true_and,List.all_eq_true]
 intro p e
 obtain⟨c,d⟩:=zlf e
 obtain⟨a,b⟩:=p
 simp only at c d
 subst c
 exact zgt (h _ d)
section
variable {P : Program} {kt : TypeId} {m sz : Nat} {K : List Value → Prop} {κ : Type} [DecidableEq κ] {ke : κ → Value} {cl : κ → List Value}
theorem zo9(h:KTy P kt m sz true K)(j:m≤Op.maxDepth)(f: ∀ k,ke k= .agg (cl k).toArray)(g: ∀ k,K (cl k))(hinj: ∀ a b,cl a=cl b→a=b){β:Type}(k:κ)(ve:β→Value)(w:World):
 ∀ (es:List MapEntry) (M:List (κ×β)) (i:Nat),es.map zep=M.map (fun p=>(ke p.1,ve p.2))→(Instr.findAsking kt (ke k) es i).run P w= .ok ((z7b M k i).map fun p=>(p.1,ve p.2)) w
 | [],[],i,_=>by simp [Instr.findAsking,z7b]
 | [],_::_,_,h=>by simp at h
 |_::_,[],_,h=>by simp at h
 |e::es,p::M,i,c=>by
  simp only [List.map_cons,List.cons.injEq,zep,Prod.mk.injEq] at c
  obtain⟨⟨l,n⟩,o⟩:=c
  obtain⟨r,q,hi⟩:=h.eq Op.maxDepth w (cl k) (cl p.1) j (g k) (g p.1)
  have hr':(Op.equal kt (ke k) e.key).run P w= .ok r w:=by
   rw [l,f,f];exact q
  unfold Instr.findAsking z7b
  rw [Sem.run_bind,hr',Result.andThen_ok]
  have d:r=true↔k=p.1:=⟨fun e=>hinj _ _ (hi.1 e),fun e=>hi.2 (by rw [e])⟩
  by_cases hk:k=p.1
  ·rw [if_pos (d.2 hk),if_pos hk,n];rfl
  ·rw [if_neg (fun e=>hk (d.1 e)),if_neg hk]
   exact zo9 h j f g hinj k ve w es M (i+1) o
theorem zxc(h:KTy P kt m sz true K)(e:m≤10000)(g:(match P.underlying kt with|some (.array _ _)|some (.struct _)=>true|_=>false)=true)(c: ∀ k,ke k= .agg (cl k).toArray)(f: ∀ k,K (cl k))(hinj: ∀ a b,cl a=cl b→a=b)
 (d: ∀ k,∀ v∈cl k,zjd v):KOk P kt ke where
 check b k w:=by rw [c];exact h.chk 10000 w b (cl k) e (f k)
 find k es M ve w hes:=by
  rw [run_findKey_eq w g]
  exact zo9 h e c f hinj k ve w es M 0 hes
 same k:=by rw [c];exact zix (d k)
end
end GV
end Go.Proofs.Ytdhccodneoebpaa

namespace Go.Proofs.Ytdhccodneoebpaa
namespace GV
abbrev Arr (n:Nat) (α:Type):= {l:List α//l.length=n}
instance {n:Nat} {α:Type} [Inhabited α]:Inhabited (Arr n α):=⟨⟨List.replicate n default,List.length_replicate⟩⟩
structure CellsOf {α:Type} (T:Ty α) (cl:α→List Value):Prop where
 len: ∀ x,(cl x).length=T.size
 iff: ∀ R cs x,T.rep R cs x↔cs=cl x
/-! ### A box that holds an array:as a slice that can't grow-/
section a
variable {P : Program} {ρ : Option Nat} {n : Nat} {ops : Array Oper} {Q : Po} {rest : List Oper} {l : Nat → Value} {D : List Nat} {R : RH} {O : List Frag} {ty : TypeId} {pos : String} {after : Array Go.Edge} {d : Nat} {dst : Option Tmp} {g : Option (Nat × Bool)}
variable {α β : Type} {T : Ty α} {B : Ty β} {X : List α} {v u w : Value} {x y ix' : Operand} {f F : Frag} {i j o b m sz : Nat} {t s e : TypeId} {k : IntKind}
end a
end GV
end Go.Proofs.Ytdhccodneoebpaa

namespace Go.Proofs.Ytdhccodneoebpaa
namespace GV
section w
variable {P : Program} {ρ : Option Nat} {n : Nat} {ops : Array Oper} {Q : Po} {rest : List Oper} {l : Nat → Value} {D : List Nat} {R : RH} {O : List Frag} {ty : TypeId} {pos : String} {after : Array Go.Edge} {d : Nat} {dst : Option Tmp} {g : Option (Nat × Bool)}
variable {α : Type} [Inhabited α] {x y : Operand} {i j o b m sz k off : Nat} {t e bt : TypeId} {X : Arr m α} {cl : α → List Value} {vs : List Value} {v : Value}
/-! ### Structs out of parts of any size-/
inductive FillOk (place:Nat→Option (Nat×Nat)):Nat→List (Nat×Value)→List Value→Prop
 |nil {off:Nat}:FillOk place off [] []
 |last {off i:Nat} {v:Value} {c:List Value}:v.cells=c.toArray→place i=some (off,c.length)→FillOk place off [(i,v)] c
 |cons {off i:Nat} {v:Value} {ps:List (Nat×Value)} {c out:List Value}:v.cells=c.toArray→place i=some (off,c.length)→FillOk place (off+c.length) ps out→FillOk place off ((i,v)::ps) (c++out)
end w
/-! ### Loops that are gone through so many times-/
section u
variable {P : Program} {ρ : Option Nat} {n : Nat} {Q : Po} {l : Nat → Value} {D : List Nat} {R : RH} {O : List Frag} {c : Code}
end u
section mm
variable {P : Program} {ρ : Option Nat} {l : Nat → Value} {R : RH} {O : List Frag} {ty : TypeId} {pos : String} {after : Array Go.Edge} {dst : Option Tmp} {g : Option (Nat × Bool)} {k : IntKind} {a b : Int} {x y : Operand} {at' : Array TypeId} {t : TypeId} {d : TypeDesc}
theorem ztq(j:at'[0]? =some t)(m:P.underlying t=some d)(f:ev l x= .int k a)(i:ev l y= .int k b):Val P ρ ⟨dst,.call ⟨.builtin .max,#[x,y],at'⟩,ty,pos,after,g⟩ l R O (.int k (max a b)):=by
 intro A w _;rw [j4 (by intro c h;cases h)]
 have e:(if b>a then b else a)=max a b:=by rw [Int.max_def];split<;>split<;>omega
 simp [execOp,resolve,invoke,builtin,Builtin.max_,Builtin.max2,f,i,e]
end mm
section p
variable {P : Program} {ρ : Option Nat} {l : Nat → Value} {R : RH} {O : List Frag} {ty : TypeId} {pos : String} {after : Array Go.Edge} {dst : Option Tmp} {g : Option (Nat × Bool)}
variable {α β : Type} [Inhabited α] {T : Ty α} {B : Ty β} {X : List α} {v u w : Value} {x y : Operand} {F : Frag} {i o : Nat} {t : TypeId} {se : α → β → α}
theorem zjz(a:z7x T o B se)(b:TyOk P t B)(c:ORep T R F v X)(d:ev l x=u)(e:z4e T o v X u i)(hi:i<X.length)(f:ev l y=w){z:β}(k:VRep B R w z):
 Eff P ρ ⟨dst,.store t x y,ty,pos,after,g⟩ l R ([F]++O) (fun v' R' O'=> ∃ Oc,O'=Oc++O∧R'=R∧ ∃ F',Oc=[F']∧ORep T R F' v (X.set i (se (X.getD i default) z))):=
 (ziu (O:=[F]++O) (j:=0) a b c rfl d e hi f k).mono fun v' R' O' _ ⟨m,f',n,h⟩=>by
  subst m;subst n
  exact⟨[f'],rfl,rfl,f',rfl,h⟩
end p
end GV
end Go.Proofs.Ytdhccodneoebpaa

namespace Go.Proofs.Ytdhccodneoebpaa
namespace GV
def zaf{α:Type}(T:Ty α):Ty α where
 size:=1
 agg:=false
 rep R cs x:= ∃ v,cs=[v]∧PRep T R v x
 len:=by rintro R cs x ⟨v,rfl,_⟩;rfl
 mono:=by rintro R R' cs x hle ⟨v,rfl,h⟩;exact⟨v,rfl,h.mono hle⟩
 one _:=rfl
 cell:=by
  rintro R cs x ⟨v,rfl,b,off,c,ty,fr,rfl,_⟩ u hu
  rw [List.mem_singleton.1 hu];rfl
theorem uu{α:Type}{T:Ty α}{R:RH}{v:Value}{x:α}:VRep (zaf T) R v x↔PRep T R v x:=by
 constructor
 ·rintro⟨cs,⟨u,rfl,h⟩,rfl⟩
  exact h
 ·exact fun h=>⟨[v],⟨v,rfl,h⟩,rfl⟩
theorem zvq{α:Type}{A B:Ty α}(s:Sub A B):Sub (zaf A) (zaf B):=⟨rfl,rfl,by
 rintro R cs x ⟨v,rfl,b,off,c,ty,fr,a,d,e⟩
 exact⟨v,rfl,b,off,c,ty,fr,a,d,by rw [←s.2.1];exact s.2.2 _ _ _ e⟩⟩
/-! ### A box that only is read,of which the value is known-/
def zhb(v:Value):Ty Unit where
 size:=v.cells.size
 agg:=true
 rep _ cs _:=v= .agg cs.toArray∧ ∀ c∈cs,c.oneCell'=true
 len:=by rintro R cs x ⟨rfl,_⟩;simp [Value.cells]
 mono _ h:=h
 one h:=by cases h
 cell h:=h.2
theorem zrn{R:RH}{v w:Value}{x:Unit}(h:VRep (zhb v) R w x):w=v:=by
 obtain⟨cs,⟨rfl,_⟩,rfl⟩:=h;rfl
theorem zzr{α:Type}{T:Ty α}{R:RH}{v:Value}{y:α}(a:T.agg=true)(b:VRep T R v y):VRep (zhb v) R v ():=by
 obtain⟨cs,c,rfl⟩:=b
 have e:T.mk' cs= .agg cs.toArray:=by unfold Ty.mk';rw [a];rfl
 exact⟨cs,⟨e,T.cell c⟩,e⟩
theorem zre{α:Type}{T:Ty α}{R:RH}{v u:Value}{y:α}(f:T.agg=true)(g:PRep (zhb v) R u ())(h:VRep T R v y):PRep T R u y:=by
 obtain⟨cs,a,rfl⟩:=h
 have e:T.mk' cs= .agg cs.toArray:=by unfold Ty.mk';rw [f];rfl
 obtain⟨b,off,c,ty,fr,i,j,d,_⟩:=g
 have k:(zhb (T.mk' cs)).size=T.size:=by rw [←T.len a,e];simp [zhb,Value.cells]
 refine⟨b,off,c,ty,fr,i,j,?_⟩
 rw [k,e] at d
 have:cs=uz c off T.size:=by simpa using d
 rw [←this];exact a
theorem uj{α:Type}{P:Program}{ρ:Option Nat}{l:Nat→Value}{R:RH}{O:List Frag}{dst:Option Tmp}{ty:TypeId}{pos:String}{after:Array Go.Edge}{g:Option (Nat×Bool)}{T:Ty α}{t:TypeId}{x:Operand}{u v:Value}{y:α}
 (a:TyOk P t T) (b:T.agg=true) (c:ev l x=u) (d:PRep (zhb v) R u ()) (f:VRep T R v y):Val P ρ ⟨dst,.load t x,ty,pos,after,g⟩ l R O v:=by
 have i:(zhb v).size=T.size:=by
  obtain⟨cs,j,rfl⟩:=f
  have e:T.mk' cs= .agg cs.toArray:=by unfold Ty.mk';rw [b];rfl
  rw [←T.len j,e];simp [zhb,Value.cells]
 have ht':TyOk P t (zhb v):=⟨fun w=>by rw [a.agg w,b];rfl,fun w=>by rw [a.size w,i]⟩
 obtain⟨w,k,h⟩:=zb7 (ρ:=ρ) (O:=O) ht' c d
 obtain rfl:=zrn k
 exact h _ _ _ _ _
theorem dh{α:Type}{P:Program}{ρ:Option Nat}{n:Nat}{ops:Array Oper}{Q:Po}{rest:List Oper}{l:Nat→Value}{D:List Nat}{R:RH}{O:List Frag}{ty:TypeId}{pos:String}{after:Array Go.Edge}{d:Nat}{T:Ty α}{e:TypeId}{x:Operand}{v:Value}{y:α}(g:Nat.blt d n=true)(h:ev l x=v)(b:T.agg=true)(c:VRep T R v y)
 (i: ∀ u R',RH.le R R'→PRep (zhb v) R' u ()→PRep T R' u y→wo P ρ n ops Q rest (upd l d u) D R' O):wo P ρ n ops Q (⟨some d,.box e x,ty,pos,after,none⟩::rest) l D R O:=
 z6l g h (zzr b c) fun u R' a f=>i u R' a f (zre b f (c.mono a))
/-! ### A part of a box that is an array of values of one cell-/
def AG{α:Type}[Inhabited α](T:Ty α)(R:RH)(n:Nat)(g:Nat→Value)(X:List α):Prop:=X.length=n∧ ∀ k,k<n→VRep T R (g k) (X.getD k default)∧(g k).oneCell'=true
theorem AG.mono{α:Type}[Inhabited α]{T:Ty α}{R R':RH}{n:Nat}{g:Nat→Value}{X:List α}(h:AG T R n g X)(a:RH.le R R'):AG T R' n g X:=⟨h.1,fun k b=>⟨(h.2 k b).1.mono a,(h.2 k b).2⟩⟩
section g
variable {P : Program} {ρ : Option Nat} {n : Nat} {ops : Array Oper} {Q : Po} {rest : List Oper} {l : Nat → Value} {D : List Nat} {R : RH} {O : List Frag} {ty : TypeId} {pos : String} {after : Array Go.Edge} {dst : Option Tmp} {g0 : Option (Nat × Bool)}
theorem r9{α:Type}{T:Ty α}{x:Operand}{v:Value}{y:α}(a:ev l x=v)(d:PRep T R v y):Val P ρ ⟨dst,.nilCheck x,ty,pos,after,g0⟩ l R O v:=by
 obtain⟨b,off,c,ty',fr,rfl,_⟩:=d
 intro A w e;rw [j4 (by intro c h;cases h)]
 simp [execOp,a]
theorem je{x:Operand}{b o:Nat}(a:ev l x= .pointer (some ⟨b,o,none⟩)):Val P ρ ⟨dst,.nilCheck x,ty,pos,after,g0⟩ l R O (.pointer (some ⟨b,o,none⟩)):=by
 intro A w d;rw [j4 (by intro c h;cases h)]
 simp [execOp,a]
end g
/-! ### A slice that keeps its capacity;a new slice that only is read-/
section c
variable {P : Program} {ρ : Option Nat} {n : Nat} {ops : Array Oper} {Q : Po} {rest : List Oper} {l : Nat → Value} {D : List Nat} {R : RH} {O : List Frag} {ty : TypeId} {pos : String} {after : Array Go.Edge} {dst : Option Tmp} {g : Option (Nat × Bool)}
theorem zlw{α:Type}{T:Ty α}{z:α}{bytes:Nat}{t e:TypeId}{x y:Operand}{v u:Value}{X Y:List α}{i c:Nat}{f:Frag}
 (H:P.underlying t=some (.slice e)) (N:ZeroOk P e T z bytes) (I:ev l x=v) (J:ev l y=u) (B:O[i]? =some f) (d:ORep T R f v X) (hu':VRep (wy T) R u Y)
 (C:capOf v=c) (hroom:X.length+Y.length≤c):
 Eff P ρ ⟨dst,.call ⟨.builtin .append,#[x,y],#[t,t]⟩,ty,pos,after,g⟩ l R O (fun v' R' O'=>R'=R∧capOf v'=c∧ ∃ f',O'=O.set i f'∧ORep T R f' v' (X++Y)):=by
 intro A w s;rw [j4 (by intro c h;cases h)]
 obtain⟨inf,zv,K,k2,L,k4,k5⟩:=N.info
 obtain⟨cy,p,n,rfl,a,hload⟩:=zf9 hu'
 have hilt:i<O.length:=(List.getElem?_eq_some_iff.1 B).1
 have hO':(O++A)[i]? =some f:=by rw [List.getElem?_append_left hilt];exact B
 have m:cy.length=Y.length*T.size:=a.len
 have hnew: ∀ w',w'.heap=w.heap→(Builtin.firstCells T.size Y.length (.slice p Y.length n)).run P w'= .ok cy.toArray w':=fun w' hw'=>
  hload w' fun k o Q=>by rw [hw'];exact s.ro k o Q
 rcases d with⟨rfl,rfl,rfl⟩|⟨b,pre,cs,cap,bt,rfl,rfl,hc',D,q,E⟩
 ·have S:c=0:=by rw [←C];rfl
  have U:Y=[]:=List.length_eq_zero_iff.1 (by omega)
  subst U
  have V:=hnew w rfl
  have:cy=[]:=List.length_eq_zero_iff.1 (by simpa using m)
  subst this
  rw [z8p I J (zd6 H K L rfl V)]
  refine⟨R,O,RH.le.refl _,s,rfl,C,emp,?_,.inl ⟨rfl,rfl,rfl⟩⟩
  apply List.ext_getElem?
  intro j
  rw [List.getElem?_set]
  split
  ·rename_i e;subst e;exact B
  ·rfl
 ·obtain rfl:cap=c:=C
  have hblk:w.heap[b]? =some (.cells (pre++cs).toArray bt (0,0)):=z1v s hO' (uh _ _)
  have M:X.length*T.size+cy.length≤cs.length:=by
   rw [m,←Nat.add_mul];exact Nat.le_trans (Nat.mul_le_mul_right _ hroom) D
  have F:pre.length+X.length*T.size+0+cy.length≤(pre++cs).length:=by rw [List.length_append];omega
  obtain⟨w',W,Z,h4,h5,h6⟩:=z4r (P:=P) cy (pre++cs) (pre.length+X.length*T.size) 0 w hblk F a.cell
  rw [z8p I J (zcr (T:=T) H K L rfl (hnew w rfl) hroom W)]
  have hset:=zb3 s hO' Z h4 h5 h6
  rw [List.set_append_left _ _ hilt] at hset
  refine⟨R,_,RH.le.refl _,hset,rfl,?_,_,rfl,?_⟩
  ·rfl
  ·have G:=Seq.of_at E
   have e1:over (pre++cs) (pre.length+X.length*T.size+0) cy=pre++((cs.take (X.length*T.size)++cy)++cs.drop (X.length*T.size+cy.length)):=by
    rw [Nat.add_zero,zd2];simp [over]
   have r:=zgc (pre:=pre) (b:=b) (bt:=bt) (cap:=cap) (G.append a) (rest:=cs.drop (X.length*T.size+cy.length)) (by rw [List.length_append];exact hroom)
    (by simp only [List.length_append,List.length_take,List.length_drop];omega) (fun v d=>q v (List.mem_append.2 (.inr (List.mem_of_mem_drop d)))) (fun v d=>q v (List.mem_append.2 (.inl d)))
   rw [←e1,List.length_append] at r
   exact r
theorem zgo{α:Type}{T:Ty α}{z:α}{bytes d:Nat}{t e:TypeId}{x y:Operand}{v u:Value}{X Y:List α}{i c:Nat}{f:Frag}(a:Nat.blt d n=true)
 (b:P.underlying t=some (.slice e)) (g:ZeroOk P e T z bytes) (j:ev l x=v) (k:ev l y=u) (m:O[i]? =some f) (o:ORep T R f v X) (hu':VRep (wy T) R u Y)
 (p:capOf v=c) (hroom:X.length+Y.length≤c) (q: ∀ v' f',capOf v'=c→ORep T R f' v' (X++Y)→wo P ρ n ops Q rest (upd l d v') D R (O.set i f')):
 wo P ρ n ops Q (⟨some d,.call ⟨.builtin .append,#[x,y],#[t,t]⟩,ty,pos,after,none⟩::rest) l D R O:=
 z3m a (zlw b g j k m o hu' p hroom) fun v' R' O' _ ⟨r,hc',f',hO',h⟩=>by subst r;subst hO';exact q v' f' hc' h
end c
end GV
end Go.Proofs.Ytdhccodneoebpaa

namespace Go.Proofs.Ytdhccodneoebpaa
namespace GV
def EV(P:Program)(ρ:Option Nat)(o:Oper)(l:Nat→Value)(R:RH)(O:List Frag)(φ:Value→RH→Prop):Prop:= ∃ v,φ v R∧Val P ρ o l R O v
theorem z09{l:Nat→Value}{a:Operand}{az:List Operand}{v:Value}{vs:List Value}(h:ev l a=v)(k:az.map (ev l)=vs):(a::az).map (ev l)=v::vs:=by rw [List.map_cons,h,k]
theorem zkg{l:Nat→Value}{i:Nat}{a:Operand}{az:List (Nat×Operand)}{v:Value}{vs:List (Nat×Value)}(h:ev l a=v)(k:(az.map fun x=>(x.1,ev l x.2))=vs):(((i,a)::az).map fun x=>(x.1,ev l x.2))=(i,v)::vs:=by rw [List.map_cons,h,k]
section ev
variable {P : Program} {ρ : Option Nat} {l : Nat → Value} {R : RH} {O : List Frag} {dst : Option Tmp} {ty : TypeId} {pos : String} {after : Array Go.Edge} {g : Option (Nat × Bool)}
theorem qj{o:Oper}{v:Value}(h:Val P ρ o l R O v):EV P ρ o l R O (phX v):=⟨v,rfl,h⟩
theorem zum{o:Oper}{v:Value}(h:EV P ρ o l R O (phX v)):Val P ρ o l R O v:=by
 obtain⟨u,a,b⟩:=h
 obtain rfl:u=v:=a
 exact b
theorem zaj{o:Oper}{α:Type}{T:Ty α}{x:α}{a:Value}(h:EV P ρ o l R O (phR T x))(b: ∀ R v,VRep T R v x→v=a):Val P ρ o l R O a:=by
 obtain⟨v,c,d⟩:=h
 rwa [b _ _ c] at d
theorem xz{o:Oper}{k:IntKind}{x:Int}(h:EV P ρ o l R O (phR (qb k) x)):Val P ρ o l R O (.int k x):=zaj h fun _ _ h=>ql.1 h
theorem zv1{o:Oper}{x:Bool}(h:EV P ρ o l R O (phR dm x)):Val P ρ o l R O (.bool x):=zaj h fun _ _ h=>p8.1 h
theorem jk{α:Type}{T:Ty α}{t:TypeId}{x:Operand}{v:Value}{y:α}(a:TyOk P t T)(b:ev l x=v)(c:PRep T R v y):EV P ρ ⟨dst,.load t x,ty,pos,after,g⟩ l R O (phR T y):=
 let⟨u,d,e⟩:=zb7 a b c
 ⟨u,d,e _ _ _ _ _⟩
theorem xx{α β:Type}{A:Ty α}{B:Ty β}{s:TypeId}{x:Operand}{f o:Nat}{v:Value}{y:α}{pr:α→β}(a:FieldOk P s f o)(hpart:Part A o B pr)(b:ev l x=v)(c:PRep A R v y):
 EV P ρ ⟨dst,.fieldAddr s x f,ty,pos,after,g⟩ l R O (phP B (pr y)):=
 let⟨u,d,e⟩:=zch a hpart b c
 ⟨u,d,e _ _ _ _ _⟩
theorem uq{α:Type}[Inhabited α]{T:Ty α}{t e:TypeId}{x ix:Operand}{v:Value}{X:List α}{k:IntKind}{i:Nat}(a:SlOk P t e T)(b:ev l x=v)(c:VRep (wy T) R v X)(hi:ev l ix= .int k i)(d:i<X.length):
 EV P ρ ⟨dst,.indexAddr t x ix,ty,pos,after,g⟩ l R O (phP T (X.getD i default)):=
 let⟨u,f,h⟩:=zcl a b c hi (getD_some d)
 ⟨u,f,h _ _ _ _ _⟩
theorem z1z{α:Type}{T:Ty α}{t e:TypeId}{x ix:Operand}{v:Value}{X:List α}{k:IntKind}{i:Nat}{f:Frag}(a:SlOk P t e T)(c:ev l x=v)(d:ORep T R f v X)(hi:ev l ix= .int k i)(h:i<X.length):
 EV P ρ ⟨dst,.indexAddr t x ix,ty,pos,after,g⟩ l R O (fun u _=>lg T v X u i):=
 let⟨b,off,j,m⟩:=zcg (O:=O) a c d hi h
 ⟨_,⟨b,off,j,rfl⟩,m _ _ _ _ _⟩
theorem zcv{α:Type}[Inhabited α]{T:Ty α}{t:TypeId}{x:Operand}{f:Frag}{v u:Value}{X:List α}{i j:Nat}(a:TyOk P t T)(c:ORep T R f v X)(d:O[j]? =some f)(e:ev l x=u)(h:lg T v X u i)(k:i<X.length):
 EV P ρ ⟨dst,.load t x,ty,pos,after,g⟩ l R O (phR T (X.getD i default)):=by
 obtain⟨b,off,m,rfl⟩:=h
 obtain⟨y,hy',n⟩:=ze6 (ρ:=ρ) (P:=P) a c m d e (getD_some k)
 exact⟨y,hy',n _ _ _ _ _⟩
theorem zh4{α β:Type}{A:Ty α}{B:Ty β}{t:TypeId}{m sz i:Nat}{x ix:Operand}{k:IntKind}{v:Value}{y:α}{pr:α→β}(a:ArrOk P t m sz)(hpart:Part A (i*sz) B pr)(b:ev l x=v)(c:PRep A R v y)(hi:ev l ix= .int k i)(d:i<m):
 EV P ρ ⟨dst,.indexAddr t x ix,ty,pos,after,g⟩ l R O (phP B (pr y)):=
 let⟨u,e,f⟩:=zl9 a hpart b c hi d
 ⟨u,e,f _ _ _ _ _⟩
section nest
variable {α : Type} {t : Bool} {T : Ty α} {F : Frag} {v : Value} {Vs : List Value} {X : List (List α)}
theorem zbk{tt e:TypeId}{x ix:Operand}{k:IntKind}{i:Nat}(a:SlOk P tt e tHdr)(b:ev l x=v)(h:N2 t T R F v Vs X)(hi:ev l ix= .int k i)(d:i<X.length):
 EV P ρ ⟨dst,.indexAddr tt x ix,ty,pos,after,g⟩ l R O (fun u _=>lg tHdr v Vs u i):=by
 obtain⟨f0,c,_,f⟩:=h.o
 exact z1z a b c hi (by omega)
theorem zdf{tt:TypeId}{x:Operand}{u:Value}{i j:Nat}(a:TyOk P tt tHdr)(h:N2 t T R F v Vs X)(b:O[j]? =some F)(c:ev l x=u)(d:lg tHdr v Vs u i)(n:i<X.length):
 EV P ρ ⟨dst,.load tt x,ty,pos,after,g⟩ l R O (phX (Vs.getD i default)):=by
 obtain⟨f0,e,f,p⟩:=h.o
 obtain⟨w,k,m⟩:=zb5 (ρ:=ρ) (P:=P) a e f b c d (getD_some (by omega))
 exact⟨w,zm3 k,m _ _ _ _ _⟩
theorem z3v{tt e:TypeId}{x ix:Operand}{k:IntKind}{i r:Nat}(a:SlOk P tt e T)(h:N2 t T R F v Vs X)(b:r<X.length)(c:ev l x=Vs.getD r default)(hi:ev l ix= .int k i)(d:i<(X.getD r default).length):
 EV P ρ ⟨dst,.indexAddr tt x ix,ty,pos,after,g⟩ l R O (fun u _=>lg T (Vs.getD r default) (X.getD r default) u i):=
 let⟨fk,f,_⟩:=h.row b;z1z a c f hi d
theorem zbh[Inhabited α]{tt:TypeId}{x:Operand}{u:Value}{i r j:Nat}(a:TyOk P tt T)(h:N2 t T R F v Vs X)(b:r<X.length)(c:O[j]? =some F)(d:ev l x=u)(e:lg T (Vs.getD r default) (X.getD r default) u i)(f:i<(X.getD r default).length):
 EV P ρ ⟨dst,.load tt x,ty,pos,after,g⟩ l R O (phR T ((X.getD r default).getD i default)):=by
 obtain⟨f0,k,m⟩:=h.row b
 obtain⟨w,n,o⟩:=zb5 (ρ:=ρ) (P:=P) a k m c d e (getD_some f)
 exact⟨w,n,o _ _ _ _ _⟩
end nest
section part
variable {α β : Type} {T : Ty α} {B : Ty β} {X : List α} {v u : Value} {x : Operand} {f : Frag} {i j o fld : Nat} {s t : TypeId} {pr : α → β}
theorem zqs(a:FieldOk P s fld o)(b:ev l x=u)(c:lg T v X u i):EV P ρ ⟨dst,.fieldAddr s x fld,ty,pos,after,g⟩ l R O (fun u _=>z4e T o v X u i):=by
 obtain⟨u',h,d⟩:=zg9 (ρ:=ρ) (P:=P) (R:=R) (O:=O) a b c
 exact⟨u',h,d _ _ _ _ _⟩
theorem zq1[Inhabited α](b:TyOk P t B)(hpart:Part T o B pr)(a:ORep T R f v X)(c:O[j]? =some f)(d:ev l x=u)(e:z4e T o v X u i)(k:i<X.length):
 EV P ρ ⟨dst,.load t x,ty,pos,after,g⟩ l R O (phR B (pr (X.getD i default))):=by
 obtain⟨w,m,a⟩:=zh6 (ρ:=ρ) (P:=P) b hpart a (fun _ _ h=>h) c d e (getD_some k)
 exact⟨w,m,a _ _ _ _ _⟩
end part
end ev
/-! ### In the text's order-/
section wo
variable {P : Program} {ρ : Option Nat} {n : Nat} {Q : Po} {l : Nat → Value} {D : List Nat} {R : RH} {O : List Frag} {ops : Array Oper} {rest : List Oper} {op : Op} {ty : TypeId} {pos : String} {after : Array Go.Edge} {d : Nat} {φ : Value → RH → Prop}
theorem zsa(a:Nat.blt d n=true)(h:EV P ρ ⟨some d,op,ty,pos,after,none⟩ l R O φ)(b: ∀ v,φ v R→wo P ρ n ops Q rest (upd l d v) D R O):wo P ρ n ops Q (⟨some d,op,ty,pos,after,none⟩::rest) l D R O:=
 let⟨v,c,e⟩:=h
 jf a e (b v c)
theorem zhh{a:Act}{j s:Nat}(d:Fr n l D a)(c:nk ops j=some s)(f:l s=undef):yielded ops a.tmps j=none:=by
 unfold yielded
 unfold nk at c
 rw [c]
 have b:=d.get s
 rw [f,Array.getD_eq_getD_getElem?] at b
 simp only [Option.bind_some]
 cases h:a.tmps[s]? with
 |none=>rfl
 |some v=>
  rw [h] at b
  have e:v=undef:=b
  rw [e];rfl
theorem zw6{j s:Nat}{want:Bool}(c:nk ops j=some s)(e:Nat.blt s n=true)(f:l s=undef)(g:Nat.blt d n=true)(i:wo P ρ n ops Q rest (upd l d undef) D R O):
 wo P ρ n ops Q (⟨some d,op,ty,pos,after,some (j,want)⟩::rest) l D R O:=by
 intro a w b k
 have m:=zhh b c f
 have h:=i _ w (b.put (d:=some d) (fun t o=>by cases o;simpa using g) undef) k
 simp only [wlo]
 rw [if_neg (by simp [Region.wanted,m])]
 exact⟨fun _ _=>trivial,h⟩
theorem zxk{j s:Nat}{want Gj Bj:Bool}(b:nk ops j=some s)(a:Nat.blt s n=true)(c:Nat.blt d n=true)(e:phG Gj (phX (.bool Bj)) (l s) R)
 (hyes:Gj=true→Bj=want→Eff P ρ ⟨some d,op,ty,pos,after,none⟩ l R O fun v R' O'=>O'=O∧φ v R') (f: ∀ v R',RH.le R R'→phG (Gj&&(Bj==want)) φ v R'→wo P ρ n ops Q rest (upd l d v) D R' O):
 wo P ρ n ops Q (⟨some d,op,ty,pos,after,some (j,want)⟩::rest) l D R O:=by
 cases Gj with
 |false=>exact zw6 b a (e.2 rfl) c (f _ _ (RH.le.refl _) ⟨fun h=>by(cases h),fun _=>rfl⟩)
 |true=>
  by_cases i:Bj=want
  ·subst i
   refine z7c b a (e.1 rfl) (z0o c (hyes rfl rfl) fun v R' g h=>f v R' g ⟨fun _=>h,fun h=>by simp at h⟩)
  ·have hb':(Bj==want)=false:=by simpa using i
   exact z6u b a (e.1 rfl) hb' c (f _ _ (RH.le.refl _) (by rw [hb'];exact⟨fun h=>by simp at h,fun _=>rfl⟩))
theorem zjh{j s:Nat}{want Gj Bj:Bool}(b:nk ops j=some s)(a:Nat.blt s n=true)(c:Nat.blt d n=true)(e:phG Gj (phX (.bool Bj)) (l s) R)
 (hyes:Gj=true→Bj=want→EV P ρ ⟨some d,op,ty,pos,after,none⟩ l R O φ) (f: ∀ v,phG (Gj&&(Bj==want)) φ v R→wo P ρ n ops Q rest (upd l d v) D R O):
 wo P ρ n ops Q (⟨some d,op,ty,pos,after,some (j,want)⟩::rest) l D R O:=by
 cases Gj with
 |false=>exact zw6 b a (e.2 rfl) c (f _ ⟨fun h=>by(cases h),fun _=>rfl⟩)
 |true=>
  by_cases g:Bj=want
  ·subst g
   obtain⟨v,i,k⟩:=hyes rfl rfl
   exact z7c b a (e.1 rfl) (jf c k (f v ⟨fun _=>i,fun h=>by simp at h⟩))
  ·have hb':(Bj==want)=false:=by simpa using g
   exact z6u b a (e.1 rfl) hb' c (f _ (by rw [hb'];exact⟨fun h=>by simp at h,fun _=>rfl⟩))
theorem qz{j s:Nat}{want Bj:Bool}(b:nk ops j=some s)(a:Nat.blt s n=true)(c:Nat.blt d n=true)(e:l s= .bool Bj)
 (hyes:Bj=want→EV P ρ ⟨some d,op,ty,pos,after,none⟩ l R O φ) (f: ∀ v,phG (true&&(Bj==want)) φ v R→wo P ρ n ops Q rest (upd l d v) D R O):
 wo P ρ n ops Q (⟨some d,op,ty,pos,after,some (j,want)⟩::rest) l D R O:=zjh b a c (um e) (fun _=>hyes) f
theorem ol{j s:Nat}{want Bj:Bool}(b:nk ops j=some s)(a:Nat.blt s n=true)(c:Nat.blt d n=true)(e:l s= .bool Bj)
 (hyes:Bj=want→Eff P ρ ⟨some d,op,ty,pos,after,none⟩ l R O fun v R' O'=>O'=O∧φ v R') (f: ∀ v R',RH.le R R'→phG (true&&(Bj==want)) φ v R'→wo P ρ n ops Q rest (upd l d v) D R' O):
 wo P ρ n ops Q (⟨some d,op,ty,pos,after,some (j,want)⟩::rest) l D R O:=zxk b a c (um e) (fun _=>hyes) f
end wo
end GV
end Go.Proofs.Ytdhccodneoebpaa

namespace Go.Proofs.Ytdhccodneoebpaa
namespace GV
def zn4:Op→Option (List Operand)
 | .move x| .assign x| .load _ x| .nilCheck x| .unOp _ _ x| .convert _ _ x| .fieldAddr _ x _| .field _ x _| .extract x _=>some [x]
 | .pick c a b=>some [c,a,b]
 | .binOp _ _ x y _| .indexAddr _ x y| .index _ x y| .lookup _ x y _=>some [x,y]
 | .build _ ps=>some (ps.toList.map (·.2))
 | .makeFunc _ fs cs=>some (fs.toList++cs.toList)
 | .slice _ x lo hi mx=>some (x::(lo.toList++(hi.toList++mx.toList)))
 | .call c=>match c.callee with
  | .builtin _=>some c.args.toList
  |_=>none
 |_=>none
theorem ze7{ρ1 ρ2:Operand→Value}{x:Option Operand}(h: ∀ y∈x.toList,ρ1 y=ρ2 y):x.map ρ1=x.map ρ2:=by
 cases x with
 |none=>rfl
 |some y=>simp [h y (by simp)]
theorem zee{ρ1 ρ2:Operand→Value}{xs:Array Operand}(h: ∀ y∈xs.toList,ρ1 y=ρ2 y):xs.map ρ1=xs.map ρ2:=by
 apply Array.ext'
 rw [Array.toList_map,Array.toList_map]
 exact List.map_congr_left h
theorem zpj{ρ1 ρ2:Operand→Value}{xs:Array (Nat×Operand)}(h: ∀ y∈xs.toList.map (·.2),ρ1 y=ρ2 y):(xs.map fun(i,x)=>(i,ρ1 x))=xs.map fun(i,x)=>(i,ρ2 x):=by
 apply Array.ext'
 rw [Array.toList_map,Array.toList_map]
 refine List.map_congr_left fun p a=>?_
 obtain⟨i,x⟩:=p
 have:=h x (List.mem_map.2 ⟨(i,x),a,rfl⟩)
 simp only [this]
theorem zng{o:Oper}{xs:List Operand}{ρ1 ρ2:Operand→Value}(h:zn4 o.op=some xs)(a: ∀ x∈xs,ρ1 x=ρ2 x):execOp ρ1 o=execOp ρ2 o:=by
 obtain⟨dst,op,ty,pos,after,g⟩:=o
 dsimp only at h
 cases op<;>simp only [zn4,Option.some.injEq,reduceCtorEq] at h
 case call c=>
  obtain⟨cal,args,at'⟩:=c
  cases cal<;>simp only [Option.some.injEq,reduceCtorEq] at h
  subst h
  simp only [execOp,resolve,zee a]
 case build t ps=>subst h;simp only [execOp,zpj a]
 case makeFunc f fs cs=>
  subst h
  simp only [execOp,zee (xs:=fs) (fun y b=>a y (List.mem_append_left _ b)),zee (xs:=cs) (fun y b=>a y (List.mem_append_right _ b))]
 case slice t x lo hi mx=>
  subst h
  simp only [execOp,a x (List.mem_cons_self ..),ze7 (x:=lo) (fun y b=>a y (by simp [b])),ze7 (x:=hi) (fun y b=>a y (by simp [b])),ze7 (x:=mx) (fun y b=>a y (by simp [b]))]
 all_goals subst h;simp only [List.mem_cons,List.not_mem_nil,or_false,forall_eq_or_imp,forall_eq] at a;simp only [execOp,a]
theorem ziv{op:Op}{xs:List Operand}(h:zn4 op=some xs): ∀ c,op≠ .defer c:=by
 intro c e;subst e;simp [zn4] at h
theorem zmq{R R':RH}{O:List Frag}{w:World}(h:Holds R' O w)(a:R.le R'):Holds R O w:=by
 refine⟨fun k o b=>h.ro k o (a.blk k o b),fun f c k o b=>⟨(h.own f c k o b).1,?_⟩,h.sep,by rw [←a.os];exact h.os,by rw [←a.out];exact h.out⟩
 cases e:R.blk k with
 |none=>rfl
 |some o'=>
  have:=a.blk k o' e
  rw [(h.own f c k o b).2] at this;cases this
theorem zqr{P:Program}{ρ:Option Nat}{o:Oper}{l l':Nat→Value}{R R':RH}{O:List Frag}{v:Value}{xs:List Operand}(h:Val P ρ o l R O v)(c:zn4 o.op=some xs)(e: ∀ s,.tmp s∈xs→l' s=l s)(a:R.le R'):Val P ρ o l' R' O v:=by
 intro A w f
 have d:=h A w (zmq f a)
 have g:=ziv c
 rw [j4 g] at d⊢
 rw [zng c (ρ2:=ev l) fun x b=>?_]
 ·exact d
 ·cases x with
  |tmp s=>exact e s b
  |_=>rfl
def wv(P:Program)(ρ:Option Nat)(R:RH)(O:List Frag):List Oper→(Nat→Value)→((Nat→Value)→Prop)→Prop
 | [],l,K=>K l
 |o::r,l,K=> ∃ d v,o.dst=some d∧Val P ρ o l R O v∧wv P ρ R O r (upd l d v) K
section wv
variable {P : Program} {ρ : Option Nat} {n : Nat} {Q : Po} {l : Nat → Value} {D : List Nat} {R : RH} {O : List Frag} {rest : List Oper} {op : Op} {ty : TypeId} {pos : String} {after : Array Go.Edge} {d : Nat} {φ : Value → RH → Prop} {K : (Nat → Value) → Prop} {g : Option (Nat × Bool)}
theorem ku{v:Value}(h:Val P ρ ⟨some d,op,ty,pos,after,g⟩ l R O v)(a:wv P ρ R O rest (upd l d v) K):wv P ρ R O (⟨some d,op,ty,pos,after,g⟩::rest) l K:=⟨d,v,rfl,h,a⟩
theorem bn(h:EV P ρ ⟨some d,op,ty,pos,after,g⟩ l R O φ)(a: ∀ v,φ v R→wv P ρ R O rest (upd l d v) K):wv P ρ R O (⟨some d,op,ty,pos,after,g⟩::rest) l K:=
 let⟨v,b,c⟩:=h
 ⟨d,v,rfl,c,a v b⟩
def zrz(gs:List Oper)(s:Nat):Option Nat:=gs.findIdx? fun o=>o.dst==some s
def clV(gs:List Oper):Bool:=gs.zipIdx.all fun(o,i)=>o.guard.isNone&&(match zn4 o.op with
 |none=>false
 |some xs=>xs.all fun x=>match x with
  | .tmp s=>(match zrz gs s with|none=>true|some j=>Nat.blt j i&&o.after.toList.any fun e=>Nat.beq e.on j&&Region.binds .any e)
  |_=>true)
def zgm(l:Nat→Value):List (Nat×Value)→Nat→Value
 | []=>l
 |(d,v)::r=>zgm (upd l d v) r
theorem zjm{s d:Nat}{v:Value}(h:s≠d):upd l d v s=l s:=by
 unfold upd
 have:Nat.beq s d=false:=by
  cases hb:Nat.beq s d
  ·rfl
  ·exact absurd (Nat.eq_of_beq_eq_true hb) h
 rw [this];rfl
theorem zno{d:Nat}{v:Value}:upd l d v d=v:=by unfold upd;simp
theorem zcx{s:Nat}: ∀ {acc:List (Nat×Value)} {l:Nat→Value},s∉acc.map (·.1)→zgm l acc s=l s
 | [],_,_=>rfl
 |(d,v)::r,l,h=>by
  simp only [List.map_cons,List.mem_cons,not_or] at h
  rw [zgm,zcx h.2,zjm h.1]
theorem zj2{s:Nat}{v:Value}: ∀ {acc:List (Nat×Value)} {l:Nat→Value} {j:Nat},acc[j]? =some (s,v)→(acc.map (·.1)).Nodup→zgm l acc s=v
 | [],_,_,h,_=>by simp at h
 |(d,u)::r,l,0,h,a=>by
  simp only [List.getElem?_cons_zero,Option.some.injEq,Prod.mk.injEq] at h
  obtain⟨rfl,rfl⟩:=h
  simp only [List.map_cons,List.nodup_cons] at a
  rw [zgm,zcx a.1,zno]
 |(d,u)::r,l,j+1,h,a=>by
  simp only [List.map_cons,List.nodup_cons] at a
  rw [zgm]
  exact zj2 (j:=j) (by simpa using h) a.2
theorem zkt{s:Nat}: ∀ {acc:List (Nat×Value)},s∉acc.map (·.1)→z2x l acc s=l s
 | [],_=>rfl
 |(d,v)::r,h=>by
  simp only [List.map_cons,List.mem_cons,not_or] at h
  rw [z2x,zjm h.1,zkt h.2]
theorem zo0{s:Nat}{v:Value}: ∀ {acc:List (Nat×Value)} {j:Nat},acc[j]? =some (s,v)→(acc.map (·.1)).Nodup→z2x l acc s=v
 | [],_,h,_=>by simp at h
 |(d,u)::r,0,h,a=>by
  simp only [List.getElem?_cons_zero,Option.some.injEq,Prod.mk.injEq] at h
  obtain⟨rfl,rfl⟩:=h
  rw [z2x,zno]
 |(d,u)::r,j+1,h,a=>by
  simp only [List.map_cons,List.nodup_cons] at a
  have h':r[j]? =some (s,v):=by simpa using h
  have b:s∈r.map (·.1):=List.mem_map.2 ⟨_,List.mem_of_getElem? h',rfl⟩
  rw [z2x,zjm (fun e=>a.1 (by rw [←e];exact b))]
  exact zo0 h' a.2
theorem ztg{acc:List (Nat×Value)}(a:(acc.map (·.1)).Nodup):zgm l acc=z2x l acc:=by
 funext s
 by_cases h:s∈acc.map (·.1)
 ·obtain⟨⟨d,v⟩,b,rfl⟩:=List.mem_map.1 h
  obtain⟨j,c,e⟩:=List.mem_iff_getElem.1 b
  have h':acc[j]? =some (d,v):=by rw [List.getElem?_eq_getElem c,e]
  rw [zj2 h' a,zo0 h' a]
 ·rw [zcx h,zkt h]
def zgx(gs:List Oper)(vs:List Value):List (Nat×Value):=(gs.zip vs).map fun p=>(p.1.dst.getD 0,p.2)
theorem zns: ∀ {os:List Oper} {l:Nat→Value},wv P ρ R O os l K→ ∃ vs:List Value,vs.length=os.length∧(∀ o∈os,o.dst.isSome=true)∧
 (∀ (i:Nat) o v,os[i]? =some o→vs[i]? =some v→Val P ρ o (zgm l ((zgx os vs).take i)) R O v)∧K (zgm l (zgx os vs))
 | [],l,h=>⟨[],rfl,fun o c=>by simp at c,fun i o v h=>by simp at h,h⟩
 |o::r,l,⟨d,v,a,e,f⟩=>by
  obtain⟨vs,g,j,k,m⟩:=zns f
  refine⟨v::vs,by simp [g],fun o' ho'=>?_,fun i o' u hi b=>?_,?_⟩
  ·rcases List.mem_cons.1 ho' with rfl|ho'
   ·rw [a];rfl
   ·exact j o' ho'
  ·cases i with
   |zero=>
    simp only [List.getElem?_cons_zero,Option.some.injEq] at hi b
    subst hi;subst b
    exact e
   |succ i=>
    have:=k i o' u (by simpa using hi) (by simpa using b)
    simpa [zgx,zgm,a] using this
  ·simpa [zgx,zgm,a] using m
theorem zl8{gs:List Oper}{φs:List (Value→RH→Prop)}{l:Nat→Value}{R:RH}: ∀ {es:List Go.Edge},zpp gs φs l R es→ ∀ e∈es,Region.binds .any e=true→ ∀ d,yc gs e.on=some d→phi φs e.on (l d) R
 | [],_,e,a,_,_,_=>by simp at a
 |e'::es,h,e,a,b,d,c=>by
  rcases List.mem_cons.1 a with rfl|a
  ·have:=h.1
   rw [c] at this
   exact this b
  ·exact zl8 h.2 e a b d c
theorem zok{gs:List Oper}{al:List NewBox}{φs:List (Value→RH→Prop)}{l0:Nat→Value}{R0:RH}: ∀ {os:List Oper} {k:Nat},
 (∀ (i:Nat) (o:Oper),os[i]? =some o→ ∀ l R,RH.le R0 R→Agree gs l0 l→zpp gs φs l R o.after.toList→GStep P ρ gs al φs O (k+i) o l R)→zmz P ρ gs al φs l0 R0 O k os
 | [],_,_=>trivial
 |o::os,k,h=>⟨h 0 o rfl,zok fun i o' hi=>by have:=h (i+1) o' (by simpa using hi);rwa [show k+(i+1)=k+1+i from by omega] at this⟩
theorem zot{φs:List (Value→RH→Prop)}{R:RH}: ∀ {os:List Oper} {vs:List Value} {k:Nat} {K:List (Nat×Value)→Prop},vs.length=os.length→(∀ (i:Nat) v,vs[i]? =some v→phi φs (k+i)=phX v)→K (zgx os vs)→zn2 φs R K k os
 | [],vs,k,K,a,_,h=>by
  have:vs=[]:=List.length_eq_zero_iff.1 a
  subst this;exact h
 |o::os,[],k,K,a,_,_=>by simp at a
 |o::os,v::vs,k,K,a,b,h=>fun u c=>by
  rw [show k=k+0 from rfl,b 0 v rfl] at c
  obtain rfl:u=v:=c
  exact zot (vs:=vs) (by simpa using a) (fun i w hi=>by have:=b (i+1) w (by simpa using hi);rwa [show k+(i+1)=k+1+i from by omega] at this) h
theorem z0x{id:Nat}{os:List Oper}(m:Nat)(V:P.follows .mixedOrders=true)(c:zan (os.take m) [] n (os.drop m)=true)(r:clV (os.take m)=true)
 (h:wv P ρ R O (os.take m) l fun l'=> ∀ R',RH.le R R'→wo P ρ n os.toArray Q (os.drop m) l' D R' O):wg P ρ n (.region id os.toArray true) Q l D R O:=by
 obtain⟨vs,C,M,N,S⟩:=zns h
 have f:=(z81 c).2.1
 generalize hg:os.take m=gs at C M N S f r c
 have hacc:(zgx gs vs).map (·.1)=z9q gs:=by
  unfold zgx z9q
  rw [List.map_map]
  have: ∀ (gs:List Oper) (vs:List Value),vs.length=gs.length→(∀ o∈gs,o.dst.isSome=true)→(gs.zip vs).map ((fun x:Nat×Value=>x.1)∘fun p=>(p.1.dst.getD 0,p.2))=gs.filterMap (·.dst):=by
   intro gs
   induction gs with
   |nil=>intro vs _ _;simp
   |cons o gs ih=>
    intro vs T A
    cases vs with
    |nil=>simp at T
    |cons v vs=>
     obtain⟨d,E⟩:=Option.isSome_iff_exists.1 (A o (List.mem_cons_self ..))
     simp only [List.zip_cons_cons,List.map_cons,List.filterMap_cons,E,Function.comp_apply,Option.getD_some]
     rw [ih vs (by simpa using T) (fun o' ho'=>A o' (List.mem_cons_of_mem _ ho'))]
  exact this gs vs C M
 have hphi: ∀ (i:Nat) v,vs[i]? =some v→phi (vs.map phX) i=phX v:=fun i v hi=>by
  unfold phi
  rw [List.getD_eq_getElem?_getD,List.getElem?_map,hi];rfl
 have hmono:ze4 (vs.map phX):=fun k v R R' a q=>by
  unfold phi at q⊢
  rw [List.getD_eq_getElem?_getD,List.getElem?_map] at q⊢
  cases e:vs[k]? with
  |none=>trivial
  |some u=>rw [e] at q;exact q
 have haget: ∀ (i:Nat) o v,gs[i]? =some o→vs[i]? =some v→ ∀ d,o.dst=some d→(zgx gs vs)[i]? =some (d,v):=fun i o v hi B d E=>by
  unfold zgx
  rw [List.getElem?_map,List.getElem?_zip_eq_some (z:=(o,v))|>.2 ⟨hi,B⟩]
  simp [E]
 refine z03 (m:=m) [] (vs.map phX) V (by rw [hg];exact c) hmono (by
  rw [hg]
  refine zok fun i o hi l' R' a F hdep=>?_
  rw [Nat.zero_add]
  have W:i<gs.length:=(List.getElem?_eq_some_iff.1 hi).1
  obtain⟨v,B⟩: ∃ v,vs[i]? =some v:=⟨vs[i]'(by omega),List.getElem?_eq_getElem (by omega)⟩
  have g:=List.all_eq_true.1 r (o,i) (List.mem_iff_getElem?.2 ⟨i,by rw [List.getElem?_zipIdx,hi];simp⟩)
  simp only [Bool.and_eq_true] at g
  obtain⟨G,g⟩:=g
  refine zg (Option.isNone_iff_eq_none.1 G) rfl (hphi i v B) (zy ?_)
  cases hx:zn4 o.op with
  |none=>rw [hx] at g;exact absurd g Bool.false_ne_true
  |some xs=>
   rw [hx] at g
   refine zqr (N i o v hi B) hx (fun s A=>?_) a
   have b:=List.all_eq_true.1 g (.tmp s) A
   dsimp only at b
   have t:((zgx gs vs).take i).map (·.1)=(z9q gs).take i:=by rw [List.map_take,hacc]
   cases hsl:zrz gs s with
   |none=>
    have w:s∉z9q gs:=fun hm'=>by
     obtain⟨o',ho',e⟩:=List.mem_filterMap.1 hm'
     have:=List.findIdx?_eq_none_iff.1 hsl o' ho'
     rw [e] at this;simp at this
    rw [F s (by simpa using w),zcx (by rw [t];exact fun h=>w (List.mem_of_mem_take h))]
   |some j=>
    rw [hsl] at b
    simp only [Bool.and_eq_true,List.any_eq_true] at b
    obtain⟨H,e,X,I,J⟩:=b
    have hji':j<i:=by simpa using H
    have hej':e.on=j:=Nat.eq_of_beq_eq_true I
    obtain⟨o',ho',hd'⟩: ∃ o',gs[j]? =some o'∧o'.dst=some s:=by
     have:=List.findIdx?_eq_some_iff_getElem.1 hsl
     obtain⟨Y,q,_⟩:=this
     exact⟨gs[j],List.getElem?_eq_getElem Y,by simpa using q⟩
    have Z:j<gs.length:=(List.getElem?_eq_some_iff.1 ho').1
    obtain⟨u,U⟩: ∃ u,vs[j]? =some u:=⟨vs[j]'(by omega),List.getElem?_eq_getElem (by omega)⟩
    have K:yc gs e.on=some s:=by unfold yc;rw [hej',ho'];exact hd'
    have y:=zl8 hdep e X J s K
    rw [hej',hphi j u U] at y
    have L:((zgx gs vs).take i)[j]? =some (s,u):=by rw [List.getElem?_take,if_pos hji'];exact haget j o' u ho' U s hd'
    rw [zj2 L (by rw [t];exact List.Nodup.sublist (List.take_sublist _ _) f)]
    exact y) fun R' a=>?_
 rw [hg]
 refine zot C (fun i v hi=>by rw [Nat.zero_add];exact hphi i v hi) ?_
 rw [←ztg (by rw [hacc];exact f)]
 exact S R' a
end wv
/-! ### Shorter laws-/
section short
variable {P : Program} {ρ : Option Nat} {n : Nat} {Q : Po} {l : Nat → Value} {D : List Nat} {R : RH} {O : List Frag} {γ : Type} {ops : Array Oper} {rest : List Oper} {d : Nat} {ty : TypeId} {pos : String} {after : Array Go.Edge}
theorem qa{c:Operand}{x y:Code}{α:Type}{b:Bool}{p q:Option α}{r:α}(d:ev l c= .bool b)(a:(bif b then p else q)=some r)(f:p=some r→wg P ρ n x Q l D R O)(g:q=some r→wg P ρ n y Q l D R O):wg P ρ n (.cond c x y) Q l D R O:=
 zb9 d (fun e=>f (zie e a)) (fun e=>g (zi7 e a))
theorem ji{x y:Code}(W:List Nat)(S:γ→List (Nat×Value))(F:γ→List Frag)(K:γ→RH→Prop)(b:wg P ρ n x (thn (zwf true D W l R S F K) Q) l D R O)
 (c: ∀ g j R',RH.le R R'→K g R'→wg P ρ n y Q (z2x (mask W j l) (S g)) D R' (F g)):wg P ρ n (.seq x y) Q l D R O:=
 z1u true W S F K b fun g j D' R' d a e=>by obtain rfl:=d rfl;exact c g j R' a e
theorem uk{c:Code}(W:List Nat)(S:γ→List (Nat×Value))(F:γ→List Frag)(K:γ→RH→Prop)(μ:γ→Nat)(a:γ)
 (d: ∃ J,O.Perm (J++F a)) (e:K a R)
 (round: ∀ g j R',RH.le R R'→K g R'→wg P ρ n c (thn (zo7 true D W (z2x (mask W j l) (S g)) R' S F K μ (μ g)) Q) (z2x (mask W j l) (S g)) D R' (F g))
 (f:zkk l (S a):=by repeat (first|exact trivial|refine⟨rfl,?_⟩)) (h: ∀ g,((S g).all fun p=>W.elem p.1)=true:=by exact fun _=>rfl):wg P ρ n (.loop c) Q l D R O:=
 z11 true W S F K μ a f d e h fun g j D' R' i b k=>by obtain rfl:=i rfl;exact round g j R' b k
theorem zi{op:Op}{v:Value}(h:Val P ρ ⟨some d,op,ty,pos,after,none⟩ l R O v)(a:wo P ρ n ops Q rest (upd l d v) D R O)(b:Nat.blt d n=true:=by exact rfl):wo P ρ n ops Q (⟨some d,op,ty,pos,after,none⟩::rest) l D R O:=jf b h a
theorem zw{x:Operand}(v:Value)(a:wo P ρ n ops Q rest (upd l d v) D R O)(b:ev l x=v:=by exact rfl)(c:Nat.blt d n=true:=by exact rfl):wo P ρ n ops Q (⟨some d,.move x,ty,pos,after,none⟩::rest) l D R O:=jf c (zf b) a
theorem zo{x:Operand}(v:Value)(a:wo P ρ n ops Q rest (upd l d v) D R O)(b:ev l x=v:=by exact rfl)(c:Nat.blt d n=true:=by exact rfl):wo P ρ n ops Q (⟨some d,.assign x,ty,pos,after,none⟩::rest) l D R O:=jf c (z1q b) a
theorem zx{id:Nat}{os:List Oper}{y:Code}(h:wo P ρ n os.toArray (thn (wg P ρ n y Q) Q) os l D R O):wg P ρ n (.seq (.region id os.toArray false) y) Q l D R O:=zq (zh h)
theorem jc{id:Nat}{os:List Oper}{y:Code}{Q':Po}(h:wo P ρ n os.toArray (thn (wg P ρ n y Q) Q) os l D R O):wo P ρ n ops (thn (wg P ρ n (.seq (.region id os.toArray false) y) Q) Q') [] l D R O:=z8 (zx h)
def rs:List Nat→List Nat|a::b::r=>List.range' a (b-a)++rs r|_=>[]
abbrev vi (x:Int):Value:= .int .i64 x
abbrev vs0:Value:= .slice none 0 0
theorem dkt{c:Prop}{α:Type}{x:α}:c→x=x:=fun _=>rfl
theorem zr3{a b:Prop}[Decidable a][Decidable b]{α:Type}{k:Option α}{r:α}(h:gd a (gd b k)=some r):a∧b∧k=some r:=⟨(ze h).1,ze (ze h).2⟩
theorem zsy{a b c:Prop}[Decidable a][Decidable b][Decidable c]{α:Type}{k:Option α}{r:α}(h:gd a (gd b (gd c k))=some r):a∧b∧c∧k=some r:=⟨(ze h).1,zr3 (ze h).2⟩
theorem zt4{a b c d:Prop}[Decidable a][Decidable b][Decidable c][Decidable d]{α:Type}{k:Option α}{r:α}(h:gd a (gd b (gd c (gd d k)))=some r):a∧b∧c∧d∧k=some r:=⟨(ze h).1,zsy (ze h).2⟩
theorem ztp{a b c d e:Prop}[Decidable a][Decidable b][Decidable c][Decidable d][Decidable e]{α:Type}{k:Option α}{r:α}(h:gd a (gd b (gd c (gd d (gd e k))))=some r):a∧b∧c∧d∧e∧k=some r:=⟨(ze h).1,zt4 (ze h).2⟩
theorem zz1{a b c d e f:Prop}[Decidable a][Decidable b][Decidable c][Decidable d][Decidable e][Decidable f]{α:Type}{k:Option α}{r:α}(h:gd a (gd b (gd c (gd d (gd e (gd f k)))))=some r):a∧b∧c∧d∧e∧f∧k=some r:=⟨(ze h).1,ztp (ze h).2⟩
theorem prm{O:List Frag}: ∃ J,O.Perm (J++O):=⟨[],List.Perm.refl _⟩
end short
end GV
end Go.Proofs.Ytdhccodneoebpaa

namespace Go.Proofs.Ytdhccodneoebpaa
namespace GV
def zsx(u:Value):Ty Unit where
 size:=1
 agg:=false
 rep:=fun _ cs _=>cs=[u]∧u.oneCell'=true
 len:=by rintro _ _ _ ⟨rfl,_⟩;rfl
 mono:=fun _ h=>h
 one:=fun _=>rfl
 cell:=by rintro _ _ _ ⟨rfl,h⟩ v hv;rw [List.mem_singleton] at hv;subst hv;exact h
theorem zkr{u v:Value}{R:RH}{x:Unit}(h:VRep (zsx u) R v x):v=u:=by
 obtain⟨cs,⟨rfl,_⟩,rfl⟩:=h;rfl
section a
variable {P : Program} {ρ : Option Nat} {l : Nat → Value} {R : RH} {O : List Frag} {ty : TypeId} {pos : String} {after : Array Go.Edge} {dst : Option Tmp} {g : Option (Nat × Bool)}
variable {α : Type} {T : Ty α} {X : List α} {v : Value} {x y : Operand} {f : Frag} {t e : TypeId}
end a
end GV
end Go.Proofs.Ytdhccodneoebpaa

namespace Go.Proofs.Ytdhccodneoebpaa
namespace GV
abbrev okSh (k:IntKind) (y:Int):Prop:=0≤y∧y≤(k.bits:Int)
abbrev okB (k:IntKind) (x y:Int):Prop:=(0≤x∧x≤k.max)∧0≤y∧y≤k.max
def z5d(k:IntKind)(x y:Int):Int:=k.wrap (x*2^y.toNat)
def ior(x y:Int):Int:=((x.toNat|||y.toNat:Nat):Int)
theorem zlc(k:IntKind): ∃ m:Nat,k.max=((2^m:Nat):Int)-1∧m≤k.bits:=by
 cases k
 ·exact⟨7,by decide,by decide⟩
 ·exact⟨15,by decide,by decide⟩
 ·exact⟨31,by decide,by decide⟩
 ·exact⟨63,by decide,by decide⟩
 ·exact⟨8,by decide,by decide⟩
 ·exact⟨16,by decide,by decide⟩
 ·exact⟨32,by decide,by decide⟩
 ·exact⟨64,by decide,by decide⟩
theorem znl(k:IntKind){r:Int}(a:0≤r)(h:r≤k.max):k.wrap r=r:=by
 cases k<;>simp [IntKind.wrap,IntKind.max,IntKind.signed,IntKind.bits] at* <;>omega
theorem zwo{b:Nat}{x:Int}(a:0≤x)(c:x<((2^b:Nat):Int)):(BitVec.ofInt b x).toNat=x.toNat:=by
 rw [BitVec.toNat_ofInt,Int.emod_eq_of_lt a c]
theorem zrd{k:IntKind}{x:Int}(h:0≤x∧x≤k.max):(BitVec.ofInt k.bits x).toNat=x.toNat:=by
 obtain⟨m,b,a⟩:=zlc k
 have c:((2^m:Nat):Int)≤((2^k.bits:Nat):Int):=by exact_mod_cast Nat.pow_le_pow_right (by decide) a
 exact zwo h.1 (by omega)
theorem zxg{k:IntKind}{x y:Int}{f:Nat→Nat→Nat}(c: ∀ n a b,a<2^n→b<2^n→f a b<2^n)(h:okB k x y):((f x.toNat y.toNat:Nat):Int)≤k.max:=by
 obtain⟨m,d,e⟩:=zlc k
 obtain⟨⟨g,i⟩,j,l⟩:=h
 have:=c m x.toNat y.toNat (by omega) (by omega)
 omega
section a
variable {P : Program} {ρ : Option Nat} {l : Nat → Value} {R : RH} {O : List Frag} {ty : TypeId} {pos : String} {after : Array Go.Edge} {dst : Option Tmp} {g : Option (Nat × Bool)}
theorem zs6{op:BinOp}{k:IntKind}{t t':TypeId}{x y:Operand}{m n r:Int}(a:ev l x= .int k m)(b:ev l y= .int k n)(h: ∀ w,(Op.intBits op k m n).run P w= .ok (.int k r) w)(d:op= .and∨op= .or∨op= .xor):
 Val P ρ ⟨dst,.binOp op t x y t',ty,pos,after,g⟩ l R O (.int k r):=by
 intro A w _;rw [j4 (by intro c h;cases h)]
 refine z0c a b ?_
 rcases d with rfl|rfl|rfl
 all_goals
  show (if k≠k then _ else Op.intBits _ k m n:Sem Value).run P w=_
  rw [if_neg (by simp)]
  exact h w
theorem zvs{k:IntKind}{t t':TypeId}{x y:Operand}{m n:Int}(c:ev l x= .int k m)(d:ev l y= .int k n)(h:okB k m n):Val P ρ ⟨dst,.binOp .or t x y t',ty,pos,after,g⟩ l R O (.int k (ior m n)):=
 zs6 c d (fun w=>by
  show Result.ok (Value.int k (k.wrap ((BitVec.ofInt k.bits m|||BitVec.ofInt k.bits n).toNat:Nat))) w=_
  rw [BitVec.toNat_or,zrd h.1,zrd h.2,znl k (Int.natCast_nonneg _) (zxg (f:=fun a b=>a|||b) (fun n a b e i=>Nat.or_lt_two_pow e i) h)];rfl) (.inr (.inl rfl))
theorem zqj{w:World}{op:BinOp}{t t':TypeId}{x y:Operand}{k yk:IntKind}{m n:Int}{v:Value}(d:ev l x= .int k m)(e:ev l y= .int yk n)(f:op= .shl∨op= .shr)
 (a:(Op.shift op k m yk n).run P w= .ok v w):(execOp (ev l) (⟨dst,.binOp op t x y t',ty,pos,after,g⟩:Oper)).run P w= .ok (.value v) w:=by
 rcases f with rfl|rfl
 ·have b:(eqGuard .shl t x y (.int k m) (.int yk n)).run P w= .ok () w:=rfl
  have c:(binOp .shl t (.int k m) (.int yk n)).run P w= .ok v w:=a
  simp only [execOp,d,e,Sem.run_bind,b,Result.andThen_ok,c]
  rfl
 ·have b:(eqGuard .shr t x y (.int k m) (.int yk n)).run P w= .ok () w:=rfl
  have c:(binOp .shr t (.int k m) (.int yk n)).run P w= .ok v w:=a
  simp only [execOp,d,e,Sem.run_bind,b,Result.andThen_ok,c]
  rfl
theorem zwh{k:IntKind}{n:Int}(h:okSh k n):min n.toNat k.bits=n.toNat:=by
 obtain⟨a,b⟩:=h;omega
theorem zjs{k yk:IntKind}{t t':TypeId}{x y:Operand}{m n:Int}(a:ev l x= .int k m)(b:ev l y= .int yk n)(h:okSh k n):Val P ρ ⟨dst,.binOp .shl t x y t',ty,pos,after,g⟩ l R O (.int k (z5d k m n)):=by
 intro A w _;rw [j4 (by intro c h;cases h)]
 refine zqj a b (.inl rfl) ?_
 have d:=h.1
 simp only [Op.shift]
 rw [if_neg (by omega),zwh h];rfl
end a
end GV
end Go.Proofs.Ytdhccodneoebpaa

namespace Go.Proofs.Ytdhccodneoebpaa
namespace GV
def Ex.got{α β γ:Type}(f:α→γ):Ex α β→Option γ
 | .go a=>some (f a)
 | .rt _=>none
def zr2(P:Program)(f:FuncId)(cs:List Value)(R:RH){α δ:Type}(enc:α→List Value→RH→Prop)(OW:δ→RH→List Frag→Prop)(IT:(σ:Type)→(σ→Option δ)→(α→σ→Option (Bool×σ))→σ→Option σ):Prop:=
 ∀ (yv:Value) (σ:Type) (get:σ→Option δ) (B:α→σ→Option (Bool×σ)) (I:σ→RH→List Frag→Prop) (c:RH) (O:List Frag) (s0 g:σ),RH.le R c→
  (∀ s a e O2,RH.le a e→I s a O2→I s e O2)→(∀ s d a O2,RH.le c a→get s=some d→I s a O2→ ∃ F J,O2.Perm (F++J)∧OW d a F)→I s0 c O→IT σ get B s0=some g→
  (∀ x s b s' a O2 vs,RH.le c a→enc x vs a→I s a O2→B x s=some (b,s')→CallV P yv vs.toArray a O2 (fun v e h=>v= .bool b∧I s' e h))→yv.oneCell'=true→
  CallG P f (yv::cs).toArray c O (fun v R' O'=>I g R' O')
theorem zi4{P:Program}{n:Nat}{Q:Po}{l:Nat→Value}{D:List Nat}{R:RH}{O:List Frag}{gv:Operand}{ps:List Nat}{assign body:Code}{f:FuncId}{cs:List Value}{Oc Or:List Frag}{α δ σ:Type}{enc:α→List Value→RH→Prop}
 {OW:δ→RH→List Frag→Prop} {IT:(σ:Type)→(σ→Option δ)→(α→σ→Option (Bool×σ))→σ→Option σ} (get:σ→Option δ) (B:α→σ→Option (Bool×σ)) (I:σ→RH→List Frag→Prop) (E:σ→Code→RH→List Frag→Prop) (s0 N:σ)
 (hg:ev l gv= .func (.func f) #[] cs.toArray) (he:Enters P f) (S:zr2 P f cs R enc OW IT) (T:O.Perm (Oc++Or)) (U:(ps.all fun p=>Nat.blt p n)=true)
 (hlen: ∀ x R vs,enc x vs R→vs.length=ps.length) (V: ∀ s g j O2,RH.le g j→I s g O2→I s j O2) (W: ∀ s c g j O2,RH.le g j→E s c g O2→E s c j O2)
 (Y: ∀ s c R O x,E s c R O→B x s=none)
 (Z: ∀ s d g O2,RH.le R g→get s=some d→I s g O2→ ∃ F J,O2.Perm (F++J)∧OW d g F) (aa: ∀ s c R O,E s c R O→get s=none) (h0:I s0 R Oc) (hrun:IT σ get B s0=some N)
 (hround: ∀ x s b s' lb k vs i,RH.le R k→enc x vs k→I s k i→B x s=some (b,s')→ ∀ X,wg P (some lb) n assign (fun e l1 D1 g O1=>e= .normal∧D1=[]∧RH.le k g∧ ∃ Oa,O1.Perm (Oa++X)∧
  ∀ X',wg P (some lb) n body (zmr k X' (fun p j y=>match p with|none=>b=true∧I s' j y|some c=>b=false∧E s' c j y)) l1 [] g (Oa++X')) (zdq (ps.zip vs) l) [] k (i++X))
 (hend: ∀ dd k i,RH.le R k→I N k i→ ∃ J F,i.Perm (J++F)∧Q .normal l (dd::D) k (F++Or))
 (hexit: ∀ c dd k i,RH.le R k→E N c k i→wg P none n c Q l (dd::D) k (i++Or)):wg P none n (.rangeFunc gv ps.toArray assign body) Q l D R O:=by
 refine zcq (f:=f) (fs:= #[]) (cs:=cs.toArray) hg he T fun lb dd fn t ab=>?_
 have hargs:(#[]++ #[Value.func (Fn.yield lb) #[] #[]]++cs.toArray:Array Value)=(Value.func (Fn.yield lb) #[] #[]::cs).toArray:=by simp
 rw [hargs]
 have hpn': ∀ p∈ps,p<n:=fun p T=>by simpa [Nat.blt_eq] using List.all_eq_true.1 U p T
 refine CallG.mono2 (S (.func (.yield lb) #[] #[]) σ get B (zxh R lb n l ps assign body I E) R _ s0 N (RH.le.refl _) ?_ ?_ ⟨RH.le.refl _,_,_,rfl,.inl ⟨⟨ab,rfl,rfl,rfl⟩,rfl,rfl,h0⟩⟩ hrun ?_ rfl) ?_
 ·rintro s g j O2 o ⟨q,L,Oc',h2,w⟩
  refine⟨q.trans o,L,Oc',h2,?_⟩
  rcases w with⟨a,b,c,d⟩|⟨c,a,b,d⟩
  ·exact .inl ⟨a,b,c,V _ _ _ _ o d⟩
  ·exact .inr ⟨c,a,b,W _ _ _ _ _ o d⟩
 ·rintro s d g O2 o hd ⟨q,L,Oc',rfl,w⟩
  rcases w with⟨_,_,_,z⟩|⟨c,_,_,A⟩
  ·obtain⟨F,J,ad,ae⟩:=Z s d g Oc' q hd z
   exact⟨F,z8q lb L::J,(ad.cons _).trans List.perm_middle.symm,ae⟩
  ·rw [aa s c g Oc' A] at hd;cases hd
 ·rintro x s b s' g O2 vs o hA ⟨q,L,Oc',rfl,w⟩ hB
  rcases w with⟨⟨C,G,H,K⟩,hst',r,z⟩|⟨c,_,_,A⟩
  ·refine CallV.mono (zem (n:=n) (l:=l) (ps:=ps) (RP:=fun p j y=>RH.le R j∧(match p with|none=>b=true∧I s' j y|some c=>b=false∧E s' c j y)) hst' G (hlen x g vs hA).symm hpn' C ?_) ?_
   ·intro X
    have:=hround x s b s' lb g vs Oc' q hA z hB X
    rw [H,K]
    refine z98 this ?_
    rintro e l1 D1 j O1 ⟨he',hD,m,Oa,ag,hb⟩
    refine⟨he',hD,m,Oa,ag,fun X'=>z98 (hb X') ?_⟩
    intro e l2 D2 R4 O4 u
    cases e with
    |normal=>obtain⟨a,b,O',c,d⟩:=u;exact⟨a,b,O',c,q.trans b,d⟩
    |ret=>obtain⟨a,b,O',c,d⟩:=u;exact⟨a,b,O',c,q.trans b,d⟩
    |exit id=>obtain⟨a,b,O',c,d⟩:=u;exact⟨a,b,O',c,q.trans b,d⟩
    |goto _=>exact u
    |panic _=>exact u
    |outgrown=>exact u
   ·rintro v R' O' al ⟨pend,O'',rfl,rfl,m,M⟩
    cases pend with
    |none=>obtain⟨rfl,hI'⟩:=M;exact⟨rfl,m,_,_,rfl,.inl ⟨⟨C,G,H,K⟩,rfl,rfl,hI'⟩⟩
    |some c=>obtain⟨rfl,hE'⟩:=M;exact⟨rfl,m,_,_,rfl,.inr ⟨c,rfl,rfl,hE'⟩⟩
  ·rw [Y s c g Oc' x A] at hB;cases hB
 ·rintro v R' O' o ⟨q,L,Oc',rfl,w⟩
  rcases w with⟨hL,hst',r,z⟩|⟨c,hst',r,A⟩
  ·obtain⟨J,F,ah,u⟩:=hend dd R' Oc' q z
   refine⟨J,z8q lb L::F,(ah.cons _).trans List.perm_middle.symm,L,F,rfl,by rw [hst'];exact fun h=>(by cases h),?_⟩
   rw [r];exact u
  ·refine⟨[],_,List.Perm.refl _,L,Oc',rfl,by rw [hst'];exact fun h=>(by cases h),?_⟩
   rw [r];exact hexit c dd R' Oc' q A
theorem zby{own O F J A:List Frag}(a:O.Perm (F++J)):((F++own)++(J++A)).Perm (own++(O++A)):=by
 refine List.Perm.trans ?_ (List.Perm.append_left own (a.append_right A).symm)
 rw [←List.append_assoc,←List.append_assoc,←List.append_assoc]
 exact(List.perm_append_comm.append_right J).append_right A
theorem zhq{O J X F K:List Frag}(h:O.Perm (J++X))(pm:X.Perm (F++K)):O.Perm (F++(K++J)):=by
 refine h.trans (List.perm_append_comm.trans ((pm.append_right J).trans ?_))
 rw [List.append_assoc]
theorem zam{O O1 rest F J A:List Frag}(a:O1.Perm (F++J))(pm:O.Perm (F++(rest++(J++A)))):(rest++(O1++A)).Perm O:=by
 refine List.Perm.trans (zby (own:=rest) a).symm (List.Perm.trans ?_ pm.symm)
 rw [←List.append_assoc,←List.append_assoc,←List.append_assoc]
theorem zoq{P:Program}{ρ:Option Nat}{n:Nat}{c:Code}{Q:Po}{l:Nat→Value}{D:List Nat}{R:RH}{O:List Frag}(O':List Frag)(b:O'.Perm O)(h:wg P ρ n c Q l D R O'):wg P ρ n c Q l D R O:=
 fun a w d e=>h a w d (kz e (b.symm.append_right _))
theorem zgp{P:Program}{ρ:Option Nat}{n:Nat}{Q:Po}{l:Nat→Value}{D:List Nat}{R:RH}{O:List Frag}{ops:Array Oper}{rest:List Oper}(O':List Frag)(a:O'.Perm O)(h:wo P ρ n ops Q rest l D R O'):wo P ρ n ops Q rest l D R O:=zo8 a h
theorem zrk{P:Program}{ρ:Option Nat}{l:Nat→Value}{R:RH}{O:List Frag}{dst:Option Tmp}{ty:TypeId}{pos:String}{after:Array Go.Edge}{g:Option (Nat×Bool)}{t t':TypeId}{x y:Operand}{α:Type}[DecidableEq α]{cl:α→List Value}{a b:α}{m sz:Nat}{K:List Value→Prop}
 (d:ev l x= .agg (cl a).toArray) (f:ev l y= .agg (cl b).toArray) (h:KTy P t m sz true K) (i:m≤Op.maxDepth) (j:P.eqGuardType P.depth t=false) (ka:K (cl a)) (kb:K (cl b)) (hi: ∀ a b,cl a=cl b→a=b):
 Val P ρ ⟨dst,.binOp .eql t x y t',ty,pos,after,g⟩ l R O (.bool (decide (a=b))):=by
 intro A w _;rw [j4 (by intro c h;cases h)]
 obtain⟨r,k,hiff⟩:=h.eq Op.maxDepth w (cl a) (cl b) i ka kb
 have e:r=decide (a=b):=by
  rw [Bool.eq_iff_iff,hiff,decide_eq_true_iff]
  exact⟨hi a b,fun e=>by rw [e]⟩
 have hr':(Op.equal t (.agg (cl a).toArray) (.agg (cl b).toArray)).run P w= .ok r w:=k
 simp only [execOp,d,f]
 rw [Sem.run_bind,Sem.run_bind,run_eqGuard_agg w .eql t x y _ _ j,Result.andThen_ok]
 simp only [binOp,Sem.run_bind,hr',Result.andThen_ok,e]
 rfl
end GV
end Go.Proofs.Ytdhccodneoebpaa
