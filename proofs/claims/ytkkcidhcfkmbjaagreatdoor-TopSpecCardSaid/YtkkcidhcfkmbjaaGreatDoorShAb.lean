
import Derived.Test.YtkkcidhcfkmbjaaGreatDoorShMap
import Derived.Laws.CopyRow
import Derived.Laws.IdiomCopy
import Derived.Laws.StructEq
import Derived.ChangeKeysEq
import Derived.WideKeyRuns
import Derived.Laws.BytesString
set_option linter.unusedVariables false
set_option linter.unusedSimpArgs false
set_option linter.unusedSectionVars false
namespace Go.Proofs.YtkkcidhcfkmbjaaGreatDoor
namespace GV
/-! ### The plain form-/
end GV
end Go.Proofs.YtkkcidhcfkmbjaaGreatDoor

namespace Go.Proofs.YtkkcidhcfkmbjaaGreatDoor
namespace GV
def z3r(sz:Nat)(v:Value)(lo hi:Nat):Value:=
 match v with
 | .slice p _ c=> .slice (if c=lo then p else p.map (·.add (lo*sz))) (hi-lo) (c-lo)
 |v=>v
def z1i{α:Type}(X:List α)(lo:Nat)(Y:List α):List α:=X.take lo++Y++X.drop (lo+Y.length)
theorem z3z{α:Type}{X Y:List α}{lo:Nat}(h:lo+Y.length≤X.length):(z1i X lo Y).length=X.length:=by
 simp only [z1i,List.length_append,List.length_take,List.length_drop];omega
section c
variable {P : Program} {ρ : Option Nat} {l : Nat → Value} {R : RH} {O : List Frag} {ty : TypeId} {pos : String} {after : Array Go.Edge} {dst : Option Tmp} {g : Option (Nat × Bool)}
variable {α : Type} {T : Ty α} {X Y : List α} {v u : Value} {x y : Operand} {f : Frag} {t e : TypeId}
theorem za2{lo hi:Nat}{xlo xhi:Option Operand}(d:SlOk P t e T)(j:ev l x=v)(m:ORep T R f v X)
 (a:xlo.map (ev l)=none∧lo=0∨ ∃ k,xlo.map (ev l)=some (.int k lo)) (b:xhi.map (ev l)=none∧hi=X.length∧(none:Option Operand)=none∨ ∃ k,xhi.map (ev l)=some (.int k hi)) (n:lo≤hi) (o:hi≤X.length):
 Val P ρ ⟨dst,.slice t x xlo xhi none,ty,pos,after,g⟩ l R O (z3r T.size v lo hi):=by
 obtain⟨p,i,q⟩:=z0t m
 intro A w r
 rw [qi (by intro c h;cases h)]
 have:=z7w (P:=P) (dst:=dst) (ty:=ty) (pos:=pos) (after:=after) (g:=g) (w:=w) (xmx:=none) (mx:=capOf v) d.u d.e.size (j.trans i) a b (.inl ⟨rfl,rfl⟩) n (by omega) (Nat.le_refl _) (fun _=>by omega)
 rw [this,i]
 rfl
theorem take1{cs:List Value}{i:Nat}(h:i<cs.length):(cs.drop i).take 1=[cs[i]]:=by rw [List.drop_eq_getElem_cons h];rfl
theorem zkx{b:Nat}{pre cs ys:List Value}{cap lo:Nat}{bt:TypeId}(g:T.size=1)(m:X.length≤cap)(n:cap≤cs.length)(e: ∀ v∈pre++cs,v.oneCell'=true)(h: ∀ (i:Nat) (hi:i<cs.length) x,X[i]? =some x→T.rep R [cs[i]] x)
 (hfit:lo+Y.length≤X.length) (o:ys.length=Y.length) (p: ∀ (i:Nat) (hi:i<ys.length) y,Y[i]? =some y→T.rep R [ys[i]] y) (r: ∀ v∈ys,v.oneCell'=true):
 ORep T R (box b (pre++over cs lo ys) bt) (.slice (some ⟨b,pre.length,none⟩) X.length cap) (z1i X lo Y):=by
 have k:(over cs lo ys).length=cs.length:=by
  simp only [over,List.length_append,List.length_take,List.length_drop];omega
 refine .inr ⟨b,pre,over cs lo ys,cap,bt,by rw [z3z hfit],rfl,by rw [z3z hfit];exact m,by rw [g,k];omega,fun q a=>?_,fun i x d=>?_⟩
 ·rcases List.mem_append.1 a with a|a
  ·exact e q (List.mem_append.2 (.inl a))
  ·simp only [over,List.mem_append] at a
   rcases a with(a|a)|a
   ·exact e q (List.mem_append.2 (.inr (List.mem_of_mem_take a)))
   ·exact r q a
   ·exact e q (List.mem_append.2 (.inr (List.mem_of_mem_drop a)))
 ·have hi:i<X.length:=by have:=(List.getElem?_eq_some_iff.1 d).1;rwa [z3z hfit] at this
  have j:i<(over cs lo ys).length:=by omega
  rw [g,Nat.mul_one,take1 j]
  unfold z1i at d
  have key: ∀ (z:Value),(over cs lo ys)[i]? =some z→T.rep R [z] x→T.rep R [(over cs lo ys)[i]] x:=fun z l s=>by
   rw [List.getElem?_eq_getElem j] at l
   rw [Option.some.inj l];exact s
  by_cases ha:i<lo
  ·have c:i<cs.length:=by omega
   refine key cs[i] ?_ (h i c x ?_)
   ·unfold over;rw [List.append_assoc,List.getElem?_append_left (by rw [List.length_take];omega),List.getElem?_take,if_pos ha,List.getElem?_eq_getElem c]
   ·rw [List.append_assoc,List.getElem?_append_left (by rw [List.length_take];omega),List.getElem?_take,if_pos ha] at d;exact d
  ·by_cases hb:i<lo+Y.length
   ·have f:i-lo<ys.length:=by omega
    refine key ys[i-lo] ?_ (p (i-lo) f x ?_)
    ·unfold over
     rw [List.append_assoc,List.getElem?_append_right (by rw [List.length_take];omega),List.length_take,Nat.min_eq_left (by omega),List.getElem?_append_left f,List.getElem?_eq_getElem f]
    ·rw [List.append_assoc,List.getElem?_append_right (by rw [List.length_take];omega),List.length_take,Nat.min_eq_left (by omega),List.getElem?_append_left (by omega)] at d;exact d
   ·have c:i<cs.length:=by omega
    refine key cs[i] ?_ (h i c x ?_)
    ·unfold over
     rw [List.getElem?_append_right (by rw [List.length_append,List.length_take];omega),List.length_append,List.length_take,Nat.min_eq_left (by omega),List.getElem?_drop,o,show lo+Y.length+(i-(lo+Y.length))=i by omega,List.getElem?_eq_getElem c]
    ·rw [List.getElem?_append_right (by rw [List.length_append,List.length_take];omega),List.length_append,List.length_take,Nat.min_eq_left (by omega),List.getElem?_drop,show lo+Y.length+(i-(lo+Y.length))=i by omega] at d;exact d
theorem z9s{w w':World}{r:Value}(a:ev l x=v)(b:ev l y=u)(h:(Builtin.copy_ #[t,t] ty #[v,u]).run P w= .ok r w'):
 ((⟨dst,.call ⟨.builtin .copy,#[x,y],#[t,t]⟩,ty,pos,after,g⟩:Oper).semAt ρ (ev l)).run P w= .ok (.value r) w':=by
 rw [qi (by intro c h;cases h)]
 simp [execOp,resolve,invoke,builtin,a,b,h]
theorem zem{A:List Frag}{w:World}{b:Nat}{cs:List Value}{bt:TypeId}(cs':List Value)(h:Holds R (box b cs bt::A) w):Holds R (box b cs' bt::A) (w.setRow b cs'.toArray):=by
 have a:w.heap[b]? =some (.cells cs.toArray bt (0,0)):=oq (i:=0) h rfl (single_same _ _)
 have:=z2t (i:=0) (w':=w.setRow b cs'.toArray) (o':= .cells cs'.toArray bt (0,0)) h rfl (by simp [World.setRow,Array.getElem?_modify,a]) (fun k c=>by simp [World.setRow,Array.getElem?_modify,Ne.symm c]) rfl rfl trivial
 exact this
end c
end GV
end Go.Proofs.YtkkcidhcfkmbjaaGreatDoor

namespace Go.Proofs.YtkkcidhcfkmbjaaGreatDoor
namespace GV
def mkV(ag:Bool)(cs:List Value):Value:=if ag then .agg cs.toArray else cs.headD undef
structure KTy (P:Program) (t:TypeId) (m sz:Nat) (ag:Bool) (K:List Value→Prop):Prop where
 cells:P.cellsOf t=sz
 info: ∃ i,P.info? t=some i
 len: ∀ cs,K cs→cs.length=sz
 isAgg: ∀ w,(isAgg t).run P w= .ok ag w
 one:ag=false→sz=1
 eq: ∀ d (w:World) cs cs',m≤d→K cs→K cs'→ ∃ r:Bool,(Op.equalIn d t (mkV ag cs) (mkV ag cs')).run P w= .ok r w∧(r=true↔cs=cs')
 chk: ∀ d (w:World) em cs,m≤d→K cs→(Instr.checkKey em d t (mkV ag cs)).run P w= .ok () w
section
variable {P : Program} {t e : TypeId} {m m' sz n : Nat} {ag : Bool} {K : List Value → Prop}
theorem KTy.mono(h:KTy P t m sz ag K)(b:m≤m'):KTy P t m' sz ag K:=
 {h with eq:=fun d w cs cs' a=>h.eq d w cs cs' (by omega),chk:=fun d w em cs a=>h.chk d w em cs (by omega)}
theorem KTy.part(h:KTy P t m sz ag K)(w:World){pre cs post:List Value}(b:K cs):(part t (pre++cs++post).toArray pre.length).run P w= .ok (mkV ag cs) w:=by
 obtain⟨i,hi⟩:=h.info
 have a:=h.len cs b
 unfold Go.part
 rw [Sem.run_bind,h.isAgg w,Result.andThen_ok]
 cases ag
 ·have c:=h.one rfl
  match cs,a with
  | [v],_=>
   simp only [Bool.false_eq_true,if_false]
   have:(pre++[v]++post).toArray[pre.length]? =some v:=by simp
   rw [this];rfl
  | [],a=>simp at a;omega
  |_::_::_,a=>simp at a;omega
 ·simp only [if_true,Sem.run_bind,run_sizeOf w hi,h.cells,Result.andThen_ok,Sem.run_pure]
  have:(pre++cs++post).toArray.extract pre.length (pre.length+sz)=cs.toArray:=by
   apply Array.toList_inj.1
   rw [Array.toList_extract]
   simp only [List.extract_eq_take_drop,List.append_assoc,List.drop_left,List.take_append_of_le_length (Nat.le_of_eq (show pre.length+sz-pre.length=cs.length by omega)),List.take_of_length_le (show cs.length≤pre.length+sz-pre.length by omega)]
  rw [this];rfl
/-! ### Arrays-/
/-! ### Structs-/
inductive KFld (P:Program) (m:Nat):Nat→List Field→(List Value→Prop)→Prop
 |nil {off:Nat}:KFld P m off [] (fun cs=>cs=[])
 | cons {off sz : Nat} {f : Field} {fs : List Field} {ag : Bool} {K K' : List Value → Prop} : f.name ≠ "_" → f.offset = off → KTy P f.type m sz ag K → KFld P m (off + sz) fs K' → KFld P m off (f :: fs) (fun cs => ∃ a b, K a ∧ K' b ∧ cs = a ++ b)
theorem KFld.len{off:Nat}{fs:List Field}{K:List Value→Prop}(h:KFld P m off fs K): ∃ k,∀ cs,K cs→cs.length=k:=by
 induction h with
 |nil=>exact⟨0,fun cs e=>by subst e;rfl⟩
 |cons i j c l ih=>
  obtain⟨k,d⟩:=ih
  exact⟨_,by rintro cs ⟨a,b,f,g,rfl⟩;rw [List.length_append,c.len a f,d b g]⟩
end
/-! ### Finding-/
section
variable {P : Program} {kt : TypeId} {m sz : Nat} {K : List Value → Prop} {κ : Type} [DecidableEq κ] {ke : κ → Value} {cl : κ → List Value}
end
end GV
end Go.Proofs.YtkkcidhcfkmbjaaGreatDoor

namespace Go.Proofs.YtkkcidhcfkmbjaaGreatDoor
namespace GV
abbrev Arr (n:Nat) (α:Type):= {l:List α//l.length=n}
instance {n:Nat} {α:Type} [Inhabited α]:Inhabited (Arr n α):=⟨⟨List.replicate n default,List.length_replicate⟩⟩
theorem zi7{α:Type}{cs:List α}{n k i:Nat}(h:cs.length=n*k)(hi:i<n):((cs.drop (i*k)).take k).length=k:=by
 rw [List.length_take,List.length_drop,h]
 have:(i+1)*k≤n*k:=Nat.mul_le_mul_right k hi
 rw [Nat.succ_mul] at this
 omega
theorem zki{α:Type}{cs:List α}{n k:Nat}(h:cs.length=n*k){v:α}(c:v∈cs): ∃ i,i<n∧v∈(cs.drop (i*k)).take k:=by
 obtain⟨j,a,rfl⟩:=List.mem_iff_getElem.1 c
 have d:0<k:=by
  rcases Nat.eq_zero_or_pos k with e|e
  ·subst e;simp at h;subst h;simp at a
  ·exact e
 have b:j/k<n:=Nat.div_lt_of_lt_mul (show j<k*n by rw [Nat.mul_comm,←h];exact a)
 refine⟨j/k,b,?_⟩
 have f:=Nat.div_add_mod j k
 have g:=Nat.mod_lt j d
 have l:=zi7 h b
 refine List.mem_iff_getElem.2 ⟨j%k,by omega,?_⟩
 rw [List.getElem_take,List.getElem_drop]
 congr 1
 rw [Nat.mul_comm];exact f
def zsz{α:Type}(n:Nat)(T:Ty α):Ty (Arr n α) where
 size:=n*T.size
 agg:=true
 rep R cs X:=cs.length=n*T.size∧ ∀ i x,X.1[i]? =some x→T.rep R ((cs.drop (i*T.size)).take T.size) x
 len h:=h.1
 mono hle h:=⟨h.1,fun i x hx=>T.mono hle (h.2 i x hx)⟩
 one h:=by cases h
 cell:=by
  rintro R cs X ⟨a,b⟩ v hv
  obtain⟨i,hi,hm⟩:=zki a hv
  have hl:i<X.1.length:=by rw [X.2];exact hi
  exact T.cell (b i _ (List.getElem?_eq_getElem hl)) v hm
structure CellsOf {α:Type} (T:Ty α) (cl:α→List Value):Prop where
 len: ∀ x,(cl x).length=T.size
 iff: ∀ R cs x,T.rep R cs x↔cs=cl x
def z9w{α:Type}{n:Nat}(cl:α→List Value)(X:Arr n α):List Value:=X.1.flatMap cl
theorem z3b{α:Type}{cl:α→List Value}{k:Nat}(h: ∀ x,(cl x).length=k): ∀ (l:List α) (i:Nat) (x:α),l[i]? =some x→((l.flatMap cl).drop (i*k)).take k=cl x
 | [],i,x,a=>by simp at a
 |y::l,0,x,a=>by
  have:y=x:=by simpa using a
  subst this
  rw [Nat.zero_mul,List.drop_zero,List.flatMap_cons,List.take_left' (h y)]
 |y::l,i+1,x,a=>by
  rw [List.flatMap_cons,Nat.succ_mul,Nat.add_comm,←List.drop_drop,List.drop_left' (h y)]
  exact z3b h l i x (by simpa using a)
theorem z3i{α:Type}{cl:α→List Value}{k:Nat}(h: ∀ x,(cl x).length=k): ∀ (l:List α),(l.flatMap cl).length=l.length*k
 | []=>by simp
 |y::l=>by rw [List.flatMap_cons,List.length_append,h y,z3i h l,List.length_cons,Nat.succ_mul,Nat.add_comm]
theorem zl7{cs cs':List Value}{n k:Nat}(h:cs.length=n*k)(h':cs'.length=n*k)(a: ∀ i,i<n→(cs.drop (i*k)).take k=(cs'.drop (i*k)).take k):cs=cs':=by
 induction n generalizing cs cs' with
 |zero=>simp at h h';rw [h,h']
 |succ n ih=>
  rw [Nat.succ_mul] at h h'
  have b:=a 0 (by omega)
  rw [Nat.zero_mul,List.drop_zero,List.drop_zero] at b
  have c:cs.drop k=cs'.drop k:=ih (by rw [List.length_drop];omega) (by rw [List.length_drop];omega) fun i hi=>by
   have:=a (i+1) (by omega)
   rw [Nat.succ_mul,Nat.add_comm] at this
   rwa [List.drop_drop,List.drop_drop]
  rw [←List.take_append_drop k cs,←List.take_append_drop k cs',b,c]
theorem zl0{α:Type}{T:Ty α}{cl:α→List Value}{n:Nat}(h:CellsOf T cl):CellsOf (zsz n T) (z9w cl:Arr n α→List Value):=by
 refine⟨fun X=>by show (X.1.flatMap cl).length=n*T.size;rw [z3i h.len,X.2],fun R cs X=>?_⟩
 show (cs.length=n*T.size∧_)↔cs=X.1.flatMap cl
 constructor
 ·rintro⟨b,c⟩
  refine zl7 b (by rw [z3i h.len,X.2]) fun i hi=>?_
  have a:i<X.1.length:=by rw [X.2];exact hi
  have:=(h.iff _ _ _).1 (c i _ (List.getElem?_eq_getElem a))
  rw [this,z3b h.len _ _ _ (List.getElem?_eq_getElem a)]
 ·rintro rfl
  exact⟨by rw [z3i h.len,X.2],fun i x d=>by rw [z3b h.len _ _ _ d];exact(h.iff _ _ _).2 rfl⟩
theorem zpd{α:Type}{T:Ty α}{cl:α→List Value}(h:CellsOf T cl)(a:T.agg=true){R:RH}{v:Value}{x:α}:VRep T R v x↔v= .agg (cl x).toArray:=by
 constructor
 ·rintro⟨cs,b,rfl⟩
  rw [(h.iff _ _ _).1 b]
  unfold Ty.mk';rw [a];rfl
 ·rintro rfl
  exact⟨cl x,(h.iff _ _ _).2 rfl,by unfold Ty.mk';rw [a];rfl⟩
/-! ### A box that holds an array:as_ a slice that can't grow-/
section a
variable {P : Program} {ρ : Option Nat} {n : Nat} {ops : Array Oper} {Q : Po} {rest : List Oper} {l : Nat → Value} {D : List Nat} {R : RH} {O : List Frag} {ty : TypeId} {pos : String} {after : Array Go.Edge} {d : Nat} {dst : Option Tmp} {g : Option (Nat × Bool)}
variable {α β : Type} {T : Ty α} {B : Ty β} {X : List α} {v u w : Value} {x y ix' : Operand} {f F : Frag} {i j o b m sz : Nat} {t s e : TypeId} {k : IntKind}
end a
end GV
end Go.Proofs.YtkkcidhcfkmbjaaGreatDoor

namespace Go.Proofs.YtkkcidhcfkmbjaaGreatDoor
namespace GV
theorem zr8{α:Type}[Inhabited α]{n i sz:Nat}{cl:α→List Value}{X:Arr n α}(a: ∀ x,(cl x).length=sz)(hi:i<n):((z9w cl X).drop (i*sz)).take sz=cl (X.1.getD i default):=by
 have h:i<X.1.length:=by rw [X.2];exact hi
 rw [show z9w cl X=X.1.flatMap cl from rfl,z3b a _ _ _ (List.getElem?_eq_getElem h)]
 simp [List.getD_eq_getElem?_getD,h]
theorem zkz{α:Type}{n sz:Nat}{cl:α→List Value}(a: ∀ x,(cl x).length=sz)(X:Arr n α):(z9w cl X).length=n*sz:=by
 rw [show z9w cl X=X.1.flatMap cl from rfl,z3i a,X.2]
section w
variable {P : Program} {ρ : Option Nat} {n : Nat} {ops : Array Oper} {Q : Po} {rest : List Oper} {l : Nat → Value} {D : List Nat} {R : RH} {O : List Frag} {ty : TypeId} {pos : String} {after : Array Go.Edge} {d : Nat} {dst : Option Tmp} {g : Option (Nat × Bool)}
variable {α : Type} [Inhabited α] {x y : Operand} {i j o b m sz k off : Nat} {t e bt : TypeId} {X : Arr m α} {cl : α → List Value} {vs : List Value} {v : Value}
/-! ### Structs out of parts of any size-/
inductive FillOk (place:Nat→Option (Nat×Nat)):Nat→List (Nat×Value)→List Value→Prop
 |nil {off:Nat}:FillOk place off [] []
 |last {off i:Nat} {v:Value} {c:List Value}:v.cells=c.toArray→place i=some (off,c.length)→FillOk place off [(i,v)] c
 |cons {off i:Nat} {v:Value} {ps:List (Nat×Value)} {c out:List Value}:v.cells=c.toArray→place i=some (off,c.length)→FillOk place (off+c.length) ps out→FillOk place off ((i,v)::ps) (c++out)
end w
/-! ### Loops that are gone through so many times-/
section u
variable {P : Program} {ρ : Option Nat} {n : Nat} {Q : Po} {l : Nat → Value} {D : List Nat} {R : RH} {O : List Frag} {c : Code}
def z9r(P:Program)(ρ:Option Nat)(n:Nat)(c:Code)(Q:Po):Nat→(Nat→Value)→List Nat→RH→List Frag→Prop
 |0=>fun _ _ _ _=>False
 |k+1=>fun l D R O=>wg P ρ n c (thn (z9r P ρ n c Q k) Q) l D R O
theorem z3k{k:Nat}(h:wg P ρ n c (thn (z9r P ρ n c Q k) Q) l D R O):z9r P ρ n c Q (k+1) l D R O:=h
theorem zlk(k:Nat)(h:z9r P ρ n c Q k l D R O):wg P ρ n (.loop c) Q l D R O:=by
 refine zk3 (z9r P ρ n c Q) k h ?_
 intro k l D R O a
 cases k with
 |zero=>exact a.elim
 |succ k=>
  refine za6 a ?_
  intro e l' D' R' O' b
  cases e with
  |normal=>exact⟨k,Nat.lt_succ_self k,b⟩
  |_=>exact b
end u
section mm
variable {P : Program} {ρ : Option Nat} {l : Nat → Value} {R : RH} {O : List Frag} {ty : TypeId} {pos : String} {after : Array Go.Edge} {dst : Option Tmp} {g : Option (Nat × Bool)} {k : IntKind} {a b : Int} {x y : Operand} {at' : Array TypeId} {t : TypeId} {d : TypeDesc}
theorem zmg(j:at'[0]? =some t)(m:P.underlying t=some d)(f:ev l x= .int k a)(i:ev l y= .int k b):Val P ρ ⟨dst,.call ⟨.builtin .min,#[x,y],at'⟩,ty,pos,after,g⟩ l R O (.int k (min a b)):=by
 intro A w _;rw [qi (by intro c h;cases h)]
 have e:(if b<a then b else a)=min a b:=by rw [Int.min_def];split<;>split<;>omega
 simp [execOp,resolve,invoke,builtin,Builtin.min_,Builtin.min2,f,i,e]
end mm
section p
variable {P : Program} {ρ : Option Nat} {l : Nat → Value} {R : RH} {O : List Frag} {ty : TypeId} {pos : String} {after : Array Go.Edge} {dst : Option Tmp} {g : Option (Nat × Bool)}
variable {α β : Type} [Inhabited α] {T : Ty α} {B : Ty β} {X : List α} {v u w : Value} {x y : Operand} {F : Frag} {i o : Nat} {t : TypeId} {se : α → β → α}
end p
end GV
end Go.Proofs.YtkkcidhcfkmbjaaGreatDoor

namespace Go.Proofs.YtkkcidhcfkmbjaaGreatDoor
namespace GV
/-! ### A box that only is read,of which the value is known-/
def zdm(v:Value):Ty Unit where
 size:=v.cells.size
 agg:=true
 rep _ cs _:=v= .agg cs.toArray∧ ∀ c∈cs,c.oneCell'=true
 len:=by rintro R cs x ⟨rfl,_⟩;simp [Value.cells]
 mono _ h:=h
 one h:=by cases h
 cell h:=h.2
theorem zog{R:RH}{v w:Value}{x:Unit}(h:VRep (zdm v) R w x):w=v:=by
 obtain⟨cs,⟨rfl,_⟩,rfl⟩:=h;rfl
theorem zv7{α:Type}{T:Ty α}{R:RH}{v:Value}{y:α}(a:T.agg=true)(b:VRep T R v y):VRep (zdm v) R v ():=by
 obtain⟨cs,c,rfl⟩:=b
 have e:T.mk' cs= .agg cs.toArray:=by unfold Ty.mk';rw [a];rfl
 exact⟨cs,⟨e,T.cell c⟩,e⟩
theorem zn6{α:Type}{T:Ty α}{R:RH}{v u:Value}{y:α}(f:T.agg=true)(g:PRep (zdm v) R u ())(h:VRep T R v y):PRep T R u y:=by
 obtain⟨cs,a,rfl⟩:=h
 have e:T.mk' cs= .agg cs.toArray:=by unfold Ty.mk';rw [f];rfl
 obtain⟨b,off,c,ty,fr,i,j,d,_⟩:=g
 have k:(zdm (T.mk' cs)).size=T.size:=by rw [←T.len a,e];simp [zdm,Value.cells]
 refine⟨b,off,c,ty,fr,i,j,?_⟩
 rw [k,e] at d
 have:cs=cellsAt c off T.size:=by simpa using d
 rw [←this];exact a
theorem z0g{α:Type}{P:Program}{ρ:Option Nat}{l:Nat→Value}{R:RH}{O:List Frag}{dst:Option Tmp}{ty:TypeId}{pos:String}{after:Array Go.Edge}{g:Option (Nat×Bool)}{T:Ty α}{t:TypeId}{x:Operand}{u v:Value}{y:α}
 (a:TyOk P t T) (b:T.agg=true) (c:ev l x=u) (d:PRep (zdm v) R u ()) (f:VRep T R v y):Val P ρ ⟨dst,.load t x,ty,pos,after,g⟩ l R O v:=by
 have i:(zdm v).size=T.size:=by
  obtain⟨cs,j,rfl⟩:=f
  have e:T.mk' cs= .agg cs.toArray:=by unfold Ty.mk';rw [b];rfl
  rw [←T.len j,e];simp [zdm,Value.cells]
 have ht':TyOk P t (zdm v):=⟨fun w=>by rw [a.agg w,b];rfl,fun w=>by rw [a.size w,i]⟩
 obtain⟨w,k,h⟩:=z8e (ρ:=ρ) (O:=O) ht' c d
 obtain rfl:=zog k
 exact h _ _ _ _ _
theorem om{α:Type}{P:Program}{ρ:Option Nat}{n:Nat}{ops:Array Oper}{Q:Po}{rest:List Oper}{l:Nat→Value}{D:List Nat}{R:RH}{O:List Frag}{ty:TypeId}{pos:String}{after:Array Go.Edge}{d:Nat}{T:Ty α}{e:TypeId}{x:Operand}{v:Value}{y:α}(g:Nat.blt d n=true)(h:ev l x=v)(b:T.agg=true)(c:VRep T R v y)
 (i: ∀ u R',RH.le R R'→PRep (zdm v) R' u ()→PRep T R' u y→wo P ρ n ops Q rest (upd l d u) D R' O):wo P ρ n ops Q (⟨some d,.box e x,ty,pos,after,none⟩::rest) l D R O:=
 z8f g h (zv7 b c) fun u R' a f=>i u R' a f (zn6 b f (c.mono a))
/-! ### A part of a box that is an array of values of one cell-/
def zre(n:Nat)(g:Nat→Value):List Value:=(List.range n).map g
def AG{α:Type}[Inhabited α](T:Ty α)(R:RH)(n:Nat)(g:Nat→Value)(X:List α):Prop:=X.length=n∧ ∀ k,k<n→VRep T R (g k) (X.getD k default)∧(g k).oneCell'=true
theorem AG.mono{α:Type}[Inhabited α]{T:Ty α}{R R':RH}{n:Nat}{g:Nat→Value}{X:List α}(h:AG T R n g X)(a:RH.le R R'):AG T R' n g X:=⟨h.1,fun k b=>⟨(h.2 k b).1.mono a,(h.2 k b).2⟩⟩
theorem zly(n:Nat)(g:Nat→Value):(zre n g).length=n:=by simp [zre]
section g
variable {P : Program} {ρ : Option Nat} {n : Nat} {ops : Array Oper} {Q : Po} {rest : List Oper} {l : Nat → Value} {D : List Nat} {R : RH} {O : List Frag} {ty : TypeId} {pos : String} {after : Array Go.Edge} {dst : Option Tmp} {g0 : Option (Nat × Bool)}
theorem z8k{d:Nat}{f:FuncId}{c:Operand}{args:List Operand}{at':Array TypeId}{fs vs:List Value}{Oc Or:List Frag}{post:Value→RH→List Frag→Prop}(a:Nat.blt d n=true)(b:Enters P f)(e:ev l c= .func (.func f) fs.toArray #[])(g:args.map (ev l)=vs)(i:O.Perm (Oc++Or))
 (h:CallG P f (fs++vs).toArray R Oc post) (j: ∀ v R' Oc',RH.le R R'→post v R' Oc'→wo P ρ n ops Q rest (upd l d v) D R' (Oc'++Or)):wo P ρ n ops Q (⟨some d,.call ⟨.value c,args.toArray,at'⟩,ty,pos,after,none⟩::rest) l D R O:=
 z9z a e g i (z9e b (by simp) h) j
theorem qp{x:Operand}{b o:Nat}(a:ev l x= .pointer (some ⟨b,o,none⟩)):Val P ρ ⟨dst,.nilCheck x,ty,pos,after,g0⟩ l R O (.pointer (some ⟨b,o,none⟩)):=by
 intro A w d;rw [qi (by intro c h;cases h)]
 simp [execOp,a]
end g
/-! ### A slice that keeps its capacity;a new slice that only is read-/
section c
variable {P : Program} {ρ : Option Nat} {n : Nat} {ops : Array Oper} {Q : Po} {rest : List Oper} {l : Nat → Value} {D : List Nat} {R : RH} {O : List Frag} {ty : TypeId} {pos : String} {after : Array Go.Edge} {dst : Option Tmp} {g : Option (Nat × Bool)}
end c
end GV
end Go.Proofs.YtkkcidhcfkmbjaaGreatDoor

namespace Go.Proofs.YtkkcidhcfkmbjaaGreatDoor
namespace GV
def EV(P:Program)(ρ:Option Nat)(o:Oper)(l:Nat→Value)(R:RH)(O:List Frag)(φ:Value→RH→Prop):Prop:= ∃ v,φ v R∧Val P ρ o l R O v
theorem zdp{l:Nat→Value}{a:Operand}{az:List Operand}{v:Value}{vs:List Value}(h:ev l a=v)(k:az.map (ev l)=vs):(a::az).map (ev l)=v::vs:=by rw [List.map_cons,h,k]
section ev
variable {P : Program} {ρ : Option Nat} {l : Nat → Value} {R : RH} {O : List Frag} {dst : Option Tmp} {ty : TypeId} {pos : String} {after : Array Go.Edge} {g : Option (Nat × Bool)}
theorem qy{o:Oper}{v:Value}(h:Val P ρ o l R O v):EV P ρ o l R O (phX v):=⟨v,rfl,h⟩
theorem z5p{o:Oper}{α:Type}{T:Ty α}{x:α}{a:Value}(h:EV P ρ o l R O (phR T x))(b: ∀ R v,VRep T R v x→v=a):Val P ρ o l R O a:=by
 obtain⟨v,c,d⟩:=h
 rwa [b _ _ c] at d
theorem z3q{o:Oper}{k:IntKind}{x:Int}(h:EV P ρ o l R O (phR (jh k) x)):Val P ρ o l R O (.int k x):=z5p h fun _ _ h=>wy.1 h
theorem zol{o:Oper}{x:Bool}(h:EV P ρ o l R O (phR z2m x)):Val P ρ o l R O (.bool x):=z5p h fun _ _ h=>z10.1 h
theorem xk{α:Type}{T:Ty α}{t:TypeId}{x:Operand}{v:Value}{y:α}(a:TyOk P t T)(b:ev l x=v)(c:PRep T R v y):EV P ρ ⟨dst,.load t x,ty,pos,after,g⟩ l R O (phR T y):=
 let⟨u,d,e⟩:=z8e a b c
 ⟨u,d,e _ _ _ _ _⟩
theorem vz{α β:Type}{A:Ty α}{B:Ty β}{s:TypeId}{x:Operand}{f o:Nat}{v:Value}{y:α}{pr:α→β}(a:FieldOk P s f o)(hpart:Part A o B pr)(b:ev l x=v)(c:PRep A R v y):
 EV P ρ ⟨dst,.fieldAddr s x f,ty,pos,after,g⟩ l R O (phP B (pr y)):=
 let⟨u,d,e⟩:=z9f a hpart b c
 ⟨u,d,e _ _ _ _ _⟩
theorem zkt{α:Type}[Inhabited α]{T:Ty α}{t e:TypeId}{x ix:Operand}{v:Value}{X:List α}{k:IntKind}{i:Nat}(a:SlOk P t e T)(b:ev l x=v)(c:VRep (yo T) R v X)(hi:ev l ix= .int k i)(d:i<X.length):
 EV P ρ ⟨dst,.indexAddr t x ix,ty,pos,after,g⟩ l R O (phP T (X.getD i default)):=
 let⟨u,f,h⟩:=z97 a b c hi (getD_some d)
 ⟨u,f,h _ _ _ _ _⟩
theorem zec{α:Type}{T:Ty α}{t e:TypeId}{x ix:Operand}{v:Value}{X:List α}{k:IntKind}{i:Nat}{f:Frag}(a:SlOk P t e T)(c:ev l x=v)(d:ORep T R f v X)(hi:ev l ix= .int k i)(h:i<X.length):
 EV P ρ ⟨dst,.indexAddr t x ix,ty,pos,after,g⟩ l R O (fun u _=>z2l T v X u i):=
 let⟨b,off,j,m⟩:=z9h (O:=O) a c d hi h
 ⟨_,⟨b,off,j,rfl⟩,m _ _ _ _ _⟩
theorem zg3{α:Type}[Inhabited α]{T:Ty α}{t:TypeId}{x:Operand}{f:Frag}{v u:Value}{X:List α}{i j:Nat}(a:TyOk P t T)(c:ORep T R f v X)(d:O[j]? =some f)(e:ev l x=u)(h:z2l T v X u i)(k:i<X.length):
 EV P ρ ⟨dst,.load t x,ty,pos,after,g⟩ l R O (phR T (X.getD i default)):=by
 obtain⟨b,off,m,rfl⟩:=h
 obtain⟨y,hy',n⟩:=zaz (ρ:=ρ) (P:=P) a c m d e (getD_some k)
 exact⟨y,hy',n _ _ _ _ _⟩
theorem zax{α:Type}{T:Ty α}{t e:TypeId}{lo hi mx:Nat}{x:Operand}{xlo xhi xmx:Option Operand}{v:Value}{X X':List α}(h:SlOk P t e T)(i:ev l x=v)(a:VRep (yo T) R v X)
 (b:xlo.map (ev l)=none∧lo=0∨ ∃ k,xlo.map (ev l)=some (.int k lo)) (c:xhi.map (ev l)=none∧hi=X.length∧xmx=none∨ ∃ k,xhi.map (ev l)=some (.int k hi))
 (d:xmx.map (ev l)=none∧mx=capOf v∨ ∃ k,xmx.map (ev l)=some (.int k mx)) (j:lo≤hi) (m:hi≤X.length) (n:X.length≤capOf v→hi≤mx) (o:X.length≤capOf v→mx≤capOf v) (p:(X.drop lo).take (hi-lo)=X'):
 EV P ρ ⟨dst,.slice t x xlo xhi xmx,ty,pos,after,g⟩ l R O (phR (tSl false T) X'):=by
 obtain⟨u,f,r,q⟩:=zck (P:=P) (ρ:=ρ) (O:=O) h i a b c d j m (n (zpm a)) (o (zpm a))
 rw [p] at f
 exact⟨u,z6o f,q _ _ _ _ _⟩
section nest
variable {α : Type} {t : Bool} {T : Ty α} {F : Frag} {v : Value} {Vs : List Value} {X : List (List α)}
end nest
section part
variable {α β : Type} {T : Ty α} {B : Ty β} {X : List α} {v u : Value} {x : Operand} {f : Frag} {i j o fld : Nat} {s t : TypeId} {pr : α → β}
end part
end ev
/-! ### In the text's order-/
section wo
variable {P : Program} {ρ : Option Nat} {n : Nat} {Q : Po} {l : Nat → Value} {D : List Nat} {R : RH} {O : List Frag} {ops : Array Oper} {rest : List Oper} {op : Op} {ty : TypeId} {pos : String} {after : Array Go.Edge} {d : Nat} {φ : Value → RH → Prop}
theorem zdl(a:Nat.blt d n=true)(h:EV P ρ ⟨some d,op,ty,pos,after,none⟩ l R O φ)(b: ∀ v,φ v R→wo P ρ n ops Q rest (upd l d v) D R O):wo P ρ n ops Q (⟨some d,op,ty,pos,after,none⟩::rest) l D R O:=
 let⟨v,c,e⟩:=h
 ji a e (b v c)
theorem zdr{a:Act}{j s:Nat}(d:Fr n l D a)(c:guardSlot ops j=some s)(f:l s=undef):yielded ops a.tmps j=none:=by
 unfold yielded
 unfold guardSlot at c
 rw [c]
 have b:=d.get s
 rw [f,Array.getD_eq_getD_getElem?] at b
 simp only [Option.bind_some]
 cases h:a.tmps[s]? with
 |none=>rfl
 |some v=>
  rw [h] at b
  have e:v=undef:=b
  rw [e];rfl
theorem zq4{j s:Nat}{want:Bool}(c:guardSlot ops j=some s)(e:Nat.blt s n=true)(f:l s=undef)(g:Nat.blt d n=true)(i:wo P ρ n ops Q rest (upd l d undef) D R O):
 wo P ρ n ops Q (⟨some d,op,ty,pos,after,some (j,want)⟩::rest) l D R O:=by
 intro a w b k
 have m:=zdr b c f
 have h:=i _ w (b.put (d:=some d) (fun t o=>by cases o;simpa using g) undef) k
 simp only [wlo]
 rw [if_neg (by simp [Region.wanted,m])]
 exact⟨fun _ _=>trivial,h⟩
theorem ztk{j s:Nat}{want Gj Bj:Bool}(b:guardSlot ops j=some s)(a:Nat.blt s n=true)(c:Nat.blt d n=true)(e:phG Gj (phX (.bool Bj)) (l s) R)
 (hyes:Gj=true→Bj=want→Eff P ρ ⟨some d,op,ty,pos,after,none⟩ l R O fun v R' O'=>O'=O∧φ v R') (f: ∀ v R',RH.le R R'→phG (Gj&&(Bj==want)) φ v R'→wo P ρ n ops Q rest (upd l d v) D R' O):
 wo P ρ n ops Q (⟨some d,op,ty,pos,after,some (j,want)⟩::rest) l D R O:=by
 cases Gj with
 |false=>exact zq4 b a (e.2 rfl) c (f _ _ (RH.le.refl _) ⟨fun h=>by(cases h),fun _=>rfl⟩)
 |true=>
  by_cases i:Bj=want
  ·subst i
   refine zq1 b a (e.1 rfl) (um c (hyes rfl rfl) fun v R' g h=>f v R' g ⟨fun _=>h,fun h=>by simp at h⟩)
  ·have hb':(Bj==want)=false:=by simpa using i
   exact zqn b a (e.1 rfl) hb' c (f _ _ (RH.le.refl _) (by rw [hb'];exact⟨fun h=>by simp at h,fun _=>rfl⟩))
theorem zr3{j s:Nat}{want Gj Bj:Bool}(b:guardSlot ops j=some s)(a:Nat.blt s n=true)(c:Nat.blt d n=true)(e:phG Gj (phX (.bool Bj)) (l s) R)
 (hyes:Gj=true→Bj=want→EV P ρ ⟨some d,op,ty,pos,after,none⟩ l R O φ) (f: ∀ v,phG (Gj&&(Bj==want)) φ v R→wo P ρ n ops Q rest (upd l d v) D R O):
 wo P ρ n ops Q (⟨some d,op,ty,pos,after,some (j,want)⟩::rest) l D R O:=by
 cases Gj with
 |false=>exact zq4 b a (e.2 rfl) c (f _ ⟨fun h=>by(cases h),fun _=>rfl⟩)
 |true=>
  by_cases g:Bj=want
  ·subst g
   obtain⟨v,i,k⟩:=hyes rfl rfl
   exact zq1 b a (e.1 rfl) (ji c k (f v ⟨fun _=>i,fun h=>by simp at h⟩))
  ·have hb':(Bj==want)=false:=by simpa using g
   exact zqn b a (e.1 rfl) hb' c (f _ (by rw [hb'];exact⟨fun h=>by simp at h,fun _=>rfl⟩))
theorem ja{j s:Nat}{want Bj:Bool}(b:guardSlot ops j=some s)(a:Nat.blt s n=true)(c:Nat.blt d n=true)(e:l s= .bool Bj)
 (hyes:Bj=want→EV P ρ ⟨some d,op,ty,pos,after,none⟩ l R O φ) (f: ∀ v,phG (true&&(Bj==want)) φ v R→wo P ρ n ops Q rest (upd l d v) D R O):
 wo P ρ n ops Q (⟨some d,op,ty,pos,after,some (j,want)⟩::rest) l D R O:=zr3 b a c (xz e) (fun _=>hyes) f
theorem z94{j s:Nat}{want Bj:Bool}(b:guardSlot ops j=some s)(a:Nat.blt s n=true)(c:Nat.blt d n=true)(e:l s= .bool Bj)
 (hyes:Bj=want→Eff P ρ ⟨some d,op,ty,pos,after,none⟩ l R O fun v R' O'=>O'=O∧φ v R') (f: ∀ v R',RH.le R R'→phG (true&&(Bj==want)) φ v R'→wo P ρ n ops Q rest (upd l d v) D R' O):
 wo P ρ n ops Q (⟨some d,op,ty,pos,after,some (j,want)⟩::rest) l D R O:=ztk b a c (xz e) (fun _=>hyes) f
end wo
end GV
end Go.Proofs.YtkkcidhcfkmbjaaGreatDoor

namespace Go.Proofs.YtkkcidhcfkmbjaaGreatDoor
namespace GV
def opds:Op→Option (List Operand)
 | .move x| .assign x| .load _ x| .nilCheck x| .unOp _ _ x| .convert _ _ x| .fieldAddr _ x _| .field _ x _| .extract x _=>some [x]
 | .pick c a b=>some [c,a,b]
 | .binOp _ _ x y _| .indexAddr _ x y| .index _ x y| .lookup _ x y _=>some [x,y]
 | .build _ ps=>some (ps.toList.map (·.2))
 | .makeFunc _ fs cs=>some (fs.toList++cs.toList)
 | .slice _ x lo hi mx=>some (x::(lo.toList++(hi.toList++mx.toList)))
 | .call c=>match c.callee with
  | .builtin _=>some c.args.toList
  |_=>none
 |_=>none
theorem zaj{ρ1 ρ2:Operand→Value}{x:Option Operand}(h: ∀ y∈x.toList,ρ1 y=ρ2 y):x.map ρ1=x.map ρ2:=by
 cases x with
 |none=>rfl
 |some y=>simp [h y (by simp)]
theorem zan{ρ1 ρ2:Operand→Value}{xs:Array Operand}(h: ∀ y∈xs.toList,ρ1 y=ρ2 y):xs.map ρ1=xs.map ρ2:=by
 apply Array.ext'
 rw [Array.toList_map,Array.toList_map]
 exact List.map_congr_left h
theorem zl3{ρ1 ρ2:Operand→Value}{xs:Array (Nat×Operand)}(h: ∀ y∈xs.toList.map (·.2),ρ1 y=ρ2 y):(xs.map fun(i,x)=>(i,ρ1 x))=xs.map fun(i,x)=>(i,ρ2 x):=by
 apply Array.ext'
 rw [Array.toList_map,Array.toList_map]
 refine List.map_congr_left fun p a=>?_
 obtain⟨i,x⟩:=p
 have:=h x (List.mem_map.2 ⟨(i,x),a,rfl⟩)
 simp only [this]
theorem zic{o:Oper}{xs:List Operand}{ρ1 ρ2:Operand→Value}(h:opds o.op=some xs)(a: ∀ x∈xs,ρ1 x=ρ2 x):execOp ρ1 o=execOp ρ2 o:=by
 obtain⟨dst,op,ty,pos,after,g⟩:=o
 dsimp only at h
 cases op<;>simp only [opds,Option.some.injEq,reduceCtorEq] at h
 case call c=>
  obtain⟨cal,args,at'⟩:=c
  cases cal<;>simp only [Option.some.injEq,reduceCtorEq] at h
  subst h
  simp only [execOp,resolve,zan a]
 case build t ps=>subst h;simp only [execOp,zl3 a]
 case makeFunc f fs cs=>
  subst h
  simp only [execOp,zan (xs:=fs) (fun y b=>a y (List.mem_append_left _ b)),zan (xs:=cs) (fun y b=>a y (List.mem_append_right _ b))]
 case slice t x lo hi mx=>
  subst h
  simp only [execOp,a x (List.mem_cons_self ..),zaj (x:=lo) (fun y b=>a y (by simp [b])),zaj (x:=hi) (fun y b=>a y (by simp [b])),zaj (x:=mx) (fun y b=>a y (by simp [b]))]
 all_goals subst h;simp only [List.mem_cons,List.not_mem_nil,or_false,forall_eq_or_imp,forall_eq] at a;simp only [execOp,a]
theorem zfm{op:Op}{xs:List Operand}(h:opds op=some xs): ∀ c,op≠ .defer c:=by
 intro c e;subst e;simp [opds] at h
theorem zin{R R':RH}{O:List Frag}{w:World}(h:Holds R' O w)(a:R.le R'):Holds R O w:=by
 refine⟨fun k o b=>h.ro k o (a.blk k o b),fun f c k o b=>⟨(h.own f c k o b).1,?_⟩,h.sep,by rw [←a.os];exact h.os,by rw [←a.out];exact h.out⟩
 cases e:R.blk k with
 |none=>rfl
 |some o'=>
  have:=a.blk k o' e
  rw [(h.own f c k o b).2] at this;cases this
theorem zl1{P:Program}{ρ:Option Nat}{o:Oper}{l l':Nat→Value}{R R':RH}{O:List Frag}{v:Value}{xs:List Operand}(h:Val P ρ o l R O v)(c:opds o.op=some xs)(e: ∀ s,.tmp s∈xs→l' s=l s)(a:R.le R'):Val P ρ o l' R' O v:=by
 intro A w f
 have d:=h A w (zin f a)
 have g:=zfm c
 rw [qi g] at d⊢
 rw [zic c (ρ2:=ev l) fun x b=>?_]
 ·exact d
 ·cases x with
  |tmp s=>exact e s b
  |_=>rfl
def wv(P:Program)(ρ:Option Nat)(R:RH)(O:List Frag):List Oper→(Nat→Value)→((Nat→Value)→Prop)→Prop
 | [],l,K=>K l
 |o::r,l,K=> ∃ d v,o.dst=some d∧Val P ρ o l R O v∧wv P ρ R O r (upd l d v) K
section wv
variable {P : Program} {ρ : Option Nat} {n : Nat} {Q : Po} {l : Nat → Value} {D : List Nat} {R : RH} {O : List Frag} {rest : List Oper} {op : Op} {ty : TypeId} {pos : String} {after : Array Go.Edge} {d : Nat} {φ : Value → RH → Prop} {K : (Nat → Value) → Prop} {g : Option (Nat × Bool)}
theorem bq{v:Value}(h:Val P ρ ⟨some d,op,ty,pos,after,g⟩ l R O v)(a:wv P ρ R O rest (upd l d v) K):wv P ρ R O (⟨some d,op,ty,pos,after,g⟩::rest) l K:=⟨d,v,rfl,h,a⟩
theorem zkw(h:EV P ρ ⟨some d,op,ty,pos,after,g⟩ l R O φ)(a: ∀ v,φ v R→wv P ρ R O rest (upd l d v) K):wv P ρ R O (⟨some d,op,ty,pos,after,g⟩::rest) l K:=
 let⟨v,b,c⟩:=h
 ⟨d,v,rfl,c,a v b⟩
def znu(gs:List Oper)(s:Nat):Option Nat:=gs.findIdx? fun o=>o.dst==some s
def clV(gs:List Oper):Bool:=gs.zipIdx.all fun(o,i)=>o.guard.isNone&&(match opds o.op with
 |none=>false
 |some xs=>xs.all fun x=>match x with
  | .tmp s=>(match znu gs s with|none=>true|some j=>Nat.blt j i&&o.after.toList.any fun e=>Nat.beq e.on j&&Region.binds .any e)
  |_=>true)
def zda(l:Nat→Value):List (Nat×Value)→Nat→Value
 | []=>l
 |(d,v)::r=>zda (upd l d v) r
theorem zfn{s d:Nat}{v:Value}(h:s≠d):upd l d v s=l s:=by
 unfold upd
 have:Nat.beq s d=false:=by
  cases hb:Nat.beq s d
  ·rfl
  ·exact absurd (Nat.eq_of_beq_eq_true hb) h
 rw [this];rfl
theorem zjs{d:Nat}{v:Value}:upd l d v d=v:=by unfold upd;simp
theorem zaf{s:Nat}: ∀ {acc:List (Nat×Value)} {l:Nat→Value},s∉acc.map (·.1)→zda l acc s=l s
 | [],_,_=>rfl
 |(d,v)::r,l,h=>by
  simp only [List.map_cons,List.mem_cons,not_or] at h
  rw [zda,zaf h.2,zfn h.1]
theorem zfx{s:Nat}{v:Value}: ∀ {acc:List (Nat×Value)} {l:Nat→Value} {j:Nat},acc[j]? =some (s,v)→(acc.map (·.1)).Nodup→zda l acc s=v
 | [],_,_,h,_=>by simp at h
 |(d,u)::r,l,0,h,a=>by
  simp only [List.getElem?_cons_zero,Option.some.injEq,Prod.mk.injEq] at h
  obtain⟨rfl,rfl⟩:=h
  simp only [List.map_cons,List.nodup_cons] at a
  rw [zda,zaf a.1,zjs]
 |(d,u)::r,l,j+1,h,a=>by
  simp only [List.map_cons,List.nodup_cons] at a
  rw [zda]
  exact zfx (j:=j) (by simpa using h) a.2
theorem zhj{s:Nat}: ∀ {acc:List (Nat×Value)},s∉acc.map (·.1)→z0z l acc s=l s
 | [],_=>rfl
 |(d,v)::r,h=>by
  simp only [List.map_cons,List.mem_cons,not_or] at h
  rw [z0z,zfn h.1,zhj h.2]
theorem zjj{s:Nat}{v:Value}: ∀ {acc:List (Nat×Value)} {j:Nat},acc[j]? =some (s,v)→(acc.map (·.1)).Nodup→z0z l acc s=v
 | [],_,h,_=>by simp at h
 |(d,u)::r,0,h,a=>by
  simp only [List.getElem?_cons_zero,Option.some.injEq,Prod.mk.injEq] at h
  obtain⟨rfl,rfl⟩:=h
  rw [z0z,zjs]
 |(d,u)::r,j+1,h,a=>by
  simp only [List.map_cons,List.nodup_cons] at a
  have h':r[j]? =some (s,v):=by simpa using h
  have b:s∈r.map (·.1):=List.mem_map.2 ⟨_,List.mem_of_getElem? h',rfl⟩
  rw [z0z,zfn (fun e=>a.1 (by rw [←e];exact b))]
  exact zjj h' a.2
theorem zn2{acc:List (Nat×Value)}(a:(acc.map (·.1)).Nodup):zda l acc=z0z l acc:=by
 funext s
 by_cases h:s∈acc.map (·.1)
 ·obtain⟨⟨d,v⟩,b,rfl⟩:=List.mem_map.1 h
  obtain⟨j,c,e⟩:=List.mem_iff_getElem.1 b
  have h':acc[j]? =some (d,v):=by rw [List.getElem?_eq_getElem c,e]
  rw [zfx h' a,zjj h' a]
 ·rw [zaf h,zhj h]
def zcw(gs:List Oper)(vs:List Value):List (Nat×Value):=(gs.zip vs).map fun p=>(p.1.dst.getD 0,p.2)
theorem zjq: ∀ {os:List Oper} {l:Nat→Value},wv P ρ R O os l K→ ∃ vs:List Value,vs.length=os.length∧(∀ o∈os,o.dst.isSome=true)∧
 (∀ (i:Nat) o v,os[i]? =some o→vs[i]? =some v→Val P ρ o (zda l ((zcw os vs).take i)) R O v)∧K (zda l (zcw os vs))
 | [],l,h=>⟨[],rfl,fun o c=>by simp at c,fun i o v h=>by simp at h,h⟩
 |o::r,l,⟨d,v,a,e,f⟩=>by
  obtain⟨vs,g,j,k,m⟩:=zjq f
  refine⟨v::vs,by simp [g],fun o' ho'=>?_,fun i o' u hi b=>?_,?_⟩
  ·rcases List.mem_cons.1 ho' with rfl|ho'
   ·rw [a];rfl
   ·exact j o' ho'
  ·cases i with
   |zero=>
    simp only [List.getElem?_cons_zero,Option.some.injEq] at hi b
    subst hi;subst b
    exact e
   |succ i=>
    have:=k i o' u (by simpa using hi) (by simpa using b)
    simpa [zcw,zda,a] using this
  ·simpa [zcw,zda,a] using m
theorem zh2{gs:List Oper}{φs:List (Value→RH→Prop)}{l:Nat→Value}{R:RH}: ∀ {es:List Go.Edge},zl6 gs φs l R es→ ∀ e∈es,Region.binds .any e=true→ ∀ d,uu gs e.on=some d→phi φs e.on (l d) R
 | [],_,e,a,_,_,_=>by simp at a
 |e'::es,h,e,a,b,d,c=>by
  rcases List.mem_cons.1 a with rfl|a
  ·have:=h.1
   rw [c] at this
   exact this b
  ·exact zh2 h.2 e a b d c
theorem zk1{gs:List Oper}{al:List NewBox}{φs:List (Value→RH→Prop)}{l0:Nat→Value}{R0:RH}: ∀ {os:List Oper} {k:Nat},
 (∀ (i:Nat) (o:Oper),os[i]? =some o→ ∀ l R,RH.le R0 R→Agree gs l0 l→zl6 gs φs l R o.after.toList→GStep P ρ gs al φs O (k+i) o l R)→zj4 P ρ gs al φs l0 R0 O k os
 | [],_,_=>trivial
 |o::os,k,h=>⟨h 0 o rfl,zk1 fun i o' hi=>by have:=h (i+1) o' (by simpa using hi);rwa [show k+(i+1)=k+1+i from by omega] at this⟩
theorem zjr{φs:List (Value→RH→Prop)}{R:RH}: ∀ {os:List Oper} {vs:List Value} {k:Nat} {K:List (Nat×Value)→Prop},vs.length=os.length→(∀ (i:Nat) v,vs[i]? =some v→phi φs (k+i)=phX v)→K (zcw os vs)→zik φs R K k os
 | [],vs,k,K,a,_,h=>by
  have:vs=[]:=List.length_eq_zero_iff.1 a
  subst this;exact h
 |o::os,[],k,K,a,_,_=>by simp at a
 |o::os,v::vs,k,K,a,b,h=>fun u c=>by
  rw [show k=k+0 from rfl,b 0 v rfl] at c
  obtain rfl:u=v:=c
  exact zjr (vs:=vs) (by simpa using a) (fun i w hi=>by have:=b (i+1) w (by simpa using hi);rwa [show k+(i+1)=k+1+i from by omega] at this) h
theorem z4w{id:Nat}{os:List Oper}(m:Nat)(V:P.follows .mixedOrders=true)(c:z7q (os.take m) [] n (os.drop m)=true)(r:clV (os.take m)=true)
 (h:wv P ρ R O (os.take m) l fun l'=> ∀ R',RH.le R R'→wo P ρ n os.toArray Q (os.drop m) l' D R' O):wg P ρ n (.region id os.toArray true) Q l D R O:=by
 obtain⟨vs,C,M,N,S⟩:=zjq h
 have f:=(z4z c).2.1
 generalize hg:os.take m=gs at C M N S f r c
 have hacc:(zcw gs vs).map (·.1)=z7d gs:=by
  unfold zcw z7d
  rw [List.map_map]
  have: ∀ (gs:List Oper) (vs:List Value),vs.length=gs.length→(∀ o∈gs,o.dst.isSome=true)→(gs.zip vs).map ((fun x:Nat×Value=>x.1)∘fun p=>(p.1.dst.getD 0,p.2))=gs.filterMap (·.dst):=by
   intro gs
   induction gs with
   |nil=>intro vs _ _;simp
   |cons o gs ih=>
    intro vs T A
    cases vs with
    |nil=>simp at T
    |cons v vs=>
     obtain⟨d,E⟩:=Option.isSome_iff_exists.1 (A o (List.mem_cons_self ..))
     simp only [List.zip_cons_cons,List.map_cons,List.filterMap_cons,E,Function.comp_apply,Option.getD_some]
     rw [ih vs (by simpa using T) (fun o' ho'=>A o' (List.mem_cons_of_mem _ ho'))]
  exact this gs vs C M
 have hphi: ∀ (i:Nat) v,vs[i]? =some v→phi (vs.map phX) i=phX v:=fun i v hi=>by
  unfold phi
  rw [List.getD_eq_getElem?_getD,List.getElem?_map,hi];rfl
 have hmono:zak (vs.map phX):=fun k v R R' a q=>by
  unfold phi at q⊢
  rw [List.getD_eq_getElem?_getD,List.getElem?_map] at q⊢
  cases e:vs[k]? with
  |none=>trivial
  |some u=>rw [e] at q;exact q
 have haget: ∀ (i:Nat) o v,gs[i]? =some o→vs[i]? =some v→ ∀ d,o.dst=some d→(zcw gs vs)[i]? =some (d,v):=fun i o v hi B d E=>by
  unfold zcw
  rw [List.getElem?_map,List.getElem?_zip_eq_some (z:=(o,v))|>.2 ⟨hi,B⟩]
  simp [E]
 refine z0f (m:=m) [] (vs.map phX) V (by rw [hg];exact c) hmono (by
  rw [hg]
  refine zk1 fun i o hi l' R' a F hdep=>?_
  rw [Nat.zero_add]
  have W:i<gs.length:=(List.getElem?_eq_some_iff.1 hi).1
  obtain⟨v,B⟩: ∃ v,vs[i]? =some v:=⟨vs[i]'(by omega),List.getElem?_eq_getElem (by omega)⟩
  have g:=List.all_eq_true.1 r (o,i) (List.mem_iff_getElem?.2 ⟨i,by rw [List.getElem?_zipIdx,hi];simp⟩)
  simp only [Bool.and_eq_true] at g
  obtain⟨G,g⟩:=g
  refine zh (Option.isNone_iff_eq_none.1 G) rfl (hphi i v B) (zk ?_)
  cases hx:opds o.op with
  |none=>rw [hx] at g;exact absurd g Bool.false_ne_true
  |some xs=>
   rw [hx] at g
   refine zl1 (N i o v hi B) hx (fun s A=>?_) a
   have b:=List.all_eq_true.1 g (.tmp s) A
   dsimp only at b
   have t:((zcw gs vs).take i).map (·.1)=(z7d gs).take i:=by rw [List.map_take,hacc]
   cases hsl:znu gs s with
   |none=>
    have w:s∉z7d gs:=fun hm'=>by
     obtain⟨o',ho',e⟩:=List.mem_filterMap.1 hm'
     have:=List.findIdx?_eq_none_iff.1 hsl o' ho'
     rw [e] at this;simp at this
    rw [F s (by simpa using w),zaf (by rw [t];exact fun h=>w (List.mem_of_mem_take h))]
   |some j=>
    rw [hsl] at b
    simp only [Bool.and_eq_true,List.any_eq_true] at b
    obtain⟨H,e,X,I,J⟩:=b
    have hji':j<i:=by simpa using H
    have hej':e.on=j:=Nat.eq_of_beq_eq_true I
    obtain⟨o',ho',hd'⟩: ∃ o',gs[j]? =some o'∧o'.dst=some s:=by
     have:=List.findIdx?_eq_some_iff_getElem.1 hsl
     obtain⟨Y,q,_⟩:=this
     exact⟨gs[j],List.getElem?_eq_getElem Y,by simpa using q⟩
    have Z:j<gs.length:=(List.getElem?_eq_some_iff.1 ho').1
    obtain⟨u,U⟩: ∃ u,vs[j]? =some u:=⟨vs[j]'(by omega),List.getElem?_eq_getElem (by omega)⟩
    have K:uu gs e.on=some s:=by unfold uu;rw [hej',ho'];exact hd'
    have y:=zh2 hdep e X J s K
    rw [hej',hphi j u U] at y
    have L:((zcw gs vs).take i)[j]? =some (s,u):=by rw [List.getElem?_take,if_pos hji'];exact haget j o' u ho' U s hd'
    rw [zfx L (by rw [t];exact List.Nodup.sublist (List.take_sublist _ _) f)]
    exact y) fun R' a=>?_
 rw [hg]
 refine zjr C (fun i v hi=>by rw [Nat.zero_add];exact hphi i v hi) ?_
 rw [←zn2 (by rw [hacc];exact f)]
 exact S R' a
end wv
/-! ### Shorter laws-/
section short
variable {P : Program} {ρ : Option Nat} {n : Nat} {Q : Po} {l : Nat → Value} {D : List Nat} {R : RH} {O : List Frag} {γ : Type} {ops : Array Oper} {rest : List Oper} {d : Nat} {ty : TypeId} {pos : String} {after : Array Go.Edge}
theorem zq{c:Operand}{x y:Code}{α:Type}{b:Bool}{p q:Option α}{r:α}(d:ev l c= .bool b)(a:(bif b then p else q)=some r)(f:p=some r→wg P ρ n x Q l D R O)(g:q=some r→wg P ρ n y Q l D R O):wg P ρ n (.cond c x y) Q l D R O:=
 z6u d (fun e=>f (zrx e a)) (fun e=>g (zsy e a))
theorem jv{x y:Code}(W:List Nat)(S:γ→List (Nat×Value))(F:γ→List Frag)(K:γ→RH→Prop)(b:wg P ρ n x (thn (zt0 true D W l R S F K) Q) l D R O)
 (c: ∀ g j R',RH.le R R'→K g R'→wg P ρ n y Q (z0z (mask W j l) (S g)) D R' (F g)):wg P ρ n (.seq x y) Q l D R O:=
 zp9 true W S F K b fun g j D' R' d a e=>by obtain rfl:=d rfl;exact c g j R' a e
theorem uh{c:Code}(W:List Nat)(S:γ→List (Nat×Value))(F:γ→List Frag)(K:γ→RH→Prop)(μ:γ→Nat)(a:γ)
 (d: ∃ J,O.Perm (J++F a)) (e:K a R)
 (round: ∀ g j R',RH.le R R'→K g R'→wg P ρ n c (thn (zqi true D W (z0z (mask W j l) (S g)) R' S F K μ (μ g)) Q) (z0z (mask W j l) (S g)) D R' (F g))
 (f:zh7 l (S a):=by repeat (first|exact trivial|refine⟨rfl,?_⟩)) (h: ∀ g,((S g).all fun p=>W.elem p.1)=true:=by exact fun _=>rfl):wg P ρ n (.loop c) Q l D R O:=
 zlv true W S F K μ a f d e h fun g j D' R' i b k=>by obtain rfl:=i rfl;exact round g j R' b k
theorem zn{op:Op}{v:Value}(h:Val P ρ ⟨some d,op,ty,pos,after,none⟩ l R O v)(a:wo P ρ n ops Q rest (upd l d v) D R O)(b:Nat.blt d n=true:=by exact rfl):wo P ρ n ops Q (⟨some d,op,ty,pos,after,none⟩::rest) l D R O:=ji b h a
theorem za{x:Operand}(v:Value)(a:wo P ρ n ops Q rest (upd l d v) D R O)(b:ev l x=v:=by exact rfl)(c:Nat.blt d n=true:=by exact rfl):wo P ρ n ops Q (⟨some d,.move x,ty,pos,after,none⟩::rest) l D R O:=ji c (zi b) a
theorem ze{x:Operand}(v:Value)(a:wo P ρ n ops Q rest (upd l d v) D R O)(b:ev l x=v:=by exact rfl)(c:Nat.blt d n=true:=by exact rfl):wo P ρ n ops Q (⟨some d,.assign x,ty,pos,after,none⟩::rest) l D R O:=ji c (yx b) a
theorem zg{id:Nat}{os:List Oper}{y:Code}(h:wo P ρ n os.toArray (thn (wg P ρ n y Q) Q) os l D R O):wg P ρ n (.seq (.region id os.toArray false) y) Q l D R O:=zy (qd h)
theorem qh{id:Nat}{os:List Oper}{y:Code}{Q':Po}(h:wo P ρ n os.toArray (thn (wg P ρ n y Q) Q) os l D R O):wo P ρ n ops (thn (wg P ρ n (.seq (.region id os.toArray false) y) Q) Q') [] l D R O:=z8 (zg h)
def rs:List Nat→List Nat|a::b::r=>List.range' a (b-a)++rs r|_=>[]
abbrev vi (x:Int):Value:= .int .i64 x
abbrev vs0:Value:= .slice none 0 0
theorem dkt{c:Prop}{α:Type}{x:α}:c→x=x:=fun _=>rfl
theorem znk{a b:Prop}[Decidable a][Decidable b]{α:Type}{k:Option α}{r:α}(h:gd a (gd b k)=some r):a∧b∧k=some r:=⟨(zf h).1,zf (zf h).2⟩
theorem zma{a b c:Prop}[Decidable a][Decidable b][Decidable c]{α:Type}{k:Option α}{r:α}(h:gd a (gd b (gd c k))=some r):a∧b∧c∧k=some r:=⟨(zf h).1,znk (zf h).2⟩
theorem znz{a b c d:Prop}[Decidable a][Decidable b][Decidable c][Decidable d]{α:Type}{k:Option α}{r:α}(h:gd a (gd b (gd c (gd d k)))=some r):a∧b∧c∧d∧k=some r:=⟨(zf h).1,zma (zf h).2⟩
theorem zof{a b c d e:Prop}[Decidable a][Decidable b][Decidable c][Decidable d][Decidable e]{α:Type}{k:Option α}{r:α}(h:gd a (gd b (gd c (gd d (gd e k))))=some r):a∧b∧c∧d∧e∧k=some r:=⟨(zf h).1,znz (zf h).2⟩
theorem ztm{a b c d e f:Prop}[Decidable a][Decidable b][Decidable c][Decidable d][Decidable e][Decidable f]{α:Type}{k:Option α}{r:α}(h:gd a (gd b (gd c (gd d (gd e (gd f k)))))=some r):a∧b∧c∧d∧e∧f∧k=some r:=⟨(zf h).1,zof (zf h).2⟩
theorem prm{O:List Frag}: ∃ J,O.Perm (J++O):=⟨[],List.Perm.refl _⟩
end short
end GV
end Go.Proofs.YtkkcidhcfkmbjaaGreatDoor

namespace Go.Proofs.YtkkcidhcfkmbjaaGreatDoor
namespace GV
abbrev okA {α:Type} (X:List α) (lo:Int) (m:Nat) (y:Int):Prop:=0≤lo∧0≤y∧y<m∧lo+y<X.length
section a
variable {P : Program} {ρ : Option Nat} {l : Nat → Value} {R : RH} {O : List Frag} {ty : TypeId} {pos : String} {after : Array Go.Edge} {dst : Option Tmp} {g : Option (Nat × Bool)}
variable {α : Type} {T : Ty α} {X : List α} {v : Value} {x y : Operand} {f : Frag} {t e : TypeId}
theorem zj1{lo:Int}{m:Nat}{q:Int}(h:okA X lo m q):(lo+q).toNat<X.length:=by obtain⟨a,b,c,d⟩:=h;omega
theorem zmd{lo:Int}{m:Nat}{q:Int}(h:okA X lo m q):q.toNat<m:=by obtain⟨a,b,c,d⟩:=h;omega
theorem znq{lo:Int}{m:Nat}{q:Int}(h:okA X lo m q):(lo+q).toNat=lo.toNat+q.toNat:=by obtain⟨a,b,c,d⟩:=h;omega
theorem zm0{lo:Int}{m:Nat}{q:Int}(h:okA X lo m q):okI X (lo+q):=by obtain⟨b,c,d,a⟩:=h;exact⟨by omega,a⟩
theorem zlw{lo hi:Nat}(h:ORep T R f v X)(a:lo<X.length): ∃ b off,v= .slice (some ⟨b,off,none⟩) X.length (capOf v)∧z3r T.size v lo hi= .slice (some ⟨b,off+lo*T.size,none⟩) (hi-lo) (capOf v-lo):=by
 rcases h with⟨rfl,rfl,_⟩|⟨b,pre,cs,cap,bt,rfl,rfl,g,c,d,e⟩
 ·simp at a
 refine⟨b,pre.length,rfl,?_⟩
 simp only [z3r,capOf]
 rw [if_neg (by omega)]
 simp only [Option.map_some,addr_add]
theorem z9d{k:IntKind}{lo hi i n:Nat}(d:SlOk P t e T)(j:ev l x=z3r T.size v lo hi)(m:ORep T R f v X)(hi':ev l y= .int k i)(o:i<hi-lo)(p:n=lo+i)(s:n<X.length):
 Eff P ρ ⟨dst,.indexAddr t x y,ty,pos,after,g⟩ l R O (fun v' R' O'=>O'=O∧(fun u _=>z2l T v X u n) v' R'):=by
 subst p
 obtain⟨b,off,q,r⟩:=zlw (lo:=lo) (hi:=hi) m (by omega)
 have hval:Val P ρ ⟨dst,.indexAddr t x y,ty,pos,after,g⟩ l R O (.pointer (some ⟨b,off+lo*T.size+i*T.size,none⟩)):=by
  intro A w z
  rw [qi (by intro c h;cases h)]
  have:=z4o (P:=P) (b:=b) (off:=off+lo*T.size) (c:=capOf v-lo) (k:=k) (w:=w) d.u d.e.size o
  simp [execOp,j,hi',r,this]
 exact hval.eff.mono fun v' R' O' _ ⟨a,_,c⟩=>by subst a;exact⟨c,b,off,q,by rw [Nat.add_mul,Nat.add_assoc]⟩
theorem zkl{at':Array TypeId}{s lo hi:Nat}(a:at'[0]? =some t)(b:P.underlying t=some (.slice e))(c:ev l x=z3r s v lo hi)(d:ORep T R f v X):Val P ρ ⟨dst,.call ⟨.builtin .len,#[x],at'⟩,ty,pos,after,g⟩ l R O (.int .i64 ((hi-lo:Nat):Int)):=by
 obtain⟨p,h,_⟩:=z0t d
 exact zfw a b (c.trans (by rw [h];rfl))
theorem zew{w w':World}{r u:Value}(a:ev l x=u)(h:(Builtin.clear_ #[t] ty #[u]).run P w= .ok r w'):
 ((⟨dst,.call ⟨.builtin .clear,#[x],#[t]⟩,ty,pos,after,g⟩:Oper).semAt ρ (ev l)).run P w= .ok (.value r) w':=by
 rw [qi (by intro c h;cases h)]
 simp [execOp,resolve,invoke,builtin,a,h]
theorem zis{lo hi bytes:Nat}{z:α}(d:T.size=1)(G:P.underlying t=some (.slice e))(K:ZeroOk P e T z bytes)(h:ORep T R f v X)(a1:lo≤hi)(a2:hi≤X.length)(s:ev l x=z3r 1 v lo hi):
 Eff P ρ ⟨dst,.call ⟨.builtin .clear,#[x],#[t]⟩,ty,pos,after,g⟩ l R ([f]++O) (fun v' R' O'=> ∃ Oc,O'=Oc++O∧R'=R∧ ∃ f',Oc=[f']∧v'= .tuple #[]∧ORep T R f' v (z1i X lo (List.replicate (hi-lo) z))):=by
 intro A w u
 obtain⟨p,L,hcap⟩:=z0t h
 by_cases hm:hi-lo=0
 ·have hrun:(Builtin.clear_ #[t] ty #[z3r 1 v lo hi]).run P w= .ok (.tuple #[]) w:=by
   rw [L]
   simp only [z3r,hm]
   generalize (if capOf v=lo then p else p.map fun a=>a.add (lo*1))=q
   cases q<;>simp [Builtin.clear_,run_underlying G]
  rw [zew s hrun]
  refine⟨R,_,RH.le.refl _,u,_,rfl,rfl,f,rfl,rfl,?_⟩
  rw [hm]
  simpa [z1i] using h
 ·rcases h with⟨rfl,rfl,_⟩|⟨b,pre,cs,cap,bt,rfl,rfl,M,k,B,C⟩
  ·simp at a2;omega
  rw [d,Nat.mul_one] at k
  have hblk:w.heap[b]? =some (.cells (pre++cs).toArray bt (0,0)):=oq u (i:=0) rfl (single_same _ _)
  obtain⟨iv,zv,H,I,h3,_,D⟩:=K.info
  have E:zv.cells.toList.length=1:=by rw [T.len (D R)];exact d
  obtain⟨c,j⟩: ∃ c,zv.cells.toList=[c]:=List.length_eq_one_iff.1 E
  have hc0':zv.cells= #[c]:=by rw [←Array.toList_inj];simpa using j
  have n:c.oneCell'=true:=T.cell (D R) c (by rw [j];simp)
  have N:z3r 1 (.slice (some ⟨b,pre.length,none⟩) X.length cap) lo hi= .slice (some ⟨b,pre.length+lo,none⟩) (hi-lo) (cap-lo):=by
   simp only [z3r];rw [if_neg (by omega)];simp [addr_add,Nat.mul_one]
  have o:(Builtin.zeroCells zv.cells (hi-lo)).toList=List.replicate (hi-lo) c:=by
   rw [hc0']
   simp only [Builtin.zeroCells,List.size_toArray,List.length_singleton,Nat.mul_one]
   apply List.ext_getElem
   ·simp
   ·intro i H I
    simp [Nat.mod_one]
  obtain⟨w',J,Q,S,U,V⟩:=run_storeCells (P:=P) (List.replicate (hi-lo) c) (pre++cs) (pre.length+lo) 0 w hblk (by simp only [List.length_replicate,List.length_append];omega) (fun q F=>by rw [List.eq_of_mem_replicate F];exact n)
  have hrun:(Builtin.clear_ #[t] ty #[.slice (some ⟨b,pre.length+lo,none⟩) (hi-lo) (cap-lo)]).run P w= .ok (.tuple #[]) w':=by
   obtain⟨m,hm'⟩: ∃ m,hi-lo=m+1:=⟨hi-lo-1,by omega⟩
   rw [hm'] at o J⊢
   simp [Builtin.clear_,run_underlying G,zeroValue,typeInfo,H,I,o,J]
  rw [zew (s.trans N) hrun]
  refine⟨R,[box b (pre++over cs lo (List.replicate (hi-lo) c)) bt]++O,RH.le.refl _,?_,_,rfl,rfl,_,rfl,rfl,?_⟩
  ·have W:(pre++over cs lo (List.replicate (hi-lo) c))=over (pre++cs) (pre.length+lo) (List.replicate (hi-lo) c):=over_pre.symm
   rw [W]
   have:=z2t (i:=0) u rfl Q S U V trivial
   exact this
  ·refine zkx d M k B (fun i hi x s=>?_) (by simp only [List.length_replicate];omega) (by simp) (fun i hi y Y=>?_) (fun q F=>by rw [List.eq_of_mem_replicate F];exact n)
   ·have:=C i x s
    rwa [d,Nat.mul_one,take1 hi] at this
   ·have hy':=List.getElem?_eq_some_iff.1 Y
    obtain⟨Z,r⟩:=hy'
    rw [List.getElem_replicate] at r⊢
    subst r
    have:=D R
    rwa [j] at this
end a
end GV
end Go.Proofs.YtkkcidhcfkmbjaaGreatDoor

namespace Go.Proofs.YtkkcidhcfkmbjaaGreatDoor
namespace GV
abbrev okSh (k:IntKind) (y:Int):Prop:=0≤y∧y≤(k.bits:Int)
def zdj(x y:Int):Int:=x.fdiv (2^y.toNat)
theorem zov(k:IntKind){r:Int}(a:0≤r)(h:r≤k.max):k.wrap r=r:=by
 cases k<;>simp [IntKind.wrap,IntKind.max,IntKind.signed,IntKind.bits] at* <;>omega
section a
variable {P : Program} {ρ : Option Nat} {l : Nat → Value} {R : RH} {O : List Frag} {ty : TypeId} {pos : String} {after : Array Go.Edge} {dst : Option Tmp} {g : Option (Nat × Bool)}
theorem zkf{w:World}{op:BinOp}{t t':TypeId}{x y:Operand}{k yk:IntKind}{m n:Int}{v:Value}(d:ev l x= .int k m)(e:ev l y= .int yk n)(f:op= .shl∨op= .shr)
 (a:(Op.shift op k m yk n).run P w= .ok v w):(execOp (ev l) (⟨dst,.binOp op t x y t',ty,pos,after,g⟩:Oper)).run P w= .ok (.value v) w:=by
 rcases f with rfl|rfl
 ·have b:(eqGuard .shl t x y (.int k m) (.int yk n)).run P w= .ok () w:=rfl
  have c:(binOp .shl t (.int k m) (.int yk n)).run P w= .ok v w:=a
  simp only [execOp,d,e,Sem.run_bind,b,Result.andThen_ok,c]
  rfl
 ·have b:(eqGuard .shr t x y (.int k m) (.int yk n)).run P w= .ok () w:=rfl
  have c:(binOp .shr t (.int k m) (.int yk n)).run P w= .ok v w:=a
  simp only [execOp,d,e,Sem.run_bind,b,Result.andThen_ok,c]
  rfl
theorem zra{k:IntKind}{n:Int}(h:okSh k n):min n.toNat k.bits=n.toNat:=by
 obtain⟨a,b⟩:=h;omega
theorem zg2{k yk:IntKind}{t t':TypeId}{x y:Operand}{m n:Int}(a:ev l x= .int k m)(b:ev l y= .int yk n)(h:okSh k n):Val P ρ ⟨dst,.binOp .shr t x y t',ty,pos,after,g⟩ l R O (.int k (zdj m n)):=by
 intro A w _;rw [qi (by intro c h;cases h)]
 refine zkf a b (.inr rfl) ?_
 have d:=h.1
 simp only [Op.shift]
 rw [if_neg (by omega),zra h];rfl
theorem zib{t:TypeId}{x y:Operand}{s:ByteArray}{k:IntKind}{i:Nat}{L:List Int}(a:P.underlying t=some .string)(d:ev l x= .string s)(e:s.data.toList.map (fun b=>(b.toNat:Int))=L)(f:ev l y= .int k i)(hi:i<L.length):
 Val P ρ ⟨dst,.index t x y,ty,pos,after,g⟩ l R O (.int .u8 (L.getD i default)):=by
 intro A w _;rw [qi (by intro c h;cases h)]
 subst e
 rw [List.length_map] at hi
 have hi':i<s.data.size:=by simpa using hi
 have j:s[i]? =some s.data[i]:=by
  have:i<s.size:=hi'
  rw [getElem?_pos s i this];rfl
 have m:(s.data.toList.map (fun b=>(b.toNat:Int))).getD i default=(s.data[i].toNat:Int):=by
  rw [List.getD_eq_getElem?_getD,List.getElem?_map,List.getElem?_eq_getElem hi];simp
 rw [m]
 simp [execOp,d,f,Instr.index,asIntOf,underlying,a,j]
end a
end GV
end Go.Proofs.YtkkcidhcfkmbjaaGreatDoor

namespace Go.Proofs.YtkkcidhcfkmbjaaGreatDoor
namespace GV
def zb(l:List UInt8):Value:= .string ⟨l.toArray⟩
def ql:Ty (List UInt8) where
 size:=1
 agg:=false
 rep _ cs x:=cs=[zb x]
 len h:=by rw [h];rfl
 mono _ h:=h
 one _:=rfl
 cell h:=by rw [h];intro v hv;simp at hv;subst hv;rfl
theorem kz{R:RH}{v:Value}{x:List UInt8}:VRep ql R v x↔v=zb x:=
 ⟨fun⟨_,h,e⟩=>by cases h;exact e,fun h=>⟨_,rfl,h⟩⟩
theorem zmb{a b:List UInt8}(h:zb a=zb b):a=b:=by
 unfold zb at h
 injection h with h
 injection h with h
 simpa using congrArg Array.toList h
theorem zb3{β:Type}{k:List UInt8}{ve:β→Value}: ∀ (es:List MapEntry) (M:List (List UInt8×β)) (i:Nat),es.map zb2=M.map (fun p=>(zb p.1,ve p.2))→
 Instr.findNow .string (zb k) es i=some ((z4r M k i).map fun p=>(p.1,ve p.2))
 | [],[],i,_=>rfl
 | [],_::_,_,h=>by simp at h
 |_::_,[],_,h=>by simp at h
 |e::es,p::M,i,h=>by
  simp only [List.map_cons,List.cons.injEq,zb2,Prod.mk.injEq] at h
  obtain⟨⟨c,f⟩,g⟩:=h
  obtain⟨r,j,hiff⟩:=MapKept.sameNow_of_keys (d:= .string) (a:=zb k) (b:=zb p.1) trivial trivial
  unfold Instr.findNow
  rw [c,j]
  unfold z4r
  by_cases hk:k=p.1
  ·have:r=true:=hiff.2 (by rw [hk])
   rw [this];simp [hk,f]
  ·have:r=false:=by
    cases r
    ·rfl
    ·exact absurd (zmb (hiff.1 rfl)) hk
   rw [this]
   simp only [if_neg hk]
   exact zb3 es M (i+1) g
theorem zpq{P:Program}{kt:TypeId}(a:P.underlying kt=some .string):KOk P kt zb where
 check b k w:=MapKept.run_checkKey a (k:=zb k) trivial b 9999
 find k es M ve w h:=MapKept.run_findKey a (zb3 es M 0 h)
 same k:=MapKept.sameBits_self (d:= .string) (k:=zb k) trivial 10000
section a
variable {P : Program} {ρ : Option Nat} {l : Nat → Value} {R : RH} {O : List Frag} {dst : Option Tmp} {ty : TypeId} {pos : String} {after : Array Go.Edge} {g : Option (Nat × Bool)}
end a
end GV
end Go.Proofs.YtkkcidhcfkmbjaaGreatDoor

namespace Go.Proofs.YtkkcidhcfkmbjaaGreatDoor
namespace GV
end GV
end Go.Proofs.YtkkcidhcfkmbjaaGreatDoor

namespace Go.Proofs.YtkkcidhcfkmbjaaGreatDoor
namespace GV
section p
variable {P : Program} {ρ : Option Nat} {l : Nat → Value} {R : RH} {O : List Frag} {ty : TypeId} {pos : String} {after : Array Go.Edge} {dst : Option Tmp} {g : Option (Nat × Bool)}
variable {α : Type} {T : Ty α} {X : List α} {v u : Value} {x y : Operand} {i o q m sz : Nat} {t : TypeId} {k : IntKind}
end p
end GV
end Go.Proofs.YtkkcidhcfkmbjaaGreatDoor

namespace Go.Proofs.YtkkcidhcfkmbjaaGreatDoor
namespace GV
/-! ### A call that takes some of what is owned,and for the time of which the rest is lent-/
section lh
variable {Oc Or : List Frag}
variable {P : Program} {ρ : Option Nat} {l : Nat → Value} {R : RH} {O : List Frag} {ty : TypeId} {pos : String} {after : Array Go.Edge} {dst : Option Tmp} {g : Option (Nat × Bool)}
variable {α : Type} {T : Ty α} {X : List α} {v : Value} {x y : Operand} {f : Frag} {t e : TypeId}
end lh
end GV
end Go.Proofs.YtkkcidhcfkmbjaaGreatDoor

namespace Go.Proofs.YtkkcidhcfkmbjaaGreatDoor
namespace GV
section nz
variable {α : Type} {T : Ty α} {b : Bool} {R : RH} {v : Value} {X : List α}
end nz
def i2(s t:Int):Int:=s*64+t
def ztn{α:Type}[Inhabited α](T:Ty α)(n:Nat):Ty (List α) where
 size:=n
 agg:=true
 rep R cs X:= ∃ g,cs=zre n g∧AG T R n g X
 len:=by rintro _ _ _ ⟨g,rfl,_⟩;exact zly _ _
 mono:=fun hle ⟨g,a,b⟩=>⟨g,a,b.mono hle⟩
 one:=fun h=>nomatch h
 cell:=by
  rintro R cs X ⟨g,rfl,h⟩ v hv
  obtain⟨k,hk,rfl⟩:=List.mem_map.1 hv
  exact(h.2 k (List.mem_range.1 hk)).2
def PRow{α:Type}[Inhabited α](T:Ty α)(R:RH)(u:Value)(X:List α)(s:Int):Prop:=
 ∃ b off c ty fr,u= .pointer (some ⟨b,off+s.toNat*64,none⟩)∧R.blk b=some (.cells c ty fr)∧(ztn T 4096).rep R (cellsAt c off 4096) X
theorem PRow.mono{α:Type}[Inhabited α]{T:Ty α}{R R':RH}{u:Value}{X:List α}{s:Int}(h:PRow T R u X s)(a:RH.le R R'):PRow T R' u X s:=
 let⟨b,off,c,ty,fr,d,e,f⟩:=h;⟨b,off,c,ty,fr,d,a.blk _ _ e,(ztn T 4096).mono a f⟩
section
variable {P : Program} {ρ : Option Nat} {n : Nat} {ops : Array Oper} {Q : Po} {rest : List Oper} {l : Nat → Value} {D : List Nat} {R : RH} {O : List Frag} {ty : TypeId} {pos : String} {after : Array Go.Edge} {dst : Option Tmp} {d : Nat} {gg : Option (Nat × Bool)}
variable {α : Type} [Inhabited α] {T : Ty α} {X : List α} {v : Value} {x y : Operand} {t0 : TypeId} {k : IntKind} {s t : Int} {b o : Nat}
end
end GV
end Go.Proofs.YtkkcidhcfkmbjaaGreatDoor

namespace Go.Proofs.YtkkcidhcfkmbjaaGreatDoor
namespace GV
section
variable {P : Program} {ρ : Option Nat} {n : Nat} {ops : Array Oper} {Q : Po} {rest : List Oper} {l : Nat → Value} {D : List Nat} {R : RH} {O : List Frag} {ty : TypeId} {pos : String} {after : Array Go.Edge} {dst : Option Tmp} {d : Nat} {g : Option (Nat × Bool)}
variable {α : Type} {T : Ty α} {z : α} {bytes m : Nat} {t t2 e : TypeId} {x y : Operand} {k : IntKind}
end
/-! ### Scopes into which nothing jumps-/
section sc
variable {P : Program} {F : Fence} {n : Nat} {Q : Exit → Act → World → Prop} {a : Act} {w : World} {c : Code}
theorem z13{b:Frame}{k:List Item}{cs:List Frame}:step P (lone (b.atR a (.code (.scope c)::k)) cs w)= .next (lone (b.atR a (.code c:: .inScope c::k)) cs w):=
 step_lone_go (by simp [stepG,stepG.exec,Frame.atR])
theorem zd8{b:Frame}{k:List Item}{cs:List Frame}:step P (lone (b.atR a (.inScope c::k)) cs w)= .next (lone (b.atR a k) cs w):=
 step_lone_go (by simp [stepG,stepG.exec,Frame.atR])
theorem z8v(id:Nat)(k:List Item):exitTo id (.inScope c::k)=exitTo id k:=by simp [exitTo]
theorem zht(h:c.wpIn F n P Q a w)(o: ∀ l a w,¬Q (.goto l) a w):(Code.scope c).wpIn F n P Q a w:=by
 intro b k cs g i j
 have f:(lone (b.atR a (.code (.scope c)::k)) cs w).fenced P F:=fenced_calm i j rfl
 obtain⟨e,a₁,w₁,d,harr⟩:=h b (.inScope c::k) cs g i j
 cases e with
 |normal=>exact⟨.normal,a₁,w₁,d,.head f z13 (StepsIn.trans harr (.one (fenced_calm i j rfl) zd8))⟩
 |exit id=>
  exact⟨.exit id,a₁,w₁,d,fun k' m=> .head f z13 (harr.1 k' (by rw [z8v];exact m)),
   fun hr' m=>let⟨k₁,p,q⟩:=harr.2 hr' (by rw [z8v];exact m);⟨k₁,p,.head f z13 q⟩⟩
 |goto l=>exact absurd d (o _ _ _)
 |ret=>exact⟨_,a₁,w₁,d,.of_steps (.one f z13) harr⟩
 |panic ch=>exact⟨_,a₁,w₁,d,.of_steps (.one f z13) harr⟩
 |outgrown=>exact⟨_,a₁,w₁,d,.of_steps (.one f z13) harr⟩
end sc
theorem zoa{P:Program}{ρ:Option Nat}{n:Nat}{c:Code}{Q:Po}{l:Nat→Value}{D:List Nat}{R:RH}{O:List Frag}(b: ∀ i l D R O,¬Q (.goto i) l D R O)(h:wg P ρ n c Q l D R O):wg P ρ n (.scope c) Q l D R O:=
 fun a w d e=>zht (h a w d e) (by rintro i a w ⟨l,D,R,O,_,_,hq'⟩;exact b _ _ _ _ _ hq')
theorem znp{P:Program}{ρ:Option Nat}{n i:Nat}{Q:Po}{l:Nat→Value}{D:List Nat}{R:RH}{O:List Frag}(h:Q .normal l D R O):wg P ρ n (.label i) Q l D R O:=fun _ _ a b=>wpIn_label ⟨l,D,R,O,a,b,h⟩
end GV
end Go.Proofs.YtkkcidhcfkmbjaaGreatDoor

namespace Go.Proofs.YtkkcidhcfkmbjaaGreatDoor
namespace GV
end GV
end Go.Proofs.YtkkcidhcfkmbjaaGreatDoor

namespace Go.Proofs.YtkkcidhcfkmbjaaGreatDoor
namespace GV
end GV
end Go.Proofs.YtkkcidhcfkmbjaaGreatDoor

namespace Go.Proofs.YtkkcidhcfkmbjaaGreatDoor
namespace GV
theorem z8x{P:Program}{k:Nat}(w:World)(dT sT ty elem:TypeId)(g o dLen dCap:Nat)(a:Addr)(sLen sCap:Nat)(cur:Array Value)(t:TypeId)(cs:List Value)
 (d:P.underlying dT=some (.slice elem)) (c:(P.info? elem).map (·.size)=some k)
 (e:w.heap[g]? =some (.cells cur t (0,0))) (f:cs.length=Nat.min sLen dLen*k)
 (hsrc: ∀ j v,cs[j]? =some v→w.cell? (a.add j)=some v) (hfit:o+cs.length≤cur.size) (h: ∀ v∈cs,v.oneCell'=true):
 (Builtin.copy_ #[dT,sT] ty #[.slice (some ⟨g,o,none⟩) dLen dCap,.slice (some a) sLen sCap]).run P w=
  .ok (goInt (Nat.min sLen dLen:Nat)) (w.setRow g (cur.toList.take o++cs++cur.toList.drop (o+cs.length)).toArray):=by
 have l:=run_loadCells_list (P:=P) w a cs hsrc
 have b:=run_storeCells_at P g o t cs 0 cur w e (by simpa using hfit) h
 cases hq:P.info? elem with
 |none=>simp [hq] at c
 |some i=>
  have hi:i.size=k:=by simpa [hq] using c
  simp [Builtin.copy_,run_underlying d,Builtin.lenOf,Builtin.firstCells,sizeOf,typeInfo,hq,hi,←f,l,b]
theorem z7x{P:Program}{k:Nat}(w:World)(dT sT ty elem:TypeId)(d a:Option Addr)(dLen dCap sLen sCap:Nat)(b:P.underlying dT=some (.slice elem))(c:(P.info? elem).map (·.size)=some k)(e:Nat.min sLen dLen=0):
 (Builtin.copy_ #[dT,sT] ty #[.slice d dLen dCap,.slice a sLen sCap]).run P w= .ok (goInt 0) w:=by
 cases hq:P.info? elem with
 |none=>simp [hq] at c
 |some i=>
  have f: ∀ (x:Addr),(loadCells x 0).run P w= .ok #[] w:=fun x=>by simpa using run_loadCells_list (P:=P) w x [] (by simp)
  cases d<;>cases a<;>simp [Builtin.copy_,run_underlying b,Builtin.lenOf,Builtin.firstCells,sizeOf,typeInfo,hq,e,storeCells,f]
theorem zdb{cs ys:List Value}{o j:Nat}(h:o+ys.length≤cs.length):(over cs o ys)[j]? =if j<o then cs[j]? else if j<o+ys.length then ys[j-o]? else cs[j]? :=by
 unfold over
 by_cases h1:j<o
 ·rw [if_pos h1,List.append_assoc,List.getElem?_append_left (by rw [List.length_take];omega),List.getElem?_take,if_pos h1]
 ·rw [if_neg h1]
  by_cases h2:j<o+ys.length
  ·rw [if_pos h2,List.append_assoc,List.getElem?_append_right (by rw [List.length_take];omega),List.length_take,Nat.min_eq_left (by omega),List.getElem?_append_left (by omega)]
  ·rw [if_neg h2,List.getElem?_append_right (by rw [List.length_append,List.length_take];omega),List.length_append,List.length_take,Nat.min_eq_left (by omega),List.getElem?_drop,show o+ys.length+(j-(o+ys.length))=j by omega]
theorem lw{l:List Value}{a k j:Nat}:((l.drop a).take k)[j]? =if j<k then l[a+j]? else none:=by
 rw [List.getElem?_take]
 split
 ·rw [List.getElem?_drop]
 ·rfl
section c
variable {P : Program} {ρ : Option Nat} {l : Nat → Value} {R : RH} {O : List Frag} {ty : TypeId} {pos : String} {after : Array Go.Edge} {dst : Option Tmp} {g : Option (Nat × Bool)}
variable {α : Type} {T : Ty α} {X Y : List α} {v u : Value} {x y : Operand} {f : Frag} {t e : TypeId}
theorem zcv{b:Nat}{pre cs ys:List Value}{cap lo:Nat}{bt:TypeId}(n:X.length≤cap)(g:cap*T.size≤cs.length)(d: ∀ v∈pre++cs,v.oneCell'=true)(h: ∀ (i:Nat) x,X[i]? =some x→T.rep R ((cs.drop (i*T.size)).take T.size) x)
 (hfit:lo+Y.length≤X.length) (o:ys.length=Y.length*T.size) (p: ∀ (i:Nat) y,Y[i]? =some y→T.rep R ((ys.drop (i*T.size)).take T.size) y) (r: ∀ v∈ys,v.oneCell'=true):
 ORep T R (box b (pre++over cs (lo*T.size) ys) bt) (.slice (some ⟨b,pre.length,none⟩) X.length cap) (z1i X lo Y):=by
 have f:lo*T.size+ys.length≤cs.length:=by
  rw [o,←Nat.add_mul];exact Nat.le_trans (Nat.mul_le_mul_right _ (by omega)) g
 have l:(over cs (lo*T.size) ys).length=cs.length:=by
  simp only [over,List.length_append,List.length_take,List.length_drop];omega
 refine .inr ⟨b,pre,over cs (lo*T.size) ys,cap,bt,by rw [z3z hfit],rfl,by rw [z3z hfit];exact n,by rw [l];exact g,fun q a=>?_,fun i x c=>?_⟩
 ·rcases List.mem_append.1 a with a|a
  ·exact d q (List.mem_append.2 (.inl a))
  ·simp only [over,List.mem_append] at a
   rcases a with(a|a)|a
   ·exact d q (List.mem_append.2 (.inr (List.mem_of_mem_take a)))
   ·exact r q a
   ·exact d q (List.mem_append.2 (.inr (List.mem_of_mem_drop a)))
 ·have hi:i<X.length:=by have:=(List.getElem?_eq_some_iff.1 c).1;rwa [z3z hfit] at this
  unfold z1i at c
  by_cases ha:i<lo
  ·rw [List.append_assoc,List.getElem?_append_left (by rw [List.length_take];omega),List.getElem?_take,if_pos ha] at c
   have k:(i+1)*T.size≤lo*T.size:=Nat.mul_le_mul_right _ ha
   rw [Nat.add_mul,Nat.one_mul] at k
   have e:((over cs (lo*T.size) ys).drop (i*T.size)).take T.size=(cs.drop (i*T.size)).take T.size:=by
    apply List.ext_getElem?
    intro j
    rw [lw,lw]
    by_cases hj:j<T.size
    ·rw [if_pos hj,if_pos hj,zdb f,if_pos (by omega)]
    ·rw [if_neg hj,if_neg hj]
   rw [e];exact h i x c
  ·by_cases hb:i<lo+Y.length
   ·rw [List.append_assoc,List.getElem?_append_right (by rw [List.length_take];omega),List.length_take,Nat.min_eq_left (by omega),List.getElem?_append_left (by omega)] at c
    have k:lo*T.size≤i*T.size:=Nat.mul_le_mul_right _ (by omega)
    have m:(i-lo+1)*T.size≤Y.length*T.size:=Nat.mul_le_mul_right _ (by omega)
    have s:(i-lo)*T.size=i*T.size-lo*T.size:=Nat.sub_mul _ _ _
    rw [Nat.add_mul,Nat.one_mul] at m
    have e:((over cs (lo*T.size) ys).drop (i*T.size)).take T.size=(ys.drop ((i-lo)*T.size)).take T.size:=by
     apply List.ext_getElem?
     intro j
     rw [lw,lw]
     by_cases hj:j<T.size
     ·rw [if_pos hj,if_pos hj,zdb f,if_neg (by omega),if_pos (by omega),show i*T.size+j-lo*T.size=(i-lo)*T.size+j by omega]
     ·rw [if_neg hj,if_neg hj]
    rw [e];exact p (i-lo) x c
   ·rw [List.getElem?_append_right (by rw [List.length_append,List.length_take];omega),List.length_append,List.length_take,Nat.min_eq_left (by omega),List.getElem?_drop,show lo+Y.length+(i-(lo+Y.length))=i by omega] at c
    have k:(lo+Y.length)*T.size≤i*T.size:=Nat.mul_le_mul_right _ (by omega)
    rw [Nat.add_mul] at k
    have e:((over cs (lo*T.size) ys).drop (i*T.size)).take T.size=(cs.drop (i*T.size)).take T.size:=by
     apply List.ext_getElem?
     intro j
     rw [lw,lw]
     by_cases hj:j<T.size
     ·rw [if_pos hj,if_pos hj,zdb f,if_neg (by omega),if_neg (by omega)]
     ·rw [if_neg hj,if_neg hj]
    rw [e];exact h i x c
theorem zj8{lo1 hi1 lo2 hi2:Nat}(E:P.underlying t=some (.slice e))(hi:(P.info? e).map (·.size)=some T.size)(h:ORep T R f v X)(L:lo1≤hi1)(a2:hi1≤X.length)(M:lo2≤hi2)(G:hi2≤X.length)(F:ev l x=z3r T.size v lo1 hi1)(n:ev l y=z3r T.size v lo2 hi2):
 Eff P ρ ⟨dst,.call ⟨.builtin .copy,#[x,y],#[t,t]⟩,ty,pos,after,g⟩ l R ([f]++O) (fun v' R' O'=> ∃ Oc,O'=Oc++O∧R'=R∧ ∃ f',Oc=[f']∧v'= .int .i64 ((min (hi2-lo2) (hi1-lo1):Nat):Int)∧ORep T R f' v (z1i X lo1 ((X.drop lo2).take (min (hi2-lo2) (hi1-lo1))))):=by
 intro A w z
 obtain⟨p,H,hcap⟩:=z0t h
 by_cases hm:min (hi2-lo2) (hi1-lo1)=0
 ·have hrun:(Builtin.copy_ #[t,t] ty #[z3r T.size v lo1 hi1,z3r T.size v lo2 hi2]).run P w= .ok (goInt 0) w:=by
   rw [H];exact z7x w t t ty e _ _ _ _ _ _ E hi hm
  rw [z9s F n hrun]
  refine⟨R,_,RH.le.refl _,z,_,rfl,rfl,f,rfl,by rw [hm];rfl,?_⟩
  rw [hm,List.take_zero]
  simpa [z1i] using h
 ·rcases h with⟨rfl,rfl,rfl⟩|⟨b,pre,cs,cap,bt,rfl,rfl,I,B,c,o⟩
  ·simp at a2 G;omega
  have hblk:w.heap[b]? =some (.cells (pre++cs).toArray bt (0,0)):=oq z (i:=0) rfl (single_same _ _)
  generalize hmm:min (hi2-lo2) (hi1-lo1)=m at hm⊢
  have C:(lo2+m)*T.size≤cap*T.size:=Nat.mul_le_mul_right _ (by omega)
  have r:(lo1+m)*T.size≤cap*T.size:=Nat.mul_le_mul_right _ (by omega)
  rw [Nat.add_mul] at C r
  have d:((cs.drop (lo2*T.size)).take (m*T.size)).length=m*T.size:=by rw [List.length_take,List.length_drop];omega
  have J:z3r T.size (.slice (some ⟨b,pre.length,none⟩) X.length cap) lo1 hi1= .slice (some ⟨b,pre.length+lo1*T.size,none⟩) (hi1-lo1) (cap-lo1):=by
   simp only [z3r];rw [if_neg (by omega)];simp [addr_add]
  have K:z3r T.size (.slice (some ⟨b,pre.length,none⟩) X.length cap) lo2 hi2= .slice (some ⟨b,pre.length+lo2*T.size,none⟩) (hi2-lo2) (cap-lo2):=by
   simp only [z3r];rw [if_neg (by omega)];simp [addr_add]
  have hrun:=z8x (P:=P) w t t ty e b (pre.length+lo1*T.size) (hi1-lo1) (cap-lo1) ⟨b,pre.length+lo2*T.size,none⟩ (hi2-lo2) (cap-lo2) (pre++cs).toArray bt ((cs.drop (lo2*T.size)).take (m*T.size)) E hi hblk (by rw [d,←hmm])
   (fun j q k=>by
    rw [addr_add,cell_of_block hblk]
    have s:=(List.getElem?_eq_some_iff.1 k).1
    rw [List.getElem?_take,if_pos (by omega),List.getElem?_drop] at k
    simp only [List.getElem?_toArray]
    rw [List.getElem?_append_right (by omega),show pre.length+lo2*T.size+j-pre.length=lo2*T.size+j by omega];exact k)
   (by simp only [List.size_toArray,List.length_append,d];omega)
   (fun q k=>c q (List.mem_append.2 (.inr (List.mem_of_mem_drop (List.mem_of_mem_take k)))))
  rw [←J,←K] at hrun
  rw [z9s F n hrun]
  have hlist:(pre++cs).take (pre.length+lo1*T.size)++(cs.drop (lo2*T.size)).take (m*T.size)++(pre++cs).drop (pre.length+lo1*T.size+((cs.drop (lo2*T.size)).take (m*T.size)).length)=pre++over cs (lo1*T.size) ((cs.drop (lo2*T.size)).take (m*T.size)):=over_pre
  simp only at hlist⊢
  rw [hlist]
  have u:((X.drop lo2).take m).length=m:=by rw [List.length_take,List.length_drop];omega
  refine⟨R,_,RH.le.refl _,zem _ z,_,rfl,rfl,_,rfl,by rw [show Nat.min (hi2-lo2) (hi1-lo1)=m from hmm];rfl,?_⟩
  refine zcv I B c o (by rw [u];omega) (by rw [d,u]) (fun i y n=>?_) (fun q k=>c q (List.mem_append.2 (.inr (List.mem_of_mem_drop (List.mem_of_mem_take k)))))
  have hi':i<m:=by have:=(List.getElem?_eq_some_iff.1 n).1;omega
  rw [List.getElem?_take,if_pos hi',List.getElem?_drop] at n
  have D:(i+1)*T.size≤m*T.size:=Nat.mul_le_mul_right _ hi'
  rw [Nat.add_mul,Nat.one_mul] at D
  have e:(((cs.drop (lo2*T.size)).take (m*T.size)).drop (i*T.size)).take T.size=(cs.drop ((lo2+i)*T.size)).take T.size:=by
   apply List.ext_getElem?
   intro j
   rw [lw (l:=(cs.drop (lo2*T.size)).take (m*T.size)),lw (l:=cs) (a:=(lo2+i)*T.size)]
   by_cases s:j<T.size
   ·rw [if_pos s,if_pos s,lw,if_pos (by omega),Nat.add_mul,Nat.add_assoc]
   ·rw [if_neg s,if_neg s]
  rw [e];exact o (lo2+i) y n
theorem zje(J:P.underlying t=some (.slice e))(hi:(P.info? e).map (·.size)=some T.size)(h:ORep T R f v X)(N:VRep (yo T) R u Y)(K:ev l x=v)(k:ev l y=u):
 Eff P ρ ⟨dst,.call ⟨.builtin .copy,#[x,y],#[t,t]⟩,ty,pos,after,g⟩ l R ([f]++O) (fun v' R' O'=> ∃ Oc,O'=Oc++O∧R'=R∧ ∃ f',Oc=[f']∧v'= .int .i64 ((min Y.length X.length:Nat):Int)∧ORep T R f' v (z1i X 0 (Y.take (min Y.length X.length)))):=by
 intro A w C
 obtain⟨p,Q,hcap⟩:=z0t h
 obtain⟨q,n,rfl,W,L,S⟩:=xh.1 N
 by_cases hm:min Y.length X.length=0
 ·have hrun:(Builtin.copy_ #[t,t] ty #[v,.slice q Y.length n]).run P w= .ok (goInt 0) w:=by
   rw [Q];exact z7x w t t ty e _ _ _ _ _ _ J hi hm
  rw [z9s K k hrun]
  refine⟨R,_,RH.le.refl _,C,_,rfl,rfl,f,rfl,by rw [hm];rfl,?_⟩
  rw [hm,List.take_zero]
  simpa [z1i] using h
 ·rcases S with rfl|⟨b',off,c,ty',fr,rfl,hb',hrep⟩
  ·simp at hm
  rcases h with⟨rfl,rfl,rfl⟩|⟨b,pre,cs,cap,bt,rfl,rfl,U,F,G,H⟩
  ·simp at hm
  have hblk:w.heap[b]? =some (.cells (pre++cs).toArray bt (0,0)):=oq C (i:=0) rfl (single_same _ _)
  have hsrc:w.heap[b']? =some (.cells c ty' fr):=C.ro _ _ hb'
  generalize hmm:min Y.length X.length=m at hm⊢
  have hrep': ∀ i y,Y[i]? =some y→T.rep R ((c.toList.drop (off+i*T.size)).take T.size) y:=fun i y h=>hrep i y h
  have hlast:m*T.size≤c.toList.length-off∧(0<T.size→off≤c.toList.length):=by
   have D:=T.len (hrep' (m-1) Y[m-1] (List.getElem?_eq_getElem (by omega)))
   rw [List.length_take,List.length_drop] at D
   have e:m*T.size=(m-1)*T.size+T.size:=by
    rw [←Nat.succ_mul,Nat.succ_eq_add_one,Nat.sub_add_cancel (by omega)]
   have E:T.size=0→m*T.size=0:=fun h=>by rw [h];rfl
   constructor<;>omega
  have d:((c.toList.drop off).take (m*T.size)).length=m*T.size:=by
   rw [List.length_take,List.length_drop];omega
  have hpart: ∀ i,i<m→(((c.toList.drop off).take (m*T.size)).drop (i*T.size)).take T.size=(c.toList.drop (off+i*T.size)).take T.size:=by
   intro i hi
   have I:(i+1)*T.size≤m*T.size:=Nat.mul_le_mul_right _ hi
   rw [Nat.add_mul,Nat.one_mul] at I
   apply List.ext_getElem?
   intro j
   rw [lw (l:=(c.toList.drop off).take (m*T.size)),lw (l:=c.toList) (a:=off+i*T.size)]
   by_cases o:j<T.size
   ·rw [if_pos o,if_pos o,lw,if_pos (by omega),Nat.add_assoc]
   ·rw [if_neg o,if_neg o]
  have D: ∀ z∈(c.toList.drop off).take (m*T.size),z.oneCell'=true:=by
   intro z r
   obtain⟨a,V,rfl⟩:=List.mem_iff_getElem.1 r
   have s:0<T.size:=by
    rcases Nat.eq_zero_or_pos T.size with E|E
    ·have:m*T.size=0:=by rw [E];rfl
     omega
    ·exact E
   have L:a/T.size<m:=by rw [Nat.div_lt_iff_lt_mul s];omega
   have M:=hrep' (a/T.size) Y[a/T.size] (List.getElem?_eq_getElem (by omega))
   rw [←hpart _ L] at M
   refine T.cell M _ (List.mem_iff_getElem?.2 ⟨a%T.size,?_⟩)
   rw [lw,if_pos (Nat.mod_lt _ s),show a/T.size*T.size+a%T.size=a by rw [Nat.mul_comm];exact Nat.div_add_mod _ _,List.getElem?_eq_getElem V]
  have hrun:=z8x (P:=P) w t t ty e b pre.length X.length cap ⟨b',off,none⟩ Y.length n (pre++cs).toArray bt ((c.toList.drop off).take (m*T.size)) J hi hblk (by rw [d,←hmm])
   (fun j z r=>by
    rw [addr_add,cell_of_block hsrc]
    have o:=(List.getElem?_eq_some_iff.1 r).1
    rw [List.getElem?_take,if_pos (by omega),List.getElem?_drop] at r
    simpa using r)
   (by
    have:m*T.size≤cap*T.size:=Nat.mul_le_mul_right _ (by omega)
    simp only [List.size_toArray,List.length_append,d];omega) D
  rw [z9s K k hrun]
  have hlist:(pre++cs).take (pre.length+0*T.size)++(c.toList.drop off).take (m*T.size)++(pre++cs).drop (pre.length+0*T.size+((c.toList.drop off).take (m*T.size)).length)=pre++over cs (0*T.size) ((c.toList.drop off).take (m*T.size)):=over_pre
  simp only [Nat.zero_mul,Nat.add_zero] at hlist⊢
  rw [hlist]
  have B:(Y.take m).length=m:=by rw [List.length_take];omega
  have key:=zcv (b:=b) (bt:=bt) (lo:=0) (Y:=Y.take m) (ys:=(c.toList.drop off).take (m*T.size)) U F G H (by rw [B];omega) (by rw [d,B]) (fun i y k=>by
   have hi':i<m:=by have:=(List.getElem?_eq_some_iff.1 k).1;omega
   rw [List.getElem?_take,if_pos hi'] at k
   rw [hpart i hi'];exact hrep' i y k) D
  rw [Nat.zero_mul] at key
  exact⟨R,_,RH.le.refl _,zem _ C,_,rfl,rfl,_,rfl,by rw [show Nat.min Y.length X.length=m from hmm];rfl,key⟩
end c
end GV
end Go.Proofs.YtkkcidhcfkmbjaaGreatDoor

namespace Go.Proofs.YtkkcidhcfkmbjaaGreatDoor
namespace GV
section
variable {P : Program} {ρ : Option Nat} {l : Nat → Value} {R : RH} {O : List Frag} {ty : TypeId} {pos : String} {after : Array Go.Edge} {dst : Option Tmp} {g : Option (Nat × Bool)}
end
end GV
end Go.Proofs.YtkkcidhcfkmbjaaGreatDoor
