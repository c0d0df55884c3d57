
import Derived.Test.YtnnobdkjgafdmaaShMap
import Derived.Laws.CopyRow
import Derived.Laws.IdiomCopy
import Derived.Laws.StructEq
import Derived.ChangeKeysEq
import Derived.WideKeyRuns
import Derived.Laws.BytesString
set_option linter.unusedVariables false
set_option linter.unusedSimpArgs false
set_option linter.unusedSectionVars false
namespace Go.Proofs.Ytnnobdkjgafdmaa
namespace GV
section c
variable {P : Program} {ρ : Option Nat} {l : Nat → Value} {R : RH} {O : List Frag} {ty : TypeId} {pos : String} {after : Array Go.Edge} {dst : Option Tmp} {g : Option (Nat × Bool)}
variable {α : Type} {T : Ty α} {X Y : List α} {v u : Value} {x y : Operand} {f : Frag} {t e : TypeId}
end c
end GV
end Go.Proofs.Ytnnobdkjgafdmaa

namespace Go.Proofs.Ytnnobdkjgafdmaa
namespace GV
/-! ### The plain form-/
end GV
end Go.Proofs.Ytnnobdkjgafdmaa

namespace Go.Proofs.Ytnnobdkjgafdmaa
namespace GV
def mkV(ag:Bool)(cs:List Value):Value:=if ag then .agg cs.toArray else cs.headD undef
structure KTy (P:Program) (t:TypeId) (m sz:Nat) (ag:Bool) (K:List Value→Prop):Prop where
 cells:P.cellsOf t=sz
 info: ∃ i,P.info? t=some i
 len: ∀ cs,K cs→cs.length=sz
 isAgg: ∀ w,(isAgg t).run P w= .ok ag w
 one:ag=false→sz=1
 eq: ∀ d (w:World) cs cs',m≤d→K cs→K cs'→ ∃ r:Bool,(Op.equalIn d t (mkV ag cs) (mkV ag cs')).run P w= .ok r w∧(r=true↔cs=cs')
 chk: ∀ d (w:World) em cs,m≤d→K cs→(Instr.checkKey em d t (mkV ag cs)).run P w= .ok () w
section
variable {P : Program} {t e : TypeId} {m m' sz n : Nat} {ag : Bool} {K : List Value → Prop}
theorem KTy.mono(h:KTy P t m sz ag K)(b:m≤m'):KTy P t m' sz ag K:=
 {h with eq:=fun d w cs cs' a=>h.eq d w cs cs' (by omega),chk:=fun d w em cs a=>h.chk d w em cs (by omega)}
theorem KTy.part(h:KTy P t m sz ag K)(w:World){pre cs post:List Value}(b:K cs):(part t (pre++cs++post).toArray pre.length).run P w= .ok (mkV ag cs) w:=by
 obtain⟨i,hi⟩:=h.info
 have a:=h.len cs b
 unfold Go.part
 rw [Sem.run_bind,h.isAgg w,Result.andThen_ok]
 cases ag
 ·have c:=h.one rfl
  match cs,a with
  | [v],_=>
   simp only [Bool.false_eq_true,if_false]
   have:(pre++[v]++post).toArray[pre.length]? =some v:=by simp
   rw [this];rfl
  | [],a=>simp at a;omega
  |_::_::_,a=>simp at a;omega
 ·simp only [if_true,Sem.run_bind,run_sizeOf w hi,h.cells,Result.andThen_ok,Sem.run_pure]
  have:(pre++cs++post).toArray.extract pre.length (pre.length+sz)=cs.toArray:=by
   apply Array.toList_inj.1
   rw [Array.toList_extract]
   simp only [List.extract_eq_take_drop,List.append_assoc,List.drop_left,List.take_append_of_le_length (Nat.le_of_eq (show pre.length+sz-pre.length=cs.length by omega)),List.take_of_length_le (show cs.length≤pre.length+sz-pre.length by omega)]
  rw [this];rfl
theorem KTy.part'(h:KTy P t m sz ag K)(w:World){xs:List Value}{off:Nat}{pre cs post:List Value}(a:K cs)(b:xs=pre++cs++post)(c:off=pre.length):(Go.part t xs.toArray off).run P w= .ok (mkV ag cs) w:=by
 subst b;subst c;exact h.part w a
theorem zx5{q:IntKind}(a:P.underlying t=some (.int q))(b:P.cellsOf t=1):KTy P t 1 1 false (fun cs=> ∃ x,cs=[.int q x]) where
 cells:=b
 info:=info_of_underlying a
 len:=by rintro cs ⟨x,rfl⟩;rfl
 isAgg w:=by simp [Go.isAgg,run_underlying a]
 one _:=rfl
 eq:=by
  rintro d w _ _ c ⟨x,rfl⟩ ⟨y,rfl⟩
  obtain⟨d,rfl⟩: ∃ d',d=d'+1:=⟨d-1,by omega⟩
  refine⟨x==y,?_,by simp⟩
  simp [mkV,Op.equalIn,run_underlying a]
 chk:=by
  rintro d w em _ c ⟨x,rfl⟩
  obtain⟨d,rfl⟩: ∃ d',d=d'+1:=⟨d-1,by omega⟩
  simp [mkV,Instr.checkKey,run_underlying a]
/-! ### Arrays-/
def znq(n:Nat)(K:List Value→Prop)(cs:List Value):Prop:= ∃ L:List (List Value),L.length=n∧(∀ c∈L,K c)∧cs=L.flatten
theorem zrn{L:List (List Value)}(h: ∀ c∈L,c.length=sz):L.flatten.length=L.length*sz:=by
 induction L with
 |nil=>simp
 |cons c L ih=>
  rw [List.flatten_cons,List.length_append,ih (fun c a=>h c (by simp [a])),h c (by simp),List.length_cons,Nat.succ_mul,Nat.add_comm]
theorem zoy(h:KTy P e m sz ag K)(d:Nat)(i:m≤d)(w:World): ∀ (L L':List (List Value)) (pre pre':List Value) (k:Nat),L.length=L'.length→(∀ c∈L,K c)→(∀ c∈L',K c)→pre.length=k*sz→pre'.length=k*sz→
 ∃ r:Bool,(Op.eqItems d e sz (pre++L.flatten).toArray (pre'++L'.flatten).toArray (List.range' k L.length)).run P w= .ok r w∧(r=true↔L.flatten=L'.flatten)
 | [],[],pre,pre',k,_,_,_,_,_=>⟨true,by simp [Op.eqItems],by simp⟩
 | [],_::_,_,_,_,a,_,_,_,_=>by simp at a
 |_::_,[],_,_,_,a,_,_,_,_=>by simp at a
 |c::L,c'::L',pre,pre',k,a,j,hK',l,hp'=>by
  have b:=j c (by simp)
  have f:=hK' c' (by simp)
  have n:=h.len c b
  have o:=h.len c' f
  obtain⟨r,p,hi⟩:=h.eq d w c c' i b f
  obtain⟨r',hr',hi'⟩:=zoy h d i w L L' (pre++c) (pre'++c') (k+1) (by simpa using a) (fun c g=>j c (by simp [g])) (fun c g=>hK' c (by simp [g])) (by rw [List.length_append,l,n,Nat.succ_mul]) (by rw [List.length_append,hp',o,Nat.succ_mul])
  rw [List.append_assoc,List.append_assoc] at hr'
  have q:=h.part' (P:=P) w (xs:=pre++(c::L).flatten) (off:=k*sz) (pre:=pre) (post:=L.flatten) b (by simp) l.symm
  have s:=h.part' (P:=P) w (xs:=pre'++(c'::L').flatten) (off:=k*sz) (pre:=pre') (post:=L'.flatten) f (by simp) hp'.symm
  rw [List.length_cons,List.range'_succ]
  simp only [Op.eqItems,Sem.run_bind,q,s,p,Result.andThen_ok]
  have happ:(c::L).flatten=(c'::L').flatten↔c=c'∧L.flatten=L'.flatten:=by
   rw [List.flatten_cons,List.flatten_cons]
   exact⟨fun e=>List.append_inj e (by omega),fun⟨t,u⟩=>by rw [t,u]⟩
  cases r
  ·exact⟨false,by simp,by rw [happ];simp;intro e;exact absurd (hi.2 e) (by simp)⟩
  ·refine⟨r',by simpa [List.flatten_cons] using hr',?_⟩
   rw [happ,hi']
   simp [hi.1 rfl]
theorem zr0(g:P.underlying t=some (.array n e))(q:P.cellsOf t=n*sz)(h:KTy P e m sz ag K):KTy P t (m+1) (n*sz) true (znq n K) where
 cells:=q
 info:=info_of_underlying g
 len:=by rintro cs ⟨L,f,b,rfl⟩;rw [zrn fun c j=>h.len c (b c j),f]
 isAgg w:=by simp [Go.isAgg,run_underlying g]
 one h:=by cases h
 eq:=by
  rintro d w _ _ s ⟨L,f,b,rfl⟩ ⟨L',hl',hK',rfl⟩
  obtain⟨d,rfl⟩: ∃ d',d=d'+1:=⟨d-1,by omega⟩
  obtain⟨i,hi⟩:=h.info
  obtain⟨r,u,hiff⟩:=zoy h d (by omega) w L L' [] [] 0 (by omega) b hK' (by simp) (by simp)
  refine⟨r,?_,hiff⟩
  show (Op.equalIn (d+1) t (.agg L.flatten.toArray) (.agg L'.flatten.toArray)).run P w=_
  rw [run_equalIn_array w d _ _ g hi,h.cells,List.range_eq_range',←f]
  exact u
 chk:=by
  rintro d w em _ s ⟨L,f,b,rfl⟩
  obtain⟨d,rfl⟩: ∃ d',d=d'+1:=⟨d-1,by omega⟩
  obtain⟨i,hi⟩:=h.info
  show (Instr.checkKey em (d+1) t (.agg L.flatten.toArray)).run P w=_
  rw [Instr.checkKey]
  simp only [Sem.run_bind,run_underlying g,Result.andThen_ok]
  simp only [Std.Legacy.Range.forIn_eq_forIn_range',Std.Legacy.Range.size,Nat.sub_zero,Nat.add_one_sub_one,Nat.div_one]
  rw [←f]
  have key: ∀ (L:List (List Value)) (pre:List Value) (k:Nat),(∀ c∈L,K c)→pre.length=k*sz→
   (forIn (List.range' k L.length) PUnit.unit fun i _=>do
    let a←sizeOf e
    let a←Go.part e (pre++L.flatten).toArray (i*a)
    Instr.checkKey em d e a
    pure (ForInStep.yield PUnit.unit):Sem PUnit).run P w= .ok () w:=by
   intro L
   induction L with
   |nil=>intro pre k _ _;simp
   |cons c L ih=>
    intro pre k b o
    have l:=b c (by simp)
    have v:=h.part' (P:=P) w (xs:=pre++(c::L).flatten) (off:=k*sz) (pre:=pre) (post:=L.flatten) l (by simp) o.symm
    have x:=h.chk d w em c (by omega) l
    rw [List.length_cons,List.range'_succ]
    simp only [List.forIn_cons,Sem.run_bind,run_sizeOf w hi,h.cells,Result.andThen_ok,v,x,Sem.run_pure]
    have:=ih (pre++c) (k+1) (fun c j=>b c (by simp [j])) (by rw [List.length_append,o,h.len c l,Nat.succ_mul])
    rw [List.append_assoc] at this
    simpa [List.flatten_cons] using this
  have p:=key L [] 0 b (by simp)
  rw [List.nil_append] at p
  rw [p];rfl
/-! ### Structs-/
inductive KFld (P:Program) (m:Nat):Nat→List Field→(List Value→Prop)→Prop
 |nil {off:Nat}:KFld P m off [] (fun cs=>cs=[])
 | cons {off sz : Nat} {f : Field} {fs : List Field} {ag : Bool} {K K' : List Value → Prop} : f.name ≠ "_" → f.offset = off → KTy P f.type m sz ag K → KFld P m (off + sz) fs K' → KFld P m off (f :: fs) (fun cs => ∃ a b, K a ∧ K' b ∧ cs = a ++ b)
theorem KFld.len{off:Nat}{fs:List Field}{K:List Value→Prop}(h:KFld P m off fs K): ∃ k,∀ cs,K cs→cs.length=k:=by
 induction h with
 |nil=>exact⟨0,fun cs e=>by subst e;rfl⟩
 |cons i j c l ih=>
  obtain⟨k,d⟩:=ih
  exact⟨_,by rintro cs ⟨a,b,f,g,rfl⟩;rw [List.length_append,c.len a f,d b g]⟩
theorem q5o{off:Nat}{fs:List Field}{K:List Value→Prop}(h:KFld P m off fs K)(d:Nat)(i:m≤d)(w:World): ∀ (cs cs' pre pre':List Value),K cs→K cs'→pre.length=off→pre'.length=off→
 ∃ r:Bool,(Op.eqFields d (pre++cs).toArray (pre'++cs').toArray fs).run P w= .ok r w∧(r=true↔cs=cs'):=by
 induction h with
 |nil=>rintro cs cs' pre pre' rfl rfl _ _;exact⟨true,by simp [Op.eqFields],by simp⟩
 | @cons off sz f fs ag K K' j v c x ih=>
  rintro cs cs' pre pre' ⟨a,b,g,k,rfl⟩ ⟨a',b',ha',hb',rfl⟩ l hp'
  have n:=c.len a g
  have o:=c.len a' ha'
  obtain⟨r,p,hi⟩:=c.eq d w a a' i g ha'
  obtain⟨r',hr',hi'⟩:=ih b b' (pre++a) (pre'++a') k hb' (by rw [List.length_append,l,n]) (by rw [List.length_append,hp',o])
  have q:=c.part' (P:=P) w (xs:=pre++(a++b)) (off:=f.offset) (pre:=pre) (post:=b) g (by simp) (by omega)
  have s:=c.part' (P:=P) w (xs:=pre'++(a'++b')) (off:=f.offset) (pre:=pre') (post:=b') ha' (by simp) (by omega)
  simp only [Op.eqFields,j,ne_eq,not_false_eq_true,if_true,Sem.run_bind,q,s,p,Result.andThen_ok]
  have happ:a++b=a'++b'↔a=a'∧b=b':=⟨fun e=>List.append_inj e (by omega),fun⟨t,u⟩=>by rw [t,u]⟩
  cases r
  ·exact⟨false,by simp,by rw [happ];simp;intro e;exact absurd (hi.2 e) (by simp)⟩
  ·refine⟨r',by simpa using hr',?_⟩
   rw [happ,hi']
   simp [hi.1 rfl]
theorem zuu{fs:Array Field}(c:P.underlying t=some (.struct fs))(g:P.stoodInHeld t=false)(n:P.cellsOf t=sz)(h:KFld P m 0 fs.toList K)(o: ∀ cs,K cs→cs.length=sz):KTy P t (m+1) sz true K where
 cells:=n
 info:=info_of_underlying c
 len:=o
 isAgg w:=by simp [Go.isAgg,run_underlying c]
 one h:=by cases h
 eq:=by
  rintro d w cs cs' p i hk'
  obtain⟨d,rfl⟩: ∃ d',d=d'+1:=⟨d-1,by omega⟩
  have e:P.fieldsOf t=fs:=by simp [Program.fieldsOf,c]
  obtain⟨r,q,hi⟩:=q5o h d (by omega) w cs cs' [] [] i hk' rfl rfl
  refine⟨r,?_,hi⟩
  show (Op.equalIn (d+1) t (.agg cs.toArray) (.agg cs'.toArray)).run P w=_
  rw [run_equalIn_struct w d t _ _ (by rw [e];exact c) g,e]
  exact q
 chk:=by
  rintro d w em cs p i
  obtain⟨d,rfl⟩: ∃ d',d=d'+1:=⟨d-1,by omega⟩
  show (Instr.checkKey em (d+1) t (.agg cs.toArray)).run P w=_
  rw [Instr.checkKey]
  simp only [Sem.run_bind,run_underlying c,Result.andThen_ok]
  rw [←Array.forIn_toList]
  have key: ∀ (off:Nat) (L:List Field) (K:List Value→Prop),KFld P m off L K→ ∀ (cs pre:List Value),K cs→pre.length=off→
   (forIn L PUnit.unit fun f _=>do
    if f.name ≠ "_" then do
     let a←Go.part f.type (pre++cs).toArray f.offset
     Instr.checkKey em d f.type a
     pure (ForInStep.yield PUnit.unit)
    else pure (ForInStep.yield PUnit.unit):Sem PUnit).run P w= .ok () w:=by
   intro off L K h
   induction h with
   |nil=>rintro cs pre rfl _;simp
   | @cons off sz f fs ag K K' s z j A ih=>
    rintro cs pre ⟨a,b,k,u,rfl⟩ v
    have x:=j.part' (P:=P) w (xs:=pre++(a++b)) (off:=f.offset) (pre:=pre) (post:=b) k (by simp) (by omega)
    have y:=j.chk d w em a (by omega) k
    simp only [List.forIn_cons,Sem.run_bind,s,ne_eq,not_false_eq_true,if_true,Result.andThen_ok,x,y,Sem.run_pure]
    have:=ih b (pre++a) u (by rw [List.length_append,v,j.len a k])
    simpa using this
  have l:=key 0 _ K h cs [] i rfl
  rw [List.nil_append] at l
  rw [l];rfl
end
/-! ### Finding-/
theorem zro{α:Type}: ∀ {l:List α} {p:α×α},p∈l.zip l→p.1=p.2∧p.1∈l
 | [],p,h=>by simp at h
 |a::l,p,h=>by
  rw [List.zip_cons_cons] at h
  rcases List.mem_cons.1 h with rfl|h
  ·exact⟨rfl,by simp⟩
  ·obtain⟨b,c⟩:=zro h
   exact⟨b,by simp [c]⟩
def z94(v:Value):Prop:=(∃ q x,v= .int q x)∨ ∃ b,v= .bool b
theorem zmk{n:Nat}{v:Value}(h:z94 v):Instr.sameBits n v v=true:=by
 rcases h with⟨q,x,rfl⟩|⟨b,rfl⟩
 ·cases n<;>simp [Instr.sameBits]
 ·cases n<;>simp [Instr.sameBits]
theorem zpz{n:Nat}{cs:List Value}(h: ∀ v∈cs,z94 v):Instr.sameBits (n+1) (.agg cs.toArray) (.agg cs.toArray)=true:=by
 simp only [Instr.sameBits,beq_self_eq_true,Bool.true_and,List.all_eq_true]
 intro p e
 obtain⟨c,d⟩:=zro e
 obtain⟨a,b⟩:=p
 simp only at c d
 subst c
 exact zmk (h _ d)
section
variable {P : Program} {kt : TypeId} {m sz : Nat} {K : List Value → Prop} {κ : Type} [DecidableEq κ] {ke : κ → Value} {cl : κ → List Value}
theorem zxe(h:KTy P kt m sz true K)(j:m≤Op.maxDepth)(f: ∀ k,ke k= .agg (cl k).toArray)(g: ∀ k,K (cl k))(hinj: ∀ a b,cl a=cl b→a=b){β:Type}(k:κ)(ve:β→Value)(w:World):
 ∀ (es:List MapEntry) (M:List (κ×β)) (i:Nat),es.map zkg=M.map (fun p=>(ke p.1,ve p.2))→(Instr.findAsking kt (ke k) es i).run P w= .ok ((zb2 M k i).map fun p=>(p.1,ve p.2)) w
 | [],[],i,_=>by simp [Instr.findAsking,zb2]
 | [],_::_,_,h=>by simp at h
 |_::_,[],_,h=>by simp at h
 |e::es,p::M,i,c=>by
  simp only [List.map_cons,List.cons.injEq,zkg,Prod.mk.injEq] at c
  obtain⟨⟨l,n⟩,o⟩:=c
  obtain⟨r,q,hi⟩:=h.eq Op.maxDepth w (cl k) (cl p.1) j (g k) (g p.1)
  have hr':(Op.equal kt (ke k) e.key).run P w= .ok r w:=by
   rw [l,f,f];exact q
  unfold Instr.findAsking zb2
  rw [Sem.run_bind,hr',Result.andThen_ok]
  have d:r=true↔k=p.1:=⟨fun e=>hinj _ _ (hi.1 e),fun e=>hi.2 (by rw [e])⟩
  by_cases hk:k=p.1
  ·rw [if_pos (d.2 hk),if_pos hk,n];rfl
  ·rw [if_neg (fun e=>hk (d.1 e)),if_neg hk]
   exact zxe h j f g hinj k ve w es M (i+1) o
theorem q4k(h:KTy P kt m sz true K)(e:m≤10000)(g:(match P.underlying kt with|some (.array _ _)|some (.struct _)=>true|_=>false)=true)(c: ∀ k,ke k= .agg (cl k).toArray)(f: ∀ k,K (cl k))(hinj: ∀ a b,cl a=cl b→a=b)
 (d: ∀ k,∀ v∈cl k,z94 v):KOk P kt ke where
 check b k w:=by rw [c];exact h.chk 10000 w b (cl k) e (f k)
 find k es M ve w hes:=by
  rw [run_findKey_eq w g]
  exact zxe h e c f hinj k ve w es M 0 hes
 same k:=by rw [c];exact zpz (d k)
end
end GV
end Go.Proofs.Ytnnobdkjgafdmaa

namespace Go.Proofs.Ytnnobdkjgafdmaa
namespace GV
abbrev Arr (n:Nat) (α:Type):= {l:List α//l.length=n}
instance {n:Nat} {α:Type} [Inhabited α]:Inhabited (Arr n α):=⟨⟨List.replicate n default,List.length_replicate⟩⟩
def lq{α:Type}[Inhabited α](n:Nat)(l:List α):Arr n α:=if h:l.length=n then⟨l,h⟩ else default
theorem zcp{α:Type}[Inhabited α]{n:Nat}{l:List α}(h:l.length=n):(lq n l).1=l:=by unfold lq;rw [dif_pos h]
theorem zut{α:Type}{cs:List α}{n k i:Nat}(h:cs.length=n*k)(hi:i<n):((cs.drop (i*k)).take k).length=k:=by
 rw [List.length_take,List.length_drop,h]
 have:(i+1)*k≤n*k:=Nat.mul_le_mul_right k hi
 rw [Nat.succ_mul] at this
 omega
theorem zzr{α:Type}{cs:List α}{n k:Nat}(h:cs.length=n*k){v:α}(c:v∈cs): ∃ i,i<n∧v∈(cs.drop (i*k)).take k:=by
 obtain⟨j,a,rfl⟩:=List.mem_iff_getElem.1 c
 have d:0<k:=by
  rcases Nat.eq_zero_or_pos k with e|e
  ·subst e;simp at h;subst h;simp at a
  ·exact e
 have b:j/k<n:=Nat.div_lt_of_lt_mul (show j<k*n by rw [Nat.mul_comm,←h];exact a)
 refine⟨j/k,b,?_⟩
 have f:=Nat.div_add_mod j k
 have g:=Nat.mod_lt j d
 have l:=zut h b
 refine List.mem_iff_getElem.2 ⟨j%k,by omega,?_⟩
 rw [List.getElem_take,List.getElem_drop]
 congr 1
 rw [Nat.mul_comm];exact f
def zv3{α:Type}(n:Nat)(T:Ty α):Ty (Arr n α) where
 size:=n*T.size
 agg:=true
 rep R cs X:=cs.length=n*T.size∧ ∀ i x,X.1[i]? =some x→T.rep R ((cs.drop (i*T.size)).take T.size) x
 len h:=h.1
 mono hle h:=⟨h.1,fun i x hx=>T.mono hle (h.2 i x hx)⟩
 one h:=by cases h
 cell:=by
  rintro R cs X ⟨a,b⟩ v hv
  obtain⟨i,hi,hm⟩:=zzr a hv
  have hl:i<X.1.length:=by rw [X.2];exact hi
  exact T.cell (b i _ (List.getElem?_eq_getElem hl)) v hm
structure CellsOf {α:Type} (T:Ty α) (cl:α→List Value):Prop where
 len: ∀ x,(cl x).length=T.size
 iff: ∀ R cs x,T.rep R cs x↔cs=cl x
theorem cells_int{q:IntKind}:CellsOf (qb q) (fun x=>[Value.int q x]):=⟨fun _=>rfl,fun R cs x=>Iff.rfl⟩
def z4n{α:Type}{n:Nat}(cl:α→List Value)(X:Arr n α):List Value:=X.1.flatMap cl
theorem z9g{α:Type}{cl:α→List Value}{k:Nat}(h: ∀ x,(cl x).length=k): ∀ (l:List α) (i:Nat) (x:α),l[i]? =some x→((l.flatMap cl).drop (i*k)).take k=cl x
 | [],i,x,a=>by simp at a
 |y::l,0,x,a=>by
  have:y=x:=by simpa using a
  subst this
  rw [Nat.zero_mul,List.drop_zero,List.flatMap_cons,List.take_left' (h y)]
 |y::l,i+1,x,a=>by
  rw [List.flatMap_cons,Nat.succ_mul,Nat.add_comm,←List.drop_drop,List.drop_left' (h y)]
  exact z9g h l i x (by simpa using a)
theorem z9i{α:Type}{cl:α→List Value}{k:Nat}(h: ∀ x,(cl x).length=k): ∀ (l:List α),(l.flatMap cl).length=l.length*k
 | []=>by simp
 |y::l=>by rw [List.flatMap_cons,List.length_append,h y,z9i h l,List.length_cons,Nat.succ_mul,Nat.add_comm]
theorem q0g{cs cs':List Value}{n k:Nat}(h:cs.length=n*k)(h':cs'.length=n*k)(a: ∀ i,i<n→(cs.drop (i*k)).take k=(cs'.drop (i*k)).take k):cs=cs':=by
 induction n generalizing cs cs' with
 |zero=>simp at h h';rw [h,h']
 |succ n ih=>
  rw [Nat.succ_mul] at h h'
  have b:=a 0 (by omega)
  rw [Nat.zero_mul,List.drop_zero,List.drop_zero] at b
  have c:cs.drop k=cs'.drop k:=ih (by rw [List.length_drop];omega) (by rw [List.length_drop];omega) fun i hi=>by
   have:=a (i+1) (by omega)
   rw [Nat.succ_mul,Nat.add_comm] at this
   rwa [List.drop_drop,List.drop_drop]
  rw [←List.take_append_drop k cs,←List.take_append_drop k cs',b,c]
theorem zff{α:Type}{T:Ty α}{cl:α→List Value}{n:Nat}(h:CellsOf T cl):CellsOf (zv3 n T) (z4n cl:Arr n α→List Value):=by
 refine⟨fun X=>by show (X.1.flatMap cl).length=n*T.size;rw [z9i h.len,X.2],fun R cs X=>?_⟩
 show (cs.length=n*T.size∧_)↔cs=X.1.flatMap cl
 constructor
 ·rintro⟨b,c⟩
  refine q0g b (by rw [z9i h.len,X.2]) fun i hi=>?_
  have a:i<X.1.length:=by rw [X.2];exact hi
  have:=(h.iff _ _ _).1 (c i _ (List.getElem?_eq_getElem a))
  rw [this,z9g h.len _ _ _ (List.getElem?_eq_getElem a)]
 ·rintro rfl
  exact⟨by rw [z9i h.len,X.2],fun i x d=>by rw [z9g h.len _ _ _ d];exact(h.iff _ _ _).2 rfl⟩
theorem q5s{α:Type}{T:Ty α}{cl:α→List Value}(h:CellsOf T cl)(a:T.agg=true){R:RH}{v:Value}{x:α}:VRep T R v x↔v= .agg (cl x).toArray:=by
 constructor
 ·rintro⟨cs,b,rfl⟩
  rw [(h.iff _ _ _).1 b]
  unfold Ty.mk';rw [a];rfl
 ·rintro rfl
  exact⟨cl x,(h.iff _ _ _).2 rfl,by unfold Ty.mk';rw [a];rfl⟩
theorem zuj{α β:Type}{A:Ty α}{B:Ty β}{ca:α→List Value}{cb:β→List Value}(h:CellsOf A ca)(k:CellsOf B cb):CellsOf (z2p A B) (fun x=>ca x.1++cb x.2):=by
 refine⟨fun x=>by show (ca x.1++cb x.2).length=A.size+B.size;rw [List.length_append,h.len,k.len],fun R cs x=>?_⟩
 constructor
 ·rintro⟨c,d,rfl,a,b⟩
  rw [(h.iff _ _ _).1 a,(k.iff _ _ _).1 b]
 ·rintro rfl
  exact⟨_,_,rfl,(h.iff _ _ _).2 rfl,(k.iff _ _ _).2 rfl⟩
theorem q3w{α β:Type}{A:Ty α}{ca:α→List Value}{f:β→α}(h:CellsOf A ca):CellsOf (A.as f) (fun x=>ca (f x)):=⟨fun x=>h.len (f x),fun R cs x=>h.iff R cs (f x)⟩
theorem zs3{α:Type}{cl:α→List Value}{k:Nat}(h: ∀ x,(cl x).length=k)(hi: ∀ x y,cl x=cl y→x=y): ∀ (l l':List α),l.length=l'.length→l.flatMap cl=l'.flatMap cl→l=l'
 | [],[],_,_=>rfl
 | [],_::_,a,_=>by simp at a
 |_::_,[],a,_=>by simp at a
 |x::l,y::l',a,e=>by
  rw [List.flatMap_cons,List.flatMap_cons] at e
  obtain⟨b,c⟩:=List.append_inj e (by rw [h,h])
  rw [hi _ _ b,zs3 h hi l l' (by simpa using a) c]
theorem zoi{α:Type}{n:Nat}{cl:α→List Value}{k:Nat}(h: ∀ x,(cl x).length=k)(hi: ∀ x y,cl x=cl y→x=y){X Y:Arr n α}(e:z4n cl X=z4n cl Y):X=Y:=
 Subtype.ext (zs3 h hi _ _ (by rw [X.2,Y.2]) e)
theorem zy5{α:Type}{n:Nat}{cl:α→List Value}{K:List Value→Prop}(h: ∀ x,K (cl x))(X:Arr n α):znq n K (z4n cl X):=
 ⟨X.1.map cl,by rw [List.length_map,X.2],fun c a=>by obtain⟨x,_,rfl⟩:=List.mem_map.1 a;exact h x,by unfold z4n;rw [List.flatMap_def]⟩
theorem zho{α:Type}{n:Nat}{cl:α→List Value}(h: ∀ x,∀ v∈cl x,z94 v)(X:Arr n α): ∀ v∈z4n cl X,z94 v:=fun v a=>by
 obtain⟨x,_,b⟩:=List.mem_flatMap.1 a
 exact h x v b
/-! ### A box that holds an array:as a slice that can't grow-/
section a
variable {P : Program} {ρ : Option Nat} {n : Nat} {ops : Array Oper} {Q : Po} {rest : List Oper} {l : Nat → Value} {D : List Nat} {R : RH} {O : List Frag} {ty : TypeId} {pos : String} {after : Array Go.Edge} {d : Nat} {dst : Option Tmp} {g : Option (Nat × Bool)}
variable {α β : Type} {T : Ty α} {B : Ty β} {X : List α} {v u w : Value} {x y ix' : Operand} {f F : Frag} {i j o b m sz : Nat} {t s e : TypeId} {k : IntKind}
end a
end GV
end Go.Proofs.Ytnnobdkjgafdmaa

namespace Go.Proofs.Ytnnobdkjgafdmaa
namespace GV
theorem pl_int{q:IntKind}(x:Int): ∀ v∈[Value.int q x],z94 v:=fun v a=> .inl ⟨_,_,List.mem_singleton.1 a⟩
theorem q3t{q:IntKind}(x y:Int)(h:[Value.int q x]=[Value.int q y]):x=y:=by simpa using h
def z0g{α:Type}{n:Nat}(X:Arr n α)(i:Int)(z:α):Arr n α:=⟨X.1.set i.toNat z,by rw [List.length_set];exact X.2⟩
theorem zw0{α:Type}[Inhabited α]{n i sz:Nat}{cl:α→List Value}{X:Arr n α}(a: ∀ x,(cl x).length=sz)(hi:i<n):((z4n cl X).drop (i*sz)).take sz=cl (X.1.getD i default):=by
 have h:i<X.1.length:=by rw [X.2];exact hi
 rw [show z4n cl X=X.1.flatMap cl from rfl,z9g a _ _ _ (List.getElem?_eq_getElem h)]
 simp [List.getD_eq_getElem?_getD,h]
theorem zja{α:Type}{n sz:Nat}{cl:α→List Value}(a: ∀ x,(cl x).length=sz)(X:Arr n α):(z4n cl X).length=n*sz:=by
 rw [show z4n cl X=X.1.flatMap cl from rfl,z9i a,X.2]
theorem ztl{α:Type}{cl:α→List Value}{k:Nat}(h: ∀ x,(cl x).length=k)(z:α): ∀ (l:List α) (i:Nat),i<l.length→(l.set i z).flatMap cl=(l.flatMap cl).take (i*k)++cl z++(l.flatMap cl).drop ((i+1)*k)
 | [],i,hi=>by simp at hi
 |x::l,0,_=>by
  rw [List.set_cons_zero,List.flatMap_cons,List.flatMap_cons,Nat.zero_mul,List.take_zero,List.nil_append,Nat.zero_add,Nat.one_mul,List.drop_left' (h x)]
 |x::l,i+1,hi=>by
  rw [List.set_cons_succ,List.flatMap_cons,List.flatMap_cons,ztl h z l i (by simpa using hi)]
  have a:(i+1)*k=k+i*k:=by rw [Nat.succ_mul,Nat.add_comm]
  have b:(i+1+1)*k=k+(i+1)*k:=by rw [Nat.succ_mul (i+1),Nat.add_comm]
  rw [a,b,←h x,List.take_length_add_append,List.drop_length_add_append,h x]
  simp only [List.append_assoc]
  rw [show k+i*k=(i+1)*k from a.symm]
theorem zwh{α:Type}[Inhabited α]{n i sz o:Nat}{cl:α→List Value}{X:Arr n α}{vs:List Value}{z:α}(a: ∀ x,(cl x).length=sz)(hi:i<n)(b:(cl (X.1.getD i default)).take o++vs++(cl (X.1.getD i default)).drop (o+vs.length)=cl z)(g:o+vs.length≤sz):
 over (z4n cl X) (i*sz+o) vs=z4n cl (z0g X (i:Int) z):=by
 have h:i<X.1.length:=by rw [X.2];exact hi
 have hlen:=zja a X
 have j:(i+1)*sz≤n*sz:=Nat.mul_le_mul_right sz hi
 have c:(i+1)*sz=i*sz+sz:=Nat.succ_mul i sz
 have d:=zw0 (X:=X) a hi
 show _=(X.1.set (i:Int).toNat z).flatMap cl
 rw [Int.toNat_natCast,ztl a z X.1 i h,←b,←d]
 unfold over
 show (z4n cl X).take (i*sz+o)++vs++(z4n cl X).drop (i*sz+o+vs.length)=(z4n cl X).take (i*sz)++_++(z4n cl X).drop ((i+1)*sz)
 rw [c]
 generalize z4n cl X=cs at hlen
 have e:cs.take (i*sz+o)=cs.take (i*sz)++(((cs.drop (i*sz)).take sz).take o):=by
  rw [List.take_take,Nat.min_eq_left (by omega),List.take_add]
 have f:cs.drop (i*sz+o+vs.length)=(((cs.drop (i*sz)).take sz).drop (o+vs.length))++cs.drop (i*sz+sz):=by
  rw [List.drop_take,List.drop_drop,←Nat.add_assoc]
  have:cs.drop (i*sz+sz)=(cs.drop (i*sz+o+vs.length)).drop (sz-(o+vs.length)):=by rw [List.drop_drop];congr 1;omega
  rw [this,List.take_append_drop]
 rw [e,f]
 simp only [List.append_assoc]
section w
variable {P : Program} {ρ : Option Nat} {n : Nat} {ops : Array Oper} {Q : Po} {rest : List Oper} {l : Nat → Value} {D : List Nat} {R : RH} {O : List Frag} {ty : TypeId} {pos : String} {after : Array Go.Edge} {d : Nat} {dst : Option Tmp} {g : Option (Nat × Bool)}
variable {α : Type} [Inhabited α] {x y : Operand} {i j o b m sz k off : Nat} {t e bt : TypeId} {X : Arr m α} {cl : α → List Value} {vs : List Value} {v : Value}
theorem zmg(c: ∀ x,(cl x).length=sz)(d: ∀ w,(isAgg t).run P w= .ok false w)(e:ev l x= .pointer (some ⟨b,off,none⟩))(hoff:off=i*sz+o)(f:O[j]? =some (box b (z4n cl X) bt))(hi:i<m)(a:(cl (X.1.getD i default))[o]? =some v):
 Val P ρ ⟨dst,.load t x,ty,pos,after,g⟩ l R O v:=by
 refine qi d e f ?_
 subst hoff
 have h:=zw0 (X:=X) c hi
 have k:o<sz:=by rw [←c (X.1.getD i default)];exact(List.getElem?_eq_some_iff.1 a).1
 rw [←h,List.getElem?_take_of_lt k,List.getElem?_drop] at a
 exact a
theorem iw{cs:List Value}(c: ∀ w,(isAgg t).run P w= .ok true w)(d: ∀ w,(sizeOf t).run P w= .ok k w)(e:ev l x= .pointer (some ⟨b,0,none⟩))(f:O[j]? =some (box b cs bt))(a:cs.length=k)(h:Value.agg cs.toArray=v):
 Val P ρ ⟨dst,.load t x,ty,pos,after,g⟩ l R O v:=by
 subst h
 exact ui c d e f (by rw [List.drop_zero,←a,List.take_length]) a
theorem zsy{z:α}{w:Value}(a: ∀ x,(cl x).length=sz)(c: ∀ w,(sizeOf t).run P w= .ok k w)(d:ev l x= .pointer (some ⟨b,off,none⟩))(hoff:off=i*sz+o)(e:O[j]? =some (box b (z4n cl X) bt))(hi:i<m)
 (f:ev l y=w) (h:w.cells=vs.toArray) (n:vs.length=k) (p: ∀ v∈vs,v.oneCell'=true) (q:o+vs.length≤sz) (r:(cl (X.1.getD i default)).take o++vs++(cl (X.1.getD i default)).drop (o+vs.length)=cl z):
 Eff P ρ ⟨dst,.store t x y,ty,pos,after,g⟩ l R O (fun v' R' O'=>v'=undef∧R'=R∧O'=O.set j (box b (z4n cl (z0g X (i:Int) z)) bt)):=by
 subst hoff
 have s:=zwh (X:=X) a hi r q
 have u:=zja a X
 have A:(i+1)*sz≤m*sz:=Nat.mul_le_mul_right sz hi
 rw [Nat.succ_mul] at A
 have:=z6h (P:=P) (ρ:=ρ) (R:=R) (dst:=dst) (ty:=ty) (pos:=pos) (after:=after) (g:=g) c d f h n e (by rw [u];omega) p
 rw [s] at this
 exact this
theorem z98{z:α}{w:Value}{q:Int}(d: ∀ x,(cl x).length=sz)(f: ∀ w,(sizeOf t).run P w= .ok k w)(g:ev l x= .pointer (some ⟨b,off,none⟩))(h:q.toNat=i)(hoff:off=i*sz+o)(a:O[j]? =some (box b (z4n cl X) bt))(hi:i<m)
 (p:ev l y=w) (r:w.cells=vs.toArray) (s:vs.length=k) (u: ∀ v∈vs,v.oneCell'=true) (A:Nat.ble (o+vs.length) sz=true) (B:(cl (X.1.getD i default)).take o++vs++(cl (X.1.getD i default)).drop (o+vs.length)=cl z)
 (c:wo P ρ n ops Q rest l D R (O.set j (box b (z4n cl (z0g X q z)) bt))):wo P ρ n ops Q (⟨none,.store t x y,ty,pos,after,none⟩::rest) l D R O:=by
 have e:z0g X q z=z0g X (i:Int) z:=Subtype.ext (by show X.1.set q.toNat z=X.1.set ((i:Int).toNat) z;rw [h,Int.toNat_natCast])
 rw [e] at c
 exact zd9 (zsy d f g hoff a hi p r s u (by simpa using A) B) fun v' R' O' _ ⟨_,C,a⟩=>by subst C;subst a;exact c
theorem z0q{cs cs':List Value}{w:Value}(c: ∀ w,(sizeOf t).run P w= .ok k w)(d:ev l x= .pointer (some ⟨b,0,none⟩))(a:O[j]? =some (box b cs bt))(m:cs.length=k)(hk':cs'.length=k)(e:ev l y=w)(f:w.cells=cs'.toArray)(g: ∀ v∈cs',v.oneCell'=true)
 (h:wo P ρ n ops Q rest l D R (O.set j (box b cs' bt))):wo P ρ n ops Q (⟨none,.store t x y,ty,pos,after,none⟩::rest) l D R O:=
 zd9 (z6h c d e f hk' a (by omega) g) fun v' R' O' _ ⟨_,i,a⟩=>by
  subst i;subst a
  have:over cs 0 cs'=cs':=by unfold over;rw [List.take_zero,List.nil_append,Nat.zero_add,List.drop_eq_nil_of_le (by omega),List.append_nil]
  rw [this];exact h
theorem z2v{cs:List Value}(h: ∀ v∈cs,z94 v): ∀ v∈cs,v.oneCell'=true:=fun v a=>by
 rcases h v a with⟨q,x,rfl⟩|⟨b,rfl⟩<;>rfl
/-! ### Structs out of parts of any size-/
inductive FillOk (place:Nat→Option (Nat×Nat)):Nat→List (Nat×Value)→List Value→Prop
 |nil {off:Nat}:FillOk place off [] []
 |last {off i:Nat} {v:Value} {c:List Value}:v.cells=c.toArray→place i=some (off,c.length)→FillOk place off [(i,v)] c
 |cons {off i:Nat} {v:Value} {ps:List (Nat×Value)} {c out:List Value}:v.cells=c.toArray→place i=some (off,c.length)→FillOk place (off+c.length) ps out→FillOk place off ((i,v)::ps) (c++out)
theorem q5l{place:Nat→Option (Nat×Nat)}{off:Nat}{ps:List (Nat×Value)}{out:List Value}(h:FillOk place off ps out): ∀ (done rest:List Value),done.length=off→rest.length=out.length→Instr.fill place (done++rest).toArray ps=some (done++out).toArray:=by
 induction h with
 |nil=>
  intro done rest _ a
  have:rest=[]:=List.length_eq_zero_iff.1 (by simpa using a)
  subst this;rfl
 | @last off i v c b d=>
  intro done rest e a
  simp only [Instr.fill,d,b,List.size_toArray]
  rw [if_neg (by simp;omega)]
  have hfold:Array.foldl (fun(cs:Array Value) (x:Value×Nat)=>cs.setIfInBounds (off+x.2) x.1) (done++rest).toArray c.toArray.zipIdx=(done++c).toArray:=by
   rw [←Array.foldl_toList]
   have:c.toArray.zipIdx.toList=c.zipIdx 0:=by simp
   rw [this,foldl_set,Nat.add_zero,zgm _ _ _ (by simp;omega)]
   congr 1
   unfold over
   rw [←e,List.take_left,List.drop_eq_nil_of_le (by simp;omega),List.append_nil]
  exact congrArg some hfold
 | @cons off i v ps c out b d g ih=>
  intro done rest e a
  rw [List.length_append] at a
  simp only [Instr.fill,d,b,List.size_toArray]
  rw [if_neg (by simp;omega)]
  have hfold:Array.foldl (fun(cs:Array Value) (x:Value×Nat)=>cs.setIfInBounds (off+x.2) x.1) (done++rest).toArray c.toArray.zipIdx=((done++c)++rest.drop c.length).toArray:=by
   rw [←Array.foldl_toList]
   have:c.toArray.zipIdx.toList=c.zipIdx 0:=by simp
   rw [this,foldl_set,Nat.add_zero,zgm _ _ _ (by simp;omega)]
   congr 1
   unfold over
   rw [←e,List.take_left,List.drop_append,List.drop_eq_nil_of_le (by omega)]
   simp
  have f:=ih (done++c) (rest.drop c.length) (by rw [List.length_append];omega) (by rw [List.length_drop];omega)
  rw [←List.append_assoc,←f]
  exact congrArg (fun c=>Instr.fill place c ps) hfold
theorem zwu{parts:List (Nat×Operand)}{ps:List (Nat×Value)}{fs:Array Field}{pls:Array (Nat×Nat)}{out:List Value}(c:(parts.map fun x=>(x.1,ev l x.2))=ps)(d:P.underlying t=some (.struct fs))(e: ∀ w,∃ z,(zeroValue t).run P w= .ok z w∧z.cells.size=k)
 (a: ∀ w,(fs.mapM fun f=>do pure (f.offset,←sizeOf f.type):Sem (Array (Nat×Nat))).run P w= .ok pls w) (h:FillOk (pls[·]?) 0 ps out) (i:out.length=k) (j:Value.agg out.toArray=v):Val P ρ ⟨dst,.build t parts.toArray,ty,pos,after,g⟩ l R O v:=
 bg c fun w=>by
  subst j
  obtain⟨z,m,n⟩:=e w
  have b:=q5l h [] z.cells.toList rfl (by rw [i,Array.length_toList];exact n)
  simp only [List.nil_append,Array.toArray_toList] at b
  simp only [Instr.build,Sem.run_bind,m,Result.andThen_ok,run_underlying d,a w,b,Sem.run_pure]
theorem q5k{cs:List Value}(h:cs.length=k)(a: ∀ w,∃ z,(zeroValue t).run P w= .ok z w∧z.cells=cs.toArray): ∀ w,∃ z,(zeroValue t).run P w= .ok z w∧z.cells.size=k:=fun w=>by
 obtain⟨z,b,c⟩:=a w
 exact⟨z,b,by rw [c,List.size_toArray,h]⟩
theorem z95{w:World}{cs:List Value}(c:Holds R O w)(d:O[i]? =some (box b cs bt))(e: ∀ w,(isAgg t).run P w= .ok true w)(f: ∀ w,(sizeOf t).run P w= .ok k w)(a:cs.length=k):(loadVar t ⟨b,0,none⟩).run P w= .ok (.agg cs.toArray) w:=
 z0z c d (by rw [List.drop_zero,←a,List.take_length]) e f a (by simp [a])
end w
/-! ### Loops that are gone through so many times-/
section u
variable {P : Program} {ρ : Option Nat} {n : Nat} {Q : Po} {l : Nat → Value} {D : List Nat} {R : RH} {O : List Frag} {c : Code}
def zi9(P:Program)(ρ:Option Nat)(n:Nat)(c:Code)(Q:Po):Nat→(Nat→Value)→List Nat→RH→List Frag→Prop
 |0=>fun _ _ _ _=>False
 |k+1=>fun l D R O=>wg P ρ n c (thn (zi9 P ρ n c Q k) Q) l D R O
theorem zbn{k:Nat}(h:wg P ρ n c (thn (zi9 P ρ n c Q k) Q) l D R O):zi9 P ρ n c Q (k+1) l D R O:=h
theorem zyy(k:Nat)(h:zi9 P ρ n c Q k l D R O):wg P ρ n (.loop c) Q l D R O:=by
 refine zx6 (zi9 P ρ n c Q) k h ?_
 intro k l D R O hI
 cases k with
 |zero=>exact hI.elim
 |succ k=>
  refine zhz hI ?_
  intro e l' D' R' O' a
  cases e with
  |normal=>exact⟨k,Nat.lt_succ_self k,a⟩
  |_=>exact a
end u
theorem zje{P:Program}{ρ:Option Nat}{l:Nat→Value}{R:RH}{O:List Frag}{dst:Option Tmp}{ty:TypeId}{pos:String}{after:Array Go.Edge}{g:Option (Nat×Bool)}{t:TypeId}{x y:Operand}{v i u:Value}(a:ev l x=v)(b:ev l y=i)(h: ∀ w,(Instr.index t v i).run P w= .ok u w):
 Val P ρ ⟨dst,.index t x y,ty,pos,after,g⟩ l R O u:=by
 intro A w _;rw [jk (by intro c h;cases h)]
 simp only [execOp,a,b,Sem.run_bind,h,Result.andThen_ok];rfl
section mm
variable {P : Program} {ρ : Option Nat} {l : Nat → Value} {R : RH} {O : List Frag} {ty : TypeId} {pos : String} {after : Array Go.Edge} {dst : Option Tmp} {g : Option (Nat × Bool)} {k : IntKind} {a b : Int} {x y : Operand} {at' : Array TypeId} {t : TypeId} {d : TypeDesc}
theorem zsl(j:at'[0]? =some t)(m:P.underlying t=some d)(f:ev l x= .int k a)(i:ev l y= .int k b):Val P ρ ⟨dst,.call ⟨.builtin .max,#[x,y],at'⟩,ty,pos,after,g⟩ l R O (.int k (max a b)):=by
 intro A w _;rw [jk (by intro c h;cases h)]
 have e:(if b>a then b else a)=max a b:=by rw [Int.max_def];split<;>split<;>omega
 simp [execOp,resolve,invoke,builtin,Builtin.max_,Builtin.max2,f,i,e]
end mm
section p
variable {P : Program} {ρ : Option Nat} {l : Nat → Value} {R : RH} {O : List Frag} {ty : TypeId} {pos : String} {after : Array Go.Edge} {dst : Option Tmp} {g : Option (Nat × Bool)}
variable {α β : Type} [Inhabited α] {T : Ty α} {B : Ty β} {X : List α} {v u w : Value} {x y : Operand} {F : Frag} {i o : Nat} {t : TypeId} {se : α → β → α}
end p
end GV
end Go.Proofs.Ytnnobdkjgafdmaa

namespace Go.Proofs.Ytnnobdkjgafdmaa
namespace GV
def q7a{α:Type}(T:Ty α):Ty α where
 size:=1
 agg:=false
 rep R cs x:= ∃ v,cs=[v]∧PRep T R v x
 len:=by rintro R cs x ⟨v,rfl,_⟩;rfl
 mono:=by rintro R R' cs x hle ⟨v,rfl,h⟩;exact⟨v,rfl,h.mono hle⟩
 one _:=rfl
 cell:=by
  rintro R cs x ⟨v,rfl,b,off,c,ty,fr,rfl,_⟩ u hu
  rw [List.mem_singleton.1 hu];rfl
theorem z3b{α:Type}{T:Ty α}{R:RH}{v:Value}{x:α}:VRep (q7a T) R v x↔PRep T R v x:=by
 constructor
 ·rintro⟨cs,⟨u,rfl,h⟩,rfl⟩
  exact h
 ·exact fun h=>⟨[v],⟨v,rfl,h⟩,rfl⟩
theorem zcs{α:Type}[Inhabited α]{T:Ty α}{n i:Nat}(hi:i<n):Part (zv3 n T) (i*T.size) T (fun X=>X.1.getD i default):=by
 refine⟨?_,fun R cs X h=>?_⟩
 ·show i*T.size+T.size≤n*T.size
  have:=Nat.mul_le_mul_right T.size hi
  rw [Nat.succ_mul] at this
  exact this
 ·have a:i<X.1.length:=by rw [X.2];exact hi
  show T.rep R (List.take T.size (List.drop (i*T.size) cs)) (X.1.getD i default)
  rw [List.getD_eq_getElem?_getD,List.getElem?_eq_getElem a]
  exact h.2 i _ (List.getElem?_eq_getElem a)
theorem znc{P:Program}{ρ:Option Nat}{l:Nat→Value}{R:RH}{O:List Frag}{dst:Option Tmp}{ty:TypeId}{pos:String}{after:Array Go.Edge}{g:Option (Nat×Bool)}{α:Type}[Inhabited α]{T:Ty α}{n sz:Nat}{q:Int}{t:TypeId}{x y:Operand}{k:IntKind}{v:Value}{X:Arr n α}
 (c:ArrOk P t n sz) (d:sz=T.size) (e:ev l x=v) (f:PRep (zv3 n T) R v X) (hi:ev l y= .int k q) (a:okI X.1 q):
 Eff P ρ ⟨dst,.indexAddr t x y,ty,pos,after,g⟩ l R O (fun v' R' O'=>O'=O∧phP T (ix X.1 q) v' R'):=by
 subst d
 have b:=Nat.lt_of_lt_of_eq (zy a) X.2
 exact zve (i:=q.toNat) (y:=X) (pr:=fun X=>X.1.getD q.toNat default) c (zcs b) e f (zg hi a.1) b
/-! ### A box that only is read,of which the value is known-/
def znz(v:Value):Ty Unit where
 size:=v.cells.size
 agg:=true
 rep _ cs _:=v= .agg cs.toArray∧ ∀ c∈cs,c.oneCell'=true
 len:=by rintro R cs x ⟨rfl,_⟩;simp [Value.cells]
 mono _ h:=h
 one h:=by cases h
 cell h:=h.2
theorem q3r{R:RH}{v w:Value}{x:Unit}(h:VRep (znz v) R w x):w=v:=by
 obtain⟨cs,⟨rfl,_⟩,rfl⟩:=h;rfl
theorem qd0{α:Type}{T:Ty α}{R:RH}{v:Value}{y:α}(a:T.agg=true)(b:VRep T R v y):VRep (znz v) R v ():=by
 obtain⟨cs,c,rfl⟩:=b
 have e:T.mk' cs= .agg cs.toArray:=by unfold Ty.mk';rw [a];rfl
 exact⟨cs,⟨e,T.cell c⟩,e⟩
theorem q49{α:Type}{T:Ty α}{R:RH}{v u:Value}{y:α}(f:T.agg=true)(g:PRep (znz v) R u ())(h:VRep T R v y):PRep T R u y:=by
 obtain⟨cs,a,rfl⟩:=h
 have e:T.mk' cs= .agg cs.toArray:=by unfold Ty.mk';rw [f];rfl
 obtain⟨b,off,c,ty,fr,i,j,d,_⟩:=g
 have k:(znz (T.mk' cs)).size=T.size:=by rw [←T.len a,e];simp [znz,Value.cells]
 refine⟨b,off,c,ty,fr,i,j,?_⟩
 rw [k,e] at d
 have:cs=yw c off T.size:=by simpa using d
 rw [←this];exact a
theorem u7{α:Type}{P:Program}{ρ:Option Nat}{l:Nat→Value}{R:RH}{O:List Frag}{dst:Option Tmp}{ty:TypeId}{pos:String}{after:Array Go.Edge}{g:Option (Nat×Bool)}{T:Ty α}{t:TypeId}{x:Operand}{u v:Value}{y:α}
 (a:TyOk P t T) (b:T.agg=true) (c:ev l x=u) (d:PRep (znz v) R u ()) (f:VRep T R v y):Val P ρ ⟨dst,.load t x,ty,pos,after,g⟩ l R O v:=by
 have i:(znz v).size=T.size:=by
  obtain⟨cs,j,rfl⟩:=f
  have e:T.mk' cs= .agg cs.toArray:=by unfold Ty.mk';rw [b];rfl
  rw [←T.len j,e];simp [znz,Value.cells]
 have ht':TyOk P t (znz v):=⟨fun w=>by rw [a.agg w,b];rfl,fun w=>by rw [a.size w,i]⟩
 obtain⟨w,k,h⟩:=zfe (ρ:=ρ) (O:=O) ht' c d
 obtain rfl:=q3r k
 exact h _ _ _ _ _
theorem ug{α:Type}{P:Program}{ρ:Option Nat}{n:Nat}{ops:Array Oper}{Q:Po}{rest:List Oper}{l:Nat→Value}{D:List Nat}{R:RH}{O:List Frag}{ty:TypeId}{pos:String}{after:Array Go.Edge}{d:Nat}{T:Ty α}{e:TypeId}{x:Operand}{v:Value}{y:α}(g:Nat.blt d n=true)(h:ev l x=v)(b:T.agg=true)(c:VRep T R v y)
 (i: ∀ u R',RH.le R R'→PRep (znz v) R' u ()→PRep T R' u y→wo P ρ n ops Q rest (upd l d u) D R' O):wo P ρ n ops Q (⟨some d,.box e x,ty,pos,after,none⟩::rest) l D R O:=
 zfs g h (qd0 b c) fun u R' a f=>i u R' a f (q49 b f (c.mono a))
/-! ### A part of a box that is an array of values of one cell-/
def AG{α:Type}[Inhabited α](T:Ty α)(R:RH)(n:Nat)(g:Nat→Value)(X:List α):Prop:=X.length=n∧ ∀ k,k<n→VRep T R (g k) (X.getD k default)∧(g k).oneCell'=true
theorem AG.mono{α:Type}[Inhabited α]{T:Ty α}{R R':RH}{n:Nat}{g:Nat→Value}{X:List α}(h:AG T R n g X)(a:RH.le R R'):AG T R' n g X:=⟨h.1,fun k b=>⟨(h.2 k b).1.mono a,(h.2 k b).2⟩⟩
section g
variable {P : Program} {ρ : Option Nat} {n : Nat} {ops : Array Oper} {Q : Po} {rest : List Oper} {l : Nat → Value} {D : List Nat} {R : RH} {O : List Frag} {ty : TypeId} {pos : String} {after : Array Go.Edge} {dst : Option Tmp} {g0 : Option (Nat × Bool)}
theorem zc4{α:Type}{T:Ty α}{x:Operand}{v:Value}{y:α}(a:ev l x=v)(d:PRep T R v y):Val P ρ ⟨dst,.nilCheck x,ty,pos,after,g0⟩ l R O v:=by
 obtain⟨b,off,c,ty',fr,rfl,_⟩:=d
 intro A w e;rw [jk (by intro c h;cases h)]
 simp [execOp,a]
theorem zh7{x:Operand}{b o:Nat}(a:ev l x= .pointer (some ⟨b,o,none⟩)):Val P ρ ⟨dst,.nilCheck x,ty,pos,after,g0⟩ l R O (.pointer (some ⟨b,o,none⟩)):=by
 intro A w d;rw [jk (by intro c h;cases h)]
 simp [execOp,a]
end g
/-! ### A slice that keeps its capacity;a new slice that only is read-/
section c
variable {P : Program} {ρ : Option Nat} {n : Nat} {ops : Array Oper} {Q : Po} {rest : List Oper} {l : Nat → Value} {D : List Nat} {R : RH} {O : List Frag} {ty : TypeId} {pos : String} {after : Array Go.Edge} {dst : Option Tmp} {g : Option (Nat × Bool)}
end c
end GV
end Go.Proofs.Ytnnobdkjgafdmaa

namespace Go.Proofs.Ytnnobdkjgafdmaa
namespace GV
def EV(P:Program)(ρ:Option Nat)(o:Oper)(l:Nat→Value)(R:RH)(O:List Frag)(φ:Value→RH→Prop):Prop:= ∃ v,φ v R∧Val P ρ o l R O v
theorem za9{l:Nat→Value}{a:Operand}{az:List Operand}{v:Value}{vs:List Value}(h:ev l a=v)(k:az.map (ev l)=vs):(a::az).map (ev l)=v::vs:=by rw [List.map_cons,h,k]
section ev
variable {P : Program} {ρ : Option Nat} {l : Nat → Value} {R : RH} {O : List Frag} {dst : Option Tmp} {ty : TypeId} {pos : String} {after : Array Go.Edge} {g : Option (Nat × Bool)}
theorem ql{o:Oper}{v:Value}(h:Val P ρ o l R O v):EV P ρ o l R O (phX v):=⟨v,rfl,h⟩
theorem q9u{o:Oper}{v:Value}(h:EV P ρ o l R O (phX v)):Val P ρ o l R O v:=by
 obtain⟨u,a,b⟩:=h
 obtain rfl:u=v:=a
 exact b
theorem zti{o:Oper}{α:Type}{T:Ty α}{x:α}{a:Value}(h:EV P ρ o l R O (phR T x))(b: ∀ R v,VRep T R v x→v=a):Val P ρ o l R O a:=by
 obtain⟨v,c,d⟩:=h
 rwa [b _ _ c] at d
theorem nz{o:Oper}{k:IntKind}{x:Int}(h:EV P ρ o l R O (phR (qb k) x)):Val P ρ o l R O (.int k x):=zti h fun _ _ h=>j5.1 h
theorem zqq{o:Oper}{x:Bool}(h:EV P ρ o l R O (phR pq x)):Val P ρ o l R O (.bool x):=zti h fun _ _ h=>z11.1 h
theorem kw{α:Type}{T:Ty α}{t:TypeId}{x:Operand}{v:Value}{y:α}(a:TyOk P t T)(b:ev l x=v)(c:PRep T R v y):EV P ρ ⟨dst,.load t x,ty,pos,after,g⟩ l R O (phR T y):=
 let⟨u,d,e⟩:=zfe a b c
 ⟨u,d,e _ _ _ _ _⟩
theorem bn{α β:Type}{A:Ty α}{B:Ty β}{s:TypeId}{x:Operand}{f o:Nat}{v:Value}{y:α}{pr:α→β}(a:FieldOk P s f o)(hpart:Part A o B pr)(b:ev l x=v)(c:PRep A R v y):
 EV P ρ ⟨dst,.fieldAddr s x f,ty,pos,after,g⟩ l R O (phP B (pr y)):=
 let⟨u,d,e⟩:=zgi a hpart b c
 ⟨u,d,e _ _ _ _ _⟩
theorem mh{α:Type}[Inhabited α]{T:Ty α}{t e:TypeId}{x ix:Operand}{v:Value}{X:List α}{k:IntKind}{i:Nat}(a:SlOk P t e T)(b:ev l x=v)(c:VRep (yo T) R v X)(hi:ev l ix= .int k i)(d:i<X.length):
 EV P ρ ⟨dst,.indexAddr t x ix,ty,pos,after,g⟩ l R O (phP T (X.getD i default)):=
 let⟨u,f,h⟩:=zgz a b c hi (getD_some d)
 ⟨u,f,h _ _ _ _ _⟩
theorem z4r{α:Type}{T:Ty α}{t e:TypeId}{x ix:Operand}{v:Value}{X:List α}{k:IntKind}{i:Nat}{f:Frag}(a:SlOk P t e T)(c:ev l x=v)(d:ORep T R f v X)(hi:ev l ix= .int k i)(h:i<X.length):
 EV P ρ ⟨dst,.indexAddr t x ix,ty,pos,after,g⟩ l R O (fun u _=>z5s T v X u i):=
 let⟨b,off,j,m⟩:=zgt (O:=O) a c d hi h
 ⟨_,⟨b,off,j,rfl⟩,m _ _ _ _ _⟩
theorem zay{α:Type}[Inhabited α]{T:Ty α}{t:TypeId}{x:Operand}{f:Frag}{v u:Value}{X:List α}{i j:Nat}(a:TyOk P t T)(c:ORep T R f v X)(d:O[j]? =some f)(e:ev l x=u)(h:z5s T v X u i)(k:i<X.length):
 EV P ρ ⟨dst,.load t x,ty,pos,after,g⟩ l R O (phR T (X.getD i default)):=by
 obtain⟨b,off,m,rfl⟩:=h
 obtain⟨y,hy',n⟩:=zjb (ρ:=ρ) (P:=P) a c m d e (getD_some k)
 exact⟨y,hy',n _ _ _ _ _⟩
theorem zav{α β:Type}{A:Ty α}{B:Ty β}{t:TypeId}{m sz i:Nat}{x ix:Operand}{k:IntKind}{v:Value}{y:α}{pr:α→β}(a:ArrOk P t m sz)(hpart:Part A (i*sz) B pr)(b:ev l x=v)(c:PRep A R v y)(hi:ev l ix= .int k i)(d:i<m):
 EV P ρ ⟨dst,.indexAddr t x ix,ty,pos,after,g⟩ l R O (phP B (pr y)):=
 let⟨u,e,f⟩:=zka a hpart b c hi d
 ⟨u,e,f _ _ _ _ _⟩
section nest
variable {α : Type} {t : Bool} {T : Ty α} {F : Frag} {v : Value} {Vs : List Value} {X : List (List α)}
theorem zjv{tt e:TypeId}{x ix:Operand}{k:IntKind}{i:Nat}(a:SlOk P tt e tHdr)(b:ev l x=v)(h:N2 t T R F v Vs X)(hi:ev l ix= .int k i)(d:i<X.length):
 EV P ρ ⟨dst,.indexAddr tt x ix,ty,pos,after,g⟩ l R O (fun u _=>z5s tHdr v Vs u i):=by
 obtain⟨f0,c,_,f⟩:=h.o
 exact z4r a b c hi (by omega)
theorem zm6{tt:TypeId}{x:Operand}{u:Value}{i j:Nat}(a:TyOk P tt tHdr)(h:N2 t T R F v Vs X)(b:O[j]? =some F)(c:ev l x=u)(d:z5s tHdr v Vs u i)(m:i<X.length):
 EV P ρ ⟨dst,.load tt x,ty,pos,after,g⟩ l R O (phX (Vs.getD i default)):=by
 obtain⟨f0,e,hF,n⟩:=h.o
 obtain⟨w,f,k⟩:=zfk (ρ:=ρ) (P:=P) a e hF b c d (getD_some (by omega))
 exact⟨w,ztt f,k _ _ _ _ _⟩
theorem zgh{tt e:TypeId}{x ix:Operand}{k:IntKind}{i r:Nat}(a:SlOk P tt e T)(h:N2 t T R F v Vs X)(b:r<X.length)(c:ev l x=Vs.getD r default)(hi:ev l ix= .int k i)(d:i<(X.getD r default).length):
 EV P ρ ⟨dst,.indexAddr tt x ix,ty,pos,after,g⟩ l R O (fun u _=>z5s T (Vs.getD r default) (X.getD r default) u i):=
 let⟨fk,f,_⟩:=h.row b;z4r a c f hi d
theorem zzh[Inhabited α]{tt:TypeId}{x:Operand}{u:Value}{i r j:Nat}(a:TyOk P tt T)(h:N2 t T R F v Vs X)(b:r<X.length)(c:O[j]? =some F)(d:ev l x=u)(e:z5s T (Vs.getD r default) (X.getD r default) u i)(f:i<(X.getD r default).length):
 EV P ρ ⟨dst,.load tt x,ty,pos,after,g⟩ l R O (phR T ((X.getD r default).getD i default)):=by
 obtain⟨f0,k,hF⟩:=h.row b
 obtain⟨w,m,n⟩:=zfk (ρ:=ρ) (P:=P) a k hF c d e (getD_some f)
 exact⟨w,m,n _ _ _ _ _⟩
end nest
section part
variable {α β : Type} {T : Ty α} {B : Ty β} {X : List α} {v u : Value} {x : Operand} {f : Frag} {i j o fld : Nat} {s t : TypeId} {pr : α → β}
theorem zjq(a:FieldOk P s fld o)(b:ev l x=u)(c:z5s T v X u i):EV P ρ ⟨dst,.fieldAddr s x fld,ty,pos,after,g⟩ l R O (fun u _=>za7 T o v X u i):=by
 obtain⟨u',h,d⟩:=znt (ρ:=ρ) (P:=P) (R:=R) (O:=O) a b c
 exact⟨u',h,d _ _ _ _ _⟩
theorem zv1[Inhabited α]{b:Bool}{Vs:List Value}{X:List (List α)}{F:Frag}{r:Nat}(a:TyOk P t B)(hpart:Part T o B pr)(h:N2 b T R F v Vs X)(c:r<X.length)(d:O[j]? =some F)(e:ev l x=u)(f:za7 T o (Vs.getD r default) (X.getD r default) u i)(k:i<(X.getD r default).length):
 EV P ρ ⟨dst,.load t x,ty,pos,after,g⟩ l R O (phR B (pr ((X.getD r default).getD i default))):=by
 obtain⟨f0,m,hF⟩:=h.row c
 obtain⟨w,n,p⟩:=zgy (ρ:=ρ) (P:=P) a hpart m hF d e f (getD_some k)
 exact⟨w,n,p _ _ _ _ _⟩
end part
end ev
/-! ### In the text's order-/
section wo
variable {P : Program} {ρ : Option Nat} {n : Nat} {Q : Po} {l : Nat → Value} {D : List Nat} {R : RH} {O : List Frag} {ops : Array Oper} {rest : List Oper} {op : Op} {ty : TypeId} {pos : String} {after : Array Go.Edge} {d : Nat} {φ : Value → RH → Prop}
theorem zqg(a:Nat.blt d n=true)(h:EV P ρ ⟨some d,op,ty,pos,after,none⟩ l R O φ)(b: ∀ v,φ v R→wo P ρ n ops Q rest (upd l d v) D R O):wo P ρ n ops Q (⟨some d,op,ty,pos,after,none⟩::rest) l D R O:=
 let⟨v,c,e⟩:=h
 jq a e (b v c)
theorem zoc{a:Act}{j s:Nat}(d:Fr n l D a)(c:z03 ops j=some s)(f:l s=undef):yielded ops a.tmps j=none:=by
 unfold yielded
 unfold z03 at c
 rw [c]
 have b:=d.get s
 rw [f,Array.getD_eq_getD_getElem?] at b
 simp only [Option.bind_some]
 cases h:a.tmps[s]? with
 |none=>rfl
 |some v=>
  rw [h] at b
  have e:v=undef:=b
  rw [e];rfl
theorem q7i{j s:Nat}{want:Bool}(c:z03 ops j=some s)(e:Nat.blt s n=true)(f:l s=undef)(g:Nat.blt d n=true)(i:wo P ρ n ops Q rest (upd l d undef) D R O):
 wo P ρ n ops Q (⟨some d,op,ty,pos,after,some (j,want)⟩::rest) l D R O:=by
 intro a w b k
 have m:=zoc b c f
 have h:=i _ w (b.put (d:=some d) (fun t o=>by cases o;simpa using g) undef) k
 simp only [wlo]
 rw [if_neg (by simp [Region.wanted,m])]
 exact⟨fun _ _=>trivial,h⟩
theorem q7q{j s:Nat}{want Gj Bj:Bool}(b:z03 ops j=some s)(a:Nat.blt s n=true)(c:Nat.blt d n=true)(e:phG Gj (phX (.bool Bj)) (l s) R)
 (hyes:Gj=true→Bj=want→Eff P ρ ⟨some d,op,ty,pos,after,none⟩ l R O fun v R' O'=>O'=O∧φ v R') (f: ∀ v R',RH.le R R'→phG (Gj&&(Bj==want)) φ v R'→wo P ρ n ops Q rest (upd l d v) D R' O):
 wo P ρ n ops Q (⟨some d,op,ty,pos,after,some (j,want)⟩::rest) l D R O:=by
 cases Gj with
 |false=>exact q7i b a (e.2 rfl) c (f _ _ (RH.le.refl _) ⟨fun h=>by(cases h),fun _=>rfl⟩)
 |true=>
  by_cases i:Bj=want
  ·subst i
   refine q7y b a (e.1 rfl) (z2z c (hyes rfl rfl) fun v R' g h=>f v R' g ⟨fun _=>h,fun h=>by simp at h⟩)
  ·have hb':(Bj==want)=false:=by simpa using i
   exact q7s b a (e.1 rfl) hb' c (f _ _ (RH.le.refl _) (by rw [hb'];exact⟨fun h=>by simp at h,fun _=>rfl⟩))
theorem zkj{j s:Nat}{want Gj Bj:Bool}(b:z03 ops j=some s)(a:Nat.blt s n=true)(c:Nat.blt d n=true)(e:phG Gj (phX (.bool Bj)) (l s) R)
 (hyes:Gj=true→Bj=want→EV P ρ ⟨some d,op,ty,pos,after,none⟩ l R O φ) (f: ∀ v,phG (Gj&&(Bj==want)) φ v R→wo P ρ n ops Q rest (upd l d v) D R O):
 wo P ρ n ops Q (⟨some d,op,ty,pos,after,some (j,want)⟩::rest) l D R O:=by
 cases Gj with
 |false=>exact q7i b a (e.2 rfl) c (f _ ⟨fun h=>by(cases h),fun _=>rfl⟩)
 |true=>
  by_cases g:Bj=want
  ·subst g
   obtain⟨v,i,k⟩:=hyes rfl rfl
   exact q7y b a (e.1 rfl) (jq c k (f v ⟨fun _=>i,fun h=>by simp at h⟩))
  ·have hb':(Bj==want)=false:=by simpa using g
   exact q7s b a (e.1 rfl) hb' c (f _ (by rw [hb'];exact⟨fun h=>by simp at h,fun _=>rfl⟩))
theorem qz{j s:Nat}{want Bj:Bool}(b:z03 ops j=some s)(a:Nat.blt s n=true)(c:Nat.blt d n=true)(e:l s= .bool Bj)
 (hyes:Bj=want→EV P ρ ⟨some d,op,ty,pos,after,none⟩ l R O φ) (f: ∀ v,phG (true&&(Bj==want)) φ v R→wo P ρ n ops Q rest (upd l d v) D R O):
 wo P ρ n ops Q (⟨some d,op,ty,pos,after,some (j,want)⟩::rest) l D R O:=zkj b a c (ul e) (fun _=>hyes) f
theorem z6s{j s:Nat}{want Bj:Bool}(b:z03 ops j=some s)(a:Nat.blt s n=true)(c:Nat.blt d n=true)(e:l s= .bool Bj)
 (hyes:Bj=want→Eff P ρ ⟨some d,op,ty,pos,after,none⟩ l R O fun v R' O'=>O'=O∧φ v R') (f: ∀ v R',RH.le R R'→phG (true&&(Bj==want)) φ v R'→wo P ρ n ops Q rest (upd l d v) D R' O):
 wo P ρ n ops Q (⟨some d,op,ty,pos,after,some (j,want)⟩::rest) l D R O:=q7q b a c (ul e) (fun _=>hyes) f
end wo
end GV
end Go.Proofs.Ytnnobdkjgafdmaa

namespace Go.Proofs.Ytnnobdkjgafdmaa
namespace GV
def zus:Op→Option (List Operand)
 | .move x| .assign x| .load _ x| .nilCheck x| .unOp _ _ x| .convert _ _ x| .fieldAddr _ x _| .field _ x _| .extract x _=>some [x]
 | .pick c a b=>some [c,a,b]
 | .binOp _ _ x y _| .indexAddr _ x y| .index _ x y| .lookup _ x y _=>some [x,y]
 | .build _ ps=>some (ps.toList.map (·.2))
 | .makeFunc _ fs cs=>some (fs.toList++cs.toList)
 | .slice _ x lo hi mx=>some (x::(lo.toList++(hi.toList++mx.toList)))
 | .call c=>match c.callee with
  | .builtin _=>some c.args.toList
  |_=>none
 |_=>none
theorem zjm{ρ1 ρ2:Operand→Value}{x:Option Operand}(h: ∀ y∈x.toList,ρ1 y=ρ2 y):x.map ρ1=x.map ρ2:=by
 cases x with
 |none=>rfl
 |some y=>simp [h y (by simp)]
theorem zju{ρ1 ρ2:Operand→Value}{xs:Array Operand}(h: ∀ y∈xs.toList,ρ1 y=ρ2 y):xs.map ρ1=xs.map ρ2:=by
 apply Array.ext'
 rw [Array.toList_map,Array.toList_map]
 exact List.map_congr_left h
theorem zzo{ρ1 ρ2:Operand→Value}{xs:Array (Nat×Operand)}(h: ∀ y∈xs.toList.map (·.2),ρ1 y=ρ2 y):(xs.map fun(i,x)=>(i,ρ1 x))=xs.map fun(i,x)=>(i,ρ2 x):=by
 apply Array.ext'
 rw [Array.toList_map,Array.toList_map]
 refine List.map_congr_left fun p a=>?_
 obtain⟨i,x⟩:=p
 have:=h x (List.mem_map.2 ⟨(i,x),a,rfl⟩)
 simp only [this]
theorem zuo{o:Oper}{xs:List Operand}{ρ1 ρ2:Operand→Value}(h:zus o.op=some xs)(a: ∀ x∈xs,ρ1 x=ρ2 x):execOp ρ1 o=execOp ρ2 o:=by
 obtain⟨dst,op,ty,pos,after,g⟩:=o
 dsimp only at h
 cases op<;>simp only [zus,Option.some.injEq,reduceCtorEq] at h
 case call c=>
  obtain⟨cal,args,at'⟩:=c
  cases cal<;>simp only [Option.some.injEq,reduceCtorEq] at h
  subst h
  simp only [execOp,resolve,zju a]
 case build t ps=>subst h;simp only [execOp,zzo a]
 case makeFunc f fs cs=>
  subst h
  simp only [execOp,zju (xs:=fs) (fun y b=>a y (List.mem_append_left _ b)),zju (xs:=cs) (fun y b=>a y (List.mem_append_right _ b))]
 case slice t x lo hi mx=>
  subst h
  simp only [execOp,a x (List.mem_cons_self ..),zjm (x:=lo) (fun y b=>a y (by simp [b])),zjm (x:=hi) (fun y b=>a y (by simp [b])),zjm (x:=mx) (fun y b=>a y (by simp [b]))]
 all_goals subst h;simp only [List.mem_cons,List.not_mem_nil,or_false,forall_eq_or_imp,forall_eq] at a;simp only [execOp,a]
theorem zqi{op:Op}{xs:List Operand}(h:zus op=some xs): ∀ c,op≠ .defer c:=by
 intro c e;subst e;simp [zus] at h
theorem zwk{R R':RH}{O:List Frag}{w:World}(h:Holds R' O w)(a:R.le R'):Holds R O w:=by
 refine⟨fun k o b=>h.ro k o (a.blk k o b),fun f c k o b=>⟨(h.own f c k o b).1,?_⟩,h.sep,by rw [←a.os];exact h.os,by rw [←a.out];exact h.out⟩
 cases e:R.blk k with
 |none=>rfl
 |some o'=>
  have:=a.blk k o' e
  rw [(h.own f c k o b).2] at this;cases this
theorem zzb{P:Program}{ρ:Option Nat}{o:Oper}{l l':Nat→Value}{R R':RH}{O:List Frag}{v:Value}{xs:List Operand}(h:Val P ρ o l R O v)(c:zus o.op=some xs)(e: ∀ s,.tmp s∈xs→l' s=l s)(a:R.le R'):Val P ρ o l' R' O v:=by
 intro A w f
 have d:=h A w (zwk f a)
 have g:=zqi c
 rw [jk g] at d⊢
 rw [zuo c (ρ2:=ev l) fun x b=>?_]
 ·exact d
 ·cases x with
  |tmp s=>exact e s b
  |_=>rfl
def wv(P:Program)(ρ:Option Nat)(R:RH)(O:List Frag):List Oper→(Nat→Value)→((Nat→Value)→Prop)→Prop
 | [],l,K=>K l
 |o::r,l,K=> ∃ d v,o.dst=some d∧Val P ρ o l R O v∧wv P ρ R O r (upd l d v) K
section wv
variable {P : Program} {ρ : Option Nat} {n : Nat} {Q : Po} {l : Nat → Value} {D : List Nat} {R : RH} {O : List Frag} {rest : List Oper} {op : Op} {ty : TypeId} {pos : String} {after : Array Go.Edge} {d : Nat} {φ : Value → RH → Prop} {K : (Nat → Value) → Prop} {g : Option (Nat × Bool)}
theorem uw{v:Value}(h:Val P ρ ⟨some d,op,ty,pos,after,g⟩ l R O v)(a:wv P ρ R O rest (upd l d v) K):wv P ρ R O (⟨some d,op,ty,pos,after,g⟩::rest) l K:=⟨d,v,rfl,h,a⟩
theorem z3n(h:EV P ρ ⟨some d,op,ty,pos,after,g⟩ l R O φ)(a: ∀ v,φ v R→wv P ρ R O rest (upd l d v) K):wv P ρ R O (⟨some d,op,ty,pos,after,g⟩::rest) l K:=
 let⟨v,b,c⟩:=h
 ⟨d,v,rfl,c,a v b⟩
def q53(gs:List Oper)(s:Nat):Option Nat:=gs.findIdx? fun o=>o.dst==some s
def clV(gs:List Oper):Bool:=gs.zipIdx.all fun(o,i)=>o.guard.isNone&&(match zus o.op with
 |none=>false
 |some xs=>xs.all fun x=>match x with
  | .tmp s=>(match q53 gs s with|none=>true|some j=>Nat.blt j i&&o.after.toList.any fun e=>Nat.beq e.on j&&Region.binds .any e)
  |_=>true)
def zlh(l:Nat→Value):List (Nat×Value)→Nat→Value
 | []=>l
 |(d,v)::r=>zlh (upd l d v) r
theorem zrb{s d:Nat}{v:Value}(h:s≠d):upd l d v s=l s:=by
 unfold upd
 have:Nat.beq s d=false:=by
  cases hb:Nat.beq s d
  ·rfl
  ·exact absurd (Nat.eq_of_beq_eq_true hb) h
 rw [this];rfl
theorem zxy{d:Nat}{v:Value}:upd l d v d=v:=by unfold upd;simp
theorem zhr{s:Nat}: ∀ {acc:List (Nat×Value)} {l:Nat→Value},s∉acc.map (·.1)→zlh l acc s=l s
 | [],_,_=>rfl
 |(d,v)::r,l,h=>by
  simp only [List.map_cons,List.mem_cons,not_or] at h
  rw [zlh,zhr h.2,zrb h.1]
theorem zq0{s:Nat}{v:Value}: ∀ {acc:List (Nat×Value)} {l:Nat→Value} {j:Nat},acc[j]? =some (s,v)→(acc.map (·.1)).Nodup→zlh l acc s=v
 | [],_,_,h,_=>by simp at h
 |(d,u)::r,l,0,h,a=>by
  simp only [List.getElem?_cons_zero,Option.some.injEq,Prod.mk.injEq] at h
  obtain⟨rfl,rfl⟩:=h
  simp only [List.map_cons,List.nodup_cons] at a
  rw [zlh,zhr a.1,zxy]
 |(d,u)::r,l,j+1,h,a=>by
  simp only [List.map_cons,List.nodup_cons] at a
  rw [zlh]
  exact zq0 (j:=j) (by simpa using h) a.2
theorem zs9{s:Nat}: ∀ {acc:List (Nat×Value)},s∉acc.map (·.1)→z6p l acc s=l s
 | [],_=>rfl
 |(d,v)::r,h=>by
  simp only [List.map_cons,List.mem_cons,not_or] at h
  rw [z6p,zrb h.1,zs9 h.2]
theorem zx9{s:Nat}{v:Value}: ∀ {acc:List (Nat×Value)} {j:Nat},acc[j]? =some (s,v)→(acc.map (·.1)).Nodup→z6p l acc s=v
 | [],_,h,_=>by simp at h
 |(d,u)::r,0,h,a=>by
  simp only [List.getElem?_cons_zero,Option.some.injEq,Prod.mk.injEq] at h
  obtain⟨rfl,rfl⟩:=h
  rw [z6p,zxy]
 |(d,u)::r,j+1,h,a=>by
  simp only [List.map_cons,List.nodup_cons] at a
  have h':r[j]? =some (s,v):=by simpa using h
  have b:s∈r.map (·.1):=List.mem_map.2 ⟨_,List.mem_of_getElem? h',rfl⟩
  rw [z6p,zrb (fun e=>a.1 (by rw [←e];exact b))]
  exact zx9 h' a.2
theorem q1e{acc:List (Nat×Value)}(a:(acc.map (·.1)).Nodup):zlh l acc=z6p l acc:=by
 funext s
 by_cases h:s∈acc.map (·.1)
 ·obtain⟨⟨d,v⟩,b,rfl⟩:=List.mem_map.1 h
  obtain⟨j,c,e⟩:=List.mem_iff_getElem.1 b
  have h':acc[j]? =some (d,v):=by rw [List.getElem?_eq_getElem c,e]
  rw [zq0 h' a,zx9 h' a]
 ·rw [zhr h,zs9 h]
def zm3(gs:List Oper)(vs:List Value):List (Nat×Value):=(gs.zip vs).map fun p=>(p.1.dst.getD 0,p.2)
theorem zye: ∀ {os:List Oper} {l:Nat→Value},wv P ρ R O os l K→ ∃ vs:List Value,vs.length=os.length∧(∀ o∈os,o.dst.isSome=true)∧
 (∀ (i:Nat) o v,os[i]? =some o→vs[i]? =some v→Val P ρ o (zlh l ((zm3 os vs).take i)) R O v)∧K (zlh l (zm3 os vs))
 | [],l,h=>⟨[],rfl,fun o c=>by simp at c,fun i o v h=>by simp at h,h⟩
 |o::r,l,⟨d,v,a,e,f⟩=>by
  obtain⟨vs,g,j,k,m⟩:=zye f
  refine⟨v::vs,by simp [g],fun o' ho'=>?_,fun i o' u hi b=>?_,?_⟩
  ·rcases List.mem_cons.1 ho' with rfl|ho'
   ·rw [a];rfl
   ·exact j o' ho'
  ·cases i with
   |zero=>
    simp only [List.getElem?_cons_zero,Option.some.injEq] at hi b
    subst hi;subst b
    exact e
   |succ i=>
    have:=k i o' u (by simpa using hi) (by simpa using b)
    simpa [zm3,zlh,a] using this
  ·simpa [zm3,zlh,a] using m
theorem ztp{gs:List Oper}{φs:List (Value→RH→Prop)}{l:Nat→Value}{R:RH}: ∀ {es:List Go.Edge},zz9 gs φs l R es→ ∀ e∈es,Region.binds .any e=true→ ∀ d,di gs e.on=some d→phi φs e.on (l d) R
 | [],_,e,a,_,_,_=>by simp at a
 |e'::es,h,e,a,b,d,c=>by
  rcases List.mem_cons.1 a with rfl|a
  ·have:=h.1
   rw [c] at this
   exact this b
  ·exact ztp h.2 e a b d c
theorem zxq{gs:List Oper}{al:List NewBox}{φs:List (Value→RH→Prop)}{l0:Nat→Value}{R0:RH}: ∀ {os:List Oper} {k:Nat},
 (∀ (i:Nat) (o:Oper),os[i]? =some o→ ∀ l R,RH.le R0 R→Agree gs l0 l→zz9 gs φs l R o.after.toList→GStep P ρ gs al φs O (k+i) o l R)→zvu P ρ gs al φs l0 R0 O k os
 | [],_,_=>trivial
 |o::os,k,h=>⟨h 0 o rfl,zxq fun i o' hi=>by have:=h (i+1) o' (by simpa using hi);rwa [show k+(i+1)=k+1+i from by omega] at this⟩
theorem zy8{φs:List (Value→RH→Prop)}{R:RH}: ∀ {os:List Oper} {vs:List Value} {k:Nat} {K:List (Nat×Value)→Prop},vs.length=os.length→(∀ (i:Nat) v,vs[i]? =some v→phi φs (k+i)=phX v)→K (zm3 os vs)→zul φs R K k os
 | [],vs,k,K,a,_,h=>by
  have:vs=[]:=List.length_eq_zero_iff.1 a
  subst this;exact h
 |o::os,[],k,K,a,_,_=>by simp at a
 |o::os,v::vs,k,K,a,b,h=>fun u c=>by
  rw [show k=k+0 from rfl,b 0 v rfl] at c
  obtain rfl:u=v:=c
  exact zy8 (vs:=vs) (by simpa using a) (fun i w hi=>by have:=b (i+1) w (by simpa using hi);rwa [show k+(i+1)=k+1+i from by omega] at this) h
theorem z4j{id:Nat}{os:List Oper}(m:Nat)(V:P.follows .mixedOrders=true)(c:zf2 (os.take m) [] n (os.drop m)=true)(r:clV (os.take m)=true)
 (h:wv P ρ R O (os.take m) l fun l'=> ∀ R',RH.le R R'→wo P ρ n os.toArray Q (os.drop m) l' D R' O):wg P ρ n (.region id os.toArray true) Q l D R O:=by
 obtain⟨vs,C,M,N,S⟩:=zye h
 have f:=(zbs c).2.1
 generalize hg:os.take m=gs at C M N S f r c
 have hacc:(zm3 gs vs).map (·.1)=ze8 gs:=by
  unfold zm3 ze8
  rw [List.map_map]
  have: ∀ (gs:List Oper) (vs:List Value),vs.length=gs.length→(∀ o∈gs,o.dst.isSome=true)→(gs.zip vs).map ((fun x:Nat×Value=>x.1)∘fun p=>(p.1.dst.getD 0,p.2))=gs.filterMap (·.dst):=by
   intro gs
   induction gs with
   |nil=>intro vs _ _;simp
   |cons o gs ih=>
    intro vs T A
    cases vs with
    |nil=>simp at T
    |cons v vs=>
     obtain⟨d,E⟩:=Option.isSome_iff_exists.1 (A o (List.mem_cons_self ..))
     simp only [List.zip_cons_cons,List.map_cons,List.filterMap_cons,E,Function.comp_apply,Option.getD_some]
     rw [ih vs (by simpa using T) (fun o' ho'=>A o' (List.mem_cons_of_mem _ ho'))]
  exact this gs vs C M
 have hphi: ∀ (i:Nat) v,vs[i]? =some v→phi (vs.map phX) i=phX v:=fun i v hi=>by
  unfold phi
  rw [List.getD_eq_getElem?_getD,List.getElem?_map,hi];rfl
 have hmono:zj3 (vs.map phX):=fun k v R R' a q=>by
  unfold phi at q⊢
  rw [List.getD_eq_getElem?_getD,List.getElem?_map] at q⊢
  cases e:vs[k]? with
  |none=>trivial
  |some u=>rw [e] at q;exact q
 have haget: ∀ (i:Nat) o v,gs[i]? =some o→vs[i]? =some v→ ∀ d,o.dst=some d→(zm3 gs vs)[i]? =some (d,v):=fun i o v hi B d E=>by
  unfold zm3
  rw [List.getElem?_map,List.getElem?_zip_eq_some (z:=(o,v))|>.2 ⟨hi,B⟩]
  simp [E]
 refine oh (m:=m) [] (vs.map phX) V (by rw [hg];exact c) hmono (by
  rw [hg]
  refine zxq fun i o hi l' R' a F hdep=>?_
  rw [Nat.zero_add]
  have W:i<gs.length:=(List.getElem?_eq_some_iff.1 hi).1
  obtain⟨v,B⟩: ∃ v,vs[i]? =some v:=⟨vs[i]'(by omega),List.getElem?_eq_getElem (by omega)⟩
  have g:=List.all_eq_true.1 r (o,i) (List.mem_iff_getElem?.2 ⟨i,by rw [List.getElem?_zipIdx,hi];simp⟩)
  simp only [Bool.and_eq_true] at g
  obtain⟨G,g⟩:=g
  refine za (Option.isNone_iff_eq_none.1 G) rfl (hphi i v B) (q8 ?_)
  cases hx:zus o.op with
  |none=>rw [hx] at g;exact absurd g Bool.false_ne_true
  |some xs=>
   rw [hx] at g
   refine zzb (N i o v hi B) hx (fun s A=>?_) a
   have b:=List.all_eq_true.1 g (.tmp s) A
   dsimp only at b
   have t:((zm3 gs vs).take i).map (·.1)=(ze8 gs).take i:=by rw [List.map_take,hacc]
   cases hsl:q53 gs s with
   |none=>
    have w:s∉ze8 gs:=fun hm'=>by
     obtain⟨o',ho',e⟩:=List.mem_filterMap.1 hm'
     have:=List.findIdx?_eq_none_iff.1 hsl o' ho'
     rw [e] at this;simp at this
    rw [F s (by simpa using w),zhr (by rw [t];exact fun h=>w (List.mem_of_mem_take h))]
   |some j=>
    rw [hsl] at b
    simp only [Bool.and_eq_true,List.any_eq_true] at b
    obtain⟨H,e,X,I,J⟩:=b
    have hji':j<i:=by simpa using H
    have hej':e.on=j:=Nat.eq_of_beq_eq_true I
    obtain⟨o',ho',hd'⟩: ∃ o',gs[j]? =some o'∧o'.dst=some s:=by
     have:=List.findIdx?_eq_some_iff_getElem.1 hsl
     obtain⟨Y,q,_⟩:=this
     exact⟨gs[j],List.getElem?_eq_getElem Y,by simpa using q⟩
    have Z:j<gs.length:=(List.getElem?_eq_some_iff.1 ho').1
    obtain⟨u,U⟩: ∃ u,vs[j]? =some u:=⟨vs[j]'(by omega),List.getElem?_eq_getElem (by omega)⟩
    have K:di gs e.on=some s:=by unfold di;rw [hej',ho'];exact hd'
    have y:=ztp hdep e X J s K
    rw [hej',hphi j u U] at y
    have L:((zm3 gs vs).take i)[j]? =some (s,u):=by rw [List.getElem?_take,if_pos hji'];exact haget j o' u ho' U s hd'
    rw [zq0 L (by rw [t];exact List.Nodup.sublist (List.take_sublist _ _) f)]
    exact y) fun R' a=>?_
 rw [hg]
 refine zy8 C (fun i v hi=>by rw [Nat.zero_add];exact hphi i v hi) ?_
 rw [←q1e (by rw [hacc];exact f)]
 exact S R' a
end wv
/-! ### Shorter laws-/
section short
variable {P : Program} {ρ : Option Nat} {n : Nat} {Q : Po} {l : Nat → Value} {D : List Nat} {R : RH} {O : List Frag} {γ : Type} {ops : Array Oper} {rest : List Oper} {d : Nat} {ty : TypeId} {pos : String} {after : Array Go.Edge}
theorem zu{c:Operand}{x y:Code}{α:Type}{b:Bool}{p q:Option α}{r:α}(d:ev l c= .bool b)(a:(bif b then p else q)=some r)(f:p=some r→wg P ρ n x Q l D R O)(g:q=some r→wg P ρ n y Q l D R O):wg P ρ n (.cond c x y) Q l D R O:=
 zhm d (fun e=>f (qbp e a)) (fun e=>g (qbw e a))
theorem qp{x y:Code}(W:List Nat)(S:γ→List (Nat×Value))(F:γ→List Frag)(K:γ→RH→Prop)(b:wg P ρ n x (thn (qad true D W l R S F K) Q) l D R O)
 (c: ∀ g j R',RH.le R R'→K g R'→wg P ρ n y Q (z6p (mask W j l) (S g)) D R' (F g)):wg P ρ n (.seq x y) Q l D R O:=
 zxo true W S F K b fun g j D' R' d a e=>by obtain rfl:=d rfl;exact c g j R' a e
theorem jc{c:Code}(W:List Nat)(S:γ→List (Nat×Value))(F:γ→List Frag)(K:γ→RH→Prop)(μ:γ→Nat)(a:γ)
 (d: ∃ J,O.Perm (J++F a)) (e:K a R)
 (round: ∀ g j R',RH.le R R'→K g R'→wg P ρ n c (thn (q7t true D W (z6p (mask W j l) (S g)) R' S F K μ (μ g)) Q) (z6p (mask W j l) (S g)) D R' (F g))
 (f:ztn l (S a):=by repeat (first|exact trivial|refine⟨rfl,?_⟩)) (h: ∀ g,((S g).all fun p=>W.elem p.1)=true:=by exact fun _=>rfl):wg P ρ n (.loop c) Q l D R O:=
 zs6 true W S F K μ a f d e h fun g j D' R' i b k=>by obtain rfl:=i rfl;exact round g j R' b k
theorem zl{op:Op}{v:Value}(h:Val P ρ ⟨some d,op,ty,pos,after,none⟩ l R O v)(a:wo P ρ n ops Q rest (upd l d v) D R O)(b:Nat.blt d n=true:=by exact rfl):wo P ρ n ops Q (⟨some d,op,ty,pos,after,none⟩::rest) l D R O:=jq b h a
theorem zh{x:Operand}(v:Value)(a:wo P ρ n ops Q rest (upd l d v) D R O)(b:ev l x=v:=by exact rfl)(c:Nat.blt d n=true:=by exact rfl):wo P ρ n ops Q (⟨some d,.move x,ty,pos,after,none⟩::rest) l D R O:=jq c (zf b) a
theorem zi{x:Operand}(v:Value)(a:wo P ρ n ops Q rest (upd l d v) D R O)(b:ev l x=v:=by exact rfl)(c:Nat.blt d n=true:=by exact rfl):wo P ρ n ops Q (⟨some d,.assign x,ty,pos,after,none⟩::rest) l D R O:=jq c (l9 b) a
theorem zk{id:Nat}{os:List Oper}{y:Code}(h:wo P ρ n os.toArray (thn (wg P ρ n y Q) Q) os l D R O):wg P ρ n (.seq (.region id os.toArray false) y) Q l D R O:=zt (zm h)
theorem j4{id:Nat}{os:List Oper}{y:Code}{Q':Po}(h:wo P ρ n os.toArray (thn (wg P ρ n y Q) Q) os l D R O):wo P ρ n ops (thn (wg P ρ n (.seq (.region id os.toArray false) y) Q) Q') [] l D R O:=z8 (zk h)
def rs:List Nat→List Nat|a::b::r=>List.range' a (b-a)++rs r|_=>[]
abbrev vi (x:Int):Value:= .int .i64 x
abbrev vs0:Value:= .slice none 0 0
theorem dkt{c:Prop}{α:Type}{x:α}:c→x=x:=fun _=>rfl
theorem q3m{a b:Prop}[Decidable a][Decidable b]{α:Type}{k:Option α}{r:α}(h:gd a (gd b k)=some r):a∧b∧k=some r:=⟨(zb h).1,zb (zb h).2⟩
theorem q3j{a b c:Prop}[Decidable a][Decidable b][Decidable c]{α:Type}{k:Option α}{r:α}(h:gd a (gd b (gd c k))=some r):a∧b∧c∧k=some r:=⟨(zb h).1,q3m (zb h).2⟩
theorem q3u{a b c d:Prop}[Decidable a][Decidable b][Decidable c][Decidable d]{α:Type}{k:Option α}{r:α}(h:gd a (gd b (gd c (gd d k)))=some r):a∧b∧c∧d∧k=some r:=⟨(zb h).1,q3j (zb h).2⟩
theorem q3b{a b c d e:Prop}[Decidable a][Decidable b][Decidable c][Decidable d][Decidable e]{α:Type}{k:Option α}{r:α}(h:gd a (gd b (gd c (gd d (gd e k))))=some r):a∧b∧c∧d∧e∧k=some r:=⟨(zb h).1,q3u (zb h).2⟩
theorem qb7{a b c d e f:Prop}[Decidable a][Decidable b][Decidable c][Decidable d][Decidable e][Decidable f]{α:Type}{k:Option α}{r:α}(h:gd a (gd b (gd c (gd d (gd e (gd f k)))))=some r):a∧b∧c∧d∧e∧f∧k=some r:=⟨(zb h).1,q3b (zb h).2⟩
theorem prm{O:List Frag}: ∃ J,O.Perm (J++O):=⟨[],List.Perm.refl _⟩
end short
end GV
end Go.Proofs.Ytnnobdkjgafdmaa

namespace Go.Proofs.Ytnnobdkjgafdmaa
namespace GV
section a
variable {P : Program} {ρ : Option Nat} {l : Nat → Value} {R : RH} {O : List Frag} {ty : TypeId} {pos : String} {after : Array Go.Edge} {dst : Option Tmp} {g : Option (Nat × Bool)}
variable {α : Type} {T : Ty α} {X : List α} {v : Value} {x y : Operand} {f : Frag} {t e : TypeId}
end a
end GV
end Go.Proofs.Ytnnobdkjgafdmaa

namespace Go.Proofs.Ytnnobdkjgafdmaa
namespace GV
abbrev okSh (k:IntKind) (y:Int):Prop:=0≤y∧y≤(k.bits:Int)
abbrev okB (k:IntKind) (x y:Int):Prop:=(0≤x∧x≤k.max)∧0≤y∧y≤k.max
def lh(k:IntKind)(x y:Int):Int:=k.wrap (x*2^y.toNat)
def ow(x y:Int):Int:=x.fdiv (2^y.toNat)
def z2t(x y:Int):Int:=((x.toNat&&&y.toNat:Nat):Int)
def ior(x y:Int):Int:=((x.toNat|||y.toNat:Nat):Int)
theorem zrw(k:IntKind): ∃ m:Nat,k.max=((2^m:Nat):Int)-1∧m≤k.bits:=by
 cases k
 ·exact⟨7,by decide,by decide⟩
 ·exact⟨15,by decide,by decide⟩
 ·exact⟨31,by decide,by decide⟩
 ·exact⟨63,by decide,by decide⟩
 ·exact⟨8,by decide,by decide⟩
 ·exact⟨16,by decide,by decide⟩
 ·exact⟨32,by decide,by decide⟩
 ·exact⟨64,by decide,by decide⟩
theorem z6o(k:IntKind){r:Int}(a:0≤r)(h:r≤k.max):k.wrap r=r:=by
 cases k<;>simp [IntKind.wrap,IntKind.max,IntKind.signed,IntKind.bits] at* <;>omega
theorem q8x{b:Nat}{x:Int}(a:0≤x)(c:x<((2^b:Nat):Int)):(BitVec.ofInt b x).toNat=x.toNat:=by
 rw [BitVec.toNat_ofInt,Int.emod_eq_of_lt a c]
theorem zpq{k:IntKind}{x:Int}(h:0≤x∧x≤k.max):(BitVec.ofInt k.bits x).toNat=x.toNat:=by
 obtain⟨m,b,a⟩:=zrw k
 have c:((2^m:Nat):Int)≤((2^k.bits:Nat):Int):=by exact_mod_cast Nat.pow_le_pow_right (by decide) a
 exact q8x h.1 (by omega)
theorem q2y{k:IntKind}{x y:Int}{f:Nat→Nat→Nat}(c: ∀ n a b,a<2^n→b<2^n→f a b<2^n)(h:okB k x y):((f x.toNat y.toNat:Nat):Int)≤k.max:=by
 obtain⟨m,d,e⟩:=zrw k
 obtain⟨⟨g,i⟩,j,l⟩:=h
 have:=c m x.toNat y.toNat (by omega) (by omega)
 omega
section a
variable {P : Program} {ρ : Option Nat} {l : Nat → Value} {R : RH} {O : List Frag} {ty : TypeId} {pos : String} {after : Array Go.Edge} {dst : Option Tmp} {g : Option (Nat × Bool)}
theorem ztw{op:BinOp}{k:IntKind}{t t':TypeId}{x y:Operand}{m n r:Int}(a:ev l x= .int k m)(b:ev l y= .int k n)(h: ∀ w,(Op.intBits op k m n).run P w= .ok (.int k r) w)(d:op= .and∨op= .or∨op= .xor):
 Val P ρ ⟨dst,.binOp op t x y t',ty,pos,after,g⟩ l R O (.int k r):=by
 intro A w _;rw [jk (by intro c h;cases h)]
 refine z0t a b ?_
 rcases d with rfl|rfl|rfl
 all_goals
  show (if k≠k then _ else Op.intBits _ k m n:Sem Value).run P w=_
  rw [if_neg (by simp)]
  exact h w
theorem z9r{k:IntKind}{t t':TypeId}{x y:Operand}{m n:Int}(c:ev l x= .int k m)(d:ev l y= .int k n)(h:okB k m n):Val P ρ ⟨dst,.binOp .and t x y t',ty,pos,after,g⟩ l R O (.int k (z2t m n)):=
 ztw c d (fun w=>by
  show Result.ok (Value.int k (k.wrap ((BitVec.ofInt k.bits m&&&BitVec.ofInt k.bits n).toNat:Nat))) w=_
  rw [BitVec.toNat_and,zpq h.1,zpq h.2,z6o k (Int.natCast_nonneg _) (q2y (f:=fun a b=>a&&&b) (fun n a b h _=>Nat.lt_of_le_of_lt Nat.and_le_left h) h)];rfl) (.inl rfl)
theorem zhl{k:IntKind}{t t':TypeId}{x y:Operand}{m n:Int}(c:ev l x= .int k m)(d:ev l y= .int k n)(h:okB k m n):Val P ρ ⟨dst,.binOp .or t x y t',ty,pos,after,g⟩ l R O (.int k (ior m n)):=
 ztw c d (fun w=>by
  show Result.ok (Value.int k (k.wrap ((BitVec.ofInt k.bits m|||BitVec.ofInt k.bits n).toNat:Nat))) w=_
  rw [BitVec.toNat_or,zpq h.1,zpq h.2,z6o k (Int.natCast_nonneg _) (q2y (f:=fun a b=>a|||b) (fun n a b e i=>Nat.or_lt_two_pow e i) h)];rfl) (.inr (.inl rfl))
theorem zoo{w:World}{op:BinOp}{t t':TypeId}{x y:Operand}{k yk:IntKind}{m n:Int}{v:Value}(d:ev l x= .int k m)(e:ev l y= .int yk n)(f:op= .shl∨op= .shr)
 (a:(Op.shift op k m yk n).run P w= .ok v w):(execOp (ev l) (⟨dst,.binOp op t x y t',ty,pos,after,g⟩:Oper)).run P w= .ok (.value v) w:=by
 rcases f with rfl|rfl
 ·have b:(eqGuard .shl t x y (.int k m) (.int yk n)).run P w= .ok () w:=rfl
  have c:(binOp .shl t (.int k m) (.int yk n)).run P w= .ok v w:=a
  simp only [execOp,d,e,Sem.run_bind,b,Result.andThen_ok,c]
  rfl
 ·have b:(eqGuard .shr t x y (.int k m) (.int yk n)).run P w= .ok () w:=rfl
  have c:(binOp .shr t (.int k m) (.int yk n)).run P w= .ok v w:=a
  simp only [execOp,d,e,Sem.run_bind,b,Result.andThen_ok,c]
  rfl
theorem q2b{k:IntKind}{n:Int}(h:okSh k n):min n.toNat k.bits=n.toNat:=by
 obtain⟨a,b⟩:=h;omega
theorem z7c{k yk:IntKind}{t t':TypeId}{x y:Operand}{m n:Int}(a:ev l x= .int k m)(b:ev l y= .int yk n)(h:okSh k n):Val P ρ ⟨dst,.binOp .shl t x y t',ty,pos,after,g⟩ l R O (.int k (lh k m n)):=by
 intro A w _;rw [jk (by intro c h;cases h)]
 refine zoo a b (.inl rfl) ?_
 have d:=h.1
 simp only [Op.shift]
 rw [if_neg (by omega),q2b h];rfl
theorem z8l{k yk:IntKind}{t t':TypeId}{x y:Operand}{m n:Int}(a:ev l x= .int k m)(b:ev l y= .int yk n)(h:okSh k n):Val P ρ ⟨dst,.binOp .shr t x y t',ty,pos,after,g⟩ l R O (.int k (ow m n)):=by
 intro A w _;rw [jk (by intro c h;cases h)]
 refine zoo a b (.inr rfl) ?_
 have d:=h.1
 simp only [Op.shift]
 rw [if_neg (by omega),q2b h];rfl
theorem zlz{t:TypeId}{x y:Operand}{s:ByteArray}{k:IntKind}{i:Nat}{L:List Int}(a:P.underlying t=some .string)(d:ev l x= .string s)(e:s.data.toList.map (fun b=>(b.toNat:Int))=L)(f:ev l y= .int k i)(hi:i<L.length):
 Val P ρ ⟨dst,.index t x y,ty,pos,after,g⟩ l R O (.int .u8 (L.getD i default)):=by
 intro A w _;rw [jk (by intro c h;cases h)]
 subst e
 rw [List.length_map] at hi
 have hi':i<s.data.size:=by simpa using hi
 have j:s[i]? =some s.data[i]:=by
  have:i<s.size:=hi'
  rw [getElem?_pos s i this];rfl
 have m:(s.data.toList.map (fun b=>(b.toNat:Int))).getD i default=(s.data[i].toNat:Int):=by
  rw [List.getD_eq_getElem?_getD,List.getElem?_map,List.getElem?_eq_getElem hi];simp
 rw [m]
 simp [execOp,d,f,Instr.index,asIntOf,underlying,a,j]
end a
end GV
end Go.Proofs.Ytnnobdkjgafdmaa

namespace Go.Proofs.Ytnnobdkjgafdmaa
namespace GV
section a
variable {P : Program} {ρ : Option Nat} {l : Nat → Value} {R : RH} {O : List Frag} {dst : Option Tmp} {ty : TypeId} {pos : String} {after : Array Go.Edge} {g : Option (Nat × Bool)}
theorem ztd{n i:Nat}{X:Arr n Int}{k kk:IntKind}{t e:TypeId}{x y:Operand}(b:P.underlying t=some (.array n e))(d: ∀ w,(sizeOf e).run P w= .ok 1 w)(f: ∀ w,(isAgg e).run P w= .ok false w)(j:ev l x= .agg (z4n (fun x:Int=>[Value.int k x]) X).toArray)(m:ev l y= .int kk i)(hi:i<n):
 Val P ρ ⟨dst,.index t x y,ty,pos,after,g⟩ l R O (.int k (X.1.getD i default)):=by
 intro A w _;rw [jk (by intro c h;cases h)]
 have a:=zw0 (cl:=fun x:Int=>[Value.int k x]) (X:=X) (i:=i) (sz:=1) (fun _=>rfl) hi
 have p:=zja (cl:=fun x:Int=>[Value.int k x]) (sz:=1) (fun _=>rfl) X
 have o:(z4n (fun x:Int=>[Value.int k x]) X)[i]? =some (.int k (X.1.getD i default)):=by
  rw [Nat.mul_one] at a
  have:=congrArg (·[0]?) a
  simpa [List.getElem?_take,List.getElem?_drop] using this
 simp [execOp,j,m,Instr.index,asIntOf,underlying,b,part,d,f,o]
 exact fun h=>absurd hi (Nat.not_lt.2 h)
end a
end GV
end Go.Proofs.Ytnnobdkjgafdmaa

namespace Go.Proofs.Ytnnobdkjgafdmaa
namespace GV
structure RowTy (γ β α:Type) where
 H:Ty β
 T:Ty α
 en:γ→Value→β
 row:γ→List α
section ns
variable {γ β α : Type} [Inhabited γ]
def NV(K:RowTy γ β α)(R:RH)(F:Frag)(v:Value)(Vs:List Value)(X:List γ):Prop:=
 ∃ f0 Fs,Vs.length=X.length∧ORep K.H R f0 v (List.zipWith K.en X Vs)∧Has F f0∧Rows K.T R F Vs (X.map K.row) Fs (fun _=>False)∧ ∀ j,j<X.length→Apart f0 (Fs.getD j emp)
def NVh(K:RowTy γ β α)(k:Nat)(R:RH)(F:Frag)(v:Value)(Vs:List Value)(X:List γ):Prop:=
 ∃ f0 Fs,Vs.length=X.length∧ORep K.H R f0 v (List.zipWith K.en X Vs)∧Has F f0∧Rows K.T R F Vs (X.map K.row) Fs (fun j=>j=k)∧ ∀ j,j<X.length→j≠k→Apart f0 (Fs.getD j emp)
def NS(K:RowTy γ β α)(P:List Value)(R:RH)(F:Frag)(v:Value)(X:List γ):Prop:= ∃ Vs,P<+:Vs∧NV K R F v Vs X
variable {K : RowTy γ β α} {R R' : RH} {F : Frag} {v : Value} {Vs P : List Value} {X : List γ}
theorem NV.mono(h:NV K R F v Vs X)(f:RH.le R R'):NV K R' F v Vs X:=let⟨f0,Fs,a,b,c,d,e⟩:=h;⟨f0,Fs,a,b.mono f,c,d.mono f,e⟩
theorem NS.mono(h:NS K P R F v X)(c:RH.le R R'):NS K P R' F v X:=let⟨Vs,a,b⟩:=h;⟨Vs,a,b.mono c⟩
theorem zhn(a:P<+:Vs)(h:NV K R F v Vs X):NS K P R F v X:=⟨Vs,a,h⟩
theorem q8h:NV K R emp (.slice none 0 0) [] ([]:List γ):=⟨emp,[],rfl,.inl ⟨rfl,rfl,rfl⟩,zll,⟨rfl,fun j a=>by simp at a,fun i j hi=>by simp at hi⟩,fun j a=>by simp at a⟩
theorem zun(h:NV K R F v Vs X):Vs.length=X.length:=let⟨_,_,a,_⟩:=h;a
theorem zlo(h:NV K R F v Vs X):(List.zipWith K.en X Vs).length=X.length:=by rw [List.length_zipWith,zun h,Nat.min_self]
theorem q8r(h:NV K R F v Vs X):v.oneCell'=true:=let⟨_,_,_,b,_⟩:=h;z0w b
theorem q1h(h:NV K R F v Vs X):v.cells=([v]:List Value).toArray:=let⟨_,_,_,b,_⟩:=h;lw b
theorem zid{k:Nat}(a:k<X.length):(X.map K.row).getD k default=K.row (X.getD k default):=by
 simp [List.getD_eq_getElem?_getD,List.getElem?_map,List.getElem?_eq_getElem a]
theorem zmv{k:Nat}(a:k<X.length)(c:Vs.length=X.length):(List.zipWith K.en X Vs)[k]? =some (K.en (X.getD k default) (Vs.getD k default)):=by
 have b:k<Vs.length:=by omega
 simp [List.getElem?_zipWith,List.getD_eq_getElem?_getD,List.getElem?_eq_getElem a,List.getElem?_eq_getElem b]
theorem zxj{k:Nat}{y:γ}(a:k<X.length)(b:Vs.length=X.length):List.zipWith K.en (X.set k y) Vs=(List.zipWith K.en X Vs).set k (K.en y (Vs.getD k default)):=by
 have c:k<Vs.length:=by omega
 apply List.ext_getElem?
 intro j
 simp only [List.getElem?_zipWith,List.getElem?_set,List.length_zipWith,b,Nat.min_self]
 by_cases e:k=j
 ·subst e
  simp [a,List.getElem?_eq_getElem c,List.getD_eq_getElem?_getD]
 ·rw [if_neg e,if_neg e]
theorem q31{k:Nat}{y:γ}(a:k<X.length)(b:Vs.length=X.length)(c: ∀ w,K.en y w=K.en (X.getD k default) w):List.zipWith K.en (X.set k y) Vs=List.zipWith K.en X Vs:=by
 rw [zxj a b,c]
 apply List.ext_getElem?
 intro j
 rw [List.getElem?_set]
 by_cases e:k=j
 ·subst e
  rw [if_pos rfl,if_pos (by rw [List.length_zipWith,b,Nat.min_self];exact a),zmv a b]
 ·rw [if_neg e]
theorem NV.row(h:NV K R F v Vs X){k:Nat}(f:k<X.length): ∃ fk,ORep K.T R fk (Vs.getD k default) (K.row (X.getD k default))∧Has F fk:=by
 obtain⟨f0,Fs,a,b,c,d,e⟩:=h
 have:=d.2.1 k (by rw [List.length_map];exact f) (fun h=>h)
 rw [zid f] at this
 exact⟨_,this⟩
theorem NV.hole(h:NV K R F v Vs X){k:Nat}(l:k<X.length): ∃ fk,ORep K.T R fk (Vs.getD k default) (K.row (X.getD k default))∧Has F fk∧NVh K k R (minus F fk) v Vs X:=by
 obtain⟨f0,Fs,q,r,m,⟨o,a,d⟩,f⟩:=h
 have n: ∀ j,¬(fun(_:Nat)=>False) j:=fun _ h=>h
 have hk':k<(X.map K.row).length:=by rw [List.length_map];exact l
 have b:=a k hk' (n k)
 rw [zid l] at b
 refine⟨Fs.getD k emp,b.1,b.2,f0,Fs,q,r,zak m (f k l).symm,⟨o,fun j c g=>⟨(a j c (n j)).1,zak (a j c (n j)).2 (d k j hk' c (n k) (n j) (fun e=>g e.symm))⟩,fun i j hi c s g p=>d i j hi c (n i) (n j) p⟩,fun j c _=>f j c⟩
theorem NVh.fill{k:Nat}{G fk:Frag}{y:γ}(h:NVh K k R G v Vs X)(r:k<X.length)(s:ORep K.T R fk (Vs.getD k default) (K.row y))(c:Apart fk G)(t: ∀ w,K.en y w=K.en (X.getD k default) w):
 NV K R (z0h fk G) v Vs (X.set k y):=by
 obtain⟨f0,Fs,q,u,f,⟨m,a,n⟩,o⟩:=h
 have x:(X.map K.row).length=X.length:=List.length_map ..
 have p:(X.set k y).map K.row=(X.map K.row).set k (K.row y):=by rw [List.map_set]
 have z:=fun j=>z0a (X:=X.map K.row) (j:=j) (y:=K.row y) (d:=default) (k:=k) (by omega)
 have l:=fun j=>z0a (X:=Fs) (j:=j) (y:=fk) (d:=emp) (k:=k) (by omega)
 refine⟨f0,Fs.set k fk,by simp [q],by rw [q31 r q t];exact u,(z1z c).trans f,⟨by simp [m],fun j g _=>?_,fun i j hi g _ _ b=>?_⟩,fun j g=>?_⟩
 ·have hj':j<X.length:=by simpa using g
  rw [l,p,z]
  by_cases e:j=k
  ·subst e;rw [if_pos rfl,if_pos rfl];exact⟨s,z6f⟩
  ·rw [if_neg e,if_neg e];exact⟨(a j (by omega) e).1,(z1z c).trans (a j (by omega) e).2⟩
 ·have hi':i<X.length:=by simpa using hi
  have hj':j<X.length:=by simpa using g
  rw [l,l]
  by_cases e1:i=k
  ·rw [if_pos e1,if_neg (fun e=>b (e1.trans e.symm))]
   exact(a j (by omega) (fun e=>b (e1.trans e.symm))).2.apart c
  ·by_cases e2:j=k
   ·rw [if_neg e1,if_pos e2];exact((a i (by omega) e1).2.apart c).symm
   ·rw [if_neg e1,if_neg e2];exact n i j (by omega) (by omega) e1 e2 b
 ·have hj':j<X.length:=by simpa using g
  rw [l]
  by_cases e:j=k
  ·rw [if_pos e];exact(f.apart c).symm
  ·rw [if_neg e];exact o j hj' e
theorem NV.turn{f0':Frag}{Fs:List Frag}{k:Nat}{y:γ}{G:Frag}(i:Vs.length=X.length)(hrow:Rows K.T R G Vs (X.map K.row) Fs (fun _=>False))(b:k<X.length)
 (m:ORep K.H R f0' v ((List.zipWith K.en X Vs).set k (K.en y (Vs.getD k default)))) (o:K.row y=K.row (X.getD k default)) (l:Apart f0' G):NV K R (z0h f0' G) v Vs (X.set k y):=by
 obtain⟨d,a,f⟩:=hrow
 have g:(X.set k y).map K.row=X.map K.row:=by
  rw [List.map_set,o,←zid b]
  apply List.ext_getElem?
  intro j
  rw [List.getElem?_set]
  by_cases e:k=j
  ·subst e
   rw [if_pos rfl,if_pos (by rw [List.length_map];exact b)]
   exact(getD_some (by rw [List.length_map];exact b)).symm
  ·rw [if_neg e]
 refine⟨f0',Fs,by simp [i],by rw [zxj b i];exact m,z6f,?_,fun j c=>?_⟩
 ·rw [g]
  exact⟨d,fun j c n=>⟨(a j c n).1,(z1z l).trans (a j c n).2⟩,f⟩
 ·have hj':j<(X.map K.row).length:=by simpa using c
  exact(a j hj' (fun h=>h)).2.apart l
theorem qa2{f0' f G:Frag}{Fs:List Frag}{w v':Value}{y:γ}(q:Vs.length=X.length)(t:ORep K.H R f0' v' (List.zipWith K.en X Vs++[K.en y w]))(u:ORep K.T R f w (K.row y))(hrow:Rows K.T R G Vs (X.map K.row) Fs (fun _=>False))(r:Apart f0' f)(s:Apart f0' G)(d:Apart f G):
 NV K R (z0h f0' (z0h f G)) v' (Vs++[w]) (X++[y]):=by
 obtain⟨g,a,k⟩:=hrow
 have v:(X.map K.row).length=X.length:=List.length_map ..
 have n: ∀ j,¬(fun(_:Nat)=>False) j:=fun _ h=>h
 have b:Apart f0' (z0h f G):=zgs r s
 have l:Has (z0h f0' (z0h f G)) f:=(z1z b).trans z6f
 have m:Has (z0h f0' (z0h f G)) G:=(z1z b).trans (z1z d)
 have c: ∀ j,j<(X++[y]).length→j<X.length∨j=X.length:=fun j b=>by simp at b;omega
 have x:List.zipWith K.en (X++[y]) (Vs++[w])=List.zipWith K.en X Vs++[K.en y w]:=by rw [List.zipWith_append q.symm];rfl
 refine⟨f0',Fs++[f],by simp [q],by rw [x];exact t,z6f,⟨by simp [g],fun j b _=>?_,fun i j hi b _ _ o=>?_⟩,fun j b=>?_⟩
 ·rw [List.map_append,List.map_singleton]
  rcases c j (by simpa using b) with e|e
  ·rw [z06 (by omega),z06 (by omega),z06 (by omega)];exact⟨(a j (by omega) (n j)).1,m.trans (a j (by omega) (n j)).2⟩
  ·rw [z2c (by omega),z2c (by omega),z2c (by omega)];exact⟨u,l⟩
 ·rcases c i (by simpa using hi) with z|z
  ·rcases c j (by simpa using b) with p|p
   ·rw [z06 (by omega),z06 (by omega)];exact k i j (by omega) (by omega) (n i) (n j) o
   ·rw [z06 (by omega),z2c (by omega)];exact((a i (by omega) (n i)).2.apart d).symm
  ·rcases c j (by simpa using b) with p|p
   ·rw [z2c (by omega),z06 (by omega)];exact(a j (by omega) (n j)).2.apart d
   ·omega
 ·rcases c j b with e|e
  ·rw [z06 (by omega)];exact(a j (by omega) (n j)).2.apart s
  ·rw [z2c (by omega)];exact r
theorem zk9{f0:Frag}{Fs:List Frag}(hrow:Rows K.T R F Vs (X.map K.row) Fs (fun _=>False))(a: ∀ j,j<X.length→Apart f0 (Fs.getD j emp)):Rows K.T R (minus F f0) Vs (X.map K.row) Fs (fun _=>False):=
 znw hrow (fun j b=>a j (by simpa using b))
structure RowOk (K:RowTy γ β α) (C:Ty γ):Prop where
 size:C.size=K.H.size
 rep: ∀ R R' cs x v,RH.le R R'→K.H.rep R cs (K.en x v)→VRep (yo K.T) R' v (K.row x)→C.rep R' cs x
theorem zqo{C:Ty γ}{A:List Frag}{w:World}(l:RowOk K C)(h:NV K R F v Vs X)(m:Holds R (F::A) w):VRep (yo C) (R.add F) v X:=by
 obtain⟨f0,Fs,n,s,a,⟨t,f,u⟩,y⟩:=h
 have hrow: ∀ j,j<X.length→VRep (yo K.T) (R.add F) (Vs.getD j default) (K.row (X.getD j default)):=fun j o=>by
  have d:=f j (by simpa using o) (fun h=>h)
  rw [zid o] at d
  exact(z7r d.1 (z2r m d.2)).mono (q2a d.2)
 have c:(List.zipWith K.en X Vs).length=X.length:=by rw [List.length_zipWith,n,Nat.min_self]
 rcases s with⟨rfl,z,_⟩|⟨b,pre,cs,cap,bt,rfl,rfl,E,B,D,g⟩
 ·obtain rfl:X=[]:=List.eq_nil_of_length_eq_zero (by rw [←c,z];rfl)
  exact zcn
 ·refine rf.2 ⟨_,cap,by rw [c],by omega,fun e=>by(cases e),.inr ⟨b,pre.length,(pre++cs).toArray,bt,(0,0),rfl,?_,fun i x p=>?_⟩⟩
  ·exact(q2a a).blk b _ (zl5 (zbj (z2r m a)))
  ·have hi:i<X.length:=(List.getElem?_eq_some_iff.1 p).1
   have k:X.getD i default=x:=by simp [List.getD_eq_getElem?_getD,p]
   rw [z3v,l.size]
   have q:=g i _ (zmv hi n)
   have r:=hrow i hi
   rw [k] at q r
   exact l.rep R _ _ x _ (RH.le_add _ _) (by simpa [yw] using q) r
theorem zvl{P:Program}{ρ:Option Nat}{n:Nat}{Q:Po}{l:Nat→Value}{D:List Nat}{O:List Frag}{ops:Array Oper}{os:List Oper}{C:Ty γ}{i:Nat}(c:RowOk K C)(hi:O[i]? =some F)(h:NV K R F v Vs X)
 (k: ∀ R',RH.le R R'→VRep (yo C) R' v X→wo P ρ n ops Q os l D R' (O.eraseIdx i)):wo P ρ n ops Q os l D R O:=fun a w d b=>
 k (R.add F) (RH.le_add _ _) (zqo c h (z9q hi b)) a w d (z9t hi _ w b)
theorem zuy{k:Nat}{w:Value}(b:P<+:Vs)(a:P[k]? =some w):Vs.getD k default=w:=by
 obtain⟨t,rfl⟩:=b
 rw [List.getD_eq_getElem?_getD,List.getElem?_append_left (List.getElem?_eq_some_iff.1 a).1,a];rfl
theorem zux{k:Nat}{w:Value}(a:P<+:Vs)(b:P[k]? =some w)(h:NV K R F v Vs X):k<X.length:=by
 have c:=(List.getElem?_eq_some_iff.1 b).1
 have d:=a.length_le
 have e:=zun h
 omega
theorem q72{w:Value}(h:Vs.length=X.length):(Vs++[w])[X.length]? =some w:=by rw [←h];simp
end ns
section ops
variable {γ β α : Type} [Inhabited γ] {K : RowTy γ β α} {F : Frag} {v : Value} {Vs : List Value} {X : List γ}
variable {P : Program} {ρ : Option Nat} {l : Nat → Value} {R : RH} {O : List Frag} {dst : Option Tmp} {ty : TypeId} {pos : String} {after : Array Go.Edge} {g : Option (Nat × Bool)}
theorem q0c{tt e:TypeId}{at':Array TypeId}{x:Operand}(a:at'[0]? =some tt)(b:P.underlying tt=some (.slice e))(c:ev l x=v)(h:NV K R F v Vs X):Val P ρ ⟨dst,.call ⟨.builtin .len,#[x],at'⟩,ty,pos,after,g⟩ l R O (.int .i64 X.length):=by
 have d:=zlo h
 obtain⟨f0,Fs,i,f,_⟩:=h
 have:=l6 (P:=P) (ρ:=ρ) (O:=O) (dst:=dst) (ty:=ty) (pos:=pos) (after:=after) (g:=g) a b c f
 rw [d] at this;exact this
theorem zvo{tt e:TypeId}{at':Array TypeId}{x:Operand}{r:Nat}{u:Value}(a:at'[0]? =some tt)(b:P.underlying tt=some (.slice e))(h:NV K R F v Vs X)(c:r<X.length)(d:Vs.getD r default=u)(f:ev l x=u):Val P ρ ⟨dst,.call ⟨.builtin .len,#[x],at'⟩,ty,pos,after,g⟩ l R O (.int .i64 (K.row (X.getD r default)).length):=by
 obtain⟨f0,i,hF⟩:=h.row c
 exact l6 a b (f.trans d.symm) i
theorem zwl{tt e:TypeId}{x ix:Operand}{k:IntKind}{i:Nat}(a:SlOk P tt e K.H)(b:ev l x=v)(h:NV K R F v Vs X)(hi:ev l ix= .int k i)(c:i<X.length):
 Eff P ρ ⟨dst,.indexAddr tt x ix,ty,pos,after,g⟩ l R O (fun v' R' O'=>O'=O∧(fun u _=>z5s K.H v (List.zipWith K.en X Vs) u i) v' R'):=by
 have d:=zlo h
 obtain⟨f0,Fs,j,f,_⟩:=h
 exact zai a b f hi (by rw [d];exact c)
theorem zsd{tt e:TypeId}{x ix:Operand}{k:IntKind}{i r:Nat}{u:Value}(a:SlOk P tt e K.T)(h:NV K R F v Vs X)(b:r<X.length)(c:Vs.getD r default=u)(d:ev l x=u)(hi:ev l ix= .int k i)(f:i<(K.row (X.getD r default)).length):
 Eff P ρ ⟨dst,.indexAddr tt x ix,ty,pos,after,g⟩ l R O (fun v' R' O'=>O'=O∧(fun u' _=>z5s K.T u (K.row (X.getD r default)) u' i) v' R'):=by
 subst c
 obtain⟨fk,j,_⟩:=h.row b
 exact zai a d j hi f
theorem zvi{tt e:TypeId}{x ix:Operand}{k:IntKind}{i:Nat}(a:SlOk P tt e K.H)(b:ev l x=v)(h:NV K R F v Vs X)(hi:ev l ix= .int k i)(c:i<X.length):
 EV P ρ ⟨dst,.indexAddr tt x ix,ty,pos,after,g⟩ l R O (fun u _=>z5s K.H v (List.zipWith K.en X Vs) u i):=by
 have d:=zlo h
 obtain⟨f0,Fs,j,f,_⟩:=h
 exact z4r a b f hi (by rw [d];exact c)
theorem zrr{tt:TypeId}{x y:Operand}{u u0 w:Value}{i r:Nat}{z:α}{nx:γ}(c:TyOk P tt K.T)(h:NV K R F v Vs X)(b:r<X.length)(d:Vs.getD r default=u0)(e:ev l x=u)(f:z5s K.T u0 (K.row (X.getD r default)) u i)(hi:i<(K.row (X.getD r default)).length)
 (k:ev l y=w) (m:VRep K.T R w z) (n:K.row nx=(K.row (X.getD r default)).set i z) (o: ∀ w,K.en nx w=K.en (X.getD r default) w):
 Eff P ρ ⟨dst,.store tt x y,ty,pos,after,g⟩ l R ([F]++O) (fun v' R' O'=> ∃ Oc,O'=Oc++O∧R'=R∧ ∃ F',Oc=[F']∧NV K R F' v Vs (X.set r nx)):=by
 subst d
 obtain⟨fk,p,hF,q⟩:=h.hole b
 refine z9n (O1:=[fk]) (Or:=minus F fk::O) (fun A w a=>z2r a hF) (zei (j:=0) c p rfl e f hi k m) ?_
 rintro v' R' O1' s ⟨rfl,f',rfl,t⟩ A w a
 exact⟨z0h f' (minus F fk)::O,z4l a,_,rfl,rfl,_,rfl,q.fill b (by rw [n];exact t) (zix a) o⟩
theorem zhi[Inhabited β]{δ:Type}{B:Ty δ}{se:β→δ→β}{tt:TypeId}{x y:Operand}{u w:Value}{i o:Nat}{z:δ}{nx:γ}(f:zad K.H o B se)(k:TyOk P tt B)(h:NV K R F v Vs X)(m:ev l x=u)(n:za7 K.H o v (List.zipWith K.en X Vs) u i)(hi:i<X.length)
 (p:ev l y=w) (q:VRep B R w z) (r:K.row nx=K.row (X.getD i default)) (s: ∀ w,K.en nx w=se (K.en (X.getD i default) w) z):
 Eff P ρ ⟨dst,.store tt x y,ty,pos,after,g⟩ l R ([F]++O) (fun v' R' O'=> ∃ Oc,O'=Oc++O∧R'=R∧ ∃ F',Oc=[F']∧NV K R F' v Vs (X.set i nx)):=by
 have hz':=zlo h
 obtain⟨f0,Fs,d,t,b,hrow,c⟩:=h
 refine z9n (O1:=[f0]) (Or:=minus F f0::O) (fun A w a=>z2r a b) (zih (j:=0) f k t rfl m n (by rw [hz'];exact hi) p q) ?_
 rintro v' R' O1' C ⟨rfl,f',rfl,e⟩ A w a
 refine⟨z0h f' (minus F f0)::O,z4l a,_,rfl,rfl,_,rfl,NV.turn d (zk9 hrow c) hi ?_ r (zix a)⟩
 rw [s]
 have D:(List.zipWith K.en X Vs).getD i default=K.en (X.getD i default) (Vs.getD i default):=by rw [List.getD_eq_getElem?_getD,zmv hi d];rfl
 rw [D] at e;exact e
theorem zr2{z:β}{bytes:Nat}{tt e:TypeId}{x y:Operand}{u w:Value}{f:Frag}{nx:γ}(k:P.underlying tt=some (.slice e))(m:ZeroOk P e K.H z bytes)(n:ev l x=v)(o:ev l y=u)(h:NV K R F v Vs X)(p:ORep K.T R f w (K.row nx))(hu':VRep (yo K.H) R u [K.en nx w])
 (q:(X.length+1)*bytes≤140737488355328) (r:X.length+1≤9223372036854775807):
 Eff P ρ ⟨dst,.call ⟨.builtin .append,#[x,y],#[tt,tt]⟩,ty,pos,after,g⟩ l R ([F,f]++O) (fun v' R' O'=> ∃ Oc,O'=Oc++O∧R'=R∧ ∃ F',Oc=[F']∧NV K R F' v' (Vs++[w]) (X++[nx])):=by
 have hz':=zlo h
 obtain⟨f0,Fs,s,t,a,hrow,b⟩:=h
 refine z9n (O1:=[f0]) (Or:=minus F f0::f::O) (fun A w c=>z2r c a) (zdk (i:=0) k m n o rfl t hu' (by rw [hz'];simpa using q) (by rw [hz'];simpa using r)) ?_
 rintro v' R' O1' B ⟨rfl,f',rfl,C⟩ A w' c
 have d:Holds R' (f'::f::minus F f0::(O++A)) w':=wz c ((List.Perm.swap f _ _).cons _)
 obtain⟨j,D⟩:=List.pairwise_cons.1 d.sep
 obtain⟨E,M⟩:=List.pairwise_cons.1 D
 have G:Apart f' f:=fun i=>j f (by simp) i
 have I:Apart f' (minus F f0):=fun i=>j _ (by simp) i
 have J:Apart f (minus F f0):=fun i=>E _ (by simp) i
 refine⟨z0h f' (z0h f (minus F f0))::O,?_,_,rfl,rfl,_,rfl,qa2 s C p (zk9 hrow b) G I J⟩
 have L:Holds R' (f::minus F f0::f'::(O++A)) w':=wz d ((List.Perm.swap f f' _).trans ((List.Perm.swap _ f' _).cons f))
 exact z4l (wz (z4l L) (List.Perm.swap f' _ _))
theorem q19{n d:Nat}{Q:Po}{D:List Nat}{ops:Array Oper}{rest:List Oper}{t e:TypeId}{z:β}{bytes:Nat}{p:Operand}{u:Value}{cs:List Value}{nx:β}(j:Nat.blt d n=true)(k:P.underlying t=some (.slice e))(m:ZeroOk P e K.H z bytes)
 (o:ev l p=u) (g:u.cells=cs.toArray) (q:K.H.rep R cs nx) (hbig:Nat.ble K.H.size 16777216=true) (r: ∀ v R',RH.le R R'→VRep (yo K.H) R' v [nx]→wo P ρ n ops Q rest (upd l d v) D R' O):
 wo P ρ n ops Q (⟨some d,.buildSlice t 1 #[(0,p)],ty,pos,after,none⟩::rest) l D R O:=
 sw (T:=K.H) (X:=[nx]) (parts:=[(0,p)]) (ps:=[(0,u)]) (css:=[cs]) j k m (by simp [o]) (by simp [g]) (fun i c x a h=>by
  cases i with
  |zero=>simp at a h;subst a;subst h;exact q
  |succ i=>simp at a) rfl rfl (by rw [Nat.one_mul];exact Nat.le_of_ble_eq_true hbig) fun v f g s=>
  vo (i:=0) rfl s fun R' b w=>r v R' b w
end ops
end GV
end Go.Proofs.Ytnnobdkjgafdmaa
