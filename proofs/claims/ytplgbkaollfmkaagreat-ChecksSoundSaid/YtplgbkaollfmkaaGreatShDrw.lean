
import Derived.Test.YtplgbkaollfmkaaGreatShMap
import Derived.Shelf.Sort.Plain
import Derived.Shelf.Bits.Mul64
import Derived.Laws.CopyRow
import Derived.Laws.IdiomCopy
import Derived.Laws.StructEq
import Derived.ChangeKeysEq
import Derived.WideKeyRuns
set_option linter.unusedVariables false
set_option linter.unusedSimpArgs false
namespace Go.Proofs.YtplgbkaollfmkaaGreat
namespace GV
/-! ### The plain form-/
/-! ### New blocks behind all-/
end GV
end Go.Proofs.YtplgbkaollfmkaaGreat

namespace Go.Proofs.YtplgbkaollfmkaaGreat
namespace GV
section c
variable {P : Program} {ρ : Option Nat} {l : Nat → Value} {R : RH} {O : List Frag} {ty : TypeId} {pos : String} {after : Array Go.Edge} {dst : Option Tmp} {g : Option (Nat × Bool)}
variable {α : Type} {T : Ty α} {X Y : List α} {v u : Value} {x y : Operand} {f : Frag} {t e : TypeId}
end c
end GV
end Go.Proofs.YtplgbkaollfmkaaGreat

namespace Go.Proofs.YtplgbkaollfmkaaGreat
namespace GV
def mkV(ag:Bool)(cs:List Value):Value:=if ag then .agg cs.toArray else cs.headD undef
structure KTy (P:Program) (t:TypeId) (m sz:Nat) (ag:Bool) (K:List Value→Prop):Prop where
 cells:P.cellsOf t=sz
 info: ∃ i,P.info? t=some i
 len: ∀ cs,K cs→cs.length=sz
 isAgg: ∀ w,(isAgg t).run P w= .ok ag w
 one:ag=false→sz=1
 eq: ∀ d (w:World) cs cs',m≤d→K cs→K cs'→ ∃ r:Bool,(Op.equalIn d t (mkV ag cs) (mkV ag cs')).run P w= .ok r w∧(r=true↔cs=cs')
 chk: ∀ d (w:World) em cs,m≤d→K cs→(Instr.checkKey em d t (mkV ag cs)).run P w= .ok () w
section
variable {P : Program} {t e : TypeId} {m m' sz n : Nat} {ag : Bool} {K : List Value → Prop}
theorem KTy.mono(h:KTy P t m sz ag K)(b:m≤m'):KTy P t m' sz ag K:=
 {h with eq:=fun d w cs cs' a=>h.eq d w cs cs' (by omega),chk:=fun d w em cs a=>h.chk d w em cs (by omega)}
theorem KTy.part(h:KTy P t m sz ag K)(w:World){pre cs post:List Value}(b:K cs):(part t (pre++cs++post).toArray pre.length).run P w= .ok (mkV ag cs) w:=by
 obtain⟨i,hi⟩:=h.info
 have a:=h.len cs b
 unfold Go.part
 rw [Sem.run_bind,h.isAgg w,Result.andThen_ok]
 cases ag
 ·have c:=h.one rfl
  match cs,a with
  | [v],_=>
   simp only [Bool.false_eq_true,if_false]
   have:(pre++[v]++post).toArray[pre.length]? =some v:=by simp
   rw [this];rfl
  | [],a=>simp at a;omega
  |_::_::_,a=>simp at a;omega
 ·simp only [if_true,Sem.run_bind,run_sizeOf w hi,h.cells,Result.andThen_ok,Sem.run_pure]
  have:(pre++cs++post).toArray.extract pre.length (pre.length+sz)=cs.toArray:=by
   apply Array.toList_inj.1
   rw [Array.toList_extract]
   simp only [List.extract_eq_take_drop,List.append_assoc,List.drop_left,List.take_append_of_le_length (Nat.le_of_eq (show pre.length+sz-pre.length=cs.length by omega)),List.take_of_length_le (show cs.length≤pre.length+sz-pre.length by omega)]
  rw [this];rfl
theorem KTy.part'(h:KTy P t m sz ag K)(w:World){xs:List Value}{off:Nat}{pre cs post:List Value}(a:K cs)(b:xs=pre++cs++post)(c:off=pre.length):(Go.part t xs.toArray off).run P w= .ok (mkV ag cs) w:=by
 subst b;subst c;exact h.part w a
theorem q39{q:IntKind}(a:P.underlying t=some (.int q))(b:P.cellsOf t=1):KTy P t 1 1 false (fun cs=> ∃ x,cs=[.int q x]) where
 cells:=b
 info:=info_of_underlying a
 len:=by rintro cs ⟨x,rfl⟩;rfl
 isAgg w:=by simp [Go.isAgg,run_underlying a]
 one _:=rfl
 eq:=by
  rintro d w _ _ c ⟨x,rfl⟩ ⟨y,rfl⟩
  obtain⟨d,rfl⟩: ∃ d',d=d'+1:=⟨d-1,by omega⟩
  refine⟨x==y,?_,by simp⟩
  simp [mkV,Op.equalIn,run_underlying a]
 chk:=by
  rintro d w em _ c ⟨x,rfl⟩
  obtain⟨d,rfl⟩: ∃ d',d=d'+1:=⟨d-1,by omega⟩
  simp [mkV,Instr.checkKey,run_underlying a]
/-! ### Arrays-/
def znz(n:Nat)(K:List Value→Prop)(cs:List Value):Prop:= ∃ L:List (List Value),L.length=n∧(∀ c∈L,K c)∧cs=L.flatten
theorem zsy{L:List (List Value)}(h: ∀ c∈L,c.length=sz):L.flatten.length=L.length*sz:=by
 induction L with
 |nil=>simp
 |cons c L ih=>
  rw [List.flatten_cons,List.length_append,ih (fun c a=>h c (by simp [a])),h c (by simp),List.length_cons,Nat.succ_mul,Nat.add_comm]
theorem zoe(h:KTy P e m sz ag K)(d:Nat)(i:m≤d)(w:World): ∀ (L L':List (List Value)) (pre pre':List Value) (k:Nat),L.length=L'.length→(∀ c∈L,K c)→(∀ c∈L',K c)→pre.length=k*sz→pre'.length=k*sz→
 ∃ r:Bool,(Op.eqItems d e sz (pre++L.flatten).toArray (pre'++L'.flatten).toArray (List.range' k L.length)).run P w= .ok r w∧(r=true↔L.flatten=L'.flatten)
 | [],[],pre,pre',k,_,_,_,_,_=>⟨true,by simp [Op.eqItems],by simp⟩
 | [],_::_,_,_,_,a,_,_,_,_=>by simp at a
 |_::_,[],_,_,_,a,_,_,_,_=>by simp at a
 |c::L,c'::L',pre,pre',k,a,j,hK',l,hp'=>by
  have b:=j c (by simp)
  have f:=hK' c' (by simp)
  have n:=h.len c b
  have o:=h.len c' f
  obtain⟨r,p,hi⟩:=h.eq d w c c' i b f
  obtain⟨r',hr',hi'⟩:=zoe h d i w L L' (pre++c) (pre'++c') (k+1) (by simpa using a) (fun c g=>j c (by simp [g])) (fun c g=>hK' c (by simp [g])) (by rw [List.length_append,l,n,Nat.succ_mul]) (by rw [List.length_append,hp',o,Nat.succ_mul])
  rw [List.append_assoc,List.append_assoc] at hr'
  have q:=h.part' (P:=P) w (xs:=pre++(c::L).flatten) (off:=k*sz) (pre:=pre) (post:=L.flatten) b (by simp) l.symm
  have s:=h.part' (P:=P) w (xs:=pre'++(c'::L').flatten) (off:=k*sz) (pre:=pre') (post:=L'.flatten) f (by simp) hp'.symm
  rw [List.length_cons,List.range'_succ]
  simp only [Op.eqItems,Sem.run_bind,q,s,p,Result.andThen_ok]
  have happ:(c::L).flatten=(c'::L').flatten↔c=c'∧L.flatten=L'.flatten:=by
   rw [List.flatten_cons,List.flatten_cons]
   exact⟨fun e=>List.append_inj e (by omega),fun⟨t,u⟩=>by rw [t,u]⟩
  cases r
  ·exact⟨false,by simp,by rw [happ];simp;intro e;exact absurd (hi.2 e) (by simp)⟩
  ·refine⟨r',by simpa [List.flatten_cons] using hr',?_⟩
   rw [happ,hi']
   simp [hi.1 rfl]
theorem zwq(g:P.underlying t=some (.array n e))(q:P.cellsOf t=n*sz)(h:KTy P e m sz ag K):KTy P t (m+1) (n*sz) true (znz n K) where
 cells:=q
 info:=info_of_underlying g
 len:=by rintro cs ⟨L,f,b,rfl⟩;rw [zsy fun c j=>h.len c (b c j),f]
 isAgg w:=by simp [Go.isAgg,run_underlying g]
 one h:=by cases h
 eq:=by
  rintro d w _ _ s ⟨L,f,b,rfl⟩ ⟨L',hl',hK',rfl⟩
  obtain⟨d,rfl⟩: ∃ d',d=d'+1:=⟨d-1,by omega⟩
  obtain⟨i,hi⟩:=h.info
  obtain⟨r,u,hiff⟩:=zoe h d (by omega) w L L' [] [] 0 (by omega) b hK' (by simp) (by simp)
  refine⟨r,?_,hiff⟩
  show (Op.equalIn (d+1) t (.agg L.flatten.toArray) (.agg L'.flatten.toArray)).run P w=_
  rw [run_equalIn_array w d _ _ g hi,h.cells,List.range_eq_range',←f]
  exact u
 chk:=by
  rintro d w em _ s ⟨L,f,b,rfl⟩
  obtain⟨d,rfl⟩: ∃ d',d=d'+1:=⟨d-1,by omega⟩
  obtain⟨i,hi⟩:=h.info
  show (Instr.checkKey em (d+1) t (.agg L.flatten.toArray)).run P w=_
  rw [Instr.checkKey]
  simp only [Sem.run_bind,run_underlying g,Result.andThen_ok]
  simp only [Std.Legacy.Range.forIn_eq_forIn_range',Std.Legacy.Range.size,Nat.sub_zero,Nat.add_one_sub_one,Nat.div_one]
  rw [←f]
  have key: ∀ (L:List (List Value)) (pre:List Value) (k:Nat),(∀ c∈L,K c)→pre.length=k*sz→
   (forIn (List.range' k L.length) PUnit.unit fun i _=>do
    let a←sizeOf e
    let a←Go.part e (pre++L.flatten).toArray (i*a)
    Instr.checkKey em d e a
    pure (ForInStep.yield PUnit.unit):Sem PUnit).run P w= .ok () w:=by
   intro L
   induction L with
   |nil=>intro pre k _ _;simp
   |cons c L ih=>
    intro pre k b o
    have l:=b c (by simp)
    have v:=h.part' (P:=P) w (xs:=pre++(c::L).flatten) (off:=k*sz) (pre:=pre) (post:=L.flatten) l (by simp) o.symm
    have x:=h.chk d w em c (by omega) l
    rw [List.length_cons,List.range'_succ]
    simp only [List.forIn_cons,Sem.run_bind,run_sizeOf w hi,h.cells,Result.andThen_ok,v,x,Sem.run_pure]
    have:=ih (pre++c) (k+1) (fun c j=>b c (by simp [j])) (by rw [List.length_append,o,h.len c l,Nat.succ_mul])
    rw [List.append_assoc] at this
    simpa [List.flatten_cons] using this
  have p:=key L [] 0 b (by simp)
  rw [List.nil_append] at p
  rw [p];rfl
/-! ### Structs-/
inductive KFld (P:Program) (m:Nat):Nat→List Field→(List Value→Prop)→Prop
 |nil {off:Nat}:KFld P m off [] (fun cs=>cs=[])
 | cons {off sz : Nat} {f : Field} {fs : List Field} {ag : Bool} {K K' : List Value → Prop} : f.name ≠ "_" → f.offset = off → KTy P f.type m sz ag K → KFld P m (off + sz) fs K' → KFld P m off (f :: fs) (fun cs => ∃ a b, K a ∧ K' b ∧ cs = a ++ b)
theorem KFld.len{off:Nat}{fs:List Field}{K:List Value→Prop}(h:KFld P m off fs K): ∃ k,∀ cs,K cs→cs.length=k:=by
 induction h with
 |nil=>exact⟨0,fun cs e=>by subst e;rfl⟩
 |cons i j c l ih=>
  obtain⟨k,d⟩:=ih
  exact⟨_,by rintro cs ⟨a,b,f,g,rfl⟩;rw [List.length_append,c.len a f,d b g]⟩
theorem q3a{off:Nat}{fs:List Field}{K:List Value→Prop}(h:KFld P m off fs K)(d:Nat)(i:m≤d)(w:World): ∀ (cs cs' pre pre':List Value),K cs→K cs'→pre.length=off→pre'.length=off→
 ∃ r:Bool,(Op.eqFields d (pre++cs).toArray (pre'++cs').toArray fs).run P w= .ok r w∧(r=true↔cs=cs'):=by
 induction h with
 |nil=>rintro cs cs' pre pre' rfl rfl _ _;exact⟨true,by simp [Op.eqFields],by simp⟩
 | @cons off sz f fs ag K K' j v c x ih=>
  rintro cs cs' pre pre' ⟨a,b,g,k,rfl⟩ ⟨a',b',ha',hb',rfl⟩ l hp'
  have n:=c.len a g
  have o:=c.len a' ha'
  obtain⟨r,p,hi⟩:=c.eq d w a a' i g ha'
  obtain⟨r',hr',hi'⟩:=ih b b' (pre++a) (pre'++a') k hb' (by rw [List.length_append,l,n]) (by rw [List.length_append,hp',o])
  have q:=c.part' (P:=P) w (xs:=pre++(a++b)) (off:=f.offset) (pre:=pre) (post:=b) g (by simp) (by omega)
  have s:=c.part' (P:=P) w (xs:=pre'++(a'++b')) (off:=f.offset) (pre:=pre') (post:=b') ha' (by simp) (by omega)
  simp only [Op.eqFields,j,ne_eq,not_false_eq_true,if_true,Sem.run_bind,q,s,p,Result.andThen_ok]
  have happ:a++b=a'++b'↔a=a'∧b=b':=⟨fun e=>List.append_inj e (by omega),fun⟨t,u⟩=>by rw [t,u]⟩
  cases r
  ·exact⟨false,by simp,by rw [happ];simp;intro e;exact absurd (hi.2 e) (by simp)⟩
  ·refine⟨r',by simpa using hr',?_⟩
   rw [happ,hi']
   simp [hi.1 rfl]
theorem zv2{fs:Array Field}(c:P.underlying t=some (.struct fs))(g:P.stoodInHeld t=false)(n:P.cellsOf t=sz)(h:KFld P m 0 fs.toList K)(o: ∀ cs,K cs→cs.length=sz):KTy P t (m+1) sz true K where
 cells:=n
 info:=info_of_underlying c
 len:=o
 isAgg w:=by simp [Go.isAgg,run_underlying c]
 one h:=by cases h
 eq:=by
  rintro d w cs cs' p i hk'
  obtain⟨d,rfl⟩: ∃ d',d=d'+1:=⟨d-1,by omega⟩
  have e:P.fieldsOf t=fs:=by simp [Program.fieldsOf,c]
  obtain⟨r,q,hi⟩:=q3a h d (by omega) w cs cs' [] [] i hk' rfl rfl
  refine⟨r,?_,hi⟩
  show (Op.equalIn (d+1) t (.agg cs.toArray) (.agg cs'.toArray)).run P w=_
  rw [run_equalIn_struct w d t _ _ (by rw [e];exact c) g,e]
  exact q
 chk:=by
  rintro d w em cs p i
  obtain⟨d,rfl⟩: ∃ d',d=d'+1:=⟨d-1,by omega⟩
  show (Instr.checkKey em (d+1) t (.agg cs.toArray)).run P w=_
  rw [Instr.checkKey]
  simp only [Sem.run_bind,run_underlying c,Result.andThen_ok]
  rw [←Array.forIn_toList]
  have key: ∀ (off:Nat) (L:List Field) (K:List Value→Prop),KFld P m off L K→ ∀ (cs pre:List Value),K cs→pre.length=off→
   (forIn L PUnit.unit fun f _=>do
    if f.name ≠ "_" then do
     let a←Go.part f.type (pre++cs).toArray f.offset
     Instr.checkKey em d f.type a
     pure (ForInStep.yield PUnit.unit)
    else pure (ForInStep.yield PUnit.unit):Sem PUnit).run P w= .ok () w:=by
   intro off L K h
   induction h with
   |nil=>rintro cs pre rfl _;simp
   | @cons off sz f fs ag K K' s z j A ih=>
    rintro cs pre ⟨a,b,k,u,rfl⟩ v
    have x:=j.part' (P:=P) w (xs:=pre++(a++b)) (off:=f.offset) (pre:=pre) (post:=b) k (by simp) (by omega)
    have y:=j.chk d w em a (by omega) k
    simp only [List.forIn_cons,Sem.run_bind,s,ne_eq,not_false_eq_true,if_true,Result.andThen_ok,x,y,Sem.run_pure]
    have:=ih b (pre++a) u (by rw [List.length_append,v,j.len a k])
    simpa using this
  have l:=key 0 _ K h cs [] i rfl
  rw [List.nil_append] at l
  rw [l];rfl
end
/-! ### Finding-/
theorem zrr{α:Type}: ∀ {l:List α} {p:α×α},p∈l.zip l→p.1=p.2∧p.1∈l
 | [],p,h=>by simp at h
 |a::l,p,h=>by
  rw [List.zip_cons_cons] at h
  rcases List.mem_cons.1 h with rfl|h
  ·exact⟨rfl,by simp⟩
  ·obtain⟨b,c⟩:=zrr h
   exact⟨b,by simp [c]⟩
def zc9(v:Value):Prop:=(∃ q x,v= .int q x)∨ ∃ b,v= .bool b
theorem zlf{n:Nat}{v:Value}(h:zc9 v):Instr.sameBits n v v=true:=by
 rcases h with⟨q,x,rfl⟩|⟨b,rfl⟩
 ·cases n<;>simp [Instr.sameBits]
 ·cases n<;>simp [Instr.sameBits]
theorem zqj{n:Nat}{cs:List Value}(h: ∀ v∈cs,zc9 v):Instr.sameBits (n+1) (.agg cs.toArray) (.agg cs.toArray)=true:=by
 simp only [Instr.sameBits,beq_self_eq_true,Bool.true_and,List.all_eq_true]
 intro p e
 obtain⟨c,d⟩:=zrr e
 obtain⟨a,b⟩:=p
 simp only at c d
 subst c
 exact zlf (h _ d)
section
variable {P : Program} {kt : TypeId} {m sz : Nat} {K : List Value → Prop} {κ : Type} [DecidableEq κ] {ke : κ → Value} {cl : κ → List Value}
theorem zwd(h:KTy P kt m sz true K)(j:m≤Op.maxDepth)(f: ∀ k,ke k= .agg (cl k).toArray)(g: ∀ k,K (cl k))(hinj: ∀ a b,cl a=cl b→a=b){β:Type}(k:κ)(ve:β→Value)(w:World):
 ∀ (es:List MapEntry) (M:List (κ×β)) (i:Nat),es.map zkj=M.map (fun p=>(ke p.1,ve p.2))→(Instr.findAsking kt (ke k) es i).run P w= .ok ((zbk M k i).map fun p=>(p.1,ve p.2)) w
 | [],[],i,_=>by simp [Instr.findAsking,zbk]
 | [],_::_,_,h=>by simp at h
 |_::_,[],_,h=>by simp at h
 |e::es,p::M,i,c=>by
  simp only [List.map_cons,List.cons.injEq,zkj,Prod.mk.injEq] at c
  obtain⟨⟨l,n⟩,o⟩:=c
  obtain⟨r,q,hi⟩:=h.eq Op.maxDepth w (cl k) (cl p.1) j (g k) (g p.1)
  have hr':(Op.equal kt (ke k) e.key).run P w= .ok r w:=by
   rw [l,f,f];exact q
  unfold Instr.findAsking zbk
  rw [Sem.run_bind,hr',Result.andThen_ok]
  have d:r=true↔k=p.1:=⟨fun e=>hinj _ _ (hi.1 e),fun e=>hi.2 (by rw [e])⟩
  by_cases hk:k=p.1
  ·rw [if_pos (d.2 hk),if_pos hk,n];rfl
  ·rw [if_neg (fun e=>hk (d.1 e)),if_neg hk]
   exact zwd h j f g hinj k ve w es M (i+1) o
theorem q0u(h:KTy P kt m sz true K)(e:m≤10000)(g:(match P.underlying kt with|some (.array _ _)|some (.struct _)=>true|_=>false)=true)(c: ∀ k,ke k= .agg (cl k).toArray)(f: ∀ k,K (cl k))(hinj: ∀ a b,cl a=cl b→a=b)
 (d: ∀ k,∀ v∈cl k,zc9 v):KOk P kt ke where
 check b k w:=by rw [c];exact h.chk 10000 w b (cl k) e (f k)
 find k es M ve w hes:=by
  rw [run_findKey_eq w g]
  exact zwd h e c f hinj k ve w es M 0 hes
 same k:=by rw [c];exact zqj (d k)
end
end GV
end Go.Proofs.YtplgbkaollfmkaaGreat

namespace Go.Proofs.YtplgbkaollfmkaaGreat
namespace GV
abbrev Arr (n:Nat) (α:Type):= {l:List α//l.length=n}
instance {n:Nat} {α:Type} [Inhabited α]:Inhabited (Arr n α):=⟨⟨List.replicate n default,List.length_replicate⟩⟩
def zc1{α:Type}[Inhabited α](n:Nat)(l:List α):Arr n α:=if h:l.length=n then⟨l,h⟩ else default
theorem zfu{α:Type}[Inhabited α]{n:Nat}{l:List α}(h:l.length=n):(zc1 n l).1=l:=by unfold zc1;rw [dif_pos h]
theorem zun{α:Type}{cs:List α}{n k i:Nat}(h:cs.length=n*k)(hi:i<n):((cs.drop (i*k)).take k).length=k:=by
 rw [List.length_take,List.length_drop,h]
 have:(i+1)*k≤n*k:=Nat.mul_le_mul_right k hi
 rw [Nat.succ_mul] at this
 omega
theorem zyo{α:Type}{cs:List α}{n k:Nat}(h:cs.length=n*k){v:α}(c:v∈cs): ∃ i,i<n∧v∈(cs.drop (i*k)).take k:=by
 obtain⟨j,a,rfl⟩:=List.mem_iff_getElem.1 c
 have d:0<k:=by
  rcases Nat.eq_zero_or_pos k with e|e
  ·subst e;simp at h;subst h;simp at a
  ·exact e
 have b:j/k<n:=Nat.div_lt_of_lt_mul (show j<k*n by rw [Nat.mul_comm,←h];exact a)
 refine⟨j/k,b,?_⟩
 have f:=Nat.div_add_mod j k
 have g:=Nat.mod_lt j d
 have l:=zun h b
 refine List.mem_iff_getElem.2 ⟨j%k,by omega,?_⟩
 rw [List.getElem_take,List.getElem_drop]
 congr 1
 rw [Nat.mul_comm];exact f
def q8d{α:Type}(n:Nat)(T:Ty α):Ty (Arr n α) where
 size:=n*T.size
 agg:=true
 rep R cs X:=cs.length=n*T.size∧ ∀ i x,X.1[i]? =some x→T.rep R ((cs.drop (i*T.size)).take T.size) x
 len h:=h.1
 mono hle h:=⟨h.1,fun i x hx=>T.mono hle (h.2 i x hx)⟩
 one h:=by cases h
 cell:=by
  rintro R cs X ⟨a,b⟩ v hv
  obtain⟨i,hi,hm⟩:=zyo a hv
  have hl:i<X.1.length:=by rw [X.2];exact hi
  exact T.cell (b i _ (List.getElem?_eq_getElem hl)) v hm
structure CellsOf {α:Type} (T:Ty α) (cl:α→List Value):Prop where
 len: ∀ x,(cl x).length=T.size
 iff: ∀ R cs x,T.rep R cs x↔cs=cl x
theorem cells_int{q:IntKind}:CellsOf (zu q) (fun x=>[Value.int q x]):=⟨fun _=>rfl,fun R cs x=>Iff.rfl⟩
def z7g{α:Type}{n:Nat}(cl:α→List Value)(X:Arr n α):List Value:=X.1.flatMap cl
theorem z9t{α:Type}{cl:α→List Value}{k:Nat}(h: ∀ x,(cl x).length=k): ∀ (l:List α) (i:Nat) (x:α),l[i]? =some x→((l.flatMap cl).drop (i*k)).take k=cl x
 | [],i,x,a=>by simp at a
 |y::l,0,x,a=>by
  have:y=x:=by simpa using a
  subst this
  rw [Nat.zero_mul,List.drop_zero,List.flatMap_cons,List.take_left' (h y)]
 |y::l,i+1,x,a=>by
  rw [List.flatMap_cons,Nat.succ_mul,Nat.add_comm,←List.drop_drop,List.drop_left' (h y)]
  exact z9t h l i x (by simpa using a)
theorem za0{α:Type}{cl:α→List Value}{k:Nat}(h: ∀ x,(cl x).length=k): ∀ (l:List α),(l.flatMap cl).length=l.length*k
 | []=>by simp
 |y::l=>by rw [List.flatMap_cons,List.length_append,h y,za0 h l,List.length_cons,Nat.succ_mul,Nat.add_comm]
theorem zx0{cs cs':List Value}{n k:Nat}(h:cs.length=n*k)(h':cs'.length=n*k)(a: ∀ i,i<n→(cs.drop (i*k)).take k=(cs'.drop (i*k)).take k):cs=cs':=by
 induction n generalizing cs cs' with
 |zero=>simp at h h';rw [h,h']
 |succ n ih=>
  rw [Nat.succ_mul] at h h'
  have b:=a 0 (by omega)
  rw [Nat.zero_mul,List.drop_zero,List.drop_zero] at b
  have c:cs.drop k=cs'.drop k:=ih (by rw [List.length_drop];omega) (by rw [List.length_drop];omega) fun i hi=>by
   have:=a (i+1) (by omega)
   rw [Nat.succ_mul,Nat.add_comm] at this
   rwa [List.drop_drop,List.drop_drop]
  rw [←List.take_append_drop k cs,←List.take_append_drop k cs',b,c]
theorem zys{α:Type}{T:Ty α}{cl:α→List Value}{n:Nat}(h:CellsOf T cl):CellsOf (q8d n T) (z7g cl:Arr n α→List Value):=by
 refine⟨fun X=>by show (X.1.flatMap cl).length=n*T.size;rw [za0 h.len,X.2],fun R cs X=>?_⟩
 show (cs.length=n*T.size∧_)↔cs=X.1.flatMap cl
 constructor
 ·rintro⟨b,c⟩
  refine zx0 b (by rw [za0 h.len,X.2]) fun i hi=>?_
  have a:i<X.1.length:=by rw [X.2];exact hi
  have:=(h.iff _ _ _).1 (c i _ (List.getElem?_eq_getElem a))
  rw [this,z9t h.len _ _ _ (List.getElem?_eq_getElem a)]
 ·rintro rfl
  exact⟨by rw [za0 h.len,X.2],fun i x d=>by rw [z9t h.len _ _ _ d];exact(h.iff _ _ _).2 rfl⟩
theorem zui{α β:Type}{A:Ty α}{B:Ty β}{ca:α→List Value}{cb:β→List Value}(h:CellsOf A ca)(k:CellsOf B cb):CellsOf (z0a A B) (fun x=>ca x.1++cb x.2):=by
 refine⟨fun x=>by show (ca x.1++cb x.2).length=A.size+B.size;rw [List.length_append,h.len,k.len],fun R cs x=>?_⟩
 constructor
 ·rintro⟨c,d,rfl,a,b⟩
  rw [(h.iff _ _ _).1 a,(k.iff _ _ _).1 b]
 ·rintro rfl
  exact⟨_,_,rfl,(h.iff _ _ _).2 rfl,(k.iff _ _ _).2 rfl⟩
theorem q25{α β:Type}{A:Ty α}{ca:α→List Value}{f:β→α}(h:CellsOf A ca):CellsOf (A.as f) (fun x=>ca (f x)):=⟨fun x=>h.len (f x),fun R cs x=>h.iff R cs (f x)⟩
theorem zsu{α:Type}{cl:α→List Value}{k:Nat}(h: ∀ x,(cl x).length=k)(hi: ∀ x y,cl x=cl y→x=y): ∀ (l l':List α),l.length=l'.length→l.flatMap cl=l'.flatMap cl→l=l'
 | [],[],_,_=>rfl
 | [],_::_,a,_=>by simp at a
 |_::_,[],a,_=>by simp at a
 |x::l,y::l',a,e=>by
  rw [List.flatMap_cons,List.flatMap_cons] at e
  obtain⟨b,c⟩:=List.append_inj e (by rw [h,h])
  rw [hi _ _ b,zsu h hi l l' (by simpa using a) c]
theorem zyt{α:Type}{n:Nat}{cl:α→List Value}{k:Nat}(h: ∀ x,(cl x).length=k)(hi: ∀ x y,cl x=cl y→x=y){X Y:Arr n α}(e:z7g cl X=z7g cl Y):X=Y:=
 Subtype.ext (zsu h hi _ _ (by rw [X.2,Y.2]) e)
theorem q3i{α:Type}{n:Nat}{cl:α→List Value}{K:List Value→Prop}(h: ∀ x,K (cl x))(X:Arr n α):znz n K (z7g cl X):=
 ⟨X.1.map cl,by rw [List.length_map,X.2],fun c a=>by obtain⟨x,_,rfl⟩:=List.mem_map.1 a;exact h x,by unfold z7g;rw [List.flatMap_def]⟩
theorem q1i{α:Type}{n:Nat}{cl:α→List Value}(h: ∀ x,∀ v∈cl x,zc9 v)(X:Arr n α): ∀ v∈z7g cl X,zc9 v:=fun v a=>by
 obtain⟨x,_,b⟩:=List.mem_flatMap.1 a
 exact h x v b
/-! ### A box that holds an array:as a slice that can't grow-/
section a
variable {P : Program} {ρ : Option Nat} {n : Nat} {ops : Array Oper} {Q : Po} {rest : List Oper} {l : Nat → Value} {D : List Nat} {R : RH} {O : List Frag} {ty : TypeId} {pos : String} {after : Array Go.Edge} {d : Nat} {dst : Option Tmp} {g : Option (Nat × Bool)}
variable {α β : Type} {T : Ty α} {B : Ty β} {X : List α} {v u w : Value} {x y ix' : Operand} {f F : Frag} {i j o b m sz : Nat} {t s e : TypeId} {k : IntKind}
end a
end GV
end Go.Proofs.YtplgbkaollfmkaaGreat

namespace Go.Proofs.YtplgbkaollfmkaaGreat
namespace GV
theorem pl_int{q:IntKind}(x:Int): ∀ v∈[Value.int q x],zc9 v:=fun v a=> .inl ⟨_,_,List.mem_singleton.1 a⟩
theorem q6f{q:IntKind}(x y:Int)(h:[Value.int q x]=[Value.int q y]):x=y:=by simpa using h
def z5h{α:Type}{n:Nat}(X:Arr n α)(i:Int)(z:α):Arr n α:=⟨X.1.set i.toNat z,by rw [List.length_set];exact X.2⟩
theorem q6e{α:Type}[Inhabited α]{n i sz:Nat}{cl:α→List Value}{X:Arr n α}(a: ∀ x,(cl x).length=sz)(hi:i<n):((z7g cl X).drop (i*sz)).take sz=cl (X.1.getD i default):=by
 have h:i<X.1.length:=by rw [X.2];exact hi
 rw [show z7g cl X=X.1.flatMap cl from rfl,z9t a _ _ _ (List.getElem?_eq_getElem h)]
 simp [List.getD_eq_getElem?_getD,h]
theorem zp8{α:Type}{n sz:Nat}{cl:α→List Value}(a: ∀ x,(cl x).length=sz)(X:Arr n α):(z7g cl X).length=n*sz:=by
 rw [show z7g cl X=X.1.flatMap cl from rfl,za0 a,X.2]
theorem zse{α:Type}{cl:α→List Value}{k:Nat}(h: ∀ x,(cl x).length=k)(z:α): ∀ (l:List α) (i:Nat),i<l.length→(l.set i z).flatMap cl=(l.flatMap cl).take (i*k)++cl z++(l.flatMap cl).drop ((i+1)*k)
 | [],i,hi=>by simp at hi
 |x::l,0,_=>by
  rw [List.set_cons_zero,List.flatMap_cons,List.flatMap_cons,Nat.zero_mul,List.take_zero,List.nil_append,Nat.zero_add,Nat.one_mul,List.drop_left' (h x)]
 |x::l,i+1,hi=>by
  rw [List.set_cons_succ,List.flatMap_cons,List.flatMap_cons,zse h z l i (by simpa using hi)]
  have a:(i+1)*k=k+i*k:=by rw [Nat.succ_mul,Nat.add_comm]
  have b:(i+1+1)*k=k+(i+1)*k:=by rw [Nat.succ_mul (i+1),Nat.add_comm]
  rw [a,b,←h x,List.take_length_add_append,List.drop_length_add_append,h x]
  simp only [List.append_assoc]
  rw [show k+i*k=(i+1)*k from a.symm]
theorem zto{α:Type}[Inhabited α]{n i sz o:Nat}{cl:α→List Value}{X:Arr n α}{vs:List Value}{z:α}(a: ∀ x,(cl x).length=sz)(hi:i<n)(b:(cl (X.1.getD i default)).take o++vs++(cl (X.1.getD i default)).drop (o+vs.length)=cl z)(g:o+vs.length≤sz):
 over (z7g cl X) (i*sz+o) vs=z7g cl (z5h X (i:Int) z):=by
 have h:i<X.1.length:=by rw [X.2];exact hi
 have hlen:=zp8 a X
 have j:(i+1)*sz≤n*sz:=Nat.mul_le_mul_right sz hi
 have c:(i+1)*sz=i*sz+sz:=Nat.succ_mul i sz
 have d:=q6e (X:=X) a hi
 show _=(X.1.set (i:Int).toNat z).flatMap cl
 rw [Int.toNat_natCast,zse a z X.1 i h,←b,←d]
 unfold over
 show (z7g cl X).take (i*sz+o)++vs++(z7g cl X).drop (i*sz+o+vs.length)=(z7g cl X).take (i*sz)++_++(z7g cl X).drop ((i+1)*sz)
 rw [c]
 generalize z7g cl X=cs at hlen
 have e:cs.take (i*sz+o)=cs.take (i*sz)++(((cs.drop (i*sz)).take sz).take o):=by
  rw [List.take_take,Nat.min_eq_left (by omega),List.take_add]
 have f:cs.drop (i*sz+o+vs.length)=(((cs.drop (i*sz)).take sz).drop (o+vs.length))++cs.drop (i*sz+sz):=by
  rw [List.drop_take,List.drop_drop,←Nat.add_assoc]
  have:cs.drop (i*sz+sz)=(cs.drop (i*sz+o+vs.length)).drop (sz-(o+vs.length)):=by rw [List.drop_drop];congr 1;omega
  rw [this,List.take_append_drop]
 rw [e,f]
 simp only [List.append_assoc]
section w
variable {P : Program} {ρ : Option Nat} {n : Nat} {ops : Array Oper} {Q : Po} {rest : List Oper} {l : Nat → Value} {D : List Nat} {R : RH} {O : List Frag} {ty : TypeId} {pos : String} {after : Array Go.Edge} {d : Nat} {dst : Option Tmp} {g : Option (Nat × Bool)}
variable {α : Type} [Inhabited α] {x y : Operand} {i j o b m sz k off : Nat} {t e bt : TypeId} {X : Arr m α} {cl : α → List Value} {vs : List Value} {v : Value}
theorem zc3{cs:List Value}(c: ∀ w,(isAgg t).run P w= .ok true w)(d: ∀ w,(sizeOf t).run P w= .ok k w)(e:ev l x= .pointer (some ⟨b,0,none⟩))(f:O[j]? =some (box b cs bt))(a:cs.length=k)(h:Value.agg cs.toArray=v):
 Val P ρ ⟨dst,.load t x,ty,pos,after,g⟩ l R O v:=by
 subst h
 exact wu c d e f (by rw [List.drop_zero,←a,List.take_length]) a
theorem zrz{z:α}{w:Value}(a: ∀ x,(cl x).length=sz)(c: ∀ w,(sizeOf t).run P w= .ok k w)(d:ev l x= .pointer (some ⟨b,off,none⟩))(hoff:off=i*sz+o)(e:O[j]? =some (box b (z7g cl X) bt))(hi:i<m)
 (f:ev l y=w) (h:w.cells=vs.toArray) (n:vs.length=k) (p: ∀ v∈vs,v.oneCell'=true) (q:o+vs.length≤sz) (r:(cl (X.1.getD i default)).take o++vs++(cl (X.1.getD i default)).drop (o+vs.length)=cl z):
 Eff P ρ ⟨dst,.store t x y,ty,pos,after,g⟩ l R O (fun v' R' O'=>v'=undef∧R'=R∧O'=O.set j (box b (z7g cl (z5h X (i:Int) z)) bt)):=by
 subst hoff
 have s:=zto (X:=X) a hi r q
 have u:=zp8 a X
 have A:(i+1)*sz≤m*sz:=Nat.mul_le_mul_right sz hi
 rw [Nat.succ_mul] at A
 have:=z2m (P:=P) (ρ:=ρ) (R:=R) (dst:=dst) (ty:=ty) (pos:=pos) (after:=after) (g:=g) c d f h n e (by rw [u];omega) p
 rw [s] at this
 exact this
theorem zoy{z:α}{w:Value}{q:Int}(d: ∀ x,(cl x).length=sz)(f: ∀ w,(sizeOf t).run P w= .ok k w)(g:ev l x= .pointer (some ⟨b,off,none⟩))(h:q.toNat=i)(hoff:off=i*sz+o)(a:O[j]? =some (box b (z7g cl X) bt))(hi:i<m)
 (p:ev l y=w) (r:w.cells=vs.toArray) (s:vs.length=k) (u: ∀ v∈vs,v.oneCell'=true) (A:Nat.ble (o+vs.length) sz=true) (B:(cl (X.1.getD i default)).take o++vs++(cl (X.1.getD i default)).drop (o+vs.length)=cl z)
 (c:wo P ρ n ops Q rest l D R (O.set j (box b (z7g cl (z5h X q z)) bt))):wo P ρ n ops Q (⟨none,.store t x y,ty,pos,after,none⟩::rest) l D R O:=by
 have e:z5h X q z=z5h X (i:Int) z:=Subtype.ext (by show X.1.set q.toNat z=X.1.set ((i:Int).toNat) z;rw [h,Int.toNat_natCast])
 rw [e] at c
 exact zfl (zrz d f g hoff a hi p r s u (by simpa using A) B) fun v' R' O' _ ⟨_,C,a⟩=>by subst C;subst a;exact c
theorem zk9{cs cs':List Value}{w:Value}(c: ∀ w,(sizeOf t).run P w= .ok k w)(d:ev l x= .pointer (some ⟨b,0,none⟩))(a:O[j]? =some (box b cs bt))(m:cs.length=k)(hk':cs'.length=k)(e:ev l y=w)(f:w.cells=cs'.toArray)(g: ∀ v∈cs',v.oneCell'=true)
 (h:wo P ρ n ops Q rest l D R (O.set j (box b cs' bt))):wo P ρ n ops Q (⟨none,.store t x y,ty,pos,after,none⟩::rest) l D R O:=
 zfl (z2m c d e f hk' a (by omega) g) fun v' R' O' _ ⟨_,i,a⟩=>by
  subst i;subst a
  have:over cs 0 cs'=cs':=by unfold over;rw [List.take_zero,List.nil_append,Nat.zero_add,List.drop_eq_nil_of_le (by omega),List.append_nil]
  rw [this];exact h
theorem zow{cs:List Value}(h: ∀ v∈cs,zc9 v): ∀ v∈cs,v.oneCell'=true:=fun v a=>by
 rcases h v a with⟨q,x,rfl⟩|⟨b,rfl⟩<;>rfl
/-! ### Structs out of parts of any size-/
inductive FillOk (place:Nat→Option (Nat×Nat)):Nat→List (Nat×Value)→List Value→Prop
 |nil {off:Nat}:FillOk place off [] []
 |last {off i:Nat} {v:Value} {c:List Value}:v.cells=c.toArray→place i=some (off,c.length)→FillOk place off [(i,v)] c
 |cons {off i:Nat} {v:Value} {ps:List (Nat×Value)} {c out:List Value}:v.cells=c.toArray→place i=some (off,c.length)→FillOk place (off+c.length) ps out→FillOk place off ((i,v)::ps) (c++out)
theorem q3s{place:Nat→Option (Nat×Nat)}{off:Nat}{ps:List (Nat×Value)}{out:List Value}(h:FillOk place off ps out): ∀ (done rest:List Value),done.length=off→rest.length=out.length→Instr.fill place (done++rest).toArray ps=some (done++out).toArray:=by
 induction h with
 |nil=>
  intro done rest _ a
  have:rest=[]:=List.length_eq_zero_iff.1 (by simpa using a)
  subst this;rfl
 | @last off i v c b d=>
  intro done rest e a
  simp only [Instr.fill,d,b,List.size_toArray]
  rw [if_neg (by simp;omega)]
  have hfold:Array.foldl (fun(cs:Array Value) (x:Value×Nat)=>cs.setIfInBounds (off+x.2) x.1) (done++rest).toArray c.toArray.zipIdx=(done++c).toArray:=by
   rw [←Array.foldl_toList]
   have:c.toArray.zipIdx.toList=c.zipIdx 0:=by simp
   rw [this,foldl_set,Nat.add_zero,zgv _ _ _ (by simp;omega)]
   congr 1
   unfold over
   rw [←e,List.take_left,List.drop_eq_nil_of_le (by simp;omega),List.append_nil]
  exact congrArg some hfold
 | @cons off i v ps c out b d g ih=>
  intro done rest e a
  rw [List.length_append] at a
  simp only [Instr.fill,d,b,List.size_toArray]
  rw [if_neg (by simp;omega)]
  have hfold:Array.foldl (fun(cs:Array Value) (x:Value×Nat)=>cs.setIfInBounds (off+x.2) x.1) (done++rest).toArray c.toArray.zipIdx=((done++c)++rest.drop c.length).toArray:=by
   rw [←Array.foldl_toList]
   have:c.toArray.zipIdx.toList=c.zipIdx 0:=by simp
   rw [this,foldl_set,Nat.add_zero,zgv _ _ _ (by simp;omega)]
   congr 1
   unfold over
   rw [←e,List.take_left,List.drop_append,List.drop_eq_nil_of_le (by omega)]
   simp
  have f:=ih (done++c) (rest.drop c.length) (by rw [List.length_append];omega) (by rw [List.length_drop];omega)
  rw [←List.append_assoc,←f]
  exact congrArg (fun c=>Instr.fill place c ps) hfold
theorem zut{parts:List (Nat×Operand)}{ps:List (Nat×Value)}{fs:Array Field}{pls:Array (Nat×Nat)}{out:List Value}(c:(parts.map fun x=>(x.1,ev l x.2))=ps)(d:P.underlying t=some (.struct fs))(e: ∀ w,∃ z,(zeroValue t).run P w= .ok z w∧z.cells.size=k)
 (a: ∀ w,(fs.mapM fun f=>do pure (f.offset,←sizeOf f.type):Sem (Array (Nat×Nat))).run P w= .ok pls w) (h:FillOk (pls[·]?) 0 ps out) (i:out.length=k) (j:Value.agg out.toArray=v):Val P ρ ⟨dst,.build t parts.toArray,ty,pos,after,g⟩ l R O v:=
 yn c fun w=>by
  subst j
  obtain⟨z,m,n⟩:=e w
  have b:=q3s h [] z.cells.toList rfl (by rw [i,Array.length_toList];exact n)
  simp only [List.nil_append,Array.toArray_toList] at b
  simp only [Instr.build,Sem.run_bind,m,Result.andThen_ok,run_underlying d,a w,b,Sem.run_pure]
theorem q41{cs:List Value}(h:cs.length=k)(a: ∀ w,∃ z,(zeroValue t).run P w= .ok z w∧z.cells=cs.toArray): ∀ w,∃ z,(zeroValue t).run P w= .ok z w∧z.cells.size=k:=fun w=>by
 obtain⟨z,b,c⟩:=a w
 exact⟨z,b,by rw [c,List.size_toArray,h]⟩
theorem zxx{w:World}{cs:List Value}(c:Holds R O w)(d:O[i]? =some (box b cs bt))(e: ∀ w,(isAgg t).run P w= .ok true w)(f: ∀ w,(sizeOf t).run P w= .ok k w)(a:cs.length=k):(loadVar t ⟨b,0,none⟩).run P w= .ok (.agg cs.toArray) w:=
 z2r c d (by rw [List.drop_zero,←a,List.take_length]) e f a (by simp [a])
end w
/-! ### Loops that are gone through so many times-/
section u
variable {P : Program} {ρ : Option Nat} {n : Nat} {Q : Po} {l : Nat → Value} {D : List Nat} {R : RH} {O : List Frag} {c : Code}
def zhu(P:Program)(ρ:Option Nat)(n:Nat)(c:Code)(Q:Po):Nat→(Nat→Value)→List Nat→RH→List Frag→Prop
 |0=>fun _ _ _ _=>False
 |k+1=>fun l D R O=>wg P ρ n c (thn (zhu P ρ n c Q k) Q) l D R O
theorem zc5{k:Nat}(h:wg P ρ n c (thn (zhu P ρ n c Q k) Q) l D R O):zhu P ρ n c Q (k+1) l D R O:=h
theorem zx1(k:Nat)(h:zhu P ρ n c Q k l D R O):wg P ρ n (.loop c) Q l D R O:=by
 refine zvq (zhu P ρ n c Q) k h ?_
 intro k l D R O hI
 cases k with
 |zero=>exact hI.elim
 |succ k=>
  refine zfi hI ?_
  intro e l' D' R' O' a
  cases e with
  |normal=>exact⟨k,Nat.lt_succ_self k,a⟩
  |_=>exact a
end u
theorem zjs{P:Program}{ρ:Option Nat}{l:Nat→Value}{R:RH}{O:List Frag}{dst:Option Tmp}{ty:TypeId}{pos:String}{after:Array Go.Edge}{g:Option (Nat×Bool)}{t:TypeId}{x y:Operand}{v i u:Value}(a:ev l x=v)(b:ev l y=i)(h: ∀ w,(Instr.index t v i).run P w= .ok u w):
 Val P ρ ⟨dst,.index t x y,ty,pos,after,g⟩ l R O u:=by
 intro A w _;rw [jv (by intro c h;cases h)]
 simp only [execOp,a,b,Sem.run_bind,h,Result.andThen_ok];rfl
section mm
variable {P : Program} {ρ : Option Nat} {l : Nat → Value} {R : RH} {O : List Frag} {ty : TypeId} {pos : String} {after : Array Go.Edge} {dst : Option Tmp} {g : Option (Nat × Bool)} {k : IntKind} {a b : Int} {x y : Operand} {at' : Array TypeId} {t : TypeId} {d : TypeDesc}
theorem zlm(j:at'[0]? =some t)(m:P.underlying t=some d)(f:ev l x= .int k a)(i:ev l y= .int k b):Val P ρ ⟨dst,.call ⟨.builtin .max,#[x,y],at'⟩,ty,pos,after,g⟩ l R O (.int k (max a b)):=by
 intro A w _;rw [jv (by intro c h;cases h)]
 have e:(if b>a then b else a)=max a b:=by rw [Int.max_def];split<;>split<;>omega
 simp [execOp,resolve,invoke,builtin,Builtin.max_,Builtin.max2,f,i,e]
theorem zzm(j:at'[0]? =some t)(m:P.underlying t=some d)(f:ev l x= .int k a)(i:ev l y= .int k b):Val P ρ ⟨dst,.call ⟨.builtin .min,#[x,y],at'⟩,ty,pos,after,g⟩ l R O (.int k (min a b)):=by
 intro A w _;rw [jv (by intro c h;cases h)]
 have e:(if b<a then b else a)=min a b:=by rw [Int.min_def];split<;>split<;>omega
 simp [execOp,resolve,invoke,builtin,Builtin.min_,Builtin.min2,f,i,e]
end mm
section p
variable {P : Program} {ρ : Option Nat} {l : Nat → Value} {R : RH} {O : List Frag} {ty : TypeId} {pos : String} {after : Array Go.Edge} {dst : Option Tmp} {g : Option (Nat × Bool)}
variable {α β : Type} [Inhabited α] {T : Ty α} {B : Ty β} {X : List α} {v u w : Value} {x y : Operand} {F : Frag} {i o : Nat} {t : TypeId} {se : α → β → α}
end p
end GV
end Go.Proofs.YtplgbkaollfmkaaGreat

namespace Go.Proofs.YtplgbkaollfmkaaGreat
namespace GV
def q7j{α:Type}(T:Ty α):Ty α where
 size:=1
 agg:=false
 rep R cs x:= ∃ v,cs=[v]∧PRep T R v x
 len:=by rintro R cs x ⟨v,rfl,_⟩;rfl
 mono:=by rintro R R' cs x hle ⟨v,rfl,h⟩;exact⟨v,rfl,h.mono hle⟩
 one _:=rfl
 cell:=by
  rintro R cs x ⟨v,rfl,b,off,c,ty,fr,rfl,_⟩ u hu
  rw [List.mem_singleton.1 hu];rfl
theorem z6p{α:Type}{T:Ty α}{R:RH}{v:Value}{x:α}:VRep (q7j T) R v x↔PRep T R v x:=by
 constructor
 ·rintro⟨cs,⟨u,rfl,h⟩,rfl⟩
  exact h
 ·exact fun h=>⟨[v],⟨v,rfl,h⟩,rfl⟩
def zvx{α:Type}(T:Ty α):Ty (Option α) where
 size:=1
 agg:=false
 rep R cs x:= ∃ v,cs=[v]∧match x with
  |none=>v= .pointer none
  |some y=>PRep T R v y
 len:=by rintro R cs x ⟨v,rfl,_⟩;rfl
 mono:=by
  rintro R R' cs x hle ⟨v,rfl,h⟩
  refine⟨v,rfl,?_⟩
  cases x with
  |none=>exact h
  |some y=>exact PRep.mono h hle
 one _:=rfl
 cell:=by
  rintro R cs x ⟨v,rfl,h⟩ u hu
  rw [List.mem_singleton.1 hu]
  cases x with
  |none=>subst h;rfl
  |some y=>obtain⟨b,off,c,ty,fr,rfl,_⟩:=h;rfl
theorem zsw{α:Type}{T:Ty α}{R:RH}:VRep (zvx T) R (.pointer none) none:=⟨[.pointer none],⟨_,rfl,rfl⟩,rfl⟩
theorem zyx{α:Type}{T:Ty α}{R:RH}{v:Value}{x:α}(h:PRep T R v x):VRep (zvx T) R v (some x):=⟨[v],⟨v,rfl,h⟩,rfl⟩
theorem znc{α:Type}[Inhabited α]{T:Ty α}{R:RH}{v:Value}{x:Option α}(a:x.isSome=true)(h:VRep (zvx T) R v x):PRep T R v (x.getD default):=by
 cases x with
 |none=>cases a
 |some y=>obtain⟨cs,⟨u,rfl,h⟩,rfl⟩:=h;exact h
/-! ### A box that only is read,of which the value is known-/
def zo0(v:Value):Ty Unit where
 size:=v.cells.size
 agg:=true
 rep _ cs _:=v= .agg cs.toArray∧ ∀ c∈cs,c.oneCell'=true
 len:=by rintro R cs x ⟨rfl,_⟩;simp [Value.cells]
 mono _ h:=h
 one h:=by cases h
 cell h:=h.2
theorem q31{R:RH}{v w:Value}{x:Unit}(h:VRep (zo0 v) R w x):w=v:=by
 obtain⟨cs,⟨rfl,_⟩,rfl⟩:=h;rfl
theorem qbl{α:Type}{T:Ty α}{R:RH}{v:Value}{y:α}(a:T.agg=true)(b:VRep T R v y):VRep (zo0 v) R v ():=by
 obtain⟨cs,c,rfl⟩:=b
 have e:T.mk' cs= .agg cs.toArray:=by unfold Ty.mk';rw [a];rfl
 exact⟨cs,⟨e,T.cell c⟩,e⟩
theorem q36{α:Type}{T:Ty α}{R:RH}{v u:Value}{y:α}(f:T.agg=true)(g:PRep (zo0 v) R u ())(h:VRep T R v y):PRep T R u y:=by
 obtain⟨cs,a,rfl⟩:=h
 have e:T.mk' cs= .agg cs.toArray:=by unfold Ty.mk';rw [f];rfl
 obtain⟨b,off,c,ty,fr,i,j,d,_⟩:=g
 have k:(zo0 (T.mk' cs)).size=T.size:=by rw [←T.len a,e];simp [zo0,Value.cells]
 refine⟨b,off,c,ty,fr,i,j,?_⟩
 rw [k,e] at d
 have:cs=yw c off T.size:=by simpa using d
 rw [←this];exact a
theorem jg{α:Type}{P:Program}{ρ:Option Nat}{l:Nat→Value}{R:RH}{O:List Frag}{dst:Option Tmp}{ty:TypeId}{pos:String}{after:Array Go.Edge}{g:Option (Nat×Bool)}{T:Ty α}{t:TypeId}{x:Operand}{u v:Value}{y:α}
 (a:TyOk P t T) (b:T.agg=true) (c:ev l x=u) (d:PRep (zo0 v) R u ()) (f:VRep T R v y):Val P ρ ⟨dst,.load t x,ty,pos,after,g⟩ l R O v:=by
 have i:(zo0 v).size=T.size:=by
  obtain⟨cs,j,rfl⟩:=f
  have e:T.mk' cs= .agg cs.toArray:=by unfold Ty.mk';rw [b];rfl
  rw [←T.len j,e];simp [zo0,Value.cells]
 have ht':TyOk P t (zo0 v):=⟨fun w=>by rw [a.agg w,b];rfl,fun w=>by rw [a.size w,i]⟩
 obtain⟨w,k,h⟩:=zff (ρ:=ρ) (O:=O) ht' c d
 obtain rfl:=q31 k
 exact h _ _ _ _ _
theorem jy{α:Type}{P:Program}{ρ:Option Nat}{n:Nat}{ops:Array Oper}{Q:Po}{rest:List Oper}{l:Nat→Value}{D:List Nat}{R:RH}{O:List Frag}{ty:TypeId}{pos:String}{after:Array Go.Edge}{d:Nat}{T:Ty α}{e:TypeId}{x:Operand}{v:Value}{y:α}(g:Nat.blt d n=true)(h:ev l x=v)(b:T.agg=true)(c:VRep T R v y)
 (i: ∀ u R',RH.le R R'→PRep (zo0 v) R' u ()→PRep T R' u y→wo P ρ n ops Q rest (upd l d u) D R' O):wo P ρ n ops Q (⟨some d,.box e x,ty,pos,after,none⟩::rest) l D R O:=
 zij g h (qbl b c) fun u R' a f=>i u R' a f (q36 b f (c.mono a))
/-! ### A part of a box that is an array of values of one cell-/
def z2v(n:Nat)(g:Nat→Value):List Value:=(List.range n).map g
def AG{α:Type}[Inhabited α](T:Ty α)(R:RH)(n:Nat)(g:Nat→Value)(X:List α):Prop:=X.length=n∧ ∀ k,k<n→VRep T R (g k) (X.getD k default)∧(g k).oneCell'=true
theorem AG.mono{α:Type}[Inhabited α]{T:Ty α}{R R':RH}{n:Nat}{g:Nat→Value}{X:List α}(h:AG T R n g X)(a:RH.le R R'):AG T R' n g X:=⟨h.1,fun k b=>⟨(h.2 k b).1.mono a,(h.2 k b).2⟩⟩
theorem q62{β:Type}{T:Ty β}{b:Bool}{R:RH}{n:Nat}:AG (tSl b T) R n (fun _=> .slice none 0 0) (List.replicate n []):=by
 refine⟨List.length_replicate,fun k a=>⟨?_,rfl⟩⟩
 rw [List.getD_eq_getElem?_getD,List.getElem?_replicate,if_pos a]
 exact z3f
theorem q0b{g:Nat→Value}{k:Nat}{v:Value}:upd g k v k=v:=by simp [upd]
theorem upd_ne{g:Nat→Value}{k i:Nat}{v:Value}(h:i≠k):upd g k v i=g i:=by
 have:i.beq k=false:=by
  cases e:i.beq k
  ·rfl
  ·exact absurd (Nat.eq_of_beq_eq_true e) h
 simp [upd,this]
theorem zhm(n:Nat)(g:Nat→Value):(z2v n g).length=n:=by simp [z2v]
theorem q0k{n k:Nat}{g:Nat→Value}{pre post:List Value}(a:k<n):(pre++(z2v n g++post))[pre.length+k*1]? =some (g k):=by
 rw [Nat.mul_one,List.getElem?_append_right (by omega),Nat.add_sub_cancel_left,List.getElem?_append_left (by rw [zhm];exact a)]
 simp [z2v,a]
theorem q2u{n k:Nat}{g:Nat→Value}(v:Value)(a:k<n):(z2v n g).set k v=z2v n (upd g k v):=by
 apply List.ext_getElem?
 intro i
 rw [List.getElem?_set]
 by_cases hi:k=i
 ·subst hi
  simp only [if_true,zhm,a,z2v,List.getElem?_map,List.getElem?_range a,Option.map_some,q0b]
  simp [a]
 ·rw [if_neg hi]
  by_cases h2:i<n
  ·simp only [z2v,List.getElem?_map,List.getElem?_range h2,Option.map_some,upd_ne (fun e=>hi e.symm)]
  ·simp [z2v,h2]
theorem zx3{n k:Nat}{g:Nat→Value}{pre post:List Value}{v:Value}(a:k<n):over (pre++(z2v n g++post)) (pre.length+k*1) [v]=pre++(z2v n (upd g k v)++post):=by
 rw [←q2u v a]
 have d:(z2v n g).length=n:=zhm n g
 unfold over
 rw [Nat.mul_one]
 have b:(pre++(z2v n g++post)).take (pre.length+k)=pre++(z2v n g).take k:=by
  rw [List.take_append,List.take_of_length_le (by omega),Nat.add_sub_cancel_left,List.take_append_of_le_length (by omega)]
 have c:(pre++(z2v n g++post)).drop (pre.length+k+[v].length)=(z2v n g).drop (k+1)++post:=by
  rw [List.drop_append,List.drop_eq_nil_of_le (by simp only [List.length_singleton];omega),List.nil_append,show pre.length+k+[v].length-pre.length=k+1 by simp only [List.length_singleton];omega,List.drop_append_of_le_length (by omega)]
 rw [b,c,List.set_eq_take_append_cons_drop,if_pos (by omega)]
 simp
theorem q5y{α:Type}[Inhabited α]{T:Ty α}{R:RH}{n k:Nat}{g:Nat→Value}{X:List α}{v:Value}{x:α}(h:AG T R n g X)(a:VRep T R v x)(b:v.oneCell'=true):AG T R n (upd g k v) (X.set k x):=by
 refine⟨by rw [List.length_set];exact h.1,fun i hi=>?_⟩
 by_cases e:i=k
 ·subst e
  rw [q0b,List.getD_eq_getElem?_getD,List.getElem?_set_self (by rw [h.1];exact hi)]
  exact⟨a,b⟩
 ·rw [upd_ne e,List.getD_eq_getElem?_getD,List.getElem?_set_ne (fun q=>e q.symm),←List.getD_eq_getElem?_getD]
  exact h.2 i hi
section g
variable {P : Program} {ρ : Option Nat} {n : Nat} {ops : Array Oper} {Q : Po} {rest : List Oper} {l : Nat → Value} {D : List Nat} {R : RH} {O : List Frag} {ty : TypeId} {pos : String} {after : Array Go.Edge} {dst : Option Tmp} {g0 : Option (Nat × Bool)}
theorem zov{t:TypeId}{x:Operand}{b i m k o:Nat}{bt:TypeId}{g:Nat→Value}(pre post:List Value)(a: ∀ w,(isAgg t).run P w= .ok false w)(c:ev l x= .pointer (some ⟨b,o+k*1,none⟩))(d:pre.length=o)
 (e:O[i]? =some (box b (pre++(z2v m g++post)) bt)) (f:k<m):Val P ρ ⟨dst,.load t x,ty,pos,after,g0⟩ l R O (g k):=by
 subst d
 exact qb a c e (q0k f)
theorem zx4{t:TypeId}{x y:Operand}{b i m k o:Nat}{bt:TypeId}{g:Nat→Value}{v:Value}(pre post:List Value)(a: ∀ w,(sizeOf t).run P w= .ok 1 w)(c:ev l x= .pointer (some ⟨b,o+k*1,none⟩))(d:pre.length=o)(e:ev l y=v)(f:v.cells= #[v])
 (h:O[i]? =some (box b (pre++(z2v m g++post)) bt)) (hk':k<m) (j:v.oneCell'=true) (p:wo P ρ n ops Q rest l D R (O.set i (box b (pre++(z2v m (upd g k v)++post)) bt))):
 wo P ρ n ops Q (⟨none,.store t x y,ty,pos,after,none⟩::rest) l D R O:=by
 subst d
 refine jo (vs:=[v]) a c e f rfl h (by rw [Nat.ble_eq];simp only [List.length_append,zhm,List.length_singleton];omega) (fun u q=>by rw [List.mem_singleton.1 q];exact j) ?_
 rw [zx3 hk']
 exact p
theorem z0w{α:Type}{T:Ty α}{x:Operand}{v:Value}{y:α}(a:ev l x=v)(d:PRep T R v y):Val P ρ ⟨dst,.nilCheck x,ty,pos,after,g0⟩ l R O v:=by
 obtain⟨b,off,c,ty',fr,rfl,_⟩:=d
 intro A w e;rw [jv (by intro c h;cases h)]
 simp [execOp,a]
theorem zym{d:Nat}{f:FuncId}{c:Operand}{args:List Operand}{at':Array TypeId}{fs vs:List Value}{Oc Or:List Frag}{post:Value→RH→List Frag→Prop}(a:Nat.blt d n=true)(b:Enters P f)(e:ev l c= .func (.func f) fs.toArray #[])(g:args.map (ev l)=vs)(i:O.Perm (Oc++Or))
 (h:CallG P f (fs++vs).toArray R Oc post) (j: ∀ v R' Oc',RH.le R R'→post v R' Oc'→wo P ρ n ops Q rest (upd l d v) D R' (Oc'++Or)):wo P ρ n ops Q (⟨some d,.call ⟨.value c,args.toArray,at'⟩,ty,pos,after,none⟩::rest) l D R O:=
 zia a e g i (zh9 b (by simp) h) j
theorem zf3{i:Int}{n:Nat}(h:0≤i∧i<(n:Int)):i.toNat<n:=by omega
theorem ji{x:Operand}{b o:Nat}(a:ev l x= .pointer (some ⟨b,o,none⟩)):Val P ρ ⟨dst,.nilCheck x,ty,pos,after,g0⟩ l R O (.pointer (some ⟨b,o,none⟩)):=by
 intro A w d;rw [jv (by intro c h;cases h)]
 simp [execOp,a]
end g
/-! ### A slice that keeps its capacity;a new slice that only is read-/
section c
variable {P : Program} {ρ : Option Nat} {n : Nat} {ops : Array Oper} {Q : Po} {rest : List Oper} {l : Nat → Value} {D : List Nat} {R : RH} {O : List Frag} {ty : TypeId} {pos : String} {after : Array Go.Edge} {dst : Option Tmp} {g : Option (Nat × Bool)}
theorem zs6{α:Type}{T:Ty α}{z:α}{bytes:Nat}{t e:TypeId}{x y:Operand}{v u:Value}{X Y:List α}{i c:Nat}{f:Frag}
 (H:P.underlying t=some (.slice e)) (N:ZeroOk P e T z bytes) (I:ev l x=v) (J:ev l y=u) (B:O[i]? =some f) (d:ORep T R f v X) (hu':VRep (yx T) R u Y)
 (C:capOf v=c) (hroom:X.length+Y.length≤c):
 Eff P ρ ⟨dst,.call ⟨.builtin .append,#[x,y],#[t,t]⟩,ty,pos,after,g⟩ l R O (fun v' R' O'=>R'=R∧capOf v'=c∧ ∃ f',O'=O.set i f'∧ORep T R f' v' (X++Y)):=by
 intro A w s;rw [jv (by intro c h;cases h)]
 obtain⟨inf,zv,K,k2,L,k4,k5⟩:=N.info
 obtain⟨cy,p,n,rfl,a,hload⟩:=zds hu'
 have hilt:i<O.length:=(List.getElem?_eq_some_iff.1 B).1
 have hO':(O++A)[i]? =some f:=by rw [List.getElem?_append_left hilt];exact B
 have m:cy.length=Y.length*T.size:=a.len
 have hnew: ∀ w',w'.heap=w.heap→(Builtin.firstCells T.size Y.length (.slice p Y.length n)).run P w'= .ok cy.toArray w':=fun w' hw'=>
  hload w' fun k o Q=>by rw [hw'];exact s.ro k o Q
 rcases d with⟨rfl,rfl,rfl⟩|⟨b,pre,cs,cap,bt,rfl,rfl,hc',D,q,E⟩
 ·have S:c=0:=by rw [←C];rfl
  have U:Y=[]:=List.length_eq_zero_iff.1 (by omega)
  subst U
  have V:=hnew w rfl
  have:cy=[]:=List.length_eq_zero_iff.1 (by simpa using m)
  subst this
  rw [z8g I J (zdk H K L rfl V)]
  refine⟨R,O,RH.le.refl _,s,rfl,C,emp,?_,.inl ⟨rfl,rfl,rfl⟩⟩
  apply List.ext_getElem?
  intro j
  rw [List.getElem?_set]
  split
  ·rename_i e;subst e;exact B
  ·rfl
 ·obtain rfl:cap=c:=C
  have hblk:w.heap[b]? =some (.cells (pre++cs).toArray bt (0,0)):=z5z s hO' (vk _ _)
  have M:X.length*T.size+cy.length≤cs.length:=by
   rw [m,←Nat.add_mul];exact Nat.le_trans (Nat.mul_le_mul_right _ hroom) D
  have F:pre.length+X.length*T.size+0+cy.length≤(pre++cs).length:=by rw [List.length_append];omega
  obtain⟨w',W,Z,h4,h5,h6⟩:=z9b (P:=P) cy (pre++cs) (pre.length+X.length*T.size) 0 w hblk F a.cell
  rw [z8g I J (zix (T:=T) H K L rfl (hnew w rfl) hroom W)]
  have hset:=zfo s hO' Z h4 h5 h6
  rw [List.set_append_left _ _ hilt] at hset
  refine⟨R,_,RH.le.refl _,hset,rfl,?_,_,rfl,?_⟩
  ·rfl
  ·have G:=Seq.of_at E
   have e1:over (pre++cs) (pre.length+X.length*T.size+0) cy=pre++((cs.take (X.length*T.size)++cy)++cs.drop (X.length*T.size+cy.length)):=by
    rw [Nat.add_zero,zht];simp [over]
   have r:=zne (pre:=pre) (b:=b) (bt:=bt) (cap:=cap) (G.append a) (rest:=cs.drop (X.length*T.size+cy.length)) (by rw [List.length_append];exact hroom)
    (by simp only [List.length_append,List.length_take,List.length_drop];omega) (fun v d=>q v (List.mem_append.2 (.inr (List.mem_of_mem_drop d)))) (fun v d=>q v (List.mem_append.2 (.inl d)))
   rw [←e1,List.length_append] at r
   exact r
theorem zug{α:Type}{T:Ty α}{z:α}{bytes d:Nat}{t e:TypeId}{x y:Operand}{v u:Value}{X Y:List α}{i c:Nat}{f:Frag}(a:Nat.blt d n=true)
 (b:P.underlying t=some (.slice e)) (g:ZeroOk P e T z bytes) (j:ev l x=v) (k:ev l y=u) (m:O[i]? =some f) (o:ORep T R f v X) (hu':VRep (yx T) R u Y)
 (p:capOf v=c) (hroom:X.length+Y.length≤c) (q: ∀ v' f',capOf v'=c→ORep T R f' v' (X++Y)→wo P ρ n ops Q rest (upd l d v') D R (O.set i f')):
 wo P ρ n ops Q (⟨some d,.call ⟨.builtin .append,#[x,y],#[t,t]⟩,ty,pos,after,none⟩::rest) l D R O:=
 z7c a (zs6 b g j k m o hu' p hroom) fun v' R' O' _ ⟨r,hc',f',hO',h⟩=>by subst r;subst hO';exact q v' f' hc' h
end c
end GV
end Go.Proofs.YtplgbkaollfmkaaGreat

namespace Go.Proofs.YtplgbkaollfmkaaGreat
namespace GV
def EV(P:Program)(ρ:Option Nat)(o:Oper)(l:Nat→Value)(R:RH)(O:List Frag)(φ:Value→RH→Prop):Prop:= ∃ v,φ v R∧Val P ρ o l R O v
theorem zao{l:Nat→Value}{a:Operand}{az:List Operand}{v:Value}{vs:List Value}(h:ev l a=v)(k:az.map (ev l)=vs):(a::az).map (ev l)=v::vs:=by rw [List.map_cons,h,k]
theorem zv7{l:Nat→Value}{i:Nat}{a:Operand}{az:List (Nat×Operand)}{v:Value}{vs:List (Nat×Value)}(h:ev l a=v)(k:(az.map fun x=>(x.1,ev l x.2))=vs):(((i,a)::az).map fun x=>(x.1,ev l x.2))=(i,v)::vs:=by rw [List.map_cons,h,k]
section ev
variable {P : Program} {ρ : Option Nat} {l : Nat → Value} {R : RH} {O : List Frag} {dst : Option Tmp} {ty : TypeId} {pos : String} {after : Array Go.Edge} {g : Option (Nat × Bool)}
theorem jh{o:Oper}{v:Value}(h:Val P ρ o l R O v):EV P ρ o l R O (phX v):=⟨v,rfl,h⟩
theorem q7h{o:Oper}{v:Value}(h:EV P ρ o l R O (phX v)):Val P ρ o l R O v:=by
 obtain⟨u,a,b⟩:=h
 obtain rfl:u=v:=a
 exact b
theorem zhc{o:Oper}{α:Type}{T:Ty α}{x:α}{a:Value}(h:EV P ρ o l R O (phR T x))(b: ∀ R v,VRep T R v x→v=a):Val P ρ o l R O a:=by
 obtain⟨v,c,d⟩:=h
 rwa [b _ _ c] at d
theorem ny{o:Oper}{k:IntKind}{x:Int}(h:EV P ρ o l R O (phR (zu k) x)):Val P ρ o l R O (.int k x):=zhc h fun _ _ h=>j6.1 h
theorem z6x{o:Oper}{x:Bool}(h:EV P ρ o l R O (phR jl x)):Val P ρ o l R O (.bool x):=zhc h fun _ _ h=>ul.1 h
theorem jk{α:Type}{T:Ty α}{t:TypeId}{x:Operand}{v:Value}{y:α}(a:TyOk P t T)(b:ev l x=v)(c:PRep T R v y):EV P ρ ⟨dst,.load t x,ty,pos,after,g⟩ l R O (phR T y):=
 let⟨u,d,e⟩:=zff a b c
 ⟨u,d,e _ _ _ _ _⟩
theorem uf{α β:Type}{A:Ty α}{B:Ty β}{s:TypeId}{x:Operand}{f o:Nat}{v:Value}{y:α}{pr:α→β}(a:FieldOk P s f o)(hpart:Part A o B pr)(b:ev l x=v)(c:PRep A R v y):
 EV P ρ ⟨dst,.fieldAddr s x f,ty,pos,after,g⟩ l R O (phP B (pr y)):=
 let⟨u,d,e⟩:=zgw a hpart b c
 ⟨u,d,e _ _ _ _ _⟩
theorem yl{α:Type}[Inhabited α]{T:Ty α}{t e:TypeId}{x ix:Operand}{v:Value}{X:List α}{k:IntKind}{i:Nat}(a:SlOk P t e T)(b:ev l x=v)(c:VRep (yx T) R v X)(hi:ev l ix= .int k i)(d:i<X.length):
 EV P ρ ⟨dst,.indexAddr t x ix,ty,pos,after,g⟩ l R O (phP T (X.getD i default)):=
 let⟨u,f,h⟩:=zgz a b c hi (getD_some d)
 ⟨u,f,h _ _ _ _ _⟩
theorem z3p{α:Type}{T:Ty α}{t e:TypeId}{x ix:Operand}{v:Value}{X:List α}{k:IntKind}{i:Nat}{f:Frag}(a:SlOk P t e T)(c:ev l x=v)(d:ORep T R f v X)(hi:ev l ix= .int k i)(h:i<X.length):
 EV P ρ ⟨dst,.indexAddr t x ix,ty,pos,after,g⟩ l R O (fun u _=>z4e T v X u i):=
 let⟨b,off,j,m⟩:=zgo (O:=O) a c d hi h
 ⟨_,⟨b,off,j,rfl⟩,m _ _ _ _ _⟩
theorem zbf{α:Type}[Inhabited α]{T:Ty α}{t:TypeId}{x:Operand}{f:Frag}{v u:Value}{X:List α}{i j:Nat}(a:TyOk P t T)(c:ORep T R f v X)(d:O[j]? =some f)(e:ev l x=u)(h:z4e T v X u i)(k:i<X.length):
 EV P ρ ⟨dst,.load t x,ty,pos,after,g⟩ l R O (phR T (X.getD i default)):=by
 obtain⟨b,off,m,rfl⟩:=h
 obtain⟨y,hy',n⟩:=zjm (ρ:=ρ) (P:=P) a c m d e (getD_some k)
 exact⟨y,hy',n _ _ _ _ _⟩
section nest
variable {α : Type} {t : Bool} {T : Ty α} {F : Frag} {v : Value} {Vs : List Value} {X : List (List α)}
theorem zjt{tt e:TypeId}{x ix:Operand}{k:IntKind}{i:Nat}(a:SlOk P tt e tHdr)(b:ev l x=v)(h:N2 t T R F v Vs X)(hi:ev l ix= .int k i)(d:i<X.length):
 EV P ρ ⟨dst,.indexAddr tt x ix,ty,pos,after,g⟩ l R O (fun u _=>z4e tHdr v Vs u i):=by
 obtain⟨f0,c,_,f⟩:=h.o
 exact z3p a b c hi (by omega)
theorem zli{tt:TypeId}{x:Operand}{u:Value}{i j:Nat}(a:TyOk P tt tHdr)(h:N2 t T R F v Vs X)(b:O[j]? =some F)(c:ev l x=u)(d:z4e tHdr v Vs u i)(n:i<X.length):
 EV P ρ ⟨dst,.load tt x,ty,pos,after,g⟩ l R O (phX (Vs.getD i default)):=by
 obtain⟨f0,e,f,p⟩:=h.o
 obtain⟨w,k,m⟩:=zjx (ρ:=ρ) (P:=P) a e f b c d (getD_some (by omega))
 exact⟨w,zs9 k,m _ _ _ _ _⟩
theorem zh6{tt e:TypeId}{x ix:Operand}{k:IntKind}{i r:Nat}(a:SlOk P tt e T)(h:N2 t T R F v Vs X)(b:r<X.length)(c:ev l x=Vs.getD r default)(hi:ev l ix= .int k i)(d:i<(X.getD r default).length):
 EV P ρ ⟨dst,.indexAddr tt x ix,ty,pos,after,g⟩ l R O (fun u _=>z4e T (Vs.getD r default) (X.getD r default) u i):=
 let⟨fk,f,_⟩:=h.row b;z3p a c f hi d
end nest
section part
variable {α β : Type} {T : Ty α} {B : Ty β} {X : List α} {v u : Value} {x : Operand} {f : Frag} {i j o fld : Nat} {s t : TypeId} {pr : α → β}
theorem zk6(a:FieldOk P s fld o)(b:ev l x=u)(c:z4e T v X u i):EV P ρ ⟨dst,.fieldAddr s x fld,ty,pos,after,g⟩ l R O (fun u _=>z8b T o v X u i):=by
 obtain⟨u',h,d⟩:=zlv (ρ:=ρ) (P:=P) (R:=R) (O:=O) a b c
 exact⟨u',h,d _ _ _ _ _⟩
theorem zxv[Inhabited α](b:TyOk P t B)(hpart:Part T o B pr)(a:ORep T R f v X)(c:O[j]? =some f)(d:ev l x=u)(e:z8b T o v X u i)(k:i<X.length):
 EV P ρ ⟨dst,.load t x,ty,pos,after,g⟩ l R O (phR B (pr (X.getD i default))):=by
 obtain⟨w,m,a⟩:=zd9 (ρ:=ρ) (P:=P) b hpart a (fun _ _ h=>h) c d e (getD_some k)
 exact⟨w,m,a _ _ _ _ _⟩
theorem zv5[Inhabited α]{b:Bool}{Vs:List Value}{X:List (List α)}{F:Frag}{r:Nat}(a:TyOk P t B)(hpart:Part T o B pr)(h:N2 b T R F v Vs X)(c:r<X.length)(d:O[j]? =some F)(e:ev l x=u)(f:z8b T o (Vs.getD r default) (X.getD r default) u i)(k:i<(X.getD r default).length):
 EV P ρ ⟨dst,.load t x,ty,pos,after,g⟩ l R O (phR B (pr ((X.getD r default).getD i default))):=by
 obtain⟨f0,m,n⟩:=h.row c
 obtain⟨w,p,q⟩:=zd9 (ρ:=ρ) (P:=P) a hpart m n d e f (getD_some k)
 exact⟨w,p,q _ _ _ _ _⟩
end part
end ev
/-! ### In the text's order-/
section wo
variable {P : Program} {ρ : Option Nat} {n : Nat} {Q : Po} {l : Nat → Value} {D : List Nat} {R : RH} {O : List Frag} {ops : Array Oper} {rest : List Oper} {op : Op} {ty : TypeId} {pos : String} {after : Array Go.Edge} {d : Nat} {φ : Value → RH → Prop}
theorem zkl(a:Nat.blt d n=true)(h:EV P ρ ⟨some d,op,ty,pos,after,none⟩ l R O φ)(b: ∀ v,φ v R→wo P ρ n ops Q rest (upd l d v) D R O):wo P ρ n ops Q (⟨some d,op,ty,pos,after,none⟩::rest) l D R O:=
 let⟨v,c,e⟩:=h
 u7 a e (b v c)
theorem zo7{a:Act}{j s:Nat}(d:Fr n l D a)(c:z2q ops j=some s)(f:l s=undef):yielded ops a.tmps j=none:=by
 unfold yielded
 unfold z2q at c
 rw [c]
 have b:=d.get s
 rw [f,Array.getD_eq_getD_getElem?] at b
 simp only [Option.bind_some]
 cases h:a.tmps[s]? with
 |none=>rfl
 |some v=>
  rw [h] at b
  have e:v=undef:=b
  rw [e];rfl
theorem q5g{j s:Nat}{want:Bool}(c:z2q ops j=some s)(e:Nat.blt s n=true)(f:l s=undef)(g:Nat.blt d n=true)(i:wo P ρ n ops Q rest (upd l d undef) D R O):
 wo P ρ n ops Q (⟨some d,op,ty,pos,after,some (j,want)⟩::rest) l D R O:=by
 intro a w b k
 have m:=zo7 b c f
 have h:=i _ w (b.put (d:=some d) (fun t o=>by cases o;simpa using g) undef) k
 simp only [wlo]
 rw [if_neg (by simp [Region.wanted,m])]
 exact⟨fun _ _=>trivial,h⟩
theorem q9t{j s:Nat}{want Gj Bj:Bool}(b:z2q ops j=some s)(a:Nat.blt s n=true)(c:Nat.blt d n=true)(e:phG Gj (phX (.bool Bj)) (l s) R)
 (hyes:Gj=true→Bj=want→Eff P ρ ⟨some d,op,ty,pos,after,none⟩ l R O fun v R' O'=>O'=O∧φ v R') (f: ∀ v R',RH.le R R'→phG (Gj&&(Bj==want)) φ v R'→wo P ρ n ops Q rest (upd l d v) D R' O):
 wo P ρ n ops Q (⟨some d,op,ty,pos,after,some (j,want)⟩::rest) l D R O:=by
 cases Gj with
 |false=>exact q5g b a (e.2 rfl) c (f _ _ (RH.le.refl _) ⟨fun h=>by(cases h),fun _=>rfl⟩)
 |true=>
  by_cases i:Bj=want
  ·subst i
   refine zj1 b a (e.1 rfl) (z96 c (hyes rfl rfl) fun v R' g h=>f v R' g ⟨fun _=>h,fun h=>by simp at h⟩)
  ·have hb':(Bj==want)=false:=by simpa using i
   exact zhs b a (e.1 rfl) hb' c (f _ _ (RH.le.refl _) (by rw [hb'];exact⟨fun h=>by simp at h,fun _=>rfl⟩))
theorem qca{j s:Nat}{want Gj Bj:Bool}(b:z2q ops j=some s)(a:Nat.blt s n=true)(c:Nat.blt d n=true)(e:phG Gj (phX (.bool Bj)) (l s) R)
 (hyes:Gj=true→Bj=want→EV P ρ ⟨some d,op,ty,pos,after,none⟩ l R O φ) (f: ∀ v,phG (Gj&&(Bj==want)) φ v R→wo P ρ n ops Q rest (upd l d v) D R O):
 wo P ρ n ops Q (⟨some d,op,ty,pos,after,some (j,want)⟩::rest) l D R O:=by
 cases Gj with
 |false=>exact q5g b a (e.2 rfl) c (f _ ⟨fun h=>by(cases h),fun _=>rfl⟩)
 |true=>
  by_cases g:Bj=want
  ·subst g
   obtain⟨v,i,k⟩:=hyes rfl rfl
   exact zj1 b a (e.1 rfl) (u7 c k (f v ⟨fun _=>i,fun h=>by simp at h⟩))
  ·have hb':(Bj==want)=false:=by simpa using g
   exact zhs b a (e.1 rfl) hb' c (f _ (by rw [hb'];exact⟨fun h=>by simp at h,fun _=>rfl⟩))
theorem jf{j s:Nat}{want Bj:Bool}(b:z2q ops j=some s)(a:Nat.blt s n=true)(c:Nat.blt d n=true)(e:l s= .bool Bj)
 (hyes:Bj=want→EV P ρ ⟨some d,op,ty,pos,after,none⟩ l R O φ) (f: ∀ v,phG (true&&(Bj==want)) φ v R→wo P ρ n ops Q rest (upd l d v) D R O):
 wo P ρ n ops Q (⟨some d,op,ty,pos,after,some (j,want)⟩::rest) l D R O:=qca b a c (jm e) (fun _=>hyes) f
theorem z5m{j s:Nat}{want Bj:Bool}(b:z2q ops j=some s)(a:Nat.blt s n=true)(c:Nat.blt d n=true)(e:l s= .bool Bj)
 (hyes:Bj=want→Eff P ρ ⟨some d,op,ty,pos,after,none⟩ l R O fun v R' O'=>O'=O∧φ v R') (f: ∀ v R',RH.le R R'→phG (true&&(Bj==want)) φ v R'→wo P ρ n ops Q rest (upd l d v) D R' O):
 wo P ρ n ops Q (⟨some d,op,ty,pos,after,some (j,want)⟩::rest) l D R O:=q9t b a c (jm e) (fun _=>hyes) f
end wo
end GV
end Go.Proofs.YtplgbkaollfmkaaGreat

namespace Go.Proofs.YtplgbkaollfmkaaGreat
namespace GV
def zuj:Op→Option (List Operand)
 | .move x| .assign x| .load _ x| .nilCheck x| .unOp _ _ x| .convert _ _ x| .fieldAddr _ x _| .field _ x _| .extract x _=>some [x]
 | .pick c a b=>some [c,a,b]
 | .binOp _ _ x y _| .indexAddr _ x y| .index _ x y| .lookup _ x y _=>some [x,y]
 | .build _ ps=>some (ps.toList.map (·.2))
 | .makeFunc _ fs cs=>some (fs.toList++cs.toList)
 | .slice _ x lo hi mx=>some (x::(lo.toList++(hi.toList++mx.toList)))
 | .call c=>match c.callee with
  | .builtin _=>some c.args.toList
  |_=>none
 |_=>none
theorem zji{ρ1 ρ2:Operand→Value}{x:Option Operand}(h: ∀ y∈x.toList,ρ1 y=ρ2 y):x.map ρ1=x.map ρ2:=by
 cases x with
 |none=>rfl
 |some y=>simp [h y (by simp)]
theorem zk5{ρ1 ρ2:Operand→Value}{xs:Array Operand}(h: ∀ y∈xs.toList,ρ1 y=ρ2 y):xs.map ρ1=xs.map ρ2:=by
 apply Array.ext'
 rw [Array.toList_map,Array.toList_map]
 exact List.map_congr_left h
theorem zz9{ρ1 ρ2:Operand→Value}{xs:Array (Nat×Operand)}(h: ∀ y∈xs.toList.map (·.2),ρ1 y=ρ2 y):(xs.map fun(i,x)=>(i,ρ1 x))=xs.map fun(i,x)=>(i,ρ2 x):=by
 apply Array.ext'
 rw [Array.toList_map,Array.toList_map]
 refine List.map_congr_left fun p a=>?_
 obtain⟨i,x⟩:=p
 have:=h x (List.mem_map.2 ⟨(i,x),a,rfl⟩)
 simp only [this]
theorem zty{o:Oper}{xs:List Operand}{ρ1 ρ2:Operand→Value}(h:zuj o.op=some xs)(a: ∀ x∈xs,ρ1 x=ρ2 x):execOp ρ1 o=execOp ρ2 o:=by
 obtain⟨dst,op,ty,pos,after,g⟩:=o
 dsimp only at h
 cases op<;>simp only [zuj,Option.some.injEq,reduceCtorEq] at h
 case call c=>
  obtain⟨cal,args,at'⟩:=c
  cases cal<;>simp only [Option.some.injEq,reduceCtorEq] at h
  subst h
  simp only [execOp,resolve,zk5 a]
 case build t ps=>subst h;simp only [execOp,zz9 a]
 case makeFunc f fs cs=>
  subst h
  simp only [execOp,zk5 (xs:=fs) (fun y b=>a y (List.mem_append_left _ b)),zk5 (xs:=cs) (fun y b=>a y (List.mem_append_right _ b))]
 case slice t x lo hi mx=>
  subst h
  simp only [execOp,a x (List.mem_cons_self ..),zji (x:=lo) (fun y b=>a y (by simp [b])),zji (x:=hi) (fun y b=>a y (by simp [b])),zji (x:=mx) (fun y b=>a y (by simp [b]))]
 all_goals subst h;simp only [List.mem_cons,List.not_mem_nil,or_false,forall_eq_or_imp,forall_eq] at a;simp only [execOp,a]
theorem zpu{op:Op}{xs:List Operand}(h:zuj op=some xs): ∀ c,op≠ .defer c:=by
 intro c e;subst e;simp [zuj] at h
theorem zuu{R R':RH}{O:List Frag}{w:World}(h:Holds R' O w)(a:R.le R'):Holds R O w:=by
 refine⟨fun k o b=>h.ro k o (a.blk k o b),fun f c k o b=>⟨(h.own f c k o b).1,?_⟩,h.sep,by rw [←a.os];exact h.os,by rw [←a.out];exact h.out⟩
 cases e:R.blk k with
 |none=>rfl
 |some o'=>
  have:=a.blk k o' e
  rw [(h.own f c k o b).2] at this;cases this
theorem zyy{P:Program}{ρ:Option Nat}{o:Oper}{l l':Nat→Value}{R R':RH}{O:List Frag}{v:Value}{xs:List Operand}(h:Val P ρ o l R O v)(c:zuj o.op=some xs)(e: ∀ s,.tmp s∈xs→l' s=l s)(a:R.le R'):Val P ρ o l' R' O v:=by
 intro A w f
 have d:=h A w (zuu f a)
 have g:=zpu c
 rw [jv g] at d⊢
 rw [zty c (ρ2:=ev l) fun x b=>?_]
 ·exact d
 ·cases x with
  |tmp s=>exact e s b
  |_=>rfl
def wv(P:Program)(ρ:Option Nat)(R:RH)(O:List Frag):List Oper→(Nat→Value)→((Nat→Value)→Prop)→Prop
 | [],l,K=>K l
 |o::r,l,K=> ∃ d v,o.dst=some d∧Val P ρ o l R O v∧wv P ρ R O r (upd l d v) K
section wv
variable {P : Program} {ρ : Option Nat} {n : Nat} {Q : Po} {l : Nat → Value} {D : List Nat} {R : RH} {O : List Frag} {rest : List Oper} {op : Op} {ty : TypeId} {pos : String} {after : Array Go.Edge} {d : Nat} {φ : Value → RH → Prop} {K : (Nat → Value) → Prop} {g : Option (Nat × Bool)}
theorem kg{v:Value}(h:Val P ρ ⟨some d,op,ty,pos,after,g⟩ l R O v)(a:wv P ρ R O rest (upd l d v) K):wv P ρ R O (⟨some d,op,ty,pos,after,g⟩::rest) l K:=⟨d,v,rfl,h,a⟩
theorem z06(h:EV P ρ ⟨some d,op,ty,pos,after,g⟩ l R O φ)(a: ∀ v,φ v R→wv P ρ R O rest (upd l d v) K):wv P ρ R O (⟨some d,op,ty,pos,after,g⟩::rest) l K:=
 let⟨v,b,c⟩:=h
 ⟨d,v,rfl,c,a v b⟩
def q2q(gs:List Oper)(s:Nat):Option Nat:=gs.findIdx? fun o=>o.dst==some s
def clV(gs:List Oper):Bool:=gs.zipIdx.all fun(o,i)=>o.guard.isNone&&(match zuj o.op with
 |none=>false
 |some xs=>xs.all fun x=>match x with
  | .tmp s=>(match q2q gs s with|none=>true|some j=>Nat.blt j i&&o.after.toList.any fun e=>Nat.beq e.on j&&Region.binds .any e)
  |_=>true)
def zlp(l:Nat→Value):List (Nat×Value)→Nat→Value
 | []=>l
 |(d,v)::r=>zlp (upd l d v) r
theorem zqq{s d:Nat}{v:Value}(h:s≠d):upd l d v s=l s:=by
 unfold upd
 have:Nat.beq s d=false:=by
  cases hb:Nat.beq s d
  ·rfl
  ·exact absurd (Nat.eq_of_beq_eq_true hb) h
 rw [this];rfl
theorem zwe{d:Nat}{v:Value}:upd l d v d=v:=by unfold upd;simp
theorem zhy{s:Nat}: ∀ {acc:List (Nat×Value)} {l:Nat→Value},s∉acc.map (·.1)→zlp l acc s=l s
 | [],_,_=>rfl
 |(d,v)::r,l,h=>by
  simp only [List.map_cons,List.mem_cons,not_or] at h
  rw [zlp,zhy h.2,zqq h.1]
theorem zps{s:Nat}{v:Value}: ∀ {acc:List (Nat×Value)} {l:Nat→Value} {j:Nat},acc[j]? =some (s,v)→(acc.map (·.1)).Nodup→zlp l acc s=v
 | [],_,_,h,_=>by simp at h
 |(d,u)::r,l,0,h,a=>by
  simp only [List.getElem?_cons_zero,Option.some.injEq,Prod.mk.injEq] at h
  obtain⟨rfl,rfl⟩:=h
  simp only [List.map_cons,List.nodup_cons] at a
  rw [zlp,zhy a.1,zwe]
 |(d,u)::r,l,j+1,h,a=>by
  simp only [List.map_cons,List.nodup_cons] at a
  rw [zlp]
  exact zps (j:=j) (by simpa using h) a.2
theorem zs2{s:Nat}: ∀ {acc:List (Nat×Value)},s∉acc.map (·.1)→z6m l acc s=l s
 | [],_=>rfl
 |(d,v)::r,h=>by
  simp only [List.map_cons,List.mem_cons,not_or] at h
  rw [z6m,zqq h.1,zs2 h.2]
theorem zw9{s:Nat}{v:Value}: ∀ {acc:List (Nat×Value)} {j:Nat},acc[j]? =some (s,v)→(acc.map (·.1)).Nodup→z6m l acc s=v
 | [],_,h,_=>by simp at h
 |(d,u)::r,0,h,a=>by
  simp only [List.getElem?_cons_zero,Option.some.injEq,Prod.mk.injEq] at h
  obtain⟨rfl,rfl⟩:=h
  rw [z6m,zwe]
 |(d,u)::r,j+1,h,a=>by
  simp only [List.map_cons,List.nodup_cons] at a
  have h':r[j]? =some (s,v):=by simpa using h
  have b:s∈r.map (·.1):=List.mem_map.2 ⟨_,List.mem_of_getElem? h',rfl⟩
  rw [z6m,zqq (fun e=>a.1 (by rw [←e];exact b))]
  exact zw9 h' a.2
theorem q1l{acc:List (Nat×Value)}(a:(acc.map (·.1)).Nodup):zlp l acc=z6m l acc:=by
 funext s
 by_cases h:s∈acc.map (·.1)
 ·obtain⟨⟨d,v⟩,b,rfl⟩:=List.mem_map.1 h
  obtain⟨j,c,e⟩:=List.mem_iff_getElem.1 b
  have h':acc[j]? =some (d,v):=by rw [List.getElem?_eq_getElem c,e]
  rw [zps h' a,zw9 h' a]
 ·rw [zhy h,zs2 h]
def zlq(gs:List Oper)(vs:List Value):List (Nat×Value):=(gs.zip vs).map fun p=>(p.1.dst.getD 0,p.2)
theorem zwn: ∀ {os:List Oper} {l:Nat→Value},wv P ρ R O os l K→ ∃ vs:List Value,vs.length=os.length∧(∀ o∈os,o.dst.isSome=true)∧
 (∀ (i:Nat) o v,os[i]? =some o→vs[i]? =some v→Val P ρ o (zlp l ((zlq os vs).take i)) R O v)∧K (zlp l (zlq os vs))
 | [],l,h=>⟨[],rfl,fun o c=>by simp at c,fun i o v h=>by simp at h,h⟩
 |o::r,l,⟨d,v,a,e,f⟩=>by
  obtain⟨vs,g,j,k,m⟩:=zwn f
  refine⟨v::vs,by simp [g],fun o' ho'=>?_,fun i o' u hi b=>?_,?_⟩
  ·rcases List.mem_cons.1 ho' with rfl|ho'
   ·rw [a];rfl
   ·exact j o' ho'
  ·cases i with
   |zero=>
    simp only [List.getElem?_cons_zero,Option.some.injEq] at hi b
    subst hi;subst b
    exact e
   |succ i=>
    have:=k i o' u (by simpa using hi) (by simpa using b)
    simpa [zlq,zlp,a] using this
  ·simpa [zlq,zlp,a] using m
theorem zr3{gs:List Oper}{φs:List (Value→RH→Prop)}{l:Nat→Value}{R:RH}: ∀ {es:List Go.Edge},zxt gs φs l R es→ ∀ e∈es,Region.binds .any e=true→ ∀ d,ol gs e.on=some d→phi φs e.on (l d) R
 | [],_,e,a,_,_,_=>by simp at a
 |e'::es,h,e,a,b,d,c=>by
  rcases List.mem_cons.1 a with rfl|a
  ·have:=h.1
   rw [c] at this
   exact this b
  ·exact zr3 h.2 e a b d c
theorem zwj{gs:List Oper}{al:List NewBox}{φs:List (Value→RH→Prop)}{l0:Nat→Value}{R0:RH}: ∀ {os:List Oper} {k:Nat},
 (∀ (i:Nat) (o:Oper),os[i]? =some o→ ∀ l R,RH.le R0 R→Agree gs l0 l→zxt gs φs l R o.after.toList→GStep P ρ gs al φs O (k+i) o l R)→ztq P ρ gs al φs l0 R0 O k os
 | [],_,_=>trivial
 |o::os,k,h=>⟨h 0 o rfl,zwj fun i o' hi=>by have:=h (i+1) o' (by simpa using hi);rwa [show k+(i+1)=k+1+i from by omega] at this⟩
theorem zvo{φs:List (Value→RH→Prop)}{R:RH}: ∀ {os:List Oper} {vs:List Value} {k:Nat} {K:List (Nat×Value)→Prop},vs.length=os.length→(∀ (i:Nat) v,vs[i]? =some v→phi φs (k+i)=phX v)→K (zlq os vs)→ztg φs R K k os
 | [],vs,k,K,a,_,h=>by
  have:vs=[]:=List.length_eq_zero_iff.1 a
  subst this;exact h
 |o::os,[],k,K,a,_,_=>by simp at a
 |o::os,v::vs,k,K,a,b,h=>fun u c=>by
  rw [show k=k+0 from rfl,b 0 v rfl] at c
  obtain rfl:u=v:=c
  exact zvo (vs:=vs) (by simpa using a) (fun i w hi=>by have:=b (i+1) w (by simpa using hi);rwa [show k+(i+1)=k+1+i from by omega] at this) h
theorem z1i{id:Nat}{os:List Oper}(m:Nat)(V:P.follows .mixedOrders=true)(c:zej (os.take m) [] n (os.drop m)=true)(r:clV (os.take m)=true)
 (h:wv P ρ R O (os.take m) l fun l'=> ∀ R',RH.le R R'→wo P ρ n os.toArray Q (os.drop m) l' D R' O):wg P ρ n (.region id os.toArray true) Q l D R O:=by
 obtain⟨vs,C,M,N,S⟩:=zwn h
 have f:=(zbu c).2.1
 generalize hg:os.take m=gs at C M N S f r c
 have hacc:(zlq gs vs).map (·.1)=ze9 gs:=by
  unfold zlq ze9
  rw [List.map_map]
  have: ∀ (gs:List Oper) (vs:List Value),vs.length=gs.length→(∀ o∈gs,o.dst.isSome=true)→(gs.zip vs).map ((fun x:Nat×Value=>x.1)∘fun p=>(p.1.dst.getD 0,p.2))=gs.filterMap (·.dst):=by
   intro gs
   induction gs with
   |nil=>intro vs _ _;simp
   |cons o gs ih=>
    intro vs T A
    cases vs with
    |nil=>simp at T
    |cons v vs=>
     obtain⟨d,E⟩:=Option.isSome_iff_exists.1 (A o (List.mem_cons_self ..))
     simp only [List.zip_cons_cons,List.map_cons,List.filterMap_cons,E,Function.comp_apply,Option.getD_some]
     rw [ih vs (by simpa using T) (fun o' ho'=>A o' (List.mem_cons_of_mem _ ho'))]
  exact this gs vs C M
 have hphi: ∀ (i:Nat) v,vs[i]? =some v→phi (vs.map phX) i=phX v:=fun i v hi=>by
  unfold phi
  rw [List.getD_eq_getElem?_getD,List.getElem?_map,hi];rfl
 have hmono:zj7 (vs.map phX):=fun k v R R' a q=>by
  unfold phi at q⊢
  rw [List.getD_eq_getElem?_getD,List.getElem?_map] at q⊢
  cases e:vs[k]? with
  |none=>trivial
  |some u=>rw [e] at q;exact q
 have haget: ∀ (i:Nat) o v,gs[i]? =some o→vs[i]? =some v→ ∀ d,o.dst=some d→(zlq gs vs)[i]? =some (d,v):=fun i o v hi B d E=>by
  unfold zlq
  rw [List.getElem?_map,List.getElem?_zip_eq_some (z:=(o,v))|>.2 ⟨hi,B⟩]
  simp [E]
 refine p8 (m:=m) [] (vs.map phX) V (by rw [hg];exact c) hmono (by
  rw [hg]
  refine zwj fun i o hi l' R' a F hdep=>?_
  rw [Nat.zero_add]
  have W:i<gs.length:=(List.getElem?_eq_some_iff.1 hi).1
  obtain⟨v,B⟩: ∃ v,vs[i]? =some v:=⟨vs[i]'(by omega),List.getElem?_eq_getElem (by omega)⟩
  have g:=List.all_eq_true.1 r (o,i) (List.mem_iff_getElem?.2 ⟨i,by rw [List.getElem?_zipIdx,hi];simp⟩)
  simp only [Bool.and_eq_true] at g
  obtain⟨G,g⟩:=g
  refine za (Option.isNone_iff_eq_none.1 G) rfl (hphi i v B) (zn ?_)
  cases hx:zuj o.op with
  |none=>rw [hx] at g;exact absurd g Bool.false_ne_true
  |some xs=>
   rw [hx] at g
   refine zyy (N i o v hi B) hx (fun s A=>?_) a
   have b:=List.all_eq_true.1 g (.tmp s) A
   dsimp only at b
   have t:((zlq gs vs).take i).map (·.1)=(ze9 gs).take i:=by rw [List.map_take,hacc]
   cases hsl:q2q gs s with
   |none=>
    have w:s∉ze9 gs:=fun hm'=>by
     obtain⟨o',ho',e⟩:=List.mem_filterMap.1 hm'
     have:=List.findIdx?_eq_none_iff.1 hsl o' ho'
     rw [e] at this;simp at this
    rw [F s (by simpa using w),zhy (by rw [t];exact fun h=>w (List.mem_of_mem_take h))]
   |some j=>
    rw [hsl] at b
    simp only [Bool.and_eq_true,List.any_eq_true] at b
    obtain⟨H,e,X,I,J⟩:=b
    have hji':j<i:=by simpa using H
    have hej':e.on=j:=Nat.eq_of_beq_eq_true I
    obtain⟨o',ho',hd'⟩: ∃ o',gs[j]? =some o'∧o'.dst=some s:=by
     have:=List.findIdx?_eq_some_iff_getElem.1 hsl
     obtain⟨Y,q,_⟩:=this
     exact⟨gs[j],List.getElem?_eq_getElem Y,by simpa using q⟩
    have Z:j<gs.length:=(List.getElem?_eq_some_iff.1 ho').1
    obtain⟨u,U⟩: ∃ u,vs[j]? =some u:=⟨vs[j]'(by omega),List.getElem?_eq_getElem (by omega)⟩
    have K:ol gs e.on=some s:=by unfold ol;rw [hej',ho'];exact hd'
    have y:=zr3 hdep e X J s K
    rw [hej',hphi j u U] at y
    have L:((zlq gs vs).take i)[j]? =some (s,u):=by rw [List.getElem?_take,if_pos hji'];exact haget j o' u ho' U s hd'
    rw [zps L (by rw [t];exact List.Nodup.sublist (List.take_sublist _ _) f)]
    exact y) fun R' a=>?_
 rw [hg]
 refine zvo C (fun i v hi=>by rw [Nat.zero_add];exact hphi i v hi) ?_
 rw [←q1l (by rw [hacc];exact f)]
 exact S R' a
end wv
/-! ### Shorter laws-/
section short
variable {P : Program} {ρ : Option Nat} {n : Nat} {Q : Po} {l : Nat → Value} {D : List Nat} {R : RH} {O : List Frag} {γ : Type} {ops : Array Oper} {rest : List Oper} {d : Nat} {ty : TypeId} {pos : String} {after : Array Go.Edge}
theorem zw{c:Operand}{x y:Code}{α:Type}{b:Bool}{p q:Option α}{r:α}(d:ev l c= .bool b)(a:(bif b then p else q)=some r)(f:p=some r→wg P ρ n x Q l D R O)(g:q=some r→wg P ρ n y Q l D R O):wg P ρ n (.cond c x y) Q l D R O:=
 zdq d (fun e=>f (q5i e a)) (fun e=>g (q5s e a))
theorem ql{x y:Code}(W:List Nat)(S:γ→List (Nat×Value))(F:γ→List Frag)(K:γ→RH→Prop)(b:wg P ρ n x (thn (q3f true D W l R S F K) Q) l D R O)
 (c: ∀ g j R',RH.le R R'→K g R'→wg P ρ n y Q (z6m (mask W j l) (S g)) D R' (F g)):wg P ρ n (.seq x y) Q l D R O:=
 zwc true W S F K b fun g j D' R' d a e=>by obtain rfl:=d rfl;exact c g j R' a e
theorem zz2{x:Code}{Y:(Nat→Value)→List Nat→RH→List Frag→Prop}(W:List Nat)(S:γ→List (Nat×Value))(F:γ→List Frag)(K:γ→RH→Prop)
 (b: ∀ l D R O J F,O.Perm (J++F)→Y l D R F→Y l D R O) (c:wg P ρ n x (thn (q3f true D W l R S F K) Q) l D R O)
 (d: ∀ g j R',RH.le R R'→K g R'→Y (z6m (mask W j l) (S g)) D R' (F g)):wg P ρ n x (thn Y Q) l D R O:=
 q1r true W S F K b c fun g j D' R' e a f=>by obtain rfl:=e rfl;exact d g j R' a f
theorem j5{c:Code}(W:List Nat)(S:γ→List (Nat×Value))(F:γ→List Frag)(K:γ→RH→Prop)(μ:γ→Nat)(a:γ)
 (d: ∃ J,O.Perm (J++F a)) (e:K a R)
 (round: ∀ g j R',RH.le R R'→K g R'→wg P ρ n c (thn (zwo true D W (z6m (mask W j l) (S g)) R' S F K μ (μ g)) Q) (z6m (mask W j l) (S g)) D R' (F g))
 (f:zs8 l (S a):=by repeat (first|exact trivial|refine⟨rfl,?_⟩)) (h: ∀ g,((S g).all fun p=>W.elem p.1)=true:=by exact fun _=>rfl):wg P ρ n (.loop c) Q l D R O:=
 zrj true W S F K μ a f d e h fun g j D' R' i b k=>by obtain rfl:=i rfl;exact round g j R' b k
theorem zo{op:Op}{v:Value}(h:Val P ρ ⟨some d,op,ty,pos,after,none⟩ l R O v)(a:wo P ρ n ops Q rest (upd l d v) D R O)(b:Nat.blt d n=true:=by exact rfl):wo P ρ n ops Q (⟨some d,op,ty,pos,after,none⟩::rest) l D R O:=u7 b h a
theorem zg{x:Operand}(v:Value)(a:wo P ρ n ops Q rest (upd l d v) D R O)(b:ev l x=v:=by exact rfl)(c:Nat.blt d n=true:=by exact rfl):wo P ρ n ops Q (⟨some d,.move x,ty,pos,after,none⟩::rest) l D R O:=u7 c (zf b) a
theorem zi{x:Operand}(v:Value)(a:wo P ρ n ops Q rest (upd l d v) D R O)(b:ev l x=v:=by exact rfl)(c:Nat.blt d n=true:=by exact rfl):wo P ρ n ops Q (⟨some d,.assign x,ty,pos,after,none⟩::rest) l D R O:=u7 c (iq b) a
theorem zl{id:Nat}{os:List Oper}{y:Code}(h:wo P ρ n os.toArray (thn (wg P ρ n y Q) Q) os l D R O):wg P ρ n (.seq (.region id os.toArray false) y) Q l D R O:=q9 (zy h)
theorem qw{id:Nat}{os:List Oper}{y:Code}{Q':Po}(h:wo P ρ n os.toArray (thn (wg P ρ n y Q) Q) os l D R O):wo P ρ n ops (thn (wg P ρ n (.seq (.region id os.toArray false) y) Q) Q') [] l D R O:=z8 (zl h)
def rs:List Nat→List Nat|a::b::r=>List.range' a (b-a)++rs r|_=>[]
abbrev vi (x:Int):Value:= .int .i64 x
abbrev vs0:Value:= .slice none 0 0
theorem dkt{c:Prop}{α:Type}{x:α}:c→x=x:=fun _=>rfl
theorem q0s{a b:Prop}[Decidable a][Decidable b]{α:Type}{k:Option α}{r:α}(h:gd a (gd b k)=some r):a∧b∧k=some r:=⟨(zb h).1,zb (zb h).2⟩
theorem q1s{a b c:Prop}[Decidable a][Decidable b][Decidable c]{α:Type}{k:Option α}{r:α}(h:gd a (gd b (gd c k))=some r):a∧b∧c∧k=some r:=⟨(zb h).1,q0s (zb h).2⟩
theorem q2j{a b c d:Prop}[Decidable a][Decidable b][Decidable c][Decidable d]{α:Type}{k:Option α}{r:α}(h:gd a (gd b (gd c (gd d k)))=some r):a∧b∧c∧d∧k=some r:=⟨(zb h).1,q1s (zb h).2⟩
theorem q1j{a b c d e:Prop}[Decidable a][Decidable b][Decidable c][Decidable d][Decidable e]{α:Type}{k:Option α}{r:α}(h:gd a (gd b (gd c (gd d (gd e k))))=some r):a∧b∧c∧d∧e∧k=some r:=⟨(zb h).1,q2j (zb h).2⟩
theorem q8u{a b c d e f:Prop}[Decidable a][Decidable b][Decidable c][Decidable d][Decidable e][Decidable f]{α:Type}{k:Option α}{r:α}(h:gd a (gd b (gd c (gd d (gd e (gd f k)))))=some r):a∧b∧c∧d∧e∧f∧k=some r:=⟨(zb h).1,q1j (zb h).2⟩
theorem prm{O:List Frag}: ∃ J,O.Perm (J++O):=⟨[],List.Perm.refl _⟩
end short
end GV
end Go.Proofs.YtplgbkaollfmkaaGreat
