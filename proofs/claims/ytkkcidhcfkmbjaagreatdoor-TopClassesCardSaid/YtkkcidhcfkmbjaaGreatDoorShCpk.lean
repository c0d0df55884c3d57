
import Derived.Test.YtkkcidhcfkmbjaaGreatDoorShMap
import Derived.Shelf.Sort.Plain
import Derived.Shelf.Bits.Mul64
import Derived.Laws.CopyRow
import Derived.Laws.IdiomCopy
import Derived.Laws.StructEq
import Derived.ChangeKeysEq
import Derived.WideKeyRuns
import Derived.Laws.BytesString
set_option linter.unusedVariables false
set_option linter.unusedSimpArgs false
set_option linter.unusedSectionVars false
namespace Go.Proofs.YtkkcidhcfkmbjaaGreatDoor
namespace GV
/-! ### The plain form-/
/-! ### New blocks behind all-/
end GV
end Go.Proofs.YtkkcidhcfkmbjaaGreatDoor

namespace Go.Proofs.YtkkcidhcfkmbjaaGreatDoor
namespace GV
def zfx(sz:Nat)(v:Value)(lo hi:Nat):Value:=
 match v with
 | .slice p _ c=> .slice (if c=lo then p else p.map (·.add (lo*sz))) (hi-lo) (c-lo)
 |v=>v
section c
variable {P : Program} {ρ : Option Nat} {l : Nat → Value} {R : RH} {O : List Frag} {ty : TypeId} {pos : String} {after : Array Go.Edge} {dst : Option Tmp} {g : Option (Nat × Bool)}
variable {α : Type} {T : Ty α} {X Y : List α} {v u : Value} {x y : Operand} {f : Frag} {t e : TypeId}
theorem zep{lo hi:Nat}{xlo xhi:Option Operand}(d:SlOk P t e T)(j:ev l x=v)(m:ORep T R f v X)
 (a:xlo.map (ev l)=none∧lo=0∨ ∃ k,xlo.map (ev l)=some (.int k lo)) (b:xhi.map (ev l)=none∧hi=X.length∧(none:Option Operand)=none∨ ∃ k,xhi.map (ev l)=some (.int k hi)) (n:lo≤hi) (o:hi≤X.length):
 Val P ρ ⟨dst,.slice t x xlo xhi none,ty,pos,after,g⟩ l R O (zfx T.size v lo hi):=by
 obtain⟨p,i,q⟩:=z2r m
 intro A w r
 rw [qb (by intro c h;cases h)]
 have:=z4d (P:=P) (dst:=dst) (ty:=ty) (pos:=pos) (after:=after) (g:=g) (w:=w) (xmx:=none) (mx:=capOf v) d.u d.e.size (j.trans i) a b (.inl ⟨rfl,rfl⟩) n (by omega) (Nat.le_refl _) (fun _=>by omega)
 rw [this,i]
 rfl
end c
end GV
end Go.Proofs.YtkkcidhcfkmbjaaGreatDoor

namespace Go.Proofs.YtkkcidhcfkmbjaaGreatDoor
namespace GV
def mkV(ag:Bool)(cs:List Value):Value:=if ag then .agg cs.toArray else cs.headD undef
structure KTy (P:Program) (t:TypeId) (m sz:Nat) (ag:Bool) (K:List Value→Prop):Prop where
 cells:P.cellsOf t=sz
 info: ∃ i,P.info? t=some i
 len: ∀ cs,K cs→cs.length=sz
 isAgg: ∀ w,(isAgg t).run P w= .ok ag w
 one:ag=false→sz=1
 eq: ∀ d (w:World) cs cs',m≤d→K cs→K cs'→ ∃ r:Bool,(Op.equalIn d t (mkV ag cs) (mkV ag cs')).run P w= .ok r w∧(r=true↔cs=cs')
 chk: ∀ d (w:World) em cs,m≤d→K cs→(Instr.checkKey em d t (mkV ag cs)).run P w= .ok () w
section
variable {P : Program} {t e : TypeId} {m m' sz n : Nat} {ag : Bool} {K : List Value → Prop}
theorem KTy.mono(h:KTy P t m sz ag K)(b:m≤m'):KTy P t m' sz ag K:=
 {h with eq:=fun d w cs cs' a=>h.eq d w cs cs' (by omega),chk:=fun d w em cs a=>h.chk d w em cs (by omega)}
theorem KTy.part(h:KTy P t m sz ag K)(w:World){pre cs post:List Value}(b:K cs):(part t (pre++cs++post).toArray pre.length).run P w= .ok (mkV ag cs) w:=by
 obtain⟨i,hi⟩:=h.info
 have a:=h.len cs b
 unfold Go.part
 rw [Sem.run_bind,h.isAgg w,Result.andThen_ok]
 cases ag
 ·have c:=h.one rfl
  match cs,a with
  | [v],_=>
   simp only [Bool.false_eq_true,if_false]
   have:(pre++[v]++post).toArray[pre.length]? =some v:=by simp
   rw [this];rfl
  | [],a=>simp at a;omega
  |_::_::_,a=>simp at a;omega
 ·simp only [if_true,Sem.run_bind,run_sizeOf w hi,h.cells,Result.andThen_ok,Sem.run_pure]
  have:(pre++cs++post).toArray.extract pre.length (pre.length+sz)=cs.toArray:=by
   apply Array.toList_inj.1
   rw [Array.toList_extract]
   simp only [List.extract_eq_take_drop,List.append_assoc,List.drop_left,List.take_append_of_le_length (Nat.le_of_eq (show pre.length+sz-pre.length=cs.length by omega)),List.take_of_length_le (show cs.length≤pre.length+sz-pre.length by omega)]
  rw [this];rfl
theorem KTy.part'(h:KTy P t m sz ag K)(w:World){xs:List Value}{off:Nat}{pre cs post:List Value}(a:K cs)(b:xs=pre++cs++post)(c:off=pre.length):(Go.part t xs.toArray off).run P w= .ok (mkV ag cs) w:=by
 subst b;subst c;exact h.part w a
theorem zlv{q:IntKind}(a:P.underlying t=some (.int q))(b:P.cellsOf t=1):KTy P t 1 1 false (fun cs=> ∃ x,cs=[.int q x]) where
 cells:=b
 info:=info_of_underlying a
 len:=by rintro cs ⟨x,rfl⟩;rfl
 isAgg w:=by simp [Go.isAgg,run_underlying a]
 one _:=rfl
 eq:=by
  rintro d w _ _ c ⟨x,rfl⟩ ⟨y,rfl⟩
  obtain⟨d,rfl⟩: ∃ d',d=d'+1:=⟨d-1,by omega⟩
  refine⟨x==y,?_,by simp⟩
  simp [mkV,Op.equalIn,run_underlying a]
 chk:=by
  rintro d w em _ c ⟨x,rfl⟩
  obtain⟨d,rfl⟩: ∃ d',d=d'+1:=⟨d-1,by omega⟩
  simp [mkV,Instr.checkKey,run_underlying a]
/-! ### Arrays-/
def zaj(n:Nat)(K:List Value→Prop)(cs:List Value):Prop:= ∃ L:List (List Value),L.length=n∧(∀ c∈L,K c)∧cs=L.flatten
theorem zer{L:List (List Value)}(h: ∀ c∈L,c.length=sz):L.flatten.length=L.length*sz:=by
 induction L with
 |nil=>simp
 |cons c L ih=>
  rw [List.flatten_cons,List.length_append,ih (fun c a=>h c (by simp [a])),h c (by simp),List.length_cons,Nat.succ_mul,Nat.add_comm]
theorem zb7(h:KTy P e m sz ag K)(d:Nat)(i:m≤d)(w:World): ∀ (L L':List (List Value)) (pre pre':List Value) (k:Nat),L.length=L'.length→(∀ c∈L,K c)→(∀ c∈L',K c)→pre.length=k*sz→pre'.length=k*sz→
 ∃ r:Bool,(Op.eqItems d e sz (pre++L.flatten).toArray (pre'++L'.flatten).toArray (List.range' k L.length)).run P w= .ok r w∧(r=true↔L.flatten=L'.flatten)
 | [],[],pre,pre',k,_,_,_,_,_=>⟨true,by simp [Op.eqItems],by simp⟩
 | [],_::_,_,_,_,a,_,_,_,_=>by simp at a
 |_::_,[],_,_,_,a,_,_,_,_=>by simp at a
 |c::L,c'::L',pre,pre',k,a,j,hK',l,hp'=>by
  have b:=j c (by simp)
  have f:=hK' c' (by simp)
  have n:=h.len c b
  have o:=h.len c' f
  obtain⟨r,p,hi⟩:=h.eq d w c c' i b f
  obtain⟨r',hr',hi'⟩:=zb7 h d i w L L' (pre++c) (pre'++c') (k+1) (by simpa using a) (fun c g=>j c (by simp [g])) (fun c g=>hK' c (by simp [g])) (by rw [List.length_append,l,n,Nat.succ_mul]) (by rw [List.length_append,hp',o,Nat.succ_mul])
  rw [List.append_assoc,List.append_assoc] at hr'
  have q:=h.part' (P:=P) w (xs:=pre++(c::L).flatten) (off:=k*sz) (pre:=pre) (post:=L.flatten) b (by simp) l.symm
  have s:=h.part' (P:=P) w (xs:=pre'++(c'::L').flatten) (off:=k*sz) (pre:=pre') (post:=L'.flatten) f (by simp) hp'.symm
  rw [List.length_cons,List.range'_succ]
  simp only [Op.eqItems,Sem.run_bind,q,s,p,Result.andThen_ok]
  have happ:(c::L).flatten=(c'::L').flatten↔c=c'∧L.flatten=L'.flatten:=by
   rw [List.flatten_cons,List.flatten_cons]
   exact⟨fun e=>List.append_inj e (by omega),fun⟨t,u⟩=>by rw [t,u]⟩
  cases r
  ·exact⟨false,by simp,by rw [happ];simp;intro e;exact absurd (hi.2 e) (by simp)⟩
  ·refine⟨r',by simpa [List.flatten_cons] using hr',?_⟩
   rw [happ,hi']
   simp [hi.1 rfl]
theorem zgg(g:P.underlying t=some (.array n e))(q:P.cellsOf t=n*sz)(h:KTy P e m sz ag K):KTy P t (m+1) (n*sz) true (zaj n K) where
 cells:=q
 info:=info_of_underlying g
 len:=by rintro cs ⟨L,f,b,rfl⟩;rw [zer fun c j=>h.len c (b c j),f]
 isAgg w:=by simp [Go.isAgg,run_underlying g]
 one h:=by cases h
 eq:=by
  rintro d w _ _ s ⟨L,f,b,rfl⟩ ⟨L',hl',hK',rfl⟩
  obtain⟨d,rfl⟩: ∃ d',d=d'+1:=⟨d-1,by omega⟩
  obtain⟨i,hi⟩:=h.info
  obtain⟨r,u,hiff⟩:=zb7 h d (by omega) w L L' [] [] 0 (by omega) b hK' (by simp) (by simp)
  refine⟨r,?_,hiff⟩
  show (Op.equalIn (d+1) t (.agg L.flatten.toArray) (.agg L'.flatten.toArray)).run P w=_
  rw [run_equalIn_array w d _ _ g hi,h.cells,List.range_eq_range',←f]
  exact u
 chk:=by
  rintro d w em _ s ⟨L,f,b,rfl⟩
  obtain⟨d,rfl⟩: ∃ d',d=d'+1:=⟨d-1,by omega⟩
  obtain⟨i,hi⟩:=h.info
  show (Instr.checkKey em (d+1) t (.agg L.flatten.toArray)).run P w=_
  rw [Instr.checkKey]
  simp only [Sem.run_bind,run_underlying g,Result.andThen_ok]
  simp only [Std.Legacy.Range.forIn_eq_forIn_range',Std.Legacy.Range.size,Nat.sub_zero,Nat.add_one_sub_one,Nat.div_one]
  rw [←f]
  have key: ∀ (L:List (List Value)) (pre:List Value) (k:Nat),(∀ c∈L,K c)→pre.length=k*sz→
   (forIn (List.range' k L.length) PUnit.unit fun i _=>do
    let a←sizeOf e
    let a←Go.part e (pre++L.flatten).toArray (i*a)
    Instr.checkKey em d e a
    pure (ForInStep.yield PUnit.unit):Sem PUnit).run P w= .ok () w:=by
   intro L
   induction L with
   |nil=>intro pre k _ _;simp
   |cons c L ih=>
    intro pre k b o
    have l:=b c (by simp)
    have v:=h.part' (P:=P) w (xs:=pre++(c::L).flatten) (off:=k*sz) (pre:=pre) (post:=L.flatten) l (by simp) o.symm
    have x:=h.chk d w em c (by omega) l
    rw [List.length_cons,List.range'_succ]
    simp only [List.forIn_cons,Sem.run_bind,run_sizeOf w hi,h.cells,Result.andThen_ok,v,x,Sem.run_pure]
    have:=ih (pre++c) (k+1) (fun c j=>b c (by simp [j])) (by rw [List.length_append,o,h.len c l,Nat.succ_mul])
    rw [List.append_assoc] at this
    simpa [List.flatten_cons] using this
  have p:=key L [] 0 b (by simp)
  rw [List.nil_append] at p
  rw [p];rfl
/-! ### Structs-/
inductive KFld (P:Program) (m:Nat):Nat→List Field→(List Value→Prop)→Prop
 |nil {off:Nat}:KFld P m off [] (fun cs=>cs=[])
 | cons {off sz : Nat} {f : Field} {fs : List Field} {ag : Bool} {K K' : List Value → Prop} : f.name ≠ "_" → f.offset = off → KTy P f.type m sz ag K → KFld P m (off + sz) fs K' → KFld P m off (f :: fs) (fun cs => ∃ a b, K a ∧ K' b ∧ cs = a ++ b)
theorem KFld.len{off:Nat}{fs:List Field}{K:List Value→Prop}(h:KFld P m off fs K): ∃ k,∀ cs,K cs→cs.length=k:=by
 induction h with
 |nil=>exact⟨0,fun cs e=>by subst e;rfl⟩
 |cons i j c l ih=>
  obtain⟨k,d⟩:=ih
  exact⟨_,by rintro cs ⟨a,b,f,g,rfl⟩;rw [List.length_append,c.len a f,d b g]⟩
theorem zmh{off:Nat}{fs:List Field}{K:List Value→Prop}(h:KFld P m off fs K)(d:Nat)(i:m≤d)(w:World): ∀ (cs cs' pre pre':List Value),K cs→K cs'→pre.length=off→pre'.length=off→
 ∃ r:Bool,(Op.eqFields d (pre++cs).toArray (pre'++cs').toArray fs).run P w= .ok r w∧(r=true↔cs=cs'):=by
 induction h with
 |nil=>rintro cs cs' pre pre' rfl rfl _ _;exact⟨true,by simp [Op.eqFields],by simp⟩
 | @cons off sz f fs ag K K' j v c x ih=>
  rintro cs cs' pre pre' ⟨a,b,g,k,rfl⟩ ⟨a',b',ha',hb',rfl⟩ l hp'
  have n:=c.len a g
  have o:=c.len a' ha'
  obtain⟨r,p,hi⟩:=c.eq d w a a' i g ha'
  obtain⟨r',hr',hi'⟩:=ih b b' (pre++a) (pre'++a') k hb' (by rw [List.length_append,l,n]) (by rw [List.length_append,hp',o])
  have q:=c.part' (P:=P) w (xs:=pre++(a++b)) (off:=f.offset) (pre:=pre) (post:=b) g (by simp) (by omega)
  have s:=c.part' (P:=P) w (xs:=pre'++(a'++b')) (off:=f.offset) (pre:=pre') (post:=b') ha' (by simp) (by omega)
  simp only [Op.eqFields,j,ne_eq,not_false_eq_true,if_true,Sem.run_bind,q,s,p,Result.andThen_ok]
  have happ:a++b=a'++b'↔a=a'∧b=b':=⟨fun e=>List.append_inj e (by omega),fun⟨t,u⟩=>by rw [t,u]⟩
  cases r
  ·exact⟨false,by simp,by rw [happ];simp;intro e;exact absurd (hi.2 e) (by simp)⟩
  ·refine⟨r',by simpa using hr',?_⟩
   rw [happ,hi']
   simp [hi.1 rfl]
theorem zfz{fs:Array Field}(c:P.underlying t=some (.struct fs))(g:P.stoodInHeld t=false)(n:P.cellsOf t=sz)(h:KFld P m 0 fs.toList K)(o: ∀ cs,K cs→cs.length=sz):KTy P t (m+1) sz true K where
 cells:=n
 info:=info_of_underlying c
 len:=o
 isAgg w:=by simp [Go.isAgg,run_underlying c]
 one h:=by cases h
 eq:=by
  rintro d w cs cs' p i hk'
  obtain⟨d,rfl⟩: ∃ d',d=d'+1:=⟨d-1,by omega⟩
  have e:P.fieldsOf t=fs:=by simp [Program.fieldsOf,c]
  obtain⟨r,q,hi⟩:=zmh h d (by omega) w cs cs' [] [] i hk' rfl rfl
  refine⟨r,?_,hi⟩
  show (Op.equalIn (d+1) t (.agg cs.toArray) (.agg cs'.toArray)).run P w=_
  rw [run_equalIn_struct w d t _ _ (by rw [e];exact c) g,e]
  exact q
 chk:=by
  rintro d w em cs p i
  obtain⟨d,rfl⟩: ∃ d',d=d'+1:=⟨d-1,by omega⟩
  show (Instr.checkKey em (d+1) t (.agg cs.toArray)).run P w=_
  rw [Instr.checkKey]
  simp only [Sem.run_bind,run_underlying c,Result.andThen_ok]
  rw [←Array.forIn_toList]
  have key: ∀ (off:Nat) (L:List Field) (K:List Value→Prop),KFld P m off L K→ ∀ (cs pre:List Value),K cs→pre.length=off→
   (forIn L PUnit.unit fun f _=>do
    if f.name ≠ "_" then do
     let a←Go.part f.type (pre++cs).toArray f.offset
     Instr.checkKey em d f.type a
     pure (ForInStep.yield PUnit.unit)
    else pure (ForInStep.yield PUnit.unit):Sem PUnit).run P w= .ok () w:=by
   intro off L K h
   induction h with
   |nil=>rintro cs pre rfl _;simp
   | @cons off sz f fs ag K K' s z j A ih=>
    rintro cs pre ⟨a,b,k,u,rfl⟩ v
    have x:=j.part' (P:=P) w (xs:=pre++(a++b)) (off:=f.offset) (pre:=pre) (post:=b) k (by simp) (by omega)
    have y:=j.chk d w em a (by omega) k
    simp only [List.forIn_cons,Sem.run_bind,s,ne_eq,not_false_eq_true,if_true,Result.andThen_ok,x,y,Sem.run_pure]
    have:=ih b (pre++a) u (by rw [List.length_append,v,j.len a k])
    simpa using this
  have l:=key 0 _ K h cs [] i rfl
  rw [List.nil_append] at l
  rw [l];rfl
end
/-! ### Finding-/
theorem zdf{α:Type}: ∀ {l:List α} {p:α×α},p∈l.zip l→p.1=p.2∧p.1∈l
 | [],p,h=>by simp at h
 |a::l,p,h=>by
  rw [List.zip_cons_cons] at h
  rcases List.mem_cons.1 h with rfl|h
  ·exact⟨rfl,by simp⟩
  ·obtain⟨b,c⟩:=zdf h
   exact⟨b,by simp [c]⟩
def z1p(v:Value):Prop:=(∃ q x,v= .int q x)∨ ∃ b,v= .bool b
theorem z9a{n:Nat}{v:Value}(h:z1p v):Instr.sameBits n v v=true:=by
 rcases h with⟨q,x,rfl⟩|⟨b,rfl⟩
 ·cases n<;>simp [Instr.sameBits]
 ·cases n<;>simp [Instr.sameBits]
theorem zcn{n:Nat}{cs:List Value}(h: ∀ v∈cs,z1p v):Instr.sameBits (n+1) (.agg cs.toArray) (.agg cs.toArray)=true:=by
 simp only [Instr.sameBits,beq_self_eq_true,Bool.true_and,List.all_eq_true]
 intro p e
 obtain⟨c,d⟩:=zdf e
 obtain⟨a,b⟩:=p
 simp only at c d
 subst c
 exact z9a (h _ d)
section
variable {P : Program} {kt : TypeId} {m sz : Nat} {K : List Value → Prop} {κ : Type} [DecidableEq κ] {ke : κ → Value} {cl : κ → List Value}
theorem zgt(h:KTy P kt m sz true K)(j:m≤Op.maxDepth)(f: ∀ k,ke k= .agg (cl k).toArray)(g: ∀ k,K (cl k))(hinj: ∀ a b,cl a=cl b→a=b){β:Type}(k:κ)(ve:β→Value)(w:World):
 ∀ (es:List MapEntry) (M:List (κ×β)) (i:Nat),es.map z5j=M.map (fun p=>(ke p.1,ve p.2))→(Instr.findAsking kt (ke k) es i).run P w= .ok ((z0p M k i).map fun p=>(p.1,ve p.2)) w
 | [],[],i,_=>by simp [Instr.findAsking,z0p]
 | [],_::_,_,h=>by simp at h
 |_::_,[],_,h=>by simp at h
 |e::es,p::M,i,c=>by
  simp only [List.map_cons,List.cons.injEq,z5j,Prod.mk.injEq] at c
  obtain⟨⟨l,n⟩,o⟩:=c
  obtain⟨r,q,hi⟩:=h.eq Op.maxDepth w (cl k) (cl p.1) j (g k) (g p.1)
  have hr':(Op.equal kt (ke k) e.key).run P w= .ok r w:=by
   rw [l,f,f];exact q
  unfold Instr.findAsking z0p
  rw [Sem.run_bind,hr',Result.andThen_ok]
  have d:r=true↔k=p.1:=⟨fun e=>hinj _ _ (hi.1 e),fun e=>hi.2 (by rw [e])⟩
  by_cases hk:k=p.1
  ·rw [if_pos (d.2 hk),if_pos hk,n];rfl
  ·rw [if_neg (fun e=>hk (d.1 e)),if_neg hk]
   exact zgt h j f g hinj k ve w es M (i+1) o
theorem zl3(h:KTy P kt m sz true K)(e:m≤10000)(g:(match P.underlying kt with|some (.array _ _)|some (.struct _)=>true|_=>false)=true)(c: ∀ k,ke k= .agg (cl k).toArray)(f: ∀ k,K (cl k))(hinj: ∀ a b,cl a=cl b→a=b)
 (d: ∀ k,∀ v∈cl k,z1p v):KOk P kt ke where
 check b k w:=by rw [c];exact h.chk 10000 w b (cl k) e (f k)
 find k es M ve w hes:=by
  rw [run_findKey_eq w g]
  exact zgt h e c f hinj k ve w es M 0 hes
 same k:=by rw [c];exact zcn (d k)
end
end GV
end Go.Proofs.YtkkcidhcfkmbjaaGreatDoor

namespace Go.Proofs.YtkkcidhcfkmbjaaGreatDoor
namespace GV
abbrev Arr (n:Nat) (α:Type):= {l:List α//l.length=n}
instance {n:Nat} {α:Type} [Inhabited α]:Inhabited (Arr n α):=⟨⟨List.replicate n default,List.length_replicate⟩⟩
def z1i{α:Type}[Inhabited α](n:Nat)(l:List α):Arr n α:=if h:l.length=n then⟨l,h⟩ else default
theorem z4v{α:Type}[Inhabited α]{n:Nat}{l:List α}(h:l.length=n):(z1i n l).1=l:=by unfold z1i;rw [dif_pos h]
theorem zf2{α:Type}{cs:List α}{n k i:Nat}(h:cs.length=n*k)(hi:i<n):((cs.drop (i*k)).take k).length=k:=by
 rw [List.length_take,List.length_drop,h]
 have:(i+1)*k≤n*k:=Nat.mul_le_mul_right k hi
 rw [Nat.succ_mul] at this
 omega
theorem zi4{α:Type}{cs:List α}{n k:Nat}(h:cs.length=n*k){v:α}(c:v∈cs): ∃ i,i<n∧v∈(cs.drop (i*k)).take k:=by
 obtain⟨j,a,rfl⟩:=List.mem_iff_getElem.1 c
 have d:0<k:=by
  rcases Nat.eq_zero_or_pos k with e|e
  ·subst e;simp at h;subst h;simp at a
  ·exact e
 have b:j/k<n:=Nat.div_lt_of_lt_mul (show j<k*n by rw [Nat.mul_comm,←h];exact a)
 refine⟨j/k,b,?_⟩
 have f:=Nat.div_add_mod j k
 have g:=Nat.mod_lt j d
 have l:=zf2 h b
 refine List.mem_iff_getElem.2 ⟨j%k,by omega,?_⟩
 rw [List.getElem_take,List.getElem_drop]
 congr 1
 rw [Nat.mul_comm];exact f
def zph{α:Type}(n:Nat)(T:Ty α):Ty (Arr n α) where
 size:=n*T.size
 agg:=true
 rep R cs X:=cs.length=n*T.size∧ ∀ i x,X.1[i]? =some x→T.rep R ((cs.drop (i*T.size)).take T.size) x
 len h:=h.1
 mono hle h:=⟨h.1,fun i x hx=>T.mono hle (h.2 i x hx)⟩
 one h:=by cases h
 cell:=by
  rintro R cs X ⟨a,b⟩ v hv
  obtain⟨i,hi,hm⟩:=zi4 a hv
  have hl:i<X.1.length:=by rw [X.2];exact hi
  exact T.cell (b i _ (List.getElem?_eq_getElem hl)) v hm
structure CellsOf {α:Type} (T:Ty α) (cl:α→List Value):Prop where
 len: ∀ x,(cl x).length=T.size
 iff: ∀ R cs x,T.rep R cs x↔cs=cl x
theorem cells_int{q:IntKind}:CellsOf (zo q) (fun x=>[Value.int q x]):=⟨fun _=>rfl,fun R cs x=>Iff.rfl⟩
def sj{α:Type}{n:Nat}(cl:α→List Value)(X:Arr n α):List Value:=X.1.flatMap cl
theorem z0h{α:Type}{cl:α→List Value}{k:Nat}(h: ∀ x,(cl x).length=k): ∀ (l:List α) (i:Nat) (x:α),l[i]? =some x→((l.flatMap cl).drop (i*k)).take k=cl x
 | [],i,x,a=>by simp at a
 |y::l,0,x,a=>by
  have:y=x:=by simpa using a
  subst this
  rw [Nat.zero_mul,List.drop_zero,List.flatMap_cons,List.take_left' (h y)]
 |y::l,i+1,x,a=>by
  rw [List.flatMap_cons,Nat.succ_mul,Nat.add_comm,←List.drop_drop,List.drop_left' (h y)]
  exact z0h h l i x (by simpa using a)
theorem z0j{α:Type}{cl:α→List Value}{k:Nat}(h: ∀ x,(cl x).length=k): ∀ (l:List α),(l.flatMap cl).length=l.length*k
 | []=>by simp
 |y::l=>by rw [List.flatMap_cons,List.length_append,h y,z0j h l,List.length_cons,Nat.succ_mul,Nat.add_comm]
theorem zhr{cs cs':List Value}{n k:Nat}(h:cs.length=n*k)(h':cs'.length=n*k)(a: ∀ i,i<n→(cs.drop (i*k)).take k=(cs'.drop (i*k)).take k):cs=cs':=by
 induction n generalizing cs cs' with
 |zero=>simp at h h';rw [h,h']
 |succ n ih=>
  rw [Nat.succ_mul] at h h'
  have b:=a 0 (by omega)
  rw [Nat.zero_mul,List.drop_zero,List.drop_zero] at b
  have c:cs.drop k=cs'.drop k:=ih (by rw [List.length_drop];omega) (by rw [List.length_drop];omega) fun i hi=>by
   have:=a (i+1) (by omega)
   rw [Nat.succ_mul,Nat.add_comm] at this
   rwa [List.drop_drop,List.drop_drop]
  rw [←List.take_append_drop k cs,←List.take_append_drop k cs',b,c]
theorem zhi{α:Type}{T:Ty α}{cl:α→List Value}{n:Nat}(h:CellsOf T cl):CellsOf (zph n T) (sj cl:Arr n α→List Value):=by
 refine⟨fun X=>by show (X.1.flatMap cl).length=n*T.size;rw [z0j h.len,X.2],fun R cs X=>?_⟩
 show (cs.length=n*T.size∧_)↔cs=X.1.flatMap cl
 constructor
 ·rintro⟨b,c⟩
  refine zhr b (by rw [z0j h.len,X.2]) fun i hi=>?_
  have a:i<X.1.length:=by rw [X.2];exact hi
  have:=(h.iff _ _ _).1 (c i _ (List.getElem?_eq_getElem a))
  rw [this,z0h h.len _ _ _ (List.getElem?_eq_getElem a)]
 ·rintro rfl
  exact⟨by rw [z0j h.len,X.2],fun i x d=>by rw [z0h h.len _ _ _ d];exact(h.iff _ _ _).2 rfl⟩
theorem zfa{α β:Type}{A:Ty α}{B:Ty β}{ca:α→List Value}{cb:β→List Value}(h:CellsOf A ca)(k:CellsOf B cb):CellsOf (cz A B) (fun x=>ca x.1++cb x.2):=by
 refine⟨fun x=>by show (ca x.1++cb x.2).length=A.size+B.size;rw [List.length_append,h.len,k.len],fun R cs x=>?_⟩
 constructor
 ·rintro⟨c,d,rfl,a,b⟩
  rw [(h.iff _ _ _).1 a,(k.iff _ _ _).1 b]
 ·rintro rfl
  exact⟨_,_,rfl,(h.iff _ _ _).2 rfl,(k.iff _ _ _).2 rfl⟩
theorem zkm{α β:Type}{A:Ty α}{ca:α→List Value}{f:β→α}(h:CellsOf A ca):CellsOf (A.as f) (fun x=>ca (f x)):=⟨fun x=>h.len (f x),fun R cs x=>h.iff R cs (f x)⟩
theorem zd1{α:Type}{cl:α→List Value}{k:Nat}(h: ∀ x,(cl x).length=k)(hi: ∀ x y,cl x=cl y→x=y): ∀ (l l':List α),l.length=l'.length→l.flatMap cl=l'.flatMap cl→l=l'
 | [],[],_,_=>rfl
 | [],_::_,a,_=>by simp at a
 |_::_,[],a,_=>by simp at a
 |x::l,y::l',a,e=>by
  rw [List.flatMap_cons,List.flatMap_cons] at e
  obtain⟨b,c⟩:=List.append_inj e (by rw [h,h])
  rw [hi _ _ b,zd1 h hi l l' (by simpa using a) c]
theorem zhc{α:Type}{n:Nat}{cl:α→List Value}{k:Nat}(h: ∀ x,(cl x).length=k)(hi: ∀ x y,cl x=cl y→x=y){X Y:Arr n α}(e:sj cl X=sj cl Y):X=Y:=
 Subtype.ext (zd1 h hi _ _ (by rw [X.2,Y.2]) e)
theorem zle{α:Type}{n:Nat}{cl:α→List Value}{K:List Value→Prop}(h: ∀ x,K (cl x))(X:Arr n α):zaj n K (sj cl X):=
 ⟨X.1.map cl,by rw [List.length_map,X.2],fun c a=>by obtain⟨x,_,rfl⟩:=List.mem_map.1 a;exact h x,by unfold sj;rw [List.flatMap_def]⟩
theorem zim{α:Type}{n:Nat}{cl:α→List Value}(h: ∀ x,∀ v∈cl x,z1p v)(X:Arr n α): ∀ v∈sj cl X,z1p v:=fun v a=>by
 obtain⟨x,_,b⟩:=List.mem_flatMap.1 a
 exact h x v b
/-! ### A box that holds an array:as a slice that can't grow-/
section a
variable {P : Program} {ρ : Option Nat} {n : Nat} {ops : Array Oper} {Q : Po} {rest : List Oper} {l : Nat → Value} {D : List Nat} {R : RH} {O : List Frag} {ty : TypeId} {pos : String} {after : Array Go.Edge} {d : Nat} {dst : Option Tmp} {g : Option (Nat × Bool)}
variable {α β : Type} {T : Ty α} {B : Ty β} {X : List α} {v u w : Value} {x y ix' : Operand} {f F : Frag} {i j o b m sz : Nat} {t s e : TypeId} {k : IntKind}
end a
end GV
end Go.Proofs.YtkkcidhcfkmbjaaGreatDoor

namespace Go.Proofs.YtkkcidhcfkmbjaaGreatDoor
namespace GV
theorem pl_int{q:IntKind}(x:Int): ∀ v∈[Value.int q x],z1p v:=fun v a=> .inl ⟨_,_,List.mem_singleton.1 a⟩
theorem znf{q:IntKind}(x y:Int)(h:[Value.int q x]=[Value.int q y]):x=y:=by simpa using h
def mh{α:Type}{n:Nat}(X:Arr n α)(i:Int)(z:α):Arr n α:=⟨X.1.set i.toNat z,by rw [List.length_set];exact X.2⟩
theorem znc{α:Type}[Inhabited α]{n i sz:Nat}{cl:α→List Value}{X:Arr n α}(a: ∀ x,(cl x).length=sz)(hi:i<n):((sj cl X).drop (i*sz)).take sz=cl (X.1.getD i default):=by
 have h:i<X.1.length:=by rw [X.2];exact hi
 rw [show sj cl X=X.1.flatMap cl from rfl,z0h a _ _ _ (List.getElem?_eq_getElem h)]
 simp [List.getD_eq_getElem?_getD,h]
theorem zbu{α:Type}{n sz:Nat}{cl:α→List Value}(a: ∀ x,(cl x).length=sz)(X:Arr n α):(sj cl X).length=n*sz:=by
 rw [show sj cl X=X.1.flatMap cl from rfl,z0j a,X.2]
theorem zey{α:Type}{cl:α→List Value}{k:Nat}(h: ∀ x,(cl x).length=k)(z:α): ∀ (l:List α) (i:Nat),i<l.length→(l.set i z).flatMap cl=(l.flatMap cl).take (i*k)++cl z++(l.flatMap cl).drop ((i+1)*k)
 | [],i,hi=>by simp at hi
 |x::l,0,_=>by
  rw [List.set_cons_zero,List.flatMap_cons,List.flatMap_cons,Nat.zero_mul,List.take_zero,List.nil_append,Nat.zero_add,Nat.one_mul,List.drop_left' (h x)]
 |x::l,i+1,hi=>by
  rw [List.set_cons_succ,List.flatMap_cons,List.flatMap_cons,zey h z l i (by simpa using hi)]
  have a:(i+1)*k=k+i*k:=by rw [Nat.succ_mul,Nat.add_comm]
  have b:(i+1+1)*k=k+(i+1)*k:=by rw [Nat.succ_mul (i+1),Nat.add_comm]
  rw [a,b,←h x,List.take_length_add_append,List.drop_length_add_append,h x]
  simp only [List.append_assoc]
  rw [show k+i*k=(i+1)*k from a.symm]
theorem zff{α:Type}[Inhabited α]{n i sz o:Nat}{cl:α→List Value}{X:Arr n α}{vs:List Value}{z:α}(a: ∀ x,(cl x).length=sz)(hi:i<n)(b:(cl (X.1.getD i default)).take o++vs++(cl (X.1.getD i default)).drop (o+vs.length)=cl z)(g:o+vs.length≤sz):
 over (sj cl X) (i*sz+o) vs=sj cl (mh X (i:Int) z):=by
 have h:i<X.1.length:=by rw [X.2];exact hi
 have hlen:=zbu a X
 have j:(i+1)*sz≤n*sz:=Nat.mul_le_mul_right sz hi
 have c:(i+1)*sz=i*sz+sz:=Nat.succ_mul i sz
 have d:=znc (X:=X) a hi
 show _=(X.1.set (i:Int).toNat z).flatMap cl
 rw [Int.toNat_natCast,zey a z X.1 i h,←b,←d]
 unfold over
 show (sj cl X).take (i*sz+o)++vs++(sj cl X).drop (i*sz+o+vs.length)=(sj cl X).take (i*sz)++_++(sj cl X).drop ((i+1)*sz)
 rw [c]
 generalize sj cl X=cs at hlen
 have e:cs.take (i*sz+o)=cs.take (i*sz)++(((cs.drop (i*sz)).take sz).take o):=by
  rw [List.take_take,Nat.min_eq_left (by omega),List.take_add]
 have f:cs.drop (i*sz+o+vs.length)=(((cs.drop (i*sz)).take sz).drop (o+vs.length))++cs.drop (i*sz+sz):=by
  rw [List.drop_take,List.drop_drop,←Nat.add_assoc]
  have:cs.drop (i*sz+sz)=(cs.drop (i*sz+o+vs.length)).drop (sz-(o+vs.length)):=by rw [List.drop_drop];congr 1;omega
  rw [this,List.take_append_drop]
 rw [e,f]
 simp only [List.append_assoc]
section w
variable {P : Program} {ρ : Option Nat} {n : Nat} {ops : Array Oper} {Q : Po} {rest : List Oper} {l : Nat → Value} {D : List Nat} {R : RH} {O : List Frag} {ty : TypeId} {pos : String} {after : Array Go.Edge} {d : Nat} {dst : Option Tmp} {g : Option (Nat × Bool)}
variable {α : Type} [Inhabited α] {x y : Operand} {i j o b m sz k off : Nat} {t e bt : TypeId} {X : Arr m α} {cl : α → List Value} {vs : List Value} {v : Value}
theorem z1n{cs:List Value}(c: ∀ w,(isAgg t).run P w= .ok true w)(d: ∀ w,(sizeOf t).run P w= .ok k w)(e:ev l x= .pointer (some ⟨b,0,none⟩))(f:O[j]? =some (box b cs bt))(a:cs.length=k)(h:Value.agg cs.toArray=v):
 Val P ρ ⟨dst,.load t x,ty,pos,after,g⟩ l R O v:=by
 subst h
 exact dm c d e f (by rw [List.drop_zero,←a,List.take_length]) a
theorem ze0{z:α}{w:Value}(a: ∀ x,(cl x).length=sz)(c: ∀ w,(sizeOf t).run P w= .ok k w)(d:ev l x= .pointer (some ⟨b,off,none⟩))(hoff:off=i*sz+o)(e:O[j]? =some (box b (sj cl X) bt))(hi:i<m)
 (f:ev l y=w) (h:w.cells=vs.toArray) (n:vs.length=k) (p: ∀ v∈vs,v.oneCell'=true) (q:o+vs.length≤sz) (r:(cl (X.1.getD i default)).take o++vs++(cl (X.1.getD i default)).drop (o+vs.length)=cl z):
 Eff P ρ ⟨dst,.store t x y,ty,pos,after,g⟩ l R O (fun v' R' O'=>v'=undef∧R'=R∧O'=O.set j (box b (sj cl (mh X (i:Int) z)) bt)):=by
 subst hoff
 have s:=zff (X:=X) a hi r q
 have u:=zbu a X
 have A:(i+1)*sz≤m*sz:=Nat.mul_le_mul_right sz hi
 rw [Nat.succ_mul] at A
 have:=z0a (P:=P) (ρ:=ρ) (R:=R) (dst:=dst) (ty:=ty) (pos:=pos) (after:=after) (g:=g) c d f h n e (by rw [u];omega) p
 rw [s] at this
 exact this
theorem zbo{z:α}{w:Value}{q:Int}(d: ∀ x,(cl x).length=sz)(f: ∀ w,(sizeOf t).run P w= .ok k w)(g:ev l x= .pointer (some ⟨b,off,none⟩))(h:q.toNat=i)(hoff:off=i*sz+o)(a:O[j]? =some (box b (sj cl X) bt))(hi:i<m)
 (p:ev l y=w) (r:w.cells=vs.toArray) (s:vs.length=k) (u: ∀ v∈vs,v.oneCell'=true) (A:Nat.ble (o+vs.length) sz=true) (B:(cl (X.1.getD i default)).take o++vs++(cl (X.1.getD i default)).drop (o+vs.length)=cl z)
 (c:wo P ρ n ops Q rest l D R (O.set j (box b (sj cl (mh X q z)) bt))):wo P ρ n ops Q (⟨none,.store t x y,ty,pos,after,none⟩::rest) l D R O:=by
 have e:mh X q z=mh X (i:Int) z:=Subtype.ext (by show X.1.set q.toNat z=X.1.set ((i:Int).toNat) z;rw [h,Int.toNat_natCast])
 rw [e] at c
 exact z6c (ze0 d f g hoff a hi p r s u (by simpa using A) B) fun v' R' O' _ ⟨_,C,a⟩=>by subst C;subst a;exact c
theorem z8e{cs cs':List Value}{w:Value}(c: ∀ w,(sizeOf t).run P w= .ok k w)(d:ev l x= .pointer (some ⟨b,0,none⟩))(a:O[j]? =some (box b cs bt))(m:cs.length=k)(hk':cs'.length=k)(e:ev l y=w)(f:w.cells=cs'.toArray)(g: ∀ v∈cs',v.oneCell'=true)
 (h:wo P ρ n ops Q rest l D R (O.set j (box b cs' bt))):wo P ρ n ops Q (⟨none,.store t x y,ty,pos,after,none⟩::rest) l D R O:=
 z6c (z0a c d e f hk' a (by omega) g) fun v' R' O' _ ⟨_,i,a⟩=>by
  subst i;subst a
  have:over cs 0 cs'=cs':=by unfold over;rw [List.take_zero,List.nil_append,Nat.zero_add,List.drop_eq_nil_of_le (by omega),List.append_nil]
  rw [this];exact h
theorem zbb{cs:List Value}(h: ∀ v∈cs,z1p v): ∀ v∈cs,v.oneCell'=true:=fun v a=>by
 rcases h v a with⟨q,x,rfl⟩|⟨b,rfl⟩<;>rfl
/-! ### Structs out of parts of any size-/
inductive FillOk (place:Nat→Option (Nat×Nat)):Nat→List (Nat×Value)→List Value→Prop
 |nil {off:Nat}:FillOk place off [] []
 |last {off i:Nat} {v:Value} {c:List Value}:v.cells=c.toArray→place i=some (off,c.length)→FillOk place off [(i,v)] c
 |cons {off i:Nat} {v:Value} {ps:List (Nat×Value)} {c out:List Value}:v.cells=c.toArray→place i=some (off,c.length)→FillOk place (off+c.length) ps out→FillOk place off ((i,v)::ps) (c++out)
theorem zlc{place:Nat→Option (Nat×Nat)}{off:Nat}{ps:List (Nat×Value)}{out:List Value}(h:FillOk place off ps out): ∀ (done rest:List Value),done.length=off→rest.length=out.length→Instr.fill place (done++rest).toArray ps=some (done++out).toArray:=by
 induction h with
 |nil=>
  intro done rest _ a
  have:rest=[]:=List.length_eq_zero_iff.1 (by simpa using a)
  subst this;rfl
 | @last off i v c b d=>
  intro done rest e a
  simp only [Instr.fill,d,b,List.size_toArray]
  rw [if_neg (by simp;omega)]
  have hfold:Array.foldl (fun(cs:Array Value) (x:Value×Nat)=>cs.setIfInBounds (off+x.2) x.1) (done++rest).toArray c.toArray.zipIdx=(done++c).toArray:=by
   rw [←Array.foldl_toList]
   have:c.toArray.zipIdx.toList=c.zipIdx 0:=by simp
   rw [this,foldl_set,Nat.add_zero,foldl_over _ _ _ (by simp;omega)]
   congr 1
   unfold over
   rw [←e,List.take_left,List.drop_eq_nil_of_le (by simp;omega),List.append_nil]
  exact congrArg some hfold
 | @cons off i v ps c out b d g ih=>
  intro done rest e a
  rw [List.length_append] at a
  simp only [Instr.fill,d,b,List.size_toArray]
  rw [if_neg (by simp;omega)]
  have hfold:Array.foldl (fun(cs:Array Value) (x:Value×Nat)=>cs.setIfInBounds (off+x.2) x.1) (done++rest).toArray c.toArray.zipIdx=((done++c)++rest.drop c.length).toArray:=by
   rw [←Array.foldl_toList]
   have:c.toArray.zipIdx.toList=c.zipIdx 0:=by simp
   rw [this,foldl_set,Nat.add_zero,foldl_over _ _ _ (by simp;omega)]
   congr 1
   unfold over
   rw [←e,List.take_left,List.drop_append,List.drop_eq_nil_of_le (by omega)]
   simp
  have f:=ih (done++c) (rest.drop c.length) (by rw [List.length_append];omega) (by rw [List.length_drop];omega)
  rw [←List.append_assoc,←f]
  exact congrArg (fun c=>Instr.fill place c ps) hfold
theorem zga{parts:List (Nat×Operand)}{ps:List (Nat×Value)}{fs:Array Field}{pls:Array (Nat×Nat)}{out:List Value}(c:(parts.map fun x=>(x.1,ev l x.2))=ps)(d:P.underlying t=some (.struct fs))(e: ∀ w,∃ z,(zeroValue t).run P w= .ok z w∧z.cells.size=k)
 (a: ∀ w,(fs.mapM fun f=>do pure (f.offset,←sizeOf f.type):Sem (Array (Nat×Nat))).run P w= .ok pls w) (h:FillOk (pls[·]?) 0 ps out) (i:out.length=k) (j:Value.agg out.toArray=v):Val P ρ ⟨dst,.build t parts.toArray,ty,pos,after,g⟩ l R O v:=
 o5 c fun w=>by
  subst j
  obtain⟨z,m,n⟩:=e w
  have b:=zlc h [] z.cells.toList rfl (by rw [i,Array.length_toList];exact n)
  simp only [List.nil_append,Array.toArray_toList] at b
  simp only [Instr.build,Sem.run_bind,m,Result.andThen_ok,run_underlying d,a w,b,Sem.run_pure]
theorem zlr{cs:List Value}(h:cs.length=k)(a: ∀ w,∃ z,(zeroValue t).run P w= .ok z w∧z.cells=cs.toArray): ∀ w,∃ z,(zeroValue t).run P w= .ok z w∧z.cells.size=k:=fun w=>by
 obtain⟨z,b,c⟩:=a w
 exact⟨z,b,by rw [c,List.size_toArray,h]⟩
theorem zhk{w:World}{cs:List Value}(c:Holds R O w)(d:O[i]? =some (box b cs bt))(e: ∀ w,(isAgg t).run P w= .ok true w)(f: ∀ w,(sizeOf t).run P w= .ok k w)(a:cs.length=k):(loadVar t ⟨b,0,none⟩).run P w= .ok (.agg cs.toArray) w:=
 z7j c d (by rw [List.drop_zero,←a,List.take_length]) e f a (by simp [a])
end w
/-! ### Loops that are gone through so many times-/
section u
variable {P : Program} {ρ : Option Nat} {n : Nat} {Q : Po} {l : Nat → Value} {D : List Nat} {R : RH} {O : List Frag} {c : Code}
end u
section mm
variable {P : Program} {ρ : Option Nat} {l : Nat → Value} {R : RH} {O : List Frag} {ty : TypeId} {pos : String} {after : Array Go.Edge} {dst : Option Tmp} {g : Option (Nat × Bool)} {k : IntKind} {a b : Int} {x y : Operand} {at' : Array TypeId} {t : TypeId} {d : TypeDesc}
theorem za9(j:at'[0]? =some t)(m:P.underlying t=some d)(f:ev l x= .int k a)(i:ev l y= .int k b):Val P ρ ⟨dst,.call ⟨.builtin .max,#[x,y],at'⟩,ty,pos,after,g⟩ l R O (.int k (max a b)):=by
 intro A w _;rw [qb (by intro c h;cases h)]
 have e:(if b>a then b else a)=max a b:=by rw [Int.max_def];split<;>split<;>omega
 simp [execOp,resolve,invoke,builtin,Builtin.max_,Builtin.max2,f,i,e]
end mm
section p
variable {P : Program} {ρ : Option Nat} {l : Nat → Value} {R : RH} {O : List Frag} {ty : TypeId} {pos : String} {after : Array Go.Edge} {dst : Option Tmp} {g : Option (Nat × Bool)}
variable {α β : Type} [Inhabited α] {T : Ty α} {B : Ty β} {X : List α} {v u w : Value} {x y : Operand} {F : Frag} {i o : Nat} {t : TypeId} {se : α → β → α}
end p
end GV
end Go.Proofs.YtkkcidhcfkmbjaaGreatDoor

namespace Go.Proofs.YtkkcidhcfkmbjaaGreatDoor
namespace GV
def zp7{α:Type}(T:Ty α):Ty α where
 size:=1
 agg:=false
 rep R cs x:= ∃ v,cs=[v]∧PRep T R v x
 len:=by rintro R cs x ⟨v,rfl,_⟩;rfl
 mono:=by rintro R R' cs x hle ⟨v,rfl,h⟩;exact⟨v,rfl,h.mono hle⟩
 one _:=rfl
 cell:=by
  rintro R cs x ⟨v,rfl,b,off,c,ty,fr,rfl,_⟩ u hu
  rw [List.mem_singleton.1 hu];rfl
theorem z4b{α:Type}{T:Ty α}{R:RH}{v:Value}{x:α}:VRep (zp7 T) R v x↔PRep T R v x:=by
 constructor
 ·rintro⟨cs,⟨u,rfl,h⟩,rfl⟩
  exact h
 ·exact fun h=>⟨[v],⟨v,rfl,h⟩,rfl⟩
/-! ### A box that only is read,of which the value is known-/
def zam(v:Value):Ty Unit where
 size:=v.cells.size
 agg:=true
 rep _ cs _:=v= .agg cs.toArray∧ ∀ c∈cs,c.oneCell'=true
 len:=by rintro R cs x ⟨rfl,_⟩;simp [Value.cells]
 mono _ h:=h
 one h:=by cases h
 cell h:=h.2
theorem zjr{R:RH}{v w:Value}{x:Unit}(h:VRep (zam v) R w x):w=v:=by
 obtain⟨cs,⟨rfl,_⟩,rfl⟩:=h;rfl
theorem zpo{α:Type}{T:Ty α}{R:RH}{v:Value}{y:α}(a:T.agg=true)(b:VRep T R v y):VRep (zam v) R v ():=by
 obtain⟨cs,c,rfl⟩:=b
 have e:T.mk' cs= .agg cs.toArray:=by unfold Ty.mk';rw [a];rfl
 exact⟨cs,⟨e,T.cell c⟩,e⟩
theorem zjx{α:Type}{T:Ty α}{R:RH}{v u:Value}{y:α}(f:T.agg=true)(g:PRep (zam v) R u ())(h:VRep T R v y):PRep T R u y:=by
 obtain⟨cs,a,rfl⟩:=h
 have e:T.mk' cs= .agg cs.toArray:=by unfold Ty.mk';rw [f];rfl
 obtain⟨b,off,c,ty,fr,i,j,d,_⟩:=g
 have k:(zam (T.mk' cs)).size=T.size:=by rw [←T.len a,e];simp [zam,Value.cells]
 refine⟨b,off,c,ty,fr,i,j,?_⟩
 rw [k,e] at d
 have:cs=cellsAt c off T.size:=by simpa using d
 rw [←this];exact a
theorem xq{α:Type}{P:Program}{ρ:Option Nat}{l:Nat→Value}{R:RH}{O:List Frag}{dst:Option Tmp}{ty:TypeId}{pos:String}{after:Array Go.Edge}{g:Option (Nat×Bool)}{T:Ty α}{t:TypeId}{x:Operand}{u v:Value}{y:α}
 (a:TyOk P t T) (b:T.agg=true) (c:ev l x=u) (d:PRep (zam v) R u ()) (f:VRep T R v y):Val P ρ ⟨dst,.load t x,ty,pos,after,g⟩ l R O v:=by
 have i:(zam v).size=T.size:=by
  obtain⟨cs,j,rfl⟩:=f
  have e:T.mk' cs= .agg cs.toArray:=by unfold Ty.mk';rw [b];rfl
  rw [←T.len j,e];simp [zam,Value.cells]
 have ht':TyOk P t (zam v):=⟨fun w=>by rw [a.agg w,b];rfl,fun w=>by rw [a.size w,i]⟩
 obtain⟨w,k,h⟩:=z4x (ρ:=ρ) (O:=O) ht' c d
 obtain rfl:=zjr k
 exact h _ _ _ _ _
theorem xy{α:Type}{P:Program}{ρ:Option Nat}{n:Nat}{ops:Array Oper}{Q:Po}{rest:List Oper}{l:Nat→Value}{D:List Nat}{R:RH}{O:List Frag}{ty:TypeId}{pos:String}{after:Array Go.Edge}{d:Nat}{T:Ty α}{e:TypeId}{x:Operand}{v:Value}{y:α}(g:Nat.blt d n=true)(h:ev l x=v)(b:T.agg=true)(c:VRep T R v y)
 (i: ∀ u R',RH.le R R'→PRep (zam v) R' u ()→PRep T R' u y→wo P ρ n ops Q rest (upd l d u) D R' O):wo P ρ n ops Q (⟨some d,.box e x,ty,pos,after,none⟩::rest) l D R O:=
 z8u g h (zpo b c) fun u R' a f=>i u R' a f (zjx b f (c.mono a))
/-! ### A part of a box that is an array of values of one cell-/
def bu(n:Nat)(g:Nat→Value):List Value:=(List.range n).map g
def AG{α:Type}[Inhabited α](T:Ty α)(R:RH)(n:Nat)(g:Nat→Value)(X:List α):Prop:=X.length=n∧ ∀ k,k<n→VRep T R (g k) (X.getD k default)∧(g k).oneCell'=true
theorem AG.mono{α:Type}[Inhabited α]{T:Ty α}{R R':RH}{n:Nat}{g:Nat→Value}{X:List α}(h:AG T R n g X)(a:RH.le R R'):AG T R' n g X:=⟨h.1,fun k b=>⟨(h.2 k b).1.mono a,(h.2 k b).2⟩⟩
theorem zj7{g:Nat→Value}{k:Nat}{v:Value}:upd g k v k=v:=by simp [upd]
theorem upd_ne{g:Nat→Value}{k i:Nat}{v:Value}(h:i≠k):upd g k v i=g i:=by
 have:i.beq k=false:=by
  cases e:i.beq k
  ·rfl
  ·exact absurd (Nat.eq_of_beq_eq_true e) h
 simp [upd,this]
theorem z4m(n:Nat)(g:Nat→Value):(bu n g).length=n:=by simp [bu]
theorem zjs{n k:Nat}{g:Nat→Value}{pre post:List Value}(a:k<n):(pre++(bu n g++post))[pre.length+k*1]? =some (g k):=by
 rw [Nat.mul_one,List.getElem?_append_right (by omega),Nat.add_sub_cancel_left,List.getElem?_append_left (by rw [z4m];exact a)]
 simp [bu,a]
theorem zl1{n k:Nat}{g:Nat→Value}(v:Value)(a:k<n):(bu n g).set k v=bu n (upd g k v):=by
 apply List.ext_getElem?
 intro i
 rw [List.getElem?_set]
 by_cases hi:k=i
 ·subst hi
  simp only [if_true,z4m,a,bu,List.getElem?_map,List.getElem?_range a,Option.map_some,zj7]
  simp [a]
 ·rw [if_neg hi]
  by_cases h2:i<n
  ·simp only [bu,List.getElem?_map,List.getElem?_range h2,Option.map_some,upd_ne (fun e=>hi e.symm)]
  ·simp [bu,h2]
theorem zhy{n k:Nat}{g:Nat→Value}{pre post:List Value}{v:Value}(a:k<n):over (pre++(bu n g++post)) (pre.length+k*1) [v]=pre++(bu n (upd g k v)++post):=by
 rw [←zl1 v a]
 have d:(bu n g).length=n:=z4m n g
 unfold over
 rw [Nat.mul_one]
 have b:(pre++(bu n g++post)).take (pre.length+k)=pre++(bu n g).take k:=by
  rw [List.take_append,List.take_of_length_le (by omega),Nat.add_sub_cancel_left,List.take_append_of_le_length (by omega)]
 have c:(pre++(bu n g++post)).drop (pre.length+k+[v].length)=(bu n g).drop (k+1)++post:=by
  rw [List.drop_append,List.drop_eq_nil_of_le (by simp only [List.length_singleton];omega),List.nil_append,show pre.length+k+[v].length-pre.length=k+1 by simp only [List.length_singleton];omega,List.drop_append_of_le_length (by omega)]
 rw [b,c,List.set_eq_take_append_cons_drop,if_pos (by omega)]
 simp
theorem zis{α:Type}[Inhabited α]{T:Ty α}{R:RH}{n k:Nat}{g:Nat→Value}{X:List α}{v:Value}{x:α}(h:AG T R n g X)(a:VRep T R v x)(b:v.oneCell'=true):AG T R n (upd g k v) (X.set k x):=by
 refine⟨by rw [List.length_set];exact h.1,fun i hi=>?_⟩
 by_cases e:i=k
 ·subst e
  rw [zj7,List.getD_eq_getElem?_getD,List.getElem?_set_self (by rw [h.1];exact hi)]
  exact⟨a,b⟩
 ·rw [upd_ne e,List.getD_eq_getElem?_getD,List.getElem?_set_ne (fun q=>e q.symm),←List.getD_eq_getElem?_getD]
  exact h.2 i hi
section g
variable {P : Program} {ρ : Option Nat} {n : Nat} {ops : Array Oper} {Q : Po} {rest : List Oper} {l : Nat → Value} {D : List Nat} {R : RH} {O : List Frag} {ty : TypeId} {pos : String} {after : Array Go.Edge} {dst : Option Tmp} {g0 : Option (Nat × Bool)}
theorem z7l{t:TypeId}{x:Operand}{b i m k o:Nat}{bt:TypeId}{g:Nat→Value}(pre post:List Value)(a: ∀ w,(isAgg t).run P w= .ok false w)(c:ev l x= .pointer (some ⟨b,o+k*1,none⟩))(d:pre.length=o)
 (e:O[i]? =some (box b (pre++(bu m g++post)) bt)) (f:k<m):Val P ρ ⟨dst,.load t x,ty,pos,after,g0⟩ l R O (g k):=by
 subst d
 exact q9 a c e (zjs f)
theorem zau{α:Type}{T:Ty α}{x:Operand}{v:Value}{y:α}(a:ev l x=v)(d:PRep T R v y):Val P ρ ⟨dst,.nilCheck x,ty,pos,after,g0⟩ l R O v:=by
 obtain⟨b,off,c,ty',fr,rfl,_⟩:=d
 intro A w e;rw [qb (by intro c h;cases h)]
 simp [execOp,a]
theorem aj{i:Int}{n:Nat}(h:0≤i∧i<(n:Int)):i.toNat<n:=by omega
theorem ll{x:Operand}{b o:Nat}(a:ev l x= .pointer (some ⟨b,o,none⟩)):Val P ρ ⟨dst,.nilCheck x,ty,pos,after,g0⟩ l R O (.pointer (some ⟨b,o,none⟩)):=by
 intro A w d;rw [qb (by intro c h;cases h)]
 simp [execOp,a]
end g
/-! ### A slice that keeps its capacity;a new slice that only is read-/
section c
variable {P : Program} {ρ : Option Nat} {n : Nat} {ops : Array Oper} {Q : Po} {rest : List Oper} {l : Nat → Value} {D : List Nat} {R : RH} {O : List Frag} {ty : TypeId} {pos : String} {after : Array Go.Edge} {dst : Option Tmp} {g : Option (Nat × Bool)}
end c
end GV
end Go.Proofs.YtkkcidhcfkmbjaaGreatDoor

namespace Go.Proofs.YtkkcidhcfkmbjaaGreatDoor
namespace GV
def EV(P:Program)(ρ:Option Nat)(o:Oper)(l:Nat→Value)(R:RH)(O:List Frag)(φ:Value→RH→Prop):Prop:= ∃ v,φ v R∧Val P ρ o l R O v
theorem zfg{l:Nat→Value}{a:Operand}{az:List Operand}{v:Value}{vs:List Value}(h:ev l a=v)(k:az.map (ev l)=vs):(a::az).map (ev l)=v::vs:=by rw [List.map_cons,h,k]
section ev
variable {P : Program} {ρ : Option Nat} {l : Nat → Value} {R : RH} {O : List Frag} {dst : Option Tmp} {ty : TypeId} {pos : String} {after : Array Go.Edge} {g : Option (Nat × Bool)}
theorem jh{o:Oper}{v:Value}(h:Val P ρ o l R O v):EV P ρ o l R O (phX v):=⟨v,rfl,h⟩
theorem zek{o:Oper}{α:Type}{T:Ty α}{x:α}{a:Value}(h:EV P ρ o l R O (phR T x))(b: ∀ R v,VRep T R v x→v=a):Val P ρ o l R O a:=by
 obtain⟨v,c,d⟩:=h
 rwa [b _ _ c] at d
theorem cu{o:Oper}{k:IntKind}{x:Int}(h:EV P ρ o l R O (phR (zo k) x)):Val P ρ o l R O (.int k x):=zek h fun _ _ h=>uj.1 h
theorem zmi{o:Oper}{x:Bool}(h:EV P ρ o l R O (phR z00 x)):Val P ρ o l R O (.bool x):=zek h fun _ _ h=>z0c.1 h
theorem uw{α:Type}{T:Ty α}{t:TypeId}{x:Operand}{v:Value}{y:α}(a:TyOk P t T)(b:ev l x=v)(c:PRep T R v y):EV P ρ ⟨dst,.load t x,ty,pos,after,g⟩ l R O (phR T y):=
 let⟨u,d,e⟩:=z4x a b c
 ⟨u,d,e _ _ _ _ _⟩
theorem au{α β:Type}{A:Ty α}{B:Ty β}{s:TypeId}{x:Operand}{f o:Nat}{v:Value}{y:α}{pr:α→β}(a:FieldOk P s f o)(hpart:Part A o B pr)(b:ev l x=v)(c:PRep A R v y):
 EV P ρ ⟨dst,.fieldAddr s x f,ty,pos,after,g⟩ l R O (phP B (pr y)):=
 let⟨u,d,e⟩:=z5u a hpart b c
 ⟨u,d,e _ _ _ _ _⟩
theorem bz{α:Type}[Inhabited α]{T:Ty α}{t e:TypeId}{x ix:Operand}{v:Value}{X:List α}{k:IntKind}{i:Nat}(a:SlOk P t e T)(b:ev l x=v)(c:VRep (wh T) R v X)(hi:ev l ix= .int k i)(d:i<X.length):
 EV P ρ ⟨dst,.indexAddr t x ix,ty,pos,after,g⟩ l R O (phP T (X.getD i default)):=
 let⟨u,f,h⟩:=z5v a b c hi (getD_some d)
 ⟨u,f,h _ _ _ _ _⟩
theorem zhm{α:Type}{T:Ty α}{t e:TypeId}{x ix:Operand}{v:Value}{X:List α}{k:IntKind}{i:Nat}{f:Frag}(a:SlOk P t e T)(c:ev l x=v)(d:ORep T R f v X)(hi:ev l ix= .int k i)(h:i<X.length):
 EV P ρ ⟨dst,.indexAddr t x ix,ty,pos,after,g⟩ l R O (fun u _=>zcs T v X u i):=
 let⟨b,off,j,m⟩:=z5o (O:=O) a c d hi h
 ⟨_,⟨b,off,j,rfl⟩,m _ _ _ _ _⟩
section nest
variable {α : Type} {t : Bool} {T : Ty α} {F : Frag} {v : Value} {Vs : List Value} {X : List (List α)}
end nest
section part
variable {α β : Type} {T : Ty α} {B : Ty β} {X : List α} {v u : Value} {x : Operand} {f : Frag} {i j o fld : Nat} {s t : TypeId} {pr : α → β}
end part
end ev
/-! ### In the text's order-/
section wo
variable {P : Program} {ρ : Option Nat} {n : Nat} {Q : Po} {l : Nat → Value} {D : List Nat} {R : RH} {O : List Frag} {ops : Array Oper} {rest : List Oper} {op : Op} {ty : TypeId} {pos : String} {after : Array Go.Edge} {d : Nat} {φ : Value → RH → Prop}
theorem zlg(a:Nat.blt d n=true)(h:EV P ρ ⟨some d,op,ty,pos,after,none⟩ l R O φ)(b: ∀ v,φ v R→wo P ρ n ops Q rest (upd l d v) D R O):wo P ρ n ops Q (⟨some d,op,ty,pos,after,none⟩::rest) l D R O:=
 let⟨v,c,e⟩:=h
 uh a e (b v c)
theorem zar{a:Act}{j s:Nat}(d:Fr n l D a)(c:guardSlot ops j=some s)(f:l s=undef):yielded ops a.tmps j=none:=by
 unfold yielded
 unfold guardSlot at c
 rw [c]
 have b:=d.get s
 rw [f,Array.getD_eq_getD_getElem?] at b
 simp only [Option.bind_some]
 cases h:a.tmps[s]? with
 |none=>rfl
 |some v=>
  rw [h] at b
  have e:v=undef:=b
  rw [e];rfl
theorem zmy{j s:Nat}{want:Bool}(c:guardSlot ops j=some s)(e:Nat.blt s n=true)(f:l s=undef)(g:Nat.blt d n=true)(i:wo P ρ n ops Q rest (upd l d undef) D R O):
 wo P ρ n ops Q (⟨some d,op,ty,pos,after,some (j,want)⟩::rest) l D R O:=by
 intro a w b k
 have m:=zar b c f
 have h:=i _ w (b.put (d:=some d) (fun t o=>by cases o;simpa using g) undef) k
 simp only [wlo]
 rw [if_neg (by simp [Region.wanted,m])]
 exact⟨fun _ _=>trivial,h⟩
theorem zoo{j s:Nat}{want Gj Bj:Bool}(b:guardSlot ops j=some s)(a:Nat.blt s n=true)(c:Nat.blt d n=true)(e:phG Gj (phX (.bool Bj)) (l s) R)
 (hyes:Gj=true→Bj=want→Eff P ρ ⟨some d,op,ty,pos,after,none⟩ l R O fun v R' O'=>O'=O∧φ v R') (f: ∀ v R',RH.le R R'→phG (Gj&&(Bj==want)) φ v R'→wo P ρ n ops Q rest (upd l d v) D R' O):
 wo P ρ n ops Q (⟨some d,op,ty,pos,after,some (j,want)⟩::rest) l D R O:=by
 cases Gj with
 |false=>exact zmy b a (e.2 rfl) c (f _ _ (RH.le.refl _) ⟨fun h=>by(cases h),fun _=>rfl⟩)
 |true=>
  by_cases i:Bj=want
  ·subst i
   refine zmu b a (e.1 rfl) (zk9 c (hyes rfl rfl) fun v R' g h=>f v R' g ⟨fun _=>h,fun h=>by simp at h⟩)
  ·have hb':(Bj==want)=false:=by simpa using i
   exact zn0 b a (e.1 rfl) hb' c (f _ _ (RH.le.refl _) (by rw [hb'];exact⟨fun h=>by simp at h,fun _=>rfl⟩))
theorem zpw{j s:Nat}{want Gj Bj:Bool}(b:guardSlot ops j=some s)(a:Nat.blt s n=true)(c:Nat.blt d n=true)(e:phG Gj (phX (.bool Bj)) (l s) R)
 (hyes:Gj=true→Bj=want→EV P ρ ⟨some d,op,ty,pos,after,none⟩ l R O φ) (f: ∀ v,phG (Gj&&(Bj==want)) φ v R→wo P ρ n ops Q rest (upd l d v) D R O):
 wo P ρ n ops Q (⟨some d,op,ty,pos,after,some (j,want)⟩::rest) l D R O:=by
 cases Gj with
 |false=>exact zmy b a (e.2 rfl) c (f _ ⟨fun h=>by(cases h),fun _=>rfl⟩)
 |true=>
  by_cases g:Bj=want
  ·subst g
   obtain⟨v,i,k⟩:=hyes rfl rfl
   exact zmu b a (e.1 rfl) (uh c k (f v ⟨fun _=>i,fun h=>by simp at h⟩))
  ·have hb':(Bj==want)=false:=by simpa using g
   exact zn0 b a (e.1 rfl) hb' c (f _ (by rw [hb'];exact⟨fun h=>by simp at h,fun _=>rfl⟩))
theorem ky{j s:Nat}{want Bj:Bool}(b:guardSlot ops j=some s)(a:Nat.blt s n=true)(c:Nat.blt d n=true)(e:l s= .bool Bj)
 (hyes:Bj=want→EV P ρ ⟨some d,op,ty,pos,after,none⟩ l R O φ) (f: ∀ v,phG (true&&(Bj==want)) φ v R→wo P ρ n ops Q rest (upd l d v) D R O):
 wo P ρ n ops Q (⟨some d,op,ty,pos,after,some (j,want)⟩::rest) l D R O:=zpw b a c (ng e) (fun _=>hyes) f
theorem za6{j s:Nat}{want Bj:Bool}(b:guardSlot ops j=some s)(a:Nat.blt s n=true)(c:Nat.blt d n=true)(e:l s= .bool Bj)
 (hyes:Bj=want→Eff P ρ ⟨some d,op,ty,pos,after,none⟩ l R O fun v R' O'=>O'=O∧φ v R') (f: ∀ v R',RH.le R R'→phG (true&&(Bj==want)) φ v R'→wo P ρ n ops Q rest (upd l d v) D R' O):
 wo P ρ n ops Q (⟨some d,op,ty,pos,after,some (j,want)⟩::rest) l D R O:=zoo b a c (ng e) (fun _=>hyes) f
end wo
end GV
end Go.Proofs.YtkkcidhcfkmbjaaGreatDoor

namespace Go.Proofs.YtkkcidhcfkmbjaaGreatDoor
namespace GV
def opds:Op→Option (List Operand)
 | .move x| .assign x| .load _ x| .nilCheck x| .unOp _ _ x| .convert _ _ x| .fieldAddr _ x _| .field _ x _| .extract x _=>some [x]
 | .pick c a b=>some [c,a,b]
 | .binOp _ _ x y _| .indexAddr _ x y| .index _ x y| .lookup _ x y _=>some [x,y]
 | .build _ ps=>some (ps.toList.map (·.2))
 | .makeFunc _ fs cs=>some (fs.toList++cs.toList)
 | .slice _ x lo hi mx=>some (x::(lo.toList++(hi.toList++mx.toList)))
 | .call c=>match c.callee with
  | .builtin _=>some c.args.toList
  |_=>none
 |_=>none
theorem z7i{ρ1 ρ2:Operand→Value}{x:Option Operand}(h: ∀ y∈x.toList,ρ1 y=ρ2 y):x.map ρ1=x.map ρ2:=by
 cases x with
 |none=>rfl
 |some y=>simp [h y (by simp)]
theorem z7v{ρ1 ρ2:Operand→Value}{xs:Array Operand}(h: ∀ y∈xs.toList,ρ1 y=ρ2 y):xs.map ρ1=xs.map ρ2:=by
 apply Array.ext'
 rw [Array.toList_map,Array.toList_map]
 exact List.map_congr_left h
theorem zie{ρ1 ρ2:Operand→Value}{xs:Array (Nat×Operand)}(h: ∀ y∈xs.toList.map (·.2),ρ1 y=ρ2 y):(xs.map fun(i,x)=>(i,ρ1 x))=xs.map fun(i,x)=>(i,ρ2 x):=by
 apply Array.ext'
 rw [Array.toList_map,Array.toList_map]
 refine List.map_congr_left fun p a=>?_
 obtain⟨i,x⟩:=p
 have:=h x (List.mem_map.2 ⟨(i,x),a,rfl⟩)
 simp only [this]
theorem zfs{o:Oper}{xs:List Operand}{ρ1 ρ2:Operand→Value}(h:opds o.op=some xs)(a: ∀ x∈xs,ρ1 x=ρ2 x):execOp ρ1 o=execOp ρ2 o:=by
 obtain⟨dst,op,ty,pos,after,g⟩:=o
 dsimp only at h
 cases op<;>simp only [opds,Option.some.injEq,reduceCtorEq] at h
 case call c=>
  obtain⟨cal,args,at'⟩:=c
  cases cal<;>simp only [Option.some.injEq,reduceCtorEq] at h
  subst h
  simp only [execOp,resolve,z7v a]
 case build t ps=>subst h;simp only [execOp,zie a]
 case makeFunc f fs cs=>
  subst h
  simp only [execOp,z7v (xs:=fs) (fun y b=>a y (List.mem_append_left _ b)),z7v (xs:=cs) (fun y b=>a y (List.mem_append_right _ b))]
 case slice t x lo hi mx=>
  subst h
  simp only [execOp,a x (List.mem_cons_self ..),z7i (x:=lo) (fun y b=>a y (by simp [b])),z7i (x:=hi) (fun y b=>a y (by simp [b])),z7i (x:=mx) (fun y b=>a y (by simp [b]))]
 all_goals subst h;simp only [List.mem_cons,List.not_mem_nil,or_false,forall_eq_or_imp,forall_eq] at a;simp only [execOp,a]
theorem zcp{op:Op}{xs:List Operand}(h:opds op=some xs): ∀ c,op≠ .defer c:=by
 intro c e;subst e;simp [opds] at h
theorem zf7{R R':RH}{O:List Frag}{w:World}(h:Holds R' O w)(a:R.le R'):Holds R O w:=by
 refine⟨fun k o b=>h.ro k o (a.blk k o b),fun f c k o b=>⟨(h.own f c k o b).1,?_⟩,h.sep,by rw [←a.os];exact h.os,by rw [←a.out];exact h.out⟩
 cases e:R.blk k with
 |none=>rfl
 |some o'=>
  have:=a.blk k o' e
  rw [(h.own f c k o b).2] at this;cases this
theorem zi0{P:Program}{ρ:Option Nat}{o:Oper}{l l':Nat→Value}{R R':RH}{O:List Frag}{v:Value}{xs:List Operand}(h:Val P ρ o l R O v)(c:opds o.op=some xs)(e: ∀ s,.tmp s∈xs→l' s=l s)(a:R.le R'):Val P ρ o l' R' O v:=by
 intro A w f
 have d:=h A w (zf7 f a)
 have g:=zcp c
 rw [qb g] at d⊢
 rw [zfs c (ρ2:=ev l) fun x b=>?_]
 ·exact d
 ·cases x with
  |tmp s=>exact e s b
  |_=>rfl
def wv(P:Program)(ρ:Option Nat)(R:RH)(O:List Frag):List Oper→(Nat→Value)→((Nat→Value)→Prop)→Prop
 | [],l,K=>K l
 |o::r,l,K=> ∃ d v,o.dst=some d∧Val P ρ o l R O v∧wv P ρ R O r (upd l d v) K
section wv
variable {P : Program} {ρ : Option Nat} {n : Nat} {Q : Po} {l : Nat → Value} {D : List Nat} {R : RH} {O : List Frag} {rest : List Oper} {op : Op} {ty : TypeId} {pos : String} {after : Array Go.Edge} {d : Nat} {φ : Value → RH → Prop} {K : (Nat → Value) → Prop} {g : Option (Nat × Bool)}
theorem gz{v:Value}(h:Val P ρ ⟨some d,op,ty,pos,after,g⟩ l R O v)(a:wv P ρ R O rest (upd l d v) K):wv P ρ R O (⟨some d,op,ty,pos,after,g⟩::rest) l K:=⟨d,v,rfl,h,a⟩
theorem z7a(h:EV P ρ ⟨some d,op,ty,pos,after,g⟩ l R O φ)(a: ∀ v,φ v R→wv P ρ R O rest (upd l d v) K):wv P ρ R O (⟨some d,op,ty,pos,after,g⟩::rest) l K:=
 let⟨v,b,c⟩:=h
 ⟨d,v,rfl,c,a v b⟩
def zje(gs:List Oper)(s:Nat):Option Nat:=gs.findIdx? fun o=>o.dst==some s
def clV(gs:List Oper):Bool:=gs.zipIdx.all fun(o,i)=>o.guard.isNone&&(match opds o.op with
 |none=>false
 |some xs=>xs.all fun x=>match x with
  | .tmp s=>(match zje gs s with|none=>true|some j=>Nat.blt j i&&o.after.toList.any fun e=>Nat.beq e.on j&&Region.binds .any e)
  |_=>true)
def z9q(l:Nat→Value):List (Nat×Value)→Nat→Value
 | []=>l
 |(d,v)::r=>z9q (upd l d v) r
theorem zci{s d:Nat}{v:Value}(h:s≠d):upd l d v s=l s:=by
 unfold upd
 have:Nat.beq s d=false:=by
  cases hb:Nat.beq s d
  ·rfl
  ·exact absurd (Nat.eq_of_beq_eq_true hb) h
 rw [this];rfl
theorem zgh{d:Nat}{v:Value}:upd l d v d=v:=by unfold upd;simp
theorem z6d{s:Nat}: ∀ {acc:List (Nat×Value)} {l:Nat→Value},s∉acc.map (·.1)→z9q l acc s=l s
 | [],_,_=>rfl
 |(d,v)::r,l,h=>by
  simp only [List.map_cons,List.mem_cons,not_or] at h
  rw [z9q,z6d h.2,zci h.1]
theorem zc9{s:Nat}{v:Value}: ∀ {acc:List (Nat×Value)} {l:Nat→Value} {j:Nat},acc[j]? =some (s,v)→(acc.map (·.1)).Nodup→z9q l acc s=v
 | [],_,_,h,_=>by simp at h
 |(d,u)::r,l,0,h,a=>by
  simp only [List.getElem?_cons_zero,Option.some.injEq,Prod.mk.injEq] at h
  obtain⟨rfl,rfl⟩:=h
  simp only [List.map_cons,List.nodup_cons] at a
  rw [z9q,z6d a.1,zgh]
 |(d,u)::r,l,j+1,h,a=>by
  simp only [List.map_cons,List.nodup_cons] at a
  rw [z9q]
  exact zc9 (j:=j) (by simpa using h) a.2
theorem zeq{s:Nat}: ∀ {acc:List (Nat×Value)},s∉acc.map (·.1)→ik l acc s=l s
 | [],_=>rfl
 |(d,v)::r,h=>by
  simp only [List.map_cons,List.mem_cons,not_or] at h
  rw [ik,zci h.1,zeq h.2]
theorem zgw{s:Nat}{v:Value}: ∀ {acc:List (Nat×Value)} {j:Nat},acc[j]? =some (s,v)→(acc.map (·.1)).Nodup→ik l acc s=v
 | [],_,h,_=>by simp at h
 |(d,u)::r,0,h,a=>by
  simp only [List.getElem?_cons_zero,Option.some.injEq,Prod.mk.injEq] at h
  obtain⟨rfl,rfl⟩:=h
  rw [ik,zgh]
 |(d,u)::r,j+1,h,a=>by
  simp only [List.map_cons,List.nodup_cons] at a
  have h':r[j]? =some (s,v):=by simpa using h
  have b:s∈r.map (·.1):=List.mem_map.2 ⟨_,List.mem_of_getElem? h',rfl⟩
  rw [ik,zci (fun e=>a.1 (by rw [←e];exact b))]
  exact zgw h' a.2
theorem zkj{acc:List (Nat×Value)}(a:(acc.map (·.1)).Nodup):z9q l acc=ik l acc:=by
 funext s
 by_cases h:s∈acc.map (·.1)
 ·obtain⟨⟨d,v⟩,b,rfl⟩:=List.mem_map.1 h
  obtain⟨j,c,e⟩:=List.mem_iff_getElem.1 b
  have h':acc[j]? =some (d,v):=by rw [List.getElem?_eq_getElem c,e]
  rw [zc9 h' a,zgw h' a]
 ·rw [z6d h,zeq h]
def zae(gs:List Oper)(vs:List Value):List (Nat×Value):=(gs.zip vs).map fun p=>(p.1.dst.getD 0,p.2)
theorem zgs: ∀ {os:List Oper} {l:Nat→Value},wv P ρ R O os l K→ ∃ vs:List Value,vs.length=os.length∧(∀ o∈os,o.dst.isSome=true)∧
 (∀ (i:Nat) o v,os[i]? =some o→vs[i]? =some v→Val P ρ o (z9q l ((zae os vs).take i)) R O v)∧K (z9q l (zae os vs))
 | [],l,h=>⟨[],rfl,fun o c=>by simp at c,fun i o v h=>by simp at h,h⟩
 |o::r,l,⟨d,v,a,e,f⟩=>by
  obtain⟨vs,g,j,k,m⟩:=zgs f
  refine⟨v::vs,by simp [g],fun o' ho'=>?_,fun i o' u hi b=>?_,?_⟩
  ·rcases List.mem_cons.1 ho' with rfl|ho'
   ·rw [a];rfl
   ·exact j o' ho'
  ·cases i with
   |zero=>
    simp only [List.getElem?_cons_zero,Option.some.injEq] at hi b
    subst hi;subst b
    exact e
   |succ i=>
    have:=k i o' u (by simpa using hi) (by simpa using b)
    simpa [zae,z9q,a] using this
  ·simpa [zae,z9q,a] using m
theorem ze2{gs:List Oper}{φs:List (Value→RH→Prop)}{l:Nat→Value}{R:RH}: ∀ {es:List Go.Edge},zhf gs φs l R es→ ∀ e∈es,Region.binds .any e=true→ ∀ d,kg gs e.on=some d→phi φs e.on (l d) R
 | [],_,e,a,_,_,_=>by simp at a
 |e'::es,h,e,a,b,d,c=>by
  rcases List.mem_cons.1 a with rfl|a
  ·have:=h.1
   rw [c] at this
   exact this b
  ·exact ze2 h.2 e a b d c
theorem zh5{gs:List Oper}{al:List NewBox}{φs:List (Value→RH→Prop)}{l0:Nat→Value}{R0:RH}: ∀ {os:List Oper} {k:Nat},
 (∀ (i:Nat) (o:Oper),os[i]? =some o→ ∀ l R,RH.le R0 R→Agree gs l0 l→zhf gs φs l R o.after.toList→GStep P ρ gs al φs O (k+i) o l R)→zft P ρ gs al φs l0 R0 O k os
 | [],_,_=>trivial
 |o::os,k,h=>⟨h 0 o rfl,zh5 fun i o' hi=>by have:=h (i+1) o' (by simpa using hi);rwa [show k+(i+1)=k+1+i from by omega] at this⟩
theorem zgz{φs:List (Value→RH→Prop)}{R:RH}: ∀ {os:List Oper} {vs:List Value} {k:Nat} {K:List (Nat×Value)→Prop},vs.length=os.length→(∀ (i:Nat) v,vs[i]? =some v→phi φs (k+i)=phX v)→K (zae os vs)→zg8 φs R K k os
 | [],vs,k,K,a,_,h=>by
  have:vs=[]:=List.length_eq_zero_iff.1 a
  subst this;exact h
 |o::os,[],k,K,a,_,_=>by simp at a
 |o::os,v::vs,k,K,a,b,h=>fun u c=>by
  rw [show k=k+0 from rfl,b 0 v rfl] at c
  obtain rfl:u=v:=c
  exact zgz (vs:=vs) (by simpa using a) (fun i w hi=>by have:=b (i+1) w (by simpa using hi);rwa [show k+(i+1)=k+1+i from by omega] at this) h
theorem z2s{id:Nat}{os:List Oper}(m:Nat)(V:P.follows .mixedOrders=true)(c:z3w (os.take m) [] n (os.drop m)=true)(r:clV (os.take m)=true)
 (h:wv P ρ R O (os.take m) l fun l'=> ∀ R',RH.le R R'→wo P ρ n os.toArray Q (os.drop m) l' D R' O):wg P ρ n (.region id os.toArray true) Q l D R O:=by
 obtain⟨vs,C,M,N,S⟩:=zgs h
 have f:=(z1k c).2.1
 generalize hg:os.take m=gs at C M N S f r c
 have hacc:(zae gs vs).map (·.1)=z3l gs:=by
  unfold zae z3l
  rw [List.map_map]
  have: ∀ (gs:List Oper) (vs:List Value),vs.length=gs.length→(∀ o∈gs,o.dst.isSome=true)→(gs.zip vs).map ((fun x:Nat×Value=>x.1)∘fun p=>(p.1.dst.getD 0,p.2))=gs.filterMap (·.dst):=by
   intro gs
   induction gs with
   |nil=>intro vs _ _;simp
   |cons o gs ih=>
    intro vs T A
    cases vs with
    |nil=>simp at T
    |cons v vs=>
     obtain⟨d,E⟩:=Option.isSome_iff_exists.1 (A o (List.mem_cons_self ..))
     simp only [List.zip_cons_cons,List.map_cons,List.filterMap_cons,E,Function.comp_apply,Option.getD_some]
     rw [ih vs (by simpa using T) (fun o' ho'=>A o' (List.mem_cons_of_mem _ ho'))]
  exact this gs vs C M
 have hphi: ∀ (i:Nat) v,vs[i]? =some v→phi (vs.map phX) i=phX v:=fun i v hi=>by
  unfold phi
  rw [List.getD_eq_getElem?_getD,List.getElem?_map,hi];rfl
 have hmono:z7p (vs.map phX):=fun k v R R' a q=>by
  unfold phi at q⊢
  rw [List.getD_eq_getElem?_getD,List.getElem?_map] at q⊢
  cases e:vs[k]? with
  |none=>trivial
  |some u=>rw [e] at q;exact q
 have haget: ∀ (i:Nat) o v,gs[i]? =some o→vs[i]? =some v→ ∀ d,o.dst=some d→(zae gs vs)[i]? =some (d,v):=fun i o v hi B d E=>by
  unfold zae
  rw [List.getElem?_map,List.getElem?_zip_eq_some (z:=(o,v))|>.2 ⟨hi,B⟩]
  simp [E]
 refine z16 (m:=m) [] (vs.map phX) V (by rw [hg];exact c) hmono (by
  rw [hg]
  refine zh5 fun i o hi l' R' a F hdep=>?_
  rw [Nat.zero_add]
  have W:i<gs.length:=(List.getElem?_eq_some_iff.1 hi).1
  obtain⟨v,B⟩: ∃ v,vs[i]? =some v:=⟨vs[i]'(by omega),List.getElem?_eq_getElem (by omega)⟩
  have g:=List.all_eq_true.1 r (o,i) (List.mem_iff_getElem?.2 ⟨i,by rw [List.getElem?_zipIdx,hi];simp⟩)
  simp only [Bool.and_eq_true] at g
  obtain⟨G,g⟩:=g
  refine zl (Option.isNone_iff_eq_none.1 G) rfl (hphi i v B) (zq ?_)
  cases hx:opds o.op with
  |none=>rw [hx] at g;exact absurd g Bool.false_ne_true
  |some xs=>
   rw [hx] at g
   refine zi0 (N i o v hi B) hx (fun s A=>?_) a
   have b:=List.all_eq_true.1 g (.tmp s) A
   dsimp only at b
   have t:((zae gs vs).take i).map (·.1)=(z3l gs).take i:=by rw [List.map_take,hacc]
   cases hsl:zje gs s with
   |none=>
    have w:s∉z3l gs:=fun hm'=>by
     obtain⟨o',ho',e⟩:=List.mem_filterMap.1 hm'
     have:=List.findIdx?_eq_none_iff.1 hsl o' ho'
     rw [e] at this;simp at this
    rw [F s (by simpa using w),z6d (by rw [t];exact fun h=>w (List.mem_of_mem_take h))]
   |some j=>
    rw [hsl] at b
    simp only [Bool.and_eq_true,List.any_eq_true] at b
    obtain⟨H,e,X,I,J⟩:=b
    have hji':j<i:=by simpa using H
    have hej':e.on=j:=Nat.eq_of_beq_eq_true I
    obtain⟨o',ho',hd'⟩: ∃ o',gs[j]? =some o'∧o'.dst=some s:=by
     have:=List.findIdx?_eq_some_iff_getElem.1 hsl
     obtain⟨Y,q,_⟩:=this
     exact⟨gs[j],List.getElem?_eq_getElem Y,by simpa using q⟩
    have Z:j<gs.length:=(List.getElem?_eq_some_iff.1 ho').1
    obtain⟨u,U⟩: ∃ u,vs[j]? =some u:=⟨vs[j]'(by omega),List.getElem?_eq_getElem (by omega)⟩
    have K:kg gs e.on=some s:=by unfold kg;rw [hej',ho'];exact hd'
    have y:=ze2 hdep e X J s K
    rw [hej',hphi j u U] at y
    have L:((zae gs vs).take i)[j]? =some (s,u):=by rw [List.getElem?_take,if_pos hji'];exact haget j o' u ho' U s hd'
    rw [zc9 L (by rw [t];exact List.Nodup.sublist (List.take_sublist _ _) f)]
    exact y) fun R' a=>?_
 rw [hg]
 refine zgz C (fun i v hi=>by rw [Nat.zero_add];exact hphi i v hi) ?_
 rw [←zkj (by rw [hacc];exact f)]
 exact S R' a
end wv
/-! ### Shorter laws-/
section short
variable {P : Program} {ρ : Option Nat} {n : Nat} {Q : Po} {l : Nat → Value} {D : List Nat} {R : RH} {O : List Frag} {γ : Type} {ops : Array Oper} {rest : List Oper} {d : Nat} {ty : TypeId} {pos : String} {after : Array Go.Edge}
theorem zn{c:Operand}{x y:Code}{α:Type}{b:Bool}{p q:Option α}{r:α}(d:ev l c= .bool b)(a:(bif b then p else q)=some r)(f:p=some r→wg P ρ n x Q l D R O)(g:q=some r→wg P ρ n y Q l D R O):wg P ρ n (.cond c x y) Q l D R O:=
 zh6 d (fun e=>f (zoe e a)) (fun e=>g (zpc e a))
theorem qw{x y:Code}(W:List Nat)(S:γ→List (Nat×Value))(F:γ→List Frag)(K:γ→RH→Prop)(b:wg P ρ n x (thn (zow true D W l R S F K) Q) l D R O)
 (c: ∀ g j R',RH.le R R'→K g R'→wg P ρ n y Q (ik (mask W j l) (S g)) D R' (F g)):wg P ρ n (.seq x y) Q l D R O:=
 zco true W S F K b fun g j D' R' d a e=>by obtain rfl:=d rfl;exact c g j R' a e
theorem jl{c:Code}(W:List Nat)(S:γ→List (Nat×Value))(F:γ→List Frag)(K:γ→RH→Prop)(μ:γ→Nat)(a:γ)
 (d: ∃ J,O.Perm (J++F a)) (e:K a R)
 (round: ∀ g j R',RH.le R R'→K g R'→wg P ρ n c (thn (zn2 true D W (ik (mask W j l) (S g)) R' S F K μ (μ g)) Q) (ik (mask W j l) (S g)) D R' (F g))
 (f:zel l (S a):=by repeat (first|exact trivial|refine⟨rfl,?_⟩)) (h: ∀ g,((S g).all fun p=>W.elem p.1)=true:=by exact fun _=>rfl):wg P ρ n (.loop c) Q l D R O:=
 zdy true W S F K μ a f d e h fun g j D' R' i b k=>by obtain rfl:=i rfl;exact round g j R' b k
theorem zk{op:Op}{v:Value}(h:Val P ρ ⟨some d,op,ty,pos,after,none⟩ l R O v)(a:wo P ρ n ops Q rest (upd l d v) D R O)(b:Nat.blt d n=true:=by exact rfl):wo P ρ n ops Q (⟨some d,op,ty,pos,after,none⟩::rest) l D R O:=uh b h a
theorem za{x:Operand}(v:Value)(a:wo P ρ n ops Q rest (upd l d v) D R O)(b:ev l x=v:=by exact rfl)(c:Nat.blt d n=true:=by exact rfl):wo P ρ n ops Q (⟨some d,.move x,ty,pos,after,none⟩::rest) l D R O:=uh c (zh b) a
theorem zf{x:Operand}(v:Value)(a:wo P ρ n ops Q rest (upd l d v) D R O)(b:ev l x=v:=by exact rfl)(c:Nat.blt d n=true:=by exact rfl):wo P ρ n ops Q (⟨some d,.assign x,ty,pos,after,none⟩::rest) l D R O:=uh c (bf b) a
theorem ze{id:Nat}{os:List Oper}{y:Code}(h:wo P ρ n os.toArray (thn (wg P ρ n y Q) Q) os l D R O):wg P ρ n (.seq (.region id os.toArray false) y) Q l D R O:=zy (zu h)
theorem qo{id:Nat}{os:List Oper}{y:Code}{Q':Po}(h:wo P ρ n os.toArray (thn (wg P ρ n y Q) Q) os l D R O):wo P ρ n ops (thn (wg P ρ n (.seq (.region id os.toArray false) y) Q) Q') [] l D R O:=z8 (ze h)
def rs:List Nat→List Nat|a::b::r=>List.range' a (b-a)++rs r|_=>[]
abbrev vi (x:Int):Value:= .int .i64 x
abbrev vs0:Value:= .slice none 0 0
theorem dkt{c:Prop}{α:Type}{x:α}:c→x=x:=fun _=>rfl
theorem zka{a b:Prop}[Decidable a][Decidable b]{α:Type}{k:Option α}{r:α}(h:gd a (gd b k)=some r):a∧b∧k=some r:=⟨(zb h).1,zb (zb h).2⟩
theorem ziw{a b c:Prop}[Decidable a][Decidable b][Decidable c]{α:Type}{k:Option α}{r:α}(h:gd a (gd b (gd c k))=some r):a∧b∧c∧k=some r:=⟨(zb h).1,zka (zb h).2⟩
theorem zkk{a b c d:Prop}[Decidable a][Decidable b][Decidable c][Decidable d]{α:Type}{k:Option α}{r:α}(h:gd a (gd b (gd c (gd d k)))=some r):a∧b∧c∧d∧k=some r:=⟨(zb h).1,ziw (zb h).2⟩
theorem zjz{a b c d e:Prop}[Decidable a][Decidable b][Decidable c][Decidable d][Decidable e]{α:Type}{k:Option α}{r:α}(h:gd a (gd b (gd c (gd d (gd e k))))=some r):a∧b∧c∧d∧e∧k=some r:=⟨(zb h).1,zkk (zb h).2⟩
theorem zp2{a b c d e f:Prop}[Decidable a][Decidable b][Decidable c][Decidable d][Decidable e][Decidable f]{α:Type}{k:Option α}{r:α}(h:gd a (gd b (gd c (gd d (gd e (gd f k)))))=some r):a∧b∧c∧d∧e∧f∧k=some r:=⟨(zb h).1,zjz (zb h).2⟩
theorem prm{O:List Frag}: ∃ J,O.Perm (J++O):=⟨[],List.Perm.refl _⟩
end short
end GV
end Go.Proofs.YtkkcidhcfkmbjaaGreatDoor

namespace Go.Proofs.YtkkcidhcfkmbjaaGreatDoor
namespace GV
section a
variable {P : Program} {ρ : Option Nat} {l : Nat → Value} {R : RH} {O : List Frag} {ty : TypeId} {pos : String} {after : Array Go.Edge} {dst : Option Tmp} {g : Option (Nat × Bool)}
variable {α : Type} {T : Ty α} {X : List α} {v : Value} {x y : Operand} {f : Frag} {t e : TypeId}
end a
end GV
end Go.Proofs.YtkkcidhcfkmbjaaGreatDoor

namespace Go.Proofs.YtkkcidhcfkmbjaaGreatDoor
namespace GV
section a
variable {P : Program} {ρ : Option Nat} {l : Nat → Value} {R : RH} {O : List Frag} {ty : TypeId} {pos : String} {after : Array Go.Edge} {dst : Option Tmp} {g : Option (Nat × Bool)}
end a
end GV
end Go.Proofs.YtkkcidhcfkmbjaaGreatDoor

namespace Go.Proofs.YtkkcidhcfkmbjaaGreatDoor
namespace GV
section a
variable {P : Program} {ρ : Option Nat} {l : Nat → Value} {R : RH} {O : List Frag} {dst : Option Tmp} {ty : TypeId} {pos : String} {after : Array Go.Edge} {g : Option (Nat × Bool)}
end a
end GV
end Go.Proofs.YtkkcidhcfkmbjaaGreatDoor

namespace Go.Proofs.YtkkcidhcfkmbjaaGreatDoor
namespace GV
end GV
end Go.Proofs.YtkkcidhcfkmbjaaGreatDoor

namespace Go.Proofs.YtkkcidhcfkmbjaaGreatDoor
namespace GV
section p
variable {P : Program} {ρ : Option Nat} {l : Nat → Value} {R : RH} {O : List Frag} {ty : TypeId} {pos : String} {after : Array Go.Edge} {dst : Option Tmp} {g : Option (Nat × Bool)}
variable {α : Type} {T : Ty α} {X : List α} {v u : Value} {x y : Operand} {i o q m sz : Nat} {t : TypeId} {k : IntKind}
end p
end GV
end Go.Proofs.YtkkcidhcfkmbjaaGreatDoor

namespace Go.Proofs.YtkkcidhcfkmbjaaGreatDoor
namespace GV
/-! ### A call that takes some of what is owned,and for the time of which the rest is lent-/
section lh
variable {Oc Or : List Frag}
variable {P : Program} {ρ : Option Nat} {l : Nat → Value} {R : RH} {O : List Frag} {ty : TypeId} {pos : String} {after : Array Go.Edge} {dst : Option Tmp} {g : Option (Nat × Bool)}
variable {α : Type} {T : Ty α} {X : List α} {v : Value} {x y : Operand} {f : Frag} {t e : TypeId}
end lh
end GV
end Go.Proofs.YtkkcidhcfkmbjaaGreatDoor

namespace Go.Proofs.YtkkcidhcfkmbjaaGreatDoor
namespace GV
def tNz{α:Type}(b:Bool)(T:Ty α):Ty (List α) where
 size:=1
 agg:=false
 rep R cs X:=(tSl b T).rep R cs X∧(X=[]→cs=[.slice none 0 0])
 len h:=(tSl b T).len h.1
 mono hle h:=⟨(tSl b T).mono hle h.1,h.2⟩
 one _:=rfl
 cell h:=(tSl b T).cell h.1
section nz
variable {α : Type} {T : Ty α} {b : Bool} {R : RH} {v : Value} {X : List α}
theorem z2c(h:VRep (tNz b T) R v X):VRep (tSl b T) R v X:=let⟨cs,a,e⟩:=h;⟨cs,a.1,e⟩
theorem zkd:VRep (tNz b T) R (.slice none 0 0) []:=by
 obtain⟨cs,a,e⟩:=(su:VRep (tSl b T) R (.slice none 0 0) [])
 obtain⟨u,rfl,c⟩:=zcl (T:=tSl b T) rfl a
 have:u= .slice none 0 0:=e.symm
 subst this
 exact⟨_,⟨a,fun _=>rfl⟩,rfl⟩
theorem z2z(h:VRep (tSl b T) R v X)(c:0<X.length):VRep (tNz b T) R v X:=
 let⟨cs,a,e⟩:=h;⟨cs,⟨a,fun d=>by subst d;exact absurd c (Nat.lt_irrefl 0)⟩,e⟩
theorem zon(h:VRep (tNz b T) R v X):z2l v=X.isEmpty:=by
 cases X with
 |nil=>
  obtain⟨cs,⟨_,a⟩,rfl⟩:=h
  obtain rfl:=a rfl
  rfl
 |cons x X=>
  cases e:z2l v with
  |false=>rfl
  |true=>exact absurd (zdw (ja (z2c h)) e) (by simp)
theorem zlz(h:PRep (tNz b T) R v X):PRep (tSl b T) R v X:=
 let⟨b',off,c,ty,fr,a,d,e⟩:=h;⟨b',off,c,ty,fr,a,d,e.1⟩
theorem zm7{β:Type}{T:Ty β}{n:Nat}:AG (tNz b T) R n (fun _=> .slice none 0 0) (List.replicate n []):=by
 refine⟨List.length_replicate,fun k a=>⟨?_,rfl⟩⟩
 rw [List.getD_eq_getElem?_getD,List.getElem?_replicate,if_pos a]
 exact zkd
theorem z8c{P:Program}{ρ:Option Nat}{l:Nat→Value}{O:List Frag}{ty:TypeId}{pos:String}{after:Array Go.Edge}{dst:Option Tmp}{gg:Option (Nat×Bool)}{t t' e:TypeId}{x y:Operand}(a:P.underlying t=some (.slice e))(c:ev l x=v)(d:ev l y= .slice none 0 0)(h:VRep (tNz b T) R v X):
 Val P ρ ⟨dst,.binOp .neq t x y t',ty,pos,after,gg⟩ l R O (.bool (!X.isEmpty)):=by
 rw [←zon h];exact zf1 a c d (zex (ja (z2c h)))
end nz
def i2(s t:Int):Int:=s*64+t
theorem zat{s t:Int}(h:0≤s∧s<(64:Nat))(k:0≤t∧t<(64:Nat)):0≤i2 s t∧i2 s t<((4096:Nat):Int):=by unfold i2;omega
def zfp{α:Type}[Inhabited α](T:Ty α)(n:Nat):Ty (List α) where
 size:=n
 agg:=true
 rep R cs X:= ∃ g,cs=bu n g∧AG T R n g X
 len:=by rintro _ _ _ ⟨g,rfl,_⟩;exact z4m _ _
 mono:=fun hle ⟨g,a,b⟩=>⟨g,a,b.mono hle⟩
 one:=fun h=>nomatch h
 cell:=by
  rintro R cs X ⟨g,rfl,h⟩ v hv
  obtain⟨k,hk,rfl⟩:=List.mem_map.1 hv
  exact(h.2 k (List.mem_range.1 hk)).2
theorem znl{α:Type}[Inhabited α]{T:Ty α}{R:RH}{n:Nat}{g:Nat→Value}{X:List α}(h:AG T R n g X):(zfp T n).rep R (([]:List Value)++(bu n g++([]:List Value))) X:=
 ⟨g,by simp,h⟩
def PRow{α:Type}[Inhabited α](T:Ty α)(R:RH)(u:Value)(X:List α)(s:Int):Prop:=
 ∃ b off c ty fr,u= .pointer (some ⟨b,off+s.toNat*64,none⟩)∧R.blk b=some (.cells c ty fr)∧(zfp T 4096).rep R (cellsAt c off 4096) X
theorem PRow.mono{α:Type}[Inhabited α]{T:Ty α}{R R':RH}{u:Value}{X:List α}{s:Int}(h:PRow T R u X s)(a:RH.le R R'):PRow T R' u X s:=
 let⟨b,off,c,ty,fr,d,e,f⟩:=h;⟨b,off,c,ty,fr,d,a.blk _ _ e,(zfp T 4096).mono a f⟩
section
variable {P : Program} {ρ : Option Nat} {n : Nat} {ops : Array Oper} {Q : Po} {rest : List Oper} {l : Nat → Value} {D : List Nat} {R : RH} {O : List Frag} {ty : TypeId} {pos : String} {after : Array Go.Edge} {dst : Option Tmp} {d : Nat} {gg : Option (Nat × Bool)}
variable {α : Type} [Inhabited α] {T : Ty α} {X : List α} {v : Value} {x y : Operand} {t0 : TypeId} {k : IntKind} {s t : Int} {b o : Nat}
theorem z09(c:ArrOk P t0 64 1)(d:ev l x= .pointer (some ⟨b,o+s.toNat*64,none⟩))(e:ev l y= .int k t)(f:0≤s∧s<(64:Nat))(a:0≤t∧t<(64:Nat)):
 Val P ρ ⟨dst,.indexAddr t0 x y,ty,pos,after,gg⟩ l R O (.pointer (some ⟨b,o+(i2 s t).toNat*1,none⟩)):=by
 have h:=bv (P:=P) (ρ:=ρ) (R:=R) (O:=O) (dst:=dst) (ty:=ty) (pos:=pos) (after:=after) (g:=gg) c d (zg e a.1) (aj a)
 rwa [show o+s.toNat*64+t.toNat*1=o+(i2 s t).toNat*1 by unfold i2;omega] at h
theorem zdh(d:ArrOk P t0 64 64)(e:ev l x=v)(f:PRep (zfp T 4096) R v X)(g:ev l y= .int k s)(a:0≤s∧s<(64:Nat)):
 ∃ u,PRow T R u X s∧ ∀ (dst:Option Tmp) (ty:TypeId) (pos:String) (after:Array Go.Edge) (gg:Option (Nat×Bool)),Val P ρ ⟨dst,.indexAddr t0 x y,ty,pos,after,gg⟩ l R O u:=by
 obtain⟨b,off,c,ty',fr,rfl,h,i⟩:=f
 exact⟨_,⟨b,off,c,ty',fr,rfl,h,i⟩,fun dst ty pos after gg=>bv d e (zg g a.1) (aj a)⟩
theorem zdb(d:T.agg=false)(i:ArrOk P t0 64 1)(j:ev l x=v)(m:PRow T R v X s)(n:ev l y= .int k t)(f:0≤s∧s<(64:Nat))(h:0≤t∧t<(64:Nat)):
 ∃ u,PRep T R u (ix X (i2 s t))∧ ∀ (dst:Option Tmp) (ty:TypeId) (pos:String) (after:Array Go.Edge) (gg:Option (Nat×Bool)),Val P ρ ⟨dst,.indexAddr t0 x y,ty,pos,after,gg⟩ l R O u:=by
 obtain⟨b,off,c,ty',fr,rfl,o,g,p,a⟩:=m
 have q:=aj (zat f h)
 refine⟨_,⟨b,off+(i2 s t).toNat*1,c,ty',fr,rfl,o,?_⟩,fun dst ty pos after gg=>z09 i j n f h⟩
 have e:=T.one d
 rw [e,Nat.mul_one,←z6x (S:=4096) (by omega),p]
 have:((bu 4096 g).drop (i2 s t).toNat).take 1=[g (i2 s t).toNat]:=by
  rw [List.take_one,List.head?_drop]
  simp [bu,q]
 rw [this]
 exact pg d (a.2 _ q).1
theorem zg1(a:Nat.blt d n=true)(b:ArrOk P t0 64 64)(c:ev l x=v)(e:PRep (zfp T 4096) R v X)(f:ev l y= .int k s)(g:0≤s∧s<(64:Nat))(h: ∀ u,PRow T R u X s→wo P ρ n ops Q rest (upd l d u) D R O):
 wo P ρ n ops Q (⟨some d,.indexAddr t0 x y,ty,pos,after,none⟩::rest) l D R O:=
 let⟨u,i,j⟩:=zdh (ρ:=ρ) (O:=O) b c e f g
 uh a (j _ _ _ _ _) (h u i)
theorem zfe(a:Nat.blt d n=true)(b:T.agg=false)(c:ArrOk P t0 64 1)(e:ev l x=v)(f:PRow T R v X s)(g:ev l y= .int k t)(h:0≤s∧s<(64:Nat))(i:0≤t∧t<(64:Nat))(j: ∀ u,PRep T R u (ix X (i2 s t))→wo P ρ n ops Q rest (upd l d u) D R O):
 wo P ρ n ops Q (⟨some d,.indexAddr t0 x y,ty,pos,after,none⟩::rest) l D R O:=
 let⟨u,m,o⟩:=zdb (ρ:=ρ) (O:=O) b c e f g h i
 uh a (o _ _ _ _ _) (j u m)
theorem zah{n':Nat}{i m kk:Nat}{bt:TypeId}{g:Nat→Value}(a: ∀ w,(sizeOf t0).run P w= .ok 1 w)(c:ev l x= .pointer (some ⟨b,0+kk*1,none⟩))(d:ev l y=v)(f:v.cells= #[v])
 (j:O[i]? =some (box b (([]:List Value)++(bu m g++([]:List Value))) bt)) (o:kk<m) (p:v.oneCell'=true):
 Eff P ρ ⟨dst,.store t0 x y,ty,pos,after,gg⟩ l R O (fun v' R' O'=>v'=undef∧R'=R∧O'=O.set i (box b (([]:List Value)++(bu m (upd g kk v)++([]:List Value))) bt)):=by
 have h:=z0a (P:=P) (ρ:=ρ) (R:=R) (dst:=dst) (ty:=ty) (pos:=pos) (after:=after) (g:=gg) (vs:=[v]) a c d f rfl j (by simp only [List.length_append,z4m,List.length_singleton,List.length_nil];omega) (fun u q=>by rw [List.mem_singleton.1 q];exact p)
 have e:=zhy (n:=m) (k:=kk) (g:=g) (v:=v) (pre:=[]) (post:=[]) o
 rw [List.length_nil] at e
 rwa [e] at h
end
end GV
end Go.Proofs.YtkkcidhcfkmbjaaGreatDoor

namespace Go.Proofs.YtkkcidhcfkmbjaaGreatDoor
namespace GV
section
variable {P : Program} {ρ : Option Nat} {n : Nat} {ops : Array Oper} {Q : Po} {rest : List Oper} {l : Nat → Value} {D : List Nat} {R : RH} {O : List Frag} {ty : TypeId} {pos : String} {after : Array Go.Edge} {dst : Option Tmp} {d : Nat} {g : Option (Nat × Bool)}
variable {α : Type} {T : Ty α} {z : α} {bytes m : Nat} {t t2 e : TypeId} {x y : Operand} {k : IntKind}
theorem zak{i:TypeInfo}{zv:Value}{w:World}(g:P.underlying t=some (.slice e))(b:P.underlying t2=some (.int k))(hi:P.info? e=some i)(c:i.zero=some zv)(h:i.size=T.size)(a:i.bytes=bytes)
 (o:1≤m) (p:1≤T.size) (j:m≤9223372036854775807) (hfit:m*bytes≤140737488355328):
 (Builtin.append_ #[t,t2] ty #[.slice none 0 0,.int .i64 m]).run P w= .ok (.slice (some ⟨w.heap.size,0,none⟩) m (grownCap w m 0 e))
  (w.drew.alloc (.cells (Builtin.zeroCells zv.cells m++Builtin.zeroCells zv.cells (grownCap w m 0 e-m)) e)):=by
 have l:IntKind.i64.wrap (m:Int)=m:=Go.IntWalk.i64_in _ (by omega)
 have n: ¬(m=0):=by omega
 have h63': ¬(9223372036854775807<(m:Int)):=by omega
 have d: ¬(281474976710656<(m:Int)*(i.bytes:Int)):=by
  rw [a]
  have:((m*bytes:Nat):Int)=(m:Int)*(bytes:Int):=by rw [Int.natCast_mul]
  omega
 have h48': ¬(281474976710656<Builtin.nextslicecap m 0*i.bytes):=by rw [a];exact z9p (by omega) hfit
 have f:m*T.size≠0:=Nat.mul_ne_zero (by omega) (by omega)
 have hneg: ¬((m:Int)<0):=by omega
 simp [Builtin.append_,run_underlying g,run_underlying b,sizeOf,typeInfo,zeroValue,hi,c,h,asInt,asIntOf,l,hneg,n,h63',d,h48',f,Question.forced,Builtin.firstCells,newRow,grownCap]
theorem ze5(r:P.underlying t=some (.slice e))(o:P.underlying t2=some (.int k))(s:ZeroOk P e T z bytes)(u:ev l x= .slice none 0 0)(v:ev l y= .int .i64 m)(B:1≤m)(C:1≤T.size)(D:m*bytes≤140737488355328)(E:m≤9223372036854775807):
 Eff P ρ ⟨dst,.call ⟨.builtin .append,#[x,y],#[t,t2]⟩,ty,pos,after,g⟩ l R O (fun v' R' O'=>R'=R∧ ∃ f',O'=f'::O∧ORep T R f' v' (List.replicate m z)):=by
 intro A w F;rw [qb (by intro c h;cases h)]
 obtain⟨inf,zv,G,H,I,J,n⟩:=s.info
 have K:(#[x,y]:Array Operand).map (ev l)= #[.slice none 0 0,.int .i64 m]:=by simp [u,v]
 have hrun:=zak (P:=P) (ty:=ty) (T:=T) (w:=w) (m:=m) r o G H I J B C E D
 have p:(execOp (ev l) (⟨dst,.call ⟨.builtin .append,#[x,y],#[t,t2]⟩,ty,pos,after,g⟩:Oper)).run P w= .ok (.value (.slice (some ⟨w.heap.size,0,none⟩) m (grownCap w m 0 e)))
  (w.drew.alloc (.cells (Builtin.zeroCells zv.cells m++Builtin.zeroCells zv.cells (grownCap w m 0 e-m)) e)):=by
  simp only [execOp,resolve,K,Sem.run_bind,Sem.run_pure,Result.andThen_ok,invoke,builtin,hrun]
 rw [p]
 have L:=grownCap_ge w m 0 e
 obtain⟨M,a⟩:=z2k (n R) m
 obtain⟨d,f⟩:=z2k (n R) (grownCap w m 0 e-m)
 have q:Builtin.zeroCells zv.cells m=madeCells zv.cells.toList.toArray (m*T.size):=by
  have N:=T.len (n R)
  rw [Array.toArray_toList]
  simp only [Builtin.zeroCells,madeCells,←N,Array.length_toList]
 have hseq:Seq T R (Builtin.zeroCells zv.cells m).toList (List.replicate m z):=by
  have:=Seq.of_at (T:=T) (R:=R) (X:=List.replicate m z) (cs:=(Builtin.zeroCells zv.cells m).toList) (by rw [q];exact zgd (n R) m)
  rwa [List.take_of_length_le (by rw [a,List.length_replicate];exact Nat.le_refl _)] at this
 have i:=z4n (b:=w.heap.size) (bt:=e) (cap:=grownCap w m 0 e) hseq (rest:=(Builtin.zeroCells zv.cells (grownCap w m 0 e-m)).toList) (by rw [List.length_replicate];exact L)
  (by rw [List.length_append,a,f,←Nat.add_mul];exact Nat.mul_le_mul_right _ (by omega)) d
 rw [List.length_replicate] at i
 have j:=holds_alloc (z2y F) (.cells (Builtin.zeroCells zv.cells m++Builtin.zeroCells zv.cells (grownCap w m 0 e-m)) e (0,0))
 have Q:(Builtin.zeroCells zv.cells m++Builtin.zeroCells zv.cells (grownCap w m 0 e-m))=((Builtin.zeroCells zv.cells m).toList++(Builtin.zeroCells zv.cells (grownCap w m 0 e-m)).toList).toArray:=by
  apply Array.ext';simp
 refine⟨R,_,RH.le.refl _,?_,rfl,_,rfl,i⟩
 rw [Q] at j⊢
 exact j
theorem zf3(b:Nat.blt d n=true)(c:P.underlying t=some (.slice e))(a:P.underlying t2=some (.int k))(f:ZeroOk P e T z bytes)(g:ev l x= .slice none 0 0)(i:ev l y= .int .i64 m)(j:1≤m)(o:1≤T.size)(p:m*bytes≤140737488355328)(q:m≤9223372036854775807)
 (r: ∀ v' f',ORep T R f' v' (List.replicate m z)→wo P ρ n ops Q rest (upd l d v') D R (f'::O)):wo P ρ n ops Q (⟨some d,.call ⟨.builtin .append,#[x,y],#[t,t2]⟩,ty,pos,after,none⟩::rest) l D R O:=
 z03 b (ze5 c a f g i j o p q) fun v' R' O' _ ⟨s,f',hO',h⟩=>by subst s;subst hO';exact r v' f' h
abbrev okZ (b:Nat) (n:Int):Prop:=0<n∧n≤9223372036854775807∧n.toNat*b≤140737488355328
end
/-! ### Scopes into which nothing jumps-/
section sc
variable {P : Program} {F : Fence} {n : Nat} {Q : Exit → Act → World → Prop} {a : Act} {w : World} {c : Code}
theorem av{b:Frame}{k:List Item}{cs:List Frame}:step P (lone (b.atR a (.code (.scope c)::k)) cs w)= .next (lone (b.atR a (.code c:: .inScope c::k)) cs w):=
 step_lone_go (by simp [stepG,stepG.exec,Frame.atR])
theorem zai{b:Frame}{k:List Item}{cs:List Frame}:step P (lone (b.atR a (.inScope c::k)) cs w)= .next (lone (b.atR a k) cs w):=
 step_lone_go (by simp [stepG,stepG.exec,Frame.atR])
theorem z5i(id:Nat)(k:List Item):exitTo id (.inScope c::k)=exitTo id k:=by simp [exitTo]
theorem zdr(h:c.wpIn F n P Q a w)(o: ∀ l a w,¬Q (.goto l) a w):(Code.scope c).wpIn F n P Q a w:=by
 intro b k cs g i j
 have f:(lone (b.atR a (.code (.scope c)::k)) cs w).fenced P F:=fenced_calm i j rfl
 obtain⟨e,a₁,w₁,d,harr⟩:=h b (.inScope c::k) cs g i j
 cases e with
 |normal=>exact⟨.normal,a₁,w₁,d,.head f av (StepsIn.trans harr (.one (fenced_calm i j rfl) zai))⟩
 |exit id=>
  exact⟨.exit id,a₁,w₁,d,fun k' m=> .head f av (harr.1 k' (by rw [z5i];exact m)),
   fun hr' m=>let⟨k₁,p,q⟩:=harr.2 hr' (by rw [z5i];exact m);⟨k₁,p,.head f av q⟩⟩
 |goto l=>exact absurd d (o _ _ _)
 |ret=>exact⟨_,a₁,w₁,d,.of_steps (.one f av) harr⟩
 |panic ch=>exact⟨_,a₁,w₁,d,.of_steps (.one f av) harr⟩
 |outgrown=>exact⟨_,a₁,w₁,d,.of_steps (.one f av) harr⟩
end sc
theorem zke{P:Program}{ρ:Option Nat}{n:Nat}{c:Code}{Q:Po}{l:Nat→Value}{D:List Nat}{R:RH}{O:List Frag}(b: ∀ i l D R O,¬Q (.goto i) l D R O)(h:wg P ρ n c Q l D R O):wg P ρ n (.scope c) Q l D R O:=
 fun a w d e=>zdr (h a w d e) (by rintro i a w ⟨l,D,R,O,_,_,hq'⟩;exact b _ _ _ _ _ hq')
theorem zjg{P:Program}{ρ:Option Nat}{n i:Nat}{Q:Po}{l:Nat→Value}{D:List Nat}{R:RH}{O:List Frag}(h:Q .normal l D R O):wg P ρ n (.label i) Q l D R O:=fun _ _ a b=>wpIn_label ⟨l,D,R,O,a,b,h⟩
end GV
end Go.Proofs.YtkkcidhcfkmbjaaGreatDoor

namespace Go.Proofs.YtkkcidhcfkmbjaaGreatDoor
namespace GV
theorem zik{α:Type}{T:Ty α}{R:RH}{v:Value}{X:List α}{lo hi:Nat}(h:VRep (wh T) R v X)(l:lo≤hi)(m:hi≤X.length):VRep (wh T) R (zfx T.size v lo hi) ((X.drop lo).take (hi-lo)):=by
 obtain⟨p,n,rfl,o,g,j⟩:=ww.1 h
 have hlen:((X.drop lo).take (hi-lo)).length=hi-lo:=by simp;omega
 refine ww.2 ⟨_,n-lo,by rw [hlen];rfl,by rw [hlen];omega,fun e=>?_,?_⟩
 ·have:X=[]:=by
   split at e
   ·exact g e
   ·cases p with
    |none=>exact g rfl
    |some a=>cases e
  subst this;simp
 ·rcases j with rfl|⟨b,off,c,bt,fr,rfl,k,f⟩
  ·left;simp
  ·by_cases hm:n=lo
   ·left
    have:hi-lo=0:=by omega
    rw [this,List.take_zero]
   ·right
    refine⟨b,off+lo*T.size,c,bt,fr,by rw [if_neg hm];simp [addr_add],k,fun i x d=>?_⟩
    rw [List.getElem?_take] at d
    split at d
    ·rw [List.getElem?_drop] at d
     have:=f (lo+i) x d
     rwa [Nat.add_mul,←Nat.add_assoc] at this
    ·cases d
end GV
end Go.Proofs.YtkkcidhcfkmbjaaGreatDoor

namespace Go.Proofs.YtkkcidhcfkmbjaaGreatDoor
namespace GV
end GV
end Go.Proofs.YtkkcidhcfkmbjaaGreatDoor

namespace Go.Proofs.YtkkcidhcfkmbjaaGreatDoor
namespace GV
section c
variable {P : Program} {ρ : Option Nat} {l : Nat → Value} {R : RH} {O : List Frag} {ty : TypeId} {pos : String} {after : Array Go.Edge} {dst : Option Tmp} {g : Option (Nat × Bool)}
variable {α : Type} {T : Ty α} {X Y : List α} {v u : Value} {x y : Operand} {f : Frag} {t e : TypeId}
end c
end GV
end Go.Proofs.YtkkcidhcfkmbjaaGreatDoor
