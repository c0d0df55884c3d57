import Derived.Test.YtjmlpkkbmnjhcaaGreatShPlain
set_option linter.unusedVariables false
set_option linter.unusedSimpArgs false
set_option linter.unusedSectionVars false
namespace Go.Proofs.YtjmlpkkbmnjhcaaGreat
namespace GV
def eOk(m:Mach)(e:Edge):Prop:=(e.to= -1∧e.out= -1)∨(0≤e.to∧e.to<m.rows.length∧0≤e.out∧e.out<m.outputs)
structure MOk (m:Mach):Prop where
 i1:1≤m.inputs
 i2:m.inputs≤16
 o1:1≤m.outputs
 o2:m.outputs≤16
 r1:1≤m.rows.length
 r2:m.rows.length≤64
 row: ∀ s,s<m.rows.length→((m.rows.getD s default).length:Int)=m.inputs
 edge: ∀ s i,s<m.rows.length→i<(m.rows.getD s default).length→eOk m ((m.rows.getD s default).getD i default)
def zh8(l:List Edge)(k:Nat):Nat:=(l.take k).countP fun e=>decide (0≤e.to)
def zd6(m:Mach)(k:Nat):Nat:=((m.rows.take k).map fun r=>r.countP fun e=>decide (0≤e.to)).sum
def zxj(m:Mach):Nat:=zd6 m m.rows.length
theorem znf(l:List Edge):zh8 l 0=0:=by simp [zh8]
theorem zn6(l:List Edge)(k:Nat)(h:k<l.length):zh8 l (k+1)=zh8 l k+if 0≤(l.getD k default).to then 1 else 0:=by
 unfold zh8
 rw [List.take_succ_eq_append_getElem h,List.countP_append]
 simp [List.countP_cons,List.getD_eq_getElem?_getD,h]
theorem zk9(l:List Edge)(k:Nat):zh8 l k≤k:=by
 unfold zh8;exact Nat.le_trans List.countP_le_length (List.length_take_le _ _)
theorem zd4(m:Mach)(k:Nat)(h:k<m.rows.length):zd6 m (k+1)=zd6 m k+zh8 (m.rows.getD k default) (m.rows.getD k default).length:=by
 unfold zd6 zh8
 rw [List.take_succ_eq_append_getElem h,List.map_append,List.sum_append,List.take_length]
 congr 1
 simp [List.getD_eq_getElem?_getD,h]
theorem zur(m:Mach)(a:MOk m): ∀ k,k≤m.rows.length→zd6 m k≤16*k
 |0,_=>by simp [zd6]
 |k+1,h=>by
  rw [zd4 m k h]
  have:=zur m a k (by omega)
  have b:=zk9 (m.rows.getD k default) (m.rows.getD k default).length
  have c:=a.row k h
  have d:=a.i2
  omega
def z5c(m:Mach)(s i:Int):Edge:=if s<0 then⟨-1,-1⟩ else(m.rows.getD s.toNat default).getD i.toNat default
def yx(m:Mach):Int→List Int→List Int
 |_,[]=>[]
 |s,i::w=>(z5c m s i).out::yx m (z5c m s i).to w
def yo(m:Mach):Int→List Int→Int
 |s,[]=>s
 |s,i::w=>yo m (z5c m s i).to w
def WOk(n:Int)(w:List Int):Prop:= ∀ k,k<w.length→0≤w.getD k default∧w.getD k default<n
def SOk(m:Mach)(s:Int):Prop:=s= -1∨(0≤s∧s<m.rows.length)
theorem z0s(m:Mach): ∀ (s:Int) (u v:List Int),yo m s (u++v)=yo m (yo m s u) v
 |s,[],v=>rfl
 |s,i::u,v=>z0s m _ u v
theorem zfr(m:Mach): ∀ (s:Int) (u v:List Int),yx m s (u++v)=yx m s u++yx m (yo m s u) v
 |s,[],v=>rfl
 |s,i::u,v=>by
  show _::yx m _ (u++v)=_::(yx m _ u++_)
  rw [zfr m _ u v];rfl
theorem z1g(m:Mach): ∀ (s:Int) (w:List Int),(yx m s w).length=w.length
 |s,[]=>rfl
 |s,i::w=>by simp [yx,z1g m _ w]
theorem ziz(w:List Int)(k:Nat)(h:k<w.length):w.take (k+1)=w.take k++[w.getD k default]:=by
 rw [List.take_succ_eq_append_getElem h];simp [List.getD_eq_getElem?_getD,h]
theorem znb(m:Mach)(s:Int)(w:List Int)(k:Nat)(h:k<w.length):yx m s (w.take (k+1))=yx m s (w.take k)++[(z5c m (yo m s (w.take k)) (w.getD k default)).out]:=by
 rw [ziz w k h,zfr];rfl
theorem znz(m:Mach)(s:Int)(w:List Int)(k:Nat)(h:k<w.length):yo m s (w.take (k+1))=(z5c m (yo m s (w.take k)) (w.getD k default)).to:=by
 rw [ziz w k h,z0s];rfl
theorem zlx(m:Mach)(a:MOk m)(s i:Int)(b:SOk m s)(hi:0≤i∧i<m.inputs):SOk m (z5c m s i).to∧ -1≤(z5c m s i).out∧(z5c m s i).out≤16:=by
 unfold z5c
 split
 ·exact⟨.inl rfl,by simp,by simp⟩
 ·have hs':0≤s∧s<m.rows.length:=by rcases b with h|h<;>omega
  have c:=a.row s.toNat (by omega)
  have d:=a.o2
  rcases a.edge s.toNat i.toNat (by omega) (by omega) with h|h
  ·exact⟨.inl h.1,by omega,by omega⟩
  ·exact⟨.inr ⟨h.1,h.2.1⟩,by omega,by omega⟩
theorem zp5(m:Mach)(b:MOk m): ∀ (s:Int) (w:List Int),SOk m s→WOk m.inputs w→SOk m (yo m s w)
 |s,[],a,_=>a
 |s,i::w,a,c=>zp5 m b _ w (zlx m b s i a (by simpa using c 0 (by simp))).1 (fun k d=>by simpa using c (k+1) (by simpa using d))
theorem zqw{n:Int}{w:List Int}(h:WOk n w)(k:Nat):WOk n (w.take k):=fun j a=>by
 rw [List.length_take] at a
 have:=h j (by omega)
 rwa [show (w.take k).getD j default=w.getD j default from by simp only [List.getD_eq_getElem?_getD,List.getElem?_take];rw [if_pos (by omega)]]
theorem q0l(X:List Int)(n k:Nat)(z:Int)(a:X.length=k)(b:k<n):(X++List.replicate (n-k) (0:Int)).set k z=(X++[z])++List.replicate (n-(k+1)) (0:Int):=by
 subst a
 rw [List.set_append_right _ _ (Nat.le_refl _),Nat.sub_self,List.append_assoc]
 congr 1
 rw [show n-X.length=(n-(X.length+1))+1 from by omega,List.replicate_succ]
 rfl
def zif(m:Mach)(x:Edge):Bool:=decide (x.to= -1∧x.out= -1)||(((decide (0≤x.to)&&decide (x.to<m.rows.length))&&decide (0≤x.out))&&decide (x.out<m.outputs))
theorem zja(m:Mach)(x:Edge):zif m x=true↔eOk m x:=by
 simp [zif,eOk];omega
theorem zd3{α:Type}[Inhabited α](p:α→Bool)(X:List α)(k:Nat)(h:k<X.length):(X.take (k+1)).any p=((X.take k).any p||p (X.getD k default)):=by
 rw [List.take_succ_eq_append_getElem h,List.any_append]
 simp [List.getD_eq_getElem?_getD,h]
def zmr{α:Type}(p:α→Bool)(X:List α):Int:=match X.findIdx? p with|some i=>i|none=> -1
theorem zvq{α:Type}(p:α→Bool)(X:List α):decide (0≤zmr p X)=X.any p:=by
 unfold zmr
 cases h:X.findIdx? p with
 |none=>
  have:=List.findIdx?_eq_none_iff.1 h
  simp only [Bool.eq_false_iff] at*
  rw [show decide ((0:Int)≤ -1)=false from rfl]
  symm
  rw [List.any_eq_false]
  intro x a
  simp [this x a]
 |some i=>
  obtain⟨hi,b,_⟩:=List.findIdx?_eq_some_iff_getElem.1 h
  rw [show decide ((0:Int)≤(i:Int))=true from by simp]
  symm
  rw [List.any_eq_true]
  exact⟨_,List.getElem_mem hi,b⟩
theorem zkx{α:Type}[Inhabited α](p:α→Bool)(X:List α)(k:Nat)(h:k<X.length)(a:(X.take k).any p=false)(b:p (X.getD k default)=true):zmr p X=k:=by
 have:X.findIdx? p=some k:=by
  rw [List.findIdx?_eq_some_iff_getElem]
  refine⟨h,by simpa [List.getD_eq_getElem?_getD,h] using b,fun j c=>?_⟩
  rw [List.any_eq_false] at a
  have:=a X[j] (by rw [List.mem_take_iff_getElem];exact⟨j,by omega,rfl⟩)
  simpa using this
 simp [zmr,this]
theorem zoh{α:Type}(p:α→Bool)(X:List α)(a:X.any p=false):zmr p X= -1:=by
 have:X.findIdx? p=none:=by
  rw [List.findIdx?_eq_none_iff]
  rw [List.any_eq_false] at a
  intro x b
  simpa using a x b
 simp [zmr,this]
def z5g(m:Mach)(r:List Edge):Bool:=decide ((r.length:Int)≠m.inputs)||r.any fun x=> !zif m x
def z2l(m:Mach):Int:=if(16<m.inputs∨16<m.outputs)∨64<m.rows.length then 3 else if(m.inputs<1∨m.outputs<1)∨m.rows.length<1 then 1 else if m.rows.any (z5g m)=true then 1 else 0
structure Small (m:Mach):Prop where
 r:m.rows.length≤100
 c: ∀ k,k<m.rows.length→(m.rows.getD k default).length≤100
theorem zrm{m:Mach}(h:(16<m.inputs∨16<m.outputs)∨64<m.rows.length):z2l m=3:=by unfold z2l;rw [if_pos h]
theorem zsa{m:Mach}(h: ¬((16<m.inputs∨16<m.outputs)∨64<m.rows.length))(a:(m.inputs<1∨m.outputs<1)∨m.rows.length<1):z2l m=1:=by unfold z2l;rw [if_neg h,if_pos a]
theorem zrq{m:Mach}(h: ¬((16<m.inputs∨16<m.outputs)∨64<m.rows.length))(a: ¬((m.inputs<1∨m.outputs<1)∨m.rows.length<1))(b:m.rows.any (z5g m)=false):z2l m=0:=by
 unfold z2l;rw [if_neg h,if_neg a,if_neg (by rw [b];decide)]
theorem zf8{α:Type}[Inhabited α](p:α→Bool)(X:List α):X.any p=false↔ ∀ k,k<X.length→p (X.getD k default)=false:=by
 rw [List.any_eq_false]
 refine⟨fun h k a=>by simpa using h _ (z2e a),fun h x b=>?_⟩
 obtain⟨k,a,rfl⟩:=List.getElem_of_mem b
 have:=h k a
 simp only [List.getD_eq_getElem?_getD,List.getElem?_eq_getElem a,Option.getD_some] at this
 simp [this]
theorem ze7(m:Mach)(r:List Edge):z5g m r=false↔(r.length:Int)=m.inputs∧ ∀ i,i<r.length→eOk m (r.getD i default):=by
 unfold z5g
 rw [Bool.or_eq_false_iff,zf8]
 refine and_congr (by simp) (forall_congr' fun i=>forall_congr' fun hi=>?_)
 rw [←zja];simp
theorem z6w(m:Mach):z2l m=0↔MOk m:=by
 unfold z2l
 by_cases h:(16<m.inputs∨16<m.outputs)∨64<m.rows.length
 ·rw [if_pos h];exact⟨fun h=>absurd h (by decide),fun a=>by have:=a.i2;have:=a.o2;have:=a.r2;omega⟩
 rw [if_neg h]
 by_cases h1:(m.inputs<1∨m.outputs<1)∨m.rows.length<1
 ·rw [if_pos h1];exact⟨fun h=>absurd h (by decide),fun a=>by have:=a.i1;have:=a.o1;have:=a.r1;omega⟩
 rw [if_neg h1]
 cases hr:m.rows.any (z5g m)
 ·rw [if_neg (by decide)]
  have:=(zf8 _ _).1 hr
  exact⟨fun _=>⟨by omega,by omega,by omega,by omega,by omega,by omega,fun s b=>((ze7 m _).1 (this s b)).1,fun s i b hi=>((ze7 m _).1 (this s b)).2 i hi⟩,fun _=>rfl⟩
 ·rw [if_pos rfl]
  refine⟨fun h=>absurd h (by decide),fun a=>?_⟩
  have:m.rows.any (z5g m)=false:=(zf8 _ _).2 fun k c=>(ze7 m _).2 ⟨a.row k c,fun i hi=>a.edge k i c hi⟩
  rw [hr] at this;cases this
theorem MOk.small{m:Mach}(a:MOk m):Small m:=⟨by have:=a.r2;omega,fun k b=>by have:=a.row k b;have:=a.i2;omega⟩
def z9g(m:Mach)(s:Int):Int:=if z2l m≠0 then z2l m else if s<0∨(m.rows.length:Int)≤s then 1 else 0
theorem zrr{m:Mach}{s:Int}(h:z9g m s=0):MOk m∧0≤s∧s<m.rows.length:=by
 unfold z9g at h
 by_cases h1:z2l m≠0
 ·rw [if_pos h1] at h;exact absurd h h1
 rw [if_neg h1] at h
 by_cases h2:s<0∨(m.rows.length:Int)≤s
 ·rw [if_pos h2] at h;cases h
 exact⟨(z6w m).1 (by omega),by omega,by omega⟩
theorem zo8{m:Mach}{s:Int}(a:MOk m)(h:0≤s∧s<m.rows.length):z9g m s=0:=by
 unfold z9g;rw [if_neg (by rw [(z6w m).2 a];simp),if_neg (by omega)]
def z8v(n c:Int):Bool:=decide (c<0)||decide (n≤c)
def z0f(w:List Int)(n:Int):Int:=if 16<n∨256<w.length then 3 else if n<1 then 1 else if w.any (z8v n)=true then 1 else 0
theorem zqv{w:List Int}{n:Int}(h:16<n∨256<w.length):z0f w n=3:=by unfold z0f;rw [if_pos h]
theorem zrl{w:List Int}{n:Int}(h: ¬(16<n∨256<w.length))(a:n<1∨w.any (z8v n)=true):z0f w n=1:=by
 unfold z0f;rw [if_neg h]
 by_cases h2:n<1
 ·rw [if_pos h2]
 ·rw [if_neg h2,if_pos (a.resolve_left h2)]
theorem zr6{w:List Int}{n:Int}(h: ¬(16<n∨256<w.length))(a: ¬(n<1∨w.any (z8v n)=true)):z0f w n=0:=by
 unfold z0f;rw [if_neg h,if_neg (fun h=>a (.inl h)),if_neg (fun h=>a (.inr h))]
theorem zd2{w:List Int}{n:Int}(h:z0f w n=0):WOk n w∧w.length≤256:=by
 unfold z0f at h
 by_cases h1:16<n∨256<w.length
 ·rw [if_pos h1] at h;cases h
 rw [if_neg h1] at h
 by_cases h2:n<1
 ·rw [if_pos h2] at h;cases h
 rw [if_neg h2] at h
 cases h3:w.any (z8v n)
 ·refine⟨fun k a=>?_,by omega⟩
  have:=(zf8 _ _).1 h3 k a
  simp [z8v] at this
  exact this
 ·rw [h3,if_pos rfl] at h;cases h
theorem zwp{w:List Int}{n:Int}(c:1≤n)(d:n≤16)(a:WOk n w)(e:w.length≤256):z0f w n=0:=by
 unfold z0f
 rw [if_neg (by omega),if_neg (by omega),if_neg]
 rw [(zf8 _ _).2 fun k b=>?_]
 ·decide
 ·have:=a k b
  unfold z8v;rw [Bool.or_eq_false_iff,decide_eq_false_iff_not,decide_eq_false_iff_not];omega
def zwo(m:Mach)(s:Int)(w:List Int):Int:=if z9g m s≠0 then z9g m s else z0f w m.inputs
def q61(m:Mach)(s:Int)(w:List Int):List Int:=if z9g m s≠0 then [] else if z0f w m.inputs≠0 then [] else yx m s w
def q69(m:Mach)(s:Int)(w:List Int):Int:=if z9g m s≠0 then 0 else if z0f w m.inputs≠0 then 0 else yo m s w
def ze1:List Int→List Int→Int
 |x::a,y::b=>if x<y then-1 else if y<x then 1 else ze1 a b
 |_,_=>0
def cmpL(a b:List Int):Int:=if a.length<b.length then-1 else if b.length<a.length then 1 else ze1 a b
theorem zj2{α:Type}[Inhabited α](X:List α)(k:Nat)(h:k<X.length):X.drop k=X.getD k default::X.drop (k+1):=by
 rw [List.drop_eq_getElem_cons h];simp [List.getD_eq_getElem?_getD,h]
theorem zo7{a b:List Int}{k:Nat}(c:k<a.length)(d:k<b.length):ze1 (a.drop k) (b.drop k)=if a.getD k default<b.getD k default then-1 else if b.getD k default<a.getD k default then 1 else ze1 (a.drop (k+1)) (b.drop (k+1)):=by
 rw [zj2 a k c,zj2 b k d];rfl
theorem zvc: ∀ (a b:List Int),a.length=b.length→(ze1 a b=0↔a=b)
 | [],[],_=>by simp [ze1]
 |x::a,y::b,h=>by
  have ih:=zvc a b (by simpa using h)
  unfold ze1
  by_cases h1:x<y
  ·rw [if_pos h1];simp;omega
  by_cases h2:y<x
  ·rw [if_neg h1,if_pos h2];simp;omega
  rw [if_neg h1,if_neg h2,ih,show x=y from by omega];simp
theorem cmpL_eq(a b:List Int):cmpL a b=0↔a=b:=by
 unfold cmpL
 by_cases h1:a.length<b.length
 ·rw [if_pos h1];exact⟨fun h=>absurd h (by decide),fun h=>by subst h;omega⟩
 by_cases h2:b.length<a.length
 ·rw [if_neg h1,if_pos h2];exact⟨fun h=>absurd h (by decide),fun h=>by subst h;omega⟩
 rw [if_neg h1,if_neg h2]
 exact zvc a b (by omega)
theorem zid{α:Type}[Inhabited α]{X Y:List α}(b:X.length=Y.length)(h: ∀ k,k<X.length→X.getD k default=Y.getD k default):X=Y:=by
 refine List.ext_getElem b fun k a c=>?_
 have:=h k a
 simpa only [List.getD_eq_getElem?_getD,List.getElem?_eq_getElem a,List.getElem?_eq_getElem c,Option.getD_some] using this
def za9(m:Mach)(k:Nat):Edge:=(m.rows.getD (k/m.inputs.toNat) default).getD (k%m.inputs.toNat) default
def z9m(m:Mach)(k:Nat):List (Int×Int):=((List.range k).filter fun k=>decide ((za9 m k).to= -1∧(za9 m k).out= -1)).map fun k=>(((k/m.inputs.toNat:Nat):Int),((k%m.inputs.toNat:Nat):Int))
def ziw(m:Mach):List (Int×Int):=z9m m (m.rows.length*m.inputs.toNat)
theorem zs3(m:Mach):z9m m 0=[]:=rfl
theorem zjj(m:Mach)(k:Nat):z9m m (k+1)=z9m m k++if(za9 m k).to= -1∧(za9 m k).out= -1 then [(((k/m.inputs.toNat:Nat):Int),((k%m.inputs.toNat:Nat):Int))] else []:=by
 unfold z9m
 rw [List.range_succ,List.filter_append,List.map_append]
 congr 1
 by_cases h:(za9 m k).to= -1∧(za9 m k).out= -1
 ·rw [if_pos h];simp [h]
 ·rw [if_neg h];simp only [List.filter_cons,List.filter_nil,decide_eq_false h];rfl
theorem zxf(m:Mach)(k:Nat):(z9m m k).length≤k:=by
 unfold z9m;rw [List.length_map];exact Nat.le_trans (List.length_filter_le _ _) (by simp)
theorem znt{n k i:Nat}(h:i<n):(k*n+i)/n=k:=by
 rw [Nat.mul_comm,Nat.mul_add_div (by omega),Nat.div_eq_of_lt h];rfl
theorem zne{n k i:Nat}(h:i<n):(k*n+i)%n=i:=by
 rw [Nat.mul_comm,Nat.mul_add_mod,Nat.mod_eq_of_lt h]
theorem MOk.mul{m:Mach}(a:MOk m):m.rows.length*m.inputs.toNat≤1024∧(m.rows.length:Int)*m.inputs=((m.rows.length*m.inputs.toNat:Nat):Int):=by
 have b:=a.r2;have c:=a.i1;have d:=a.i2
 refine⟨Nat.le_trans (Nat.mul_le_mul b (show m.inputs.toNat≤16 by omega)) (by decide),?_⟩
 rw [Int.natCast_mul,Int.toNat_of_nonneg (by omega)]
theorem q0u{n k i N:Nat}(a:k<N)(hi:i<n):k*n+i<N*n:=by
 have:(k+1)*n≤N*n:=Nat.mul_le_mul_right n a
 rw [Nat.succ_mul] at this;omega
def zhh(m:Mach):Bool:=if z2l m≠0 then false else decide (((ziw m).length:Int)=0)
inductive Reach (m:Mach) (s:Nat):Nat→Prop
 |refl:Reach m s s
 |step {t i:Nat}:Reach m s t→t<m.rows.length→i<(m.rows.getD t default).length→0≤((m.rows.getD t default).getD i default).to→Reach m s ((m.rows.getD t default).getD i default).to.toNat
theorem Reach.trans{m:Mach}{a b c:Nat}(h:Reach m a b)(k:Reach m b c):Reach m a c:=by
 induction k with
 |refl=>exact h
 |step _ e hi d ih=>exact .step ih e hi d
theorem Reach.lt{m:Mach}(c:MOk m){a b:Nat}(h:Reach m a b)(d:a<m.rows.length):b<m.rows.length:=by
 cases h with
 |refl=>exact d
 |step g e f i=>rcases c.edge _ _ e f with h|h<;>omega
def Closed(m:Mach)(Y:List Bool)(t:Nat):Prop:= ∀ i,i<(m.rows.getD t default).length→0≤((m.rows.getD t default).getD i default).to→Y.getD ((m.rows.getD t default).getD i default).to.toNat default=true
structure Vis (m:Mach) (X:List Bool) (s:Int) (Y:List Bool):Prop where
 len:Y.length=X.length
 cnt:Y.count false≤X.count false
 mono: ∀ t,X.getD t default=true→Y.getD t default=true
 here:0≤s→Y.getD s.toNat default=true
 reach: ∀ t,Y.getD t default=true→X.getD t default=true∨(0≤s∧Reach m s.toNat t)
 closed: ∀ t,t<m.rows.length→Y.getD t default=true→X.getD t default=true∨Closed m Y t
structure VisK (m:Mach) (X:List Bool) (s:Nat) (k:Nat) (Y:List Bool):Prop where
 len:Y.length=X.length
 cnt:Y.count false<X.count false
 mono: ∀ t,X.getD t default=true→Y.getD t default=true
 here:Y.getD s default=true
 reach: ∀ t,Y.getD t default=true→X.getD t default=true∨Reach m s t
 closed: ∀ t,t<m.rows.length→Y.getD t default=true→X.getD t default=true∨t=s∨Closed m Y t
 done: ∀ i,i<k→0≤((m.rows.getD s default).getD i default).to→Y.getD ((m.rows.getD s default).getD i default).to.toNat default=true
theorem zqu{P:Nat→Prop}{k:Nat}(h: ∀ j,j<k→P j)(a:P k): ∀ j,j<k+1→P j:=fun j b=>by
 rcases Nat.lt_succ_iff_lt_or_eq.1 b with c|rfl
 ·exact h j c
 ·exact a
theorem Small.mem{m:Mach}(h:Small m){r:List Edge}(b:r∈m.rows):r.length≤100:=by
 obtain⟨k,a,rfl⟩:=List.getElem_of_mem b
 have:=h.c k a
 simpa [List.getD_eq_getElem?_getD,a] using this
theorem q0s{m:Mach}{x:Edge}(h:(x.to= -1∧x.out= -1)∨(0≤x.to∧x.to<m.rows.length∧0≤x.out∧x.out<m.outputs)):(!zif m x)=false:=by rw [(zja m x).2 h];rfl
theorem q5j{m:Mach}{x:Edge}(h: ¬((x.to= -1∧x.out= -1)∨(0≤x.to∧x.to<m.rows.length∧0≤x.out∧x.out<m.outputs))):(!zif m x)=true:=by
 cases hf:zif m x
 ·rfl
 ·exact absurd ((zja m x).1 hf) h
def zdx(m:Mach):Bool:=decide ((zxj m:Int)=m.rows.length*m.inputs)
def q8i(m:Mach)(Y:List Bool):Prop:= ∀ t,t<m.rows.length→Y.getD t default=true→Closed m Y t
structure RInv (m:Mach) (a:Nat) (r:Nat) (Y:List Bool):Prop where
 len:Y.length=m.rows.length
 sound: ∀ t,Y.getD t default=true→Reach m a t
 start:Y.getD a default=true
 prog:q8i m Y∨r<Y.count true
structure RPass (m:Mach) (a:Nat) (Y0:List Bool) (s i:Nat) (Y:List Bool):Prop where
 len:Y.length=m.rows.length
 sound: ∀ t,Y.getD t default=true→Reach m a t
 start:Y.getD a default=true
 fix:q8i m Y0→Y=Y0
 prog:Y0.count true<Y.count true∨(Y=Y0∧ ∀ t,t<m.rows.length→Y.getD t default=true→ ∀ j,(t<s∨(t=s∧j<i))→j<(m.rows.getD t default).length→0≤((m.rows.getD t default).getD j default).to→Y.getD ((m.rows.getD t default).getD j default).to.toNat default=true)
def MDat.n(x:MDat):Int:=1+x.states%6
def MDat.inp(x:MDat):Int:=1+x.ins%3
def MDat.out(x:MDat):Int:=1+x.outs%3
def MDat.num(x:MDat)(k:Nat):Int:=if k<x.edges.length then x.edges.getD k default else 0
def zs1(x:MDat)(v:Int):Edge:=if x.part=true∧v%4=3 then⟨-1,-1⟩ else⟨v/4%x.n,v/4/x.n%x.out⟩
def zhk(x:MDat)(s i:Nat):Edge:=zs1 x (x.num (s*x.inp.toNat+i))
def zmt(x:MDat)(s:Nat):List Edge:=(List.range x.inp.toNat).map (zhk x s)
def mOf(x:MDat):Mach:=⟨x.inp,x.out,(List.range x.n.toNat).map (zmt x)⟩
structure MDOk (x:MDat):Prop where
 st:0≤x.states∧x.states≤255
 ins:0≤x.ins∧x.ins≤255
 outs:0≤x.outs∧x.outs≤255
 ed: ∀ k,k<x.edges.length→0≤x.edges.getD k default∧x.edges.getD k default≤65535
theorem MDOk.num{x:MDat}(h:MDOk x)(k:Nat):0≤x.num k∧x.num k≤65535:=by
 unfold MDat.num
 split
 ·exact h.ed k (by assumption)
 ·omega
theorem zg4{α:Type}[Inhabited α](f:Nat→α){n k:Nat}(h:k<n):((List.range n).map f).getD k default=f k:=by
 simp [List.getD_eq_getElem?_getD,h]
theorem zzx{x:MDat}{v:Int}{m:Mach}(c:0≤v)(a:(m.rows.length:Int)=x.n)(b:m.outputs=x.out)(d:1≤x.n)(e:1≤x.out):eOk m (zs1 x v):=by
 unfold zs1 eOk
 split
 ·exact .inl ⟨rfl,rfl⟩
 ·refine .inr ⟨Int.emod_nonneg _ (by omega),?_,Int.emod_nonneg _ (by omega),?_⟩
  ·rw [a];exact Int.emod_lt_of_pos _ (by omega)
  ·rw [b];exact Int.emod_lt_of_pos _ (by omega)
theorem q6d{x:MDat}(h:MDOk x):MOk (mOf x):=by
 have e:=h.st;have f:=h.ins;have g:=h.outs
 have c:1≤x.n∧x.n≤6:=by unfold MDat.n;omega
 have d:1≤x.inp∧x.inp≤3:=by unfold MDat.inp;omega
 have b:1≤x.out∧x.out≤3:=by unfold MDat.out;omega
 have j:(mOf x).rows.length=x.n.toNat:=by simp [mOf]
 have hrow: ∀ s,s<(mOf x).rows.length→(mOf x).rows.getD s default=zmt x s:=fun s a=>zg4 _ (by omega)
 refine⟨d.1,by show x.inp≤16;omega,b.1,by show x.out≤16;omega,by omega,by omega,fun s a=>?_,fun s i a hi=>?_⟩
 ·rw [hrow s a];show ((zmt x s).length:Int)=x.inp;simp [zmt];omega
 ·rw [hrow s a] at hi⊢
  have hi':i<x.inp.toNat:=by simpa [zmt] using hi
  rw [show (zmt x s).getD i default=zhk x s i from zg4 _ hi']
  exact zzx (h.num _).1 (by omega) rfl c.1 b.1
theorem q3i{x:MDat}{s i:Nat}{v:Int}(a:x.num (s*x.inp.toNat+i)=v)(h:x.part=true∧v%4=3):zhk x s i=⟨-1,-1⟩:=by
 unfold zhk zs1;rw [a,if_pos h]
theorem q3j{x:MDat}{s i:Nat}{v:Int}(b:x.num (s*x.inp.toNat+i)=v)(h:x.part=true→ ¬v%4=3):zhk x s i=⟨v/4%x.n,v/4/x.n%x.out⟩:=by
 unfold zhk zs1;rw [b,if_neg (fun a=>h a.1 a.2)]
theorem zmo{α:Type}(f:Nat→α)(k:Nat):(List.range (k+1)).map f=(List.range k).map f++[f k]:=by rw [List.range_succ,List.map_append];rfl
theorem zxm{k:Nat}{a:Int}(b:k≤6)(c:1≤a∧a≤3):0≤(k:Int)*a∧(k:Int)*a≤18∧(k:Int)*a=((k*a.toNat:Nat):Int):=by
 have e:(k:Int)*a=((k*a.toNat:Nat):Int):=by rw [Int.natCast_mul,Int.toNat_of_nonneg (by omega)]
 have h:k*a.toNat≤6*3:=Nat.mul_le_mul b (by omega)
 exact⟨by omega,by omega,e⟩
end GV
end Go.Proofs.YtjmlpkkbmnjhcaaGreat
