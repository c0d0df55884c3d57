
import Derived.Test.YtkhihcleegljhaaGreatShPlain
import Derived.Test.YtkhihcleegljhaaGreatShPl
set_option linter.unusedVariables false
set_option linter.unusedSimpArgs false
namespace Go.Proofs.YtkhihcleegljhaaGreat
namespace GV
def eOk(m:Mach)(e:Edge):Prop:=(e.to= -1∧e.out= -1)∨(0≤e.to∧e.to<m.rows.length∧0≤e.out∧e.out<m.outputs)
structure MOk (m:Mach):Prop where
 i1:1≤m.inputs
 i2:m.inputs≤16
 o1:1≤m.outputs
 o2:m.outputs≤16
 r1:1≤m.rows.length
 r2:m.rows.length≤64
 row: ∀ s,s<m.rows.length→((m.rows.getD s default).length:Int)=m.inputs
 edge: ∀ s i,s<m.rows.length→i<(m.rows.getD s default).length→eOk m ((m.rows.getD s default).getD i default)
def z9c(m:Mach)(s i:Int):Edge:=if s<0 then⟨-1,-1⟩ else(m.rows.getD s.toNat default).getD i.toNat default
def z4z(m:Mach):Int→List Int→List Int
 |_,[]=>[]
 |s,i::w=>(z9c m s i).out::z4z m (z9c m s i).to w
def z6t(m:Mach):Int→List Int→Int
 |s,[]=>s
 |s,i::w=>z6t m (z9c m s i).to w
def WOk(n:Int)(w:List Int):Prop:= ∀ k,k<w.length→0≤w.getD k default∧w.getD k default<n
def SOk(m:Mach)(s:Int):Prop:=s= -1∨(0≤s∧s<m.rows.length)
theorem zes(m:Mach): ∀ (s:Int) (u v:List Int),z6t m s (u++v)=z6t m (z6t m s u) v
 |s,[],v=>rfl
 |s,i::u,v=>zes m _ u v
theorem zev(m:Mach): ∀ (s:Int) (u v:List Int),z4z m s (u++v)=z4z m s u++z4z m (z6t m s u) v
 |s,[],v=>rfl
 |s,i::u,v=>by
  show _::z4z m _ (u++v)=_::(z4z m _ u++_)
  rw [zev m _ u v];rfl
theorem z3e(m:Mach): ∀ (s:Int) (w:List Int),(z4z m s w).length=w.length
 |s,[]=>rfl
 |s,i::w=>by simp [z4z,z3e m _ w]
theorem zhc(w:List Int)(k:Nat)(h:k<w.length):w.take (k+1)=w.take k++[w.getD k default]:=by
 rw [List.take_succ_eq_append_getElem h];simp [List.getD_eq_getElem?_getD,h]
theorem zhn(m:Mach)(s:Int)(w:List Int)(k:Nat)(h:k<w.length):z4z m s (w.take (k+1))=z4z m s (w.take k)++[(z9c m (z6t m s (w.take k)) (w.getD k default)).out]:=by
 rw [zhc w k h,zev];rfl
theorem zgz(m:Mach)(s:Int)(w:List Int)(k:Nat)(h:k<w.length):z6t m s (w.take (k+1))=(z9c m (z6t m s (w.take k)) (w.getD k default)).to:=by
 rw [zhc w k h,zes];rfl
theorem zos(m:Mach)(a:MOk m)(s i:Int)(b:SOk m s)(hi:0≤i∧i<m.inputs):SOk m (z9c m s i).to∧ -1≤(z9c m s i).out∧(z9c m s i).out≤16:=by
 unfold z9c
 split
 ·exact⟨.inl rfl,by simp,by simp⟩
 ·have hs':0≤s∧s<m.rows.length:=by rcases b with h|h<;>omega
  have c:=a.row s.toNat (by omega)
  have d:=a.o2
  rcases a.edge s.toNat i.toNat (by omega) (by omega) with h|h
  ·exact⟨.inl h.1,by omega,by omega⟩
  ·exact⟨.inr ⟨h.1,h.2.1⟩,by omega,by omega⟩
theorem zhv(m:Mach)(b:MOk m): ∀ (s:Int) (w:List Int),SOk m s→WOk m.inputs w→SOk m (z6t m s w)
 |s,[],a,_=>a
 |s,i::w,a,c=>zhv m b _ w (zos m b s i a (by simpa using c 0 (by simp))).1 (fun k d=>by simpa using c (k+1) (by simpa using d))
theorem zjd{n:Int}{w:List Int}(h:WOk n w)(k:Nat):WOk n (w.take k):=fun j a=>by
 rw [List.length_take] at a
 have:=h j (by omega)
 rwa [show (w.take k).getD j default=w.getD j default from by simp only [List.getD_eq_getElem?_getD,List.getElem?_take];rw [if_pos (by omega)]]
theorem zou(X:List Int)(n k:Nat)(z:Int)(a:X.length=k)(b:k<n):(X++List.replicate (n-k) (0:Int)).set k z=(X++[z])++List.replicate (n-(k+1)) (0:Int):=by
 subst a
 rw [List.set_append_right _ _ (Nat.le_refl _),Nat.sub_self,List.append_assoc]
 congr 1
 rw [show n-X.length=(n-(X.length+1))+1 from by omega,List.replicate_succ]
 rfl
def zk7(m:Mach)(x:Edge):Bool:=decide (x.to= -1∧x.out= -1)||(((decide (0≤x.to)&&decide (x.to<m.rows.length))&&decide (0≤x.out))&&decide (x.out<m.outputs))
theorem zmh(m:Mach)(x:Edge):zk7 m x=true↔eOk m x:=by
 simp [zk7,eOk];omega
theorem zgh{α:Type}[Inhabited α](p:α→Bool)(X:List α)(k:Nat)(h:k<X.length):(X.take (k+1)).any p=((X.take k).any p||p (X.getD k default)):=by
 rw [List.take_succ_eq_append_getElem h,List.any_append]
 simp [List.getD_eq_getElem?_getD,h]
def zgu{α:Type}(p:α→Bool)(X:List α):Int:=match X.findIdx? p with|some i=>i|none=> -1
theorem zlz{α:Type}(p:α→Bool)(X:List α):decide (0≤zgu p X)=X.any p:=by
 unfold zgu
 cases h:X.findIdx? p with
 |none=>
  have:=List.findIdx?_eq_none_iff.1 h
  simp only [Bool.eq_false_iff] at*
  rw [show decide ((0:Int)≤ -1)=false from rfl]
  symm
  rw [List.any_eq_false]
  intro x a
  simp [this x a]
 |some i=>
  obtain⟨hi,b,_⟩:=List.findIdx?_eq_some_iff_getElem.1 h
  rw [show decide ((0:Int)≤(i:Int))=true from by simp]
  symm
  rw [List.any_eq_true]
  exact⟨_,List.getElem_mem hi,b⟩
theorem zg9{α:Type}[Inhabited α](p:α→Bool)(X:List α)(k:Nat)(h:k<X.length)(a:(X.take k).any p=false)(b:p (X.getD k default)=true):zgu p X=k:=by
 have:X.findIdx? p=some k:=by
  rw [List.findIdx?_eq_some_iff_getElem]
  refine⟨h,by simpa [List.getD_eq_getElem?_getD,h] using b,fun j c=>?_⟩
  rw [List.any_eq_false] at a
  have:=a X[j] (by rw [List.mem_take_iff_getElem];exact⟨j,by omega,rfl⟩)
  simpa using this
 simp [zgu,this]
theorem zh8{α:Type}(p:α→Bool)(X:List α)(a:X.any p=false):zgu p X= -1:=by
 have:X.findIdx? p=none:=by
  rw [List.findIdx?_eq_none_iff]
  rw [List.any_eq_false] at a
  intro x b
  simpa using a x b
 simp [zgu,this]
def z7u(m:Mach)(r:List Edge):Bool:=decide ((r.length:Int)≠m.inputs)||r.any fun x=> !zk7 m x
def z1q(m:Mach):Int:=if(16<m.inputs∨16<m.outputs)∨64<m.rows.length then 3 else if(m.inputs<1∨m.outputs<1)∨m.rows.length<1 then 1 else if m.rows.any (z7u m)=true then 1 else 0
structure Small (m:Mach):Prop where
 r:m.rows.length≤100
 c: ∀ k,k<m.rows.length→(m.rows.getD k default).length≤100
theorem zn8{m:Mach}(h:(16<m.inputs∨16<m.outputs)∨64<m.rows.length):z1q m=3:=by unfold z1q;rw [if_pos h]
theorem zp8{m:Mach}(h: ¬((16<m.inputs∨16<m.outputs)∨64<m.rows.length))(a:(m.inputs<1∨m.outputs<1)∨m.rows.length<1):z1q m=1:=by unfold z1q;rw [if_neg h,if_pos a]
theorem zpa{m:Mach}(h: ¬((16<m.inputs∨16<m.outputs)∨64<m.rows.length))(a: ¬((m.inputs<1∨m.outputs<1)∨m.rows.length<1))(b:m.rows.any (z7u m)=false):z1q m=0:=by
 unfold z1q;rw [if_neg h,if_neg a,if_neg (by rw [b];decide)]
theorem zbg{α:Type}[Inhabited α](p:α→Bool)(X:List α):X.any p=false↔ ∀ k,k<X.length→p (X.getD k default)=false:=by
 rw [List.any_eq_false]
 refine⟨fun h k a=>by simpa using h _ (z2u a),fun h x b=>?_⟩
 obtain⟨k,a,rfl⟩:=List.getElem_of_mem b
 have:=h k a
 simp only [List.getD_eq_getElem?_getD,List.getElem?_eq_getElem a,Option.getD_some] at this
 simp [this]
theorem zai(m:Mach)(r:List Edge):z7u m r=false↔(r.length:Int)=m.inputs∧ ∀ i,i<r.length→eOk m (r.getD i default):=by
 unfold z7u
 rw [Bool.or_eq_false_iff,zbg]
 refine and_congr (by simp) (forall_congr' fun i=>forall_congr' fun hi=>?_)
 rw [←zmh];simp
theorem z4y(m:Mach):z1q m=0↔MOk m:=by
 unfold z1q
 by_cases h:(16<m.inputs∨16<m.outputs)∨64<m.rows.length
 ·rw [if_pos h];exact⟨fun h=>absurd h (by decide),fun a=>by have:=a.i2;have:=a.o2;have:=a.r2;omega⟩
 rw [if_neg h]
 by_cases h1:(m.inputs<1∨m.outputs<1)∨m.rows.length<1
 ·rw [if_pos h1];exact⟨fun h=>absurd h (by decide),fun a=>by have:=a.i1;have:=a.o1;have:=a.r1;omega⟩
 rw [if_neg h1]
 cases hr:m.rows.any (z7u m)
 ·rw [if_neg (by decide)]
  have:=(zbg _ _).1 hr
  exact⟨fun _=>⟨by omega,by omega,by omega,by omega,by omega,by omega,fun s b=>((zai m _).1 (this s b)).1,fun s i b hi=>((zai m _).1 (this s b)).2 i hi⟩,fun _=>rfl⟩
 ·rw [if_pos rfl]
  refine⟨fun h=>absurd h (by decide),fun a=>?_⟩
  have:m.rows.any (z7u m)=false:=(zbg _ _).2 fun k c=>(zai m _).2 ⟨a.row k c,fun i hi=>a.edge k i c hi⟩
  rw [hr] at this;cases this
theorem MOk.small{m:Mach}(a:MOk m):Small m:=⟨by have:=a.r2;omega,fun k b=>by have:=a.row k b;have:=a.i2;omega⟩
def z9u(m:Mach)(s:Int):Int:=if z1q m≠0 then z1q m else if s<0∨(m.rows.length:Int)≤s then 1 else 0
theorem znm{m:Mach}{s:Int}(h:z9u m s=0):MOk m∧0≤s∧s<m.rows.length:=by
 unfold z9u at h
 by_cases h1:z1q m≠0
 ·rw [if_pos h1] at h;exact absurd h h1
 rw [if_neg h1] at h
 by_cases h2:s<0∨(m.rows.length:Int)≤s
 ·rw [if_pos h2] at h;cases h
 exact⟨(z4y m).1 (by omega),by omega,by omega⟩
def zc1(n c:Int):Bool:=decide (c<0)||decide (n≤c)
def z02(w:List Int)(n:Int):Int:=if 16<n∨256<w.length then 3 else if n<1 then 1 else if w.any (zc1 n)=true then 1 else 0
theorem zk3{w:List Int}{n:Int}(h:16<n∨256<w.length):z02 w n=3:=by unfold z02;rw [if_pos h]
theorem zow{w:List Int}{n:Int}(h: ¬(16<n∨256<w.length))(a:n<1∨w.any (zc1 n)=true):z02 w n=1:=by
 unfold z02;rw [if_neg h]
 by_cases h2:n<1
 ·rw [if_pos h2]
 ·rw [if_neg h2,if_pos (a.resolve_left h2)]
theorem znr{w:List Int}{n:Int}(h: ¬(16<n∨256<w.length))(a: ¬(n<1∨w.any (zc1 n)=true)):z02 w n=0:=by
 unfold z02;rw [if_neg h,if_neg (fun h=>a (.inl h)),if_neg (fun h=>a (.inr h))]
theorem zbo{w:List Int}{n:Int}(h:z02 w n=0):WOk n w∧w.length≤256:=by
 unfold z02 at h
 by_cases h1:16<n∨256<w.length
 ·rw [if_pos h1] at h;cases h
 rw [if_neg h1] at h
 by_cases h2:n<1
 ·rw [if_pos h2] at h;cases h
 rw [if_neg h2] at h
 cases h3:w.any (zc1 n)
 ·refine⟨fun k a=>?_,by omega⟩
  have:=(zbg _ _).1 h3 k a
  simp [zc1] at this
  exact this
 ·rw [h3,if_pos rfl] at h;cases h
theorem zml{w:List Int}{n:Int}(c:1≤n)(d:n≤16)(a:WOk n w)(e:w.length≤256):z02 w n=0:=by
 unfold z02
 rw [if_neg (by omega),if_neg (by omega),if_neg]
 rw [(zbg _ _).2 fun k b=>?_]
 ·decide
 ·have:=a k b
  unfold zc1;rw [Bool.or_eq_false_iff,decide_eq_false_iff_not,decide_eq_false_iff_not];omega
def zsa(m:Mach)(s:Int)(w:List Int):Int:=if z9u m s≠0 then z9u m s else z02 w m.inputs
def zsc(m:Mach)(s:Int)(w:List Int):List Int:=if z9u m s≠0 then [] else if z02 w m.inputs≠0 then [] else z4z m s w
def z6b:List Int→List Int→Int
 |x::a,y::b=>if x<y then-1 else if y<x then 1 else z6b a b
 |_,_=>0
def cmpL(a b:List Int):Int:=if a.length<b.length then-1 else if b.length<a.length then 1 else z6b a b
theorem zh2{α:Type}[Inhabited α](X:List α)(k:Nat)(h:k<X.length):X.drop k=X.getD k default::X.drop (k+1):=by
 rw [List.drop_eq_getElem_cons h];simp [List.getD_eq_getElem?_getD,h]
theorem zhd{a b:List Int}{k:Nat}(c:k<a.length)(d:k<b.length):z6b (a.drop k) (b.drop k)=if a.getD k default<b.getD k default then-1 else if b.getD k default<a.getD k default then 1 else z6b (a.drop (k+1)) (b.drop (k+1)):=by
 rw [zh2 a k c,zh2 b k d];rfl
theorem zm1: ∀ (a b:List Int),a.length=b.length→(z6b a b=0↔a=b)
 | [],[],_=>by simp [z6b]
 |x::a,y::b,h=>by
  have ih:=zm1 a b (by simpa using h)
  unfold z6b
  by_cases h1:x<y
  ·rw [if_pos h1];simp;omega
  by_cases h2:y<x
  ·rw [if_neg h1,if_pos h2];simp;omega
  rw [if_neg h1,if_neg h2,ih,show x=y from by omega];simp
theorem cmpL_eq(a b:List Int):cmpL a b=0↔a=b:=by
 unfold cmpL
 by_cases h1:a.length<b.length
 ·rw [if_pos h1];exact⟨fun h=>absurd h (by decide),fun h=>by subst h;omega⟩
 by_cases h2:b.length<a.length
 ·rw [if_neg h1,if_pos h2];exact⟨fun h=>absurd h (by decide),fun h=>by subst h;omega⟩
 rw [if_neg h1,if_neg h2]
 exact zm1 a b (by omega)
theorem MOk.mul{m:Mach}(a:MOk m):m.rows.length*m.inputs.toNat≤1024∧(m.rows.length:Int)*m.inputs=((m.rows.length*m.inputs.toNat:Nat):Int):=by
 have b:=a.r2;have c:=a.i1;have d:=a.i2
 refine⟨Nat.le_trans (Nat.mul_le_mul b (show m.inputs.toNat≤16 by omega)) (by decide),?_⟩
 rw [Int.natCast_mul,Int.toNat_of_nonneg (by omega)]
inductive Reach (m:Mach) (s:Nat):Nat→Prop
 |refl:Reach m s s
 |step {t i:Nat}:Reach m s t→t<m.rows.length→i<(m.rows.getD t default).length→0≤((m.rows.getD t default).getD i default).to→Reach m s ((m.rows.getD t default).getD i default).to.toNat
theorem Reach.trans{m:Mach}{a b c:Nat}(h:Reach m a b)(k:Reach m b c):Reach m a c:=by
 induction k with
 |refl=>exact h
 |step _ e hi d ih=>exact .step ih e hi d
theorem Reach.lt{m:Mach}(c:MOk m){a b:Nat}(h:Reach m a b)(d:a<m.rows.length):b<m.rows.length:=by
 cases h with
 |refl=>exact d
 |step g e f i=>rcases c.edge _ _ e f with h|h<;>omega
def Closed(m:Mach)(Y:List Bool)(t:Nat):Prop:= ∀ i,i<(m.rows.getD t default).length→0≤((m.rows.getD t default).getD i default).to→Y.getD ((m.rows.getD t default).getD i default).to.toNat default=true
structure Vis (m:Mach) (X:List Bool) (s:Int) (Y:List Bool):Prop where
 len:Y.length=X.length
 cnt:Y.count false≤X.count false
 mono: ∀ t,X.getD t default=true→Y.getD t default=true
 here:0≤s→Y.getD s.toNat default=true
 reach: ∀ t,Y.getD t default=true→X.getD t default=true∨(0≤s∧Reach m s.toNat t)
 closed: ∀ t,t<m.rows.length→Y.getD t default=true→X.getD t default=true∨Closed m Y t
structure VisK (m:Mach) (X:List Bool) (s:Nat) (k:Nat) (Y:List Bool):Prop where
 len:Y.length=X.length
 cnt:Y.count false<X.count false
 mono: ∀ t,X.getD t default=true→Y.getD t default=true
 here:Y.getD s default=true
 reach: ∀ t,Y.getD t default=true→X.getD t default=true∨Reach m s t
 closed: ∀ t,t<m.rows.length→Y.getD t default=true→X.getD t default=true∨t=s∨Closed m Y t
 done: ∀ i,i<k→0≤((m.rows.getD s default).getD i default).to→Y.getD ((m.rows.getD s default).getD i default).to.toNat default=true
theorem Small.mem{m:Mach}(h:Small m){r:List Edge}(b:r∈m.rows):r.length≤100:=by
 obtain⟨k,a,rfl⟩:=List.getElem_of_mem b
 have:=h.c k a
 simpa [List.getD_eq_getElem?_getD,a] using this
def zuj(m:Mach)(Y:List Bool):Prop:= ∀ t,t<m.rows.length→Y.getD t default=true→Closed m Y t
structure RInv (m:Mach) (a:Nat) (r:Nat) (Y:List Bool):Prop where
 len:Y.length=m.rows.length
 sound: ∀ t,Y.getD t default=true→Reach m a t
 start:Y.getD a default=true
 prog:zuj m Y∨r<Y.count true
structure RPass (m:Mach) (a:Nat) (Y0:List Bool) (s i:Nat) (Y:List Bool):Prop where
 len:Y.length=m.rows.length
 sound: ∀ t,Y.getD t default=true→Reach m a t
 start:Y.getD a default=true
 fix:zuj m Y0→Y=Y0
 prog:Y0.count true<Y.count true∨(Y=Y0∧ ∀ t,t<m.rows.length→Y.getD t default=true→ ∀ j,(t<s∨(t=s∧j<i))→j<(m.rows.getD t default).length→0≤((m.rows.getD t default).getD j default).to→Y.getD ((m.rows.getD t default).getD j default).to.toNat default=true)
def MDat.n(x:MDat):Int:=1+x.states%6
def MDat.inp(x:MDat):Int:=1+x.ins%3
def MDat.out(x:MDat):Int:=1+x.outs%3
def MDat.num(x:MDat)(k:Nat):Int:=if k<x.edges.length then x.edges.getD k default else 0
def zjf(x:MDat)(v:Int):Edge:=if x.part=true∧v%4=3 then⟨-1,-1⟩ else⟨v/4%x.n,v/4/x.n%x.out⟩
def zdl(x:MDat)(s i:Nat):Edge:=zjf x (x.num (s*x.inp.toNat+i))
def ziq(x:MDat)(s:Nat):List Edge:=(List.range x.inp.toNat).map (zdl x s)
def mOf(x:MDat):Mach:=⟨x.inp,x.out,(List.range x.n.toNat).map (ziq x)⟩
structure MDOk (x:MDat):Prop where
 st:0≤x.states∧x.states≤255
 ins:0≤x.ins∧x.ins≤255
 outs:0≤x.outs∧x.outs≤255
 ed: ∀ k,k<x.edges.length→0≤x.edges.getD k default∧x.edges.getD k default≤65535
theorem MDOk.num{x:MDat}(h:MDOk x)(k:Nat):0≤x.num k∧x.num k≤65535:=by
 unfold MDat.num
 split
 ·exact h.ed k (by assumption)
 ·omega
theorem zb4{α:Type}[Inhabited α](f:Nat→α){n k:Nat}(h:k<n):((List.range n).map f).getD k default=f k:=by
 simp [List.getD_eq_getElem?_getD,h]
theorem znv{x:MDat}{v:Int}{m:Mach}(c:0≤v)(a:(m.rows.length:Int)=x.n)(b:m.outputs=x.out)(d:1≤x.n)(e:1≤x.out):eOk m (zjf x v):=by
 unfold zjf eOk
 split
 ·exact .inl ⟨rfl,rfl⟩
 ·refine .inr ⟨Int.emod_nonneg _ (by omega),?_,Int.emod_nonneg _ (by omega),?_⟩
  ·rw [a];exact Int.emod_lt_of_pos _ (by omega)
  ·rw [b];exact Int.emod_lt_of_pos _ (by omega)
theorem zsg{x:MDat}(h:MDOk x):MOk (mOf x):=by
 have e:=h.st;have f:=h.ins;have g:=h.outs
 have c:1≤x.n∧x.n≤6:=by unfold MDat.n;omega
 have d:1≤x.inp∧x.inp≤3:=by unfold MDat.inp;omega
 have b:1≤x.out∧x.out≤3:=by unfold MDat.out;omega
 have j:(mOf x).rows.length=x.n.toNat:=by simp [mOf]
 have hrow: ∀ s,s<(mOf x).rows.length→(mOf x).rows.getD s default=ziq x s:=fun s a=>zb4 _ (by omega)
 refine⟨d.1,by show x.inp≤16;omega,b.1,by show x.out≤16;omega,by omega,by omega,fun s a=>?_,fun s i a hi=>?_⟩
 ·rw [hrow s a];show ((ziq x s).length:Int)=x.inp;simp [ziq];omega
 ·rw [hrow s a] at hi⊢
  have hi':i<x.inp.toNat:=by simpa [ziq] using hi
  rw [show (ziq x s).getD i default=zdl x s i from zb4 _ hi']
  exact znv (h.num _).1 (by omega) rfl c.1 b.1
theorem zq8{x:MDat}{s i:Nat}{v:Int}(a:x.num (s*x.inp.toNat+i)=v)(h:x.part=true∧v%4=3):zdl x s i=⟨-1,-1⟩:=by
 unfold zdl zjf;rw [a,if_pos h]
theorem zqe{x:MDat}{s i:Nat}{v:Int}(b:x.num (s*x.inp.toNat+i)=v)(h:x.part=true→ ¬v%4=3):zdl x s i=⟨v/4%x.n,v/4/x.n%x.out⟩:=by
 unfold zdl zjf;rw [b,if_neg (fun a=>h a.1 a.2)]
theorem zfj{α:Type}(f:Nat→α)(k:Nat):(List.range (k+1)).map f=(List.range k).map f++[f k]:=by rw [List.range_succ,List.map_append];rfl
theorem zm6{k:Nat}{a:Int}(b:k≤6)(c:1≤a∧a≤3):0≤(k:Int)*a∧(k:Int)*a≤18∧(k:Int)*a=((k*a.toNat:Nat):Int):=by
 have e:(k:Int)*a=((k*a.toNat:Nat):Int):=by rw [Int.natCast_mul,Int.toNat_of_nonneg (by omega)]
 have h:k*a.toNat≤6*3:=Nat.mul_le_mul b (by omega)
 exact⟨by omega,by omega,e⟩
end GV
end Go.Proofs.YtkhihcleegljhaaGreat

namespace Go.Proofs.YtkhihcleegljhaaGreat
namespace GV
set_option maxRecDepth 100000
theorem zs4{N:Nat}{s:List Edge}{f:Edge→Option Bool}{p:Edge→Bool}(b: ∀ k,k<s.length→f (s.getD k default)=some (p (s.getD k default)))(c:s.length<N)(d:s.length≤4611686018427387904):
 fq N s f=some (zgu p s):=by
 have h:uz N s f N 0=some (if s.any p=true then Ex.rt (zgu p s) else Ex.go ()):=by
  refine z4k (σ:=Unit) (fun F k _=>uz N s f F (k:Int)) s.length (fun k _=>(s.take k).any p=false) _ (fun F k _ a hi=>?_) (fun F _ hi=>?_) N 0 () (Nat.zero_le _) (by omega) (by simp)
  ·simp only [uz]
   rw [cz (by omega),qc (jl a),xk,ji (b k a)]
   cases hp:p (s.getD k default)
   ·right
    refine⟨(),by rw [zgh p s k a,hi,hp];rfl,?_⟩
    rw [cf rfl,qc (jq (by omega))];rfl
   ·left
    rw [ct rfl,if_pos (List.any_eq_true.2 ⟨_,z2u a,hp⟩),zg9 p s k a hi hp]
  ·simp only [uz]
   rw [bz (by omega),if_neg (by rw [List.take_length] at hi;rw [hi];decide)]
 unfold fq
 rw [ji h]
 by_cases ha:s.any p=true
 ·rw [if_pos ha];rfl
 ·rw [if_neg ha,zh8 p s (by simpa using ha)];rfl
theorem zmx{N:Nat}{s:List Edge}{f:Edge→Option Bool}{p:Edge→Bool}(a: ∀ k,k<s.length→f (s.getD k default)=some (p (s.getD k default)))(b:s.length<N)(c:s.length≤4611686018427387904):
 af N s f=some (s.any p):=by
 unfold af
 rw [ji (zs4 a b c),zlz]
theorem ze8{N:Nat}{m:Mach}(b:Small m)(f:200≤N):z1c N m=some (z1q m):=by
 unfold z1c
 by_cases h:(16<m.inputs∨16<m.outputs)∨64<m.rows.length
 ·rw [ct (by simp;omega),zn8 h]
 ·rw [cf (by simp;omega)]
  by_cases h1:(m.inputs<1∨m.outputs<1)∨m.rows.length<1
  ·rw [ct (by simp;omega),zp8 h h1]
  ·rw [cf (by simp;omega)]
   have g:=b.r
   have d:ig N m N 0=some (if m.rows.any (z7u m)=true then Ex.rt 1 else Ex.go ()):=by
    refine z4k (σ:=Unit) (fun F k _=>ig N m F (k:Int)) m.rows.length (fun k _=>(m.rows.take k).any (z7u m)=false) _ (fun F k _ a hi=>?_) (fun F _ hi=>?_) N 0 () (Nat.zero_le _) (by omega) (by simp)
    ·simp only [ig]
     have i:=b.c k a
     rw [cz (by omega),qc (jl a),xk,zni (fun _=>zmx (p:=fun x=> !zk7 m x) (fun j l=>rfl) (by omega) (by omega))]
     have e:(decide (((m.rows.getD k default).length:Int)≠m.inputs)||((bif (true&&(decide (((m.rows.getD k default).length:Int)≠m.inputs)==false)) then some ((m.rows.getD k default).any fun x=> !zk7 m x) else none).getD default))=z7u m (m.rows.getD k default):=by
      unfold z7u
      cases decide (((m.rows.getD k default).length:Int)≠m.inputs)<;>rfl
     rw [e]
     cases hr:z7u m (m.rows.getD k default)
     ·right
      refine⟨(),by rw [zgh _ _ k a,hi,hr];rfl,?_⟩
      rw [cf rfl,qc (jq (by omega))];rfl
     ·left
      rw [ct rfl,if_pos (List.any_eq_true.2 ⟨_,z2u a,hr⟩)]
    ·simp only [ig]
     rw [bz (by omega),if_neg (by rw [List.take_length] at hi;rw [hi];decide)]
   rw [ji d]
   by_cases ha:m.rows.any (z7u m)=true
   ·rw [if_pos ha];unfold z1q;rw [if_neg h,if_neg h1,if_pos ha];rfl
   ·rw [if_neg ha,zpa h h1 (by simpa using ha)];rfl
theorem zo2{N:Nat}{m:Mach}(a:Small m)(b:200≤N)(s:Int):z4i N m s=some (z9u m s):=by
 unfold z4i z9u
 rw [ji (ze8 a b)]
 by_cases h:z1q m≠0
 ·rw [cz h,if_pos h]
 ·rw [bz h,if_neg h]
  by_cases h1:s<0∨(m.rows.length:Int)≤s
  ·rw [ct (by simpa using h1),if_pos h1]
  ·rw [cf (by simpa using h1),if_neg h1]
theorem zs2{N:Nat}{s:List Int}{f:Int→Option Bool}{p:Int→Bool}(b: ∀ k,k<s.length→f (s.getD k default)=some (p (s.getD k default)))(c:s.length<N)(d:s.length≤4611686018427387904):
 z06 N s f=some (zgu p s):=by
 have h:yu N s f N 0=some (if s.any p=true then Ex.rt (zgu p s) else Ex.go ()):=by
  refine z4k (σ:=Unit) (fun F k _=>yu N s f F (k:Int)) s.length (fun k _=>(s.take k).any p=false) _ (fun F k _ a hi=>?_) (fun F _ hi=>?_) N 0 () (Nat.zero_le _) (by omega) (by simp)
  ·simp only [yu]
   rw [cz (by omega),qc (jl a),xk,ji (b k a)]
   cases hp:p (s.getD k default)
   ·right
    refine⟨(),by rw [zgh p s k a,hi,hp];rfl,?_⟩
    rw [cf rfl,qc (jq (by omega))];rfl
   ·left
    rw [ct rfl,if_pos (List.any_eq_true.2 ⟨_,z2u a,hp⟩),zg9 p s k a hi hp]
  ·simp only [yu]
   rw [bz (by omega),if_neg (by rw [List.take_length] at hi;rw [hi];decide)]
 unfold z06
 rw [ji h]
 by_cases ha:s.any p=true
 ·rw [if_pos ha];rfl
 ·rw [if_neg ha,zh8 p s (by simpa using ha)];rfl
theorem zmt{N:Nat}{s:List Int}{f:Int→Option Bool}{p:Int→Bool}(a: ∀ k,k<s.length→f (s.getD k default)=some (p (s.getD k default)))(b:s.length<N)(c:s.length≤4611686018427387904):
 iq N s f=some (s.any p):=by
 unfold iq
 rw [ji (zs2 a b c),zlz]
theorem zhm{N:Nat}{w:List Int}{n:Int}(b:w.length<N)(c:w.length≤4611686018427387904):z3d N w n=some (z02 w n):=by
 unfold z3d
 by_cases h:16<n∨256<w.length
 ·rw [ct (by simp;omega),zk3 h]
 ·rw [cf (by simp;omega)]
  rw [zni (fun _=>zmt (p:=zc1 n) (fun j d=>rfl) b c)]
  by_cases h1:n<1∨w.any (zc1 n)=true
  ·rw [zow h h1]
   refine ct ?_
   by_cases a:n<1
   ·rw [decide_eq_true a];rfl
   ·rw [decide_eq_false a];exact h1.resolve_left a
  ·rw [znr h h1]
   refine cf ?_
   rw [decide_eq_false (fun a=>h1 (.inl a))]
   exact Bool.eq_false_iff.2 fun a=>h1 (.inr a)
theorem zs7{N:Nat}{m:Mach}(e:MOk m){s:Int}{w:List Int}(g:SOk m s)(f:WOk m.inputs w)(j:w.length<N)(l:w.length≤1000000):z6e N m s w=some (z4z m s w,z6t m s w):=by
 unfold z6e
 rw [qc ⟨by omega,by omega,by omega⟩,zek]
 refine Eq.trans (ji (x:=(z6t m s w,z4z m s w)) ?_) rfl
 refine z4k (σ:=Int×List Int) (fun F k x=>z0r N m w F x.1 (k:Int) x.2) w.length (fun k x=>x.1=z6t m s (w.take k)∧x.2=z4z m s (w.take k)++List.replicate (w.length-k) (0:Int)) _ (fun F k x a hi=> .inr ?_) (fun F x hi=>?_) N 0 (s,List.replicate w.length 0) (Nat.zero_le _) (by omega) (by simp [z6t,z4z])
 ·obtain⟨t,X⟩:=x
  obtain⟨rfl,rfl⟩:=hi
  have d:=zhv m e s (w.take k) g (zjd f k)
  have b:=f k a
  refine⟨(z6t m s (w.take (k+1)),z4z m s (w.take (k+1))++List.replicate (w.length-(k+1)) (0:Int)),⟨rfl,rfl⟩,?_⟩
  simp only [z0r]
  rw [cz (by omega),qc (jl a),show z4t N=some ⟨-1,-1⟩ from rfl,z9s]
  have i:(bif decide (z6t m s (w.take k)≠ -1) then gd (okI m.rows (z6t m s (w.take k)))<|gd (okI (ix m.rows (z6t m s (w.take k))) (ix w (k:Int)))<|some ((ix (ix m.rows (z6t m s (w.take k))) (ix w (k:Int))).to,(ix (ix m.rows (z6t m s (w.take k))) (ix w (k:Int))).out) else some ((-1:Int),(-1:Int)))=
   some ((z9c m (z6t m s (w.take k)) (w.getD k default)).to,(z9c m (z6t m s (w.take k)) (w.getD k default)).out):=by
   rcases d with h|h
   ·rw [h];rfl
   ·have hrow:=e.row (z6t m s (w.take k)).toNat (by omega)
    rw [cz (by omega),qc h,qc (show okI (ix m.rows (z6t m s (w.take k))) (ix w (k:Int)) from⟨b.1,show w.getD k default<((m.rows.getD (z6t m s (w.take k)).toNat default).length:Int) from by rw [hrow];exact b.2⟩)]
    unfold z9c
    rw [if_neg (by omega)];rfl
  refine Eq.trans (ji i) ?_
  have c:=z3e m s (w.take k)
  rw [List.length_take] at c
  rw [qc (jl (by rw [List.length_append,List.length_replicate,c];omega)),qc (jq (by omega)),zb7,zou _ _ _ _ (by omega) a,←zgz m s w k a,←zhn m s w k a];rfl
 ·obtain⟨t,X⟩:=x
  obtain⟨rfl,rfl⟩:=hi
  simp only [z0r]
  rw [bz (by omega),List.take_length,Nat.sub_self,List.replicate_zero,List.append_nil]
theorem zsd{N:Nat}{m:Mach}(c:Small m){s:Int}{w:List Int}(e:400≤N)(a:w.length<N)(hl':w.length≤1000000):z3i N m s w=some (zsc m s w,zsa m s w):=by
 unfold z3i zsc zsa
 rw [ji (zo2 c (by omega) s)]
 by_cases h:z9u m s≠0
 ·rw [cz h,if_pos h,if_pos h]
 ·rw [bz h,if_neg h,if_neg h,ji (zhm a (by omega))]
  by_cases h1:z02 w m.inputs≠0
  ·rw [cz h1,if_pos h1]
  ·have b:=znm (m:=m) (s:=s) (by simpa using h)
   have d:=zbo (w:=w) (n:=m.inputs) (by simpa using h1)
   rw [bz h1,if_neg h1,ji (zs7 b.1 (.inr b.2) d.1 a hl'),show z02 w m.inputs=0 by simpa using h1]
theorem zps{N:Nat}{m:Mach}(a:MOk m){s i:Int}(b:SOk m s)(hi:0≤i∧i<m.inputs):z2e N m s i=some (z9c m s i):=by
 unfold z2e z9c
 rcases b with h|h
 ·rw [h];rfl
 ·have hrow:=a.row s.toNat (by omega)
  rw [bz (by omega),if_neg (by omega),qc h,qc (show okI (ix m.rows s) i from⟨hi.1,by rw [zab,hrow];exact hi.2⟩)];rfl
theorem zln{N:Nat}{m:Mach}(d:MOk m){s:Int}{w:List Int}(f:SOk m s)(e:WOk m.inputs w)(g:w.length<N)(h:w.length≤1000000):z1f N m s w=some (z4z m s w):=by
 unfold z1f
 refine Eq.trans (ji (x:=z4z m s w) ?_) rfl
 refine z4k (σ:=Int×List Int) (fun F k x=>oq N m w F x.1 x.2 (k:Int)) w.length (fun k x=>x.1=z6t m s (w.take k)∧x.2=z4z m s (w.take k)) _ (fun F k x a hi=> .inr ?_) (fun F x hi=>?_) N 0 (s,[]) (Nat.zero_le _) (by omega) (by simp [z6t,z4z])
 ·obtain⟨t,X⟩:=x
  obtain⟨rfl,rfl⟩:=hi
  have b:=zhv m d s (w.take k) f (zjd e k)
  refine⟨(z6t m s (w.take (k+1)),z4z m s (w.take (k+1))),⟨rfl,rfl⟩,?_⟩
  simp only [oq]
  have c:=z3e m s (w.take k)
  rw [List.length_take] at c
  rw [cz (by omega),qc (jl a)]
  refine Eq.trans (ji (zps d b (show 0≤w.getD k default∧w.getD k default<m.inputs from e k a))) ?_
  rw [qc ⟨by simp;omega,by simp;omega⟩,qc (jq (by omega)),zgz m s w k a,zhn m s w k a];rfl
 ·obtain⟨t,X⟩:=x
  obtain⟨rfl,rfl⟩:=hi
  simp only [oq]
  rw [bz (by omega),List.take_length]
theorem zrc{N:Nat}{x:MDat}(b:MDOk x)(o:200≤N){s:Nat}(p:s<6):di N x (s:Int) N [] 0=some (ziq x s):=by
 have q:=b.st;have r:=b.ins;have t:=b.outs
 have hinp:x.inp=1+x.ins%3:=rfl
 refine z4k (fun F i acc=>di N x (s:Int) F acc (i:Int)) x.inp.toNat (fun i acc=>acc=(List.range i).map (zdl x s)) _ (fun F i acc hi hacc=> .inr ?_) (fun F acc hacc=>?_) N 0 [] (Nat.zero_le _) (by omega) rfl
 ·subst hacc
  refine⟨_,rfl,?_⟩
  have g:=zm6 (k:=s) (a:=x.inp) (by omega) (by omega)
  have j:(s:Int)*((1:Int)+x.ins%3)+(i:Int)=((s*x.inp.toNat+i:Nat):Int):=by
   rw [←hinp,g.2.2];rfl
  have hnum:=b.num (s*x.inp.toNat+i)
  simp only [di]
  rw [cz (by omega)]
  have l:(gd (in64 ((s:Int)*((1:Int)+(x.ins%3))))<|gd (in64 (((s:Int)*((1:Int)+(x.ins%3)))+(i:Int)))<|bif decide (((s:Int)*((1:Int)+(x.ins%3)))+(i:Int)<(x.edges.length:Int)) then(gd (okI x.edges (((s:Int)*((1:Int)+(x.ins%3)))+(i:Int)))<|gd (in64 (ix x.edges (((s:Int)*((1:Int)+(x.ins%3)))+(i:Int))))<|some (ix x.edges (((s:Int)*((1:Int)+(x.ins%3)))+(i:Int)))) else(some (0:Int)))=some (x.num (s*x.inp.toNat+i)):=by
   rw [qc (jq (by rw [←hinp];omega)),j,qc (jq (by omega))]
   unfold MDat.num
   by_cases hk:s*x.inp.toNat+i<x.edges.length
   ·have m:=b.ed _ hk
    rw [cz (by omega),if_pos hk,qc (jl hk),qc (show in64 (ix x.edges ((s*x.inp.toNat+i:Nat):Int)) from jq (show-4611686018427387904≤x.edges.getD (s*x.inp.toNat+i) default∧x.edges.getD (s*x.inp.toNat+i) default≤4611686018427387904 by omega))];rfl
   ·rw [bz (by omega),if_neg hk]
  have hacc:((List.range i).map (zdl x s)).length=i:=by simp
  refine Eq.trans (ji (x:=(List.range (i+1)).map (zdl x s)) (Eq.trans (ji l) ?_)) ?_
  ·rw [qc (fun _=>⟨hnum.1,by omega⟩),zfj]
   by_cases hp:x.part=true∧x.num (s*x.inp.toNat+i)%4=3
   ·rw [ct (by rw [hp.1,decide_eq_true hp.2];rfl),qc ⟨by rw [hacc];simp;omega,by rw [hacc];simp;omega⟩,zq8 rfl hp]
   ·have c:x.n=1+x.states%6:=rfl
    have d:x.out=1+x.outs%3:=rfl
    have e:0≤x.num (s*x.inp.toNat+i)/4:=by omega
    have f:0≤x.num (s*x.inp.toNat+i)/4/x.n:=Int.ediv_nonneg e (by omega)
    rw [cf (by
     rw [Bool.and_eq_false_iff]
     by_cases h:x.part=true
     ·exact .inr (decide_eq_false fun h'=>hp ⟨h,h'⟩)
     ·exact .inl (by simpa using h)),←c,←d,qc ⟨by omega,by omega,by omega⟩,qc ⟨e,by omega⟩,qc ⟨by omega,by omega,by omega⟩,qc ⟨e,by omega,by omega⟩,qc ⟨f,by omega⟩,qc ⟨by rw [hacc];simp;omega,by rw [hacc];simp;omega⟩,zqe rfl (fun h h'=>hp ⟨h,h'⟩)]
  ·rw [qc (jq (by omega))];rfl
 ·subst hacc
  simp only [di]
  rw [bz (by omega)];rfl
theorem zse{N:Nat}{x:MDat}(a:MDOk x)(b:200≤N):z2f N x=some (mOf x):=by
 have d:=a.st;have e:=a.ins;have f:=a.outs
 have c:x.n=1+x.states%6:=rfl
 unfold z2f
 rw [qc ⟨by omega,by omega⟩,qc (jq (by omega)),qc (jq (by omega)),qc ⟨by omega,by omega⟩,qc (jq (by omega)),qc (jq (by omega)),qc ⟨by omega,by omega⟩,qc (jq (by omega)),qc (jq (by omega))]
 refine Eq.trans (ji (x:=(List.range x.n.toNat).map (ziq x)) ?_) rfl
 refine z4k (fun F s acc=>tu N x F (s:Int) acc) x.n.toNat (fun s acc=>acc=(List.range s).map (ziq x)) _ (fun F s acc g hacc=> .inr ?_) (fun F acc hacc=>?_) N 0 [] (Nat.zero_le _) (by omega) rfl
 ·subst hacc
  refine⟨_,rfl,?_⟩
  simp only [tu]
  rw [cz (by omega),ji (zrc a b (by omega)),qc ⟨by simp;omega,by simp;omega⟩,qc (jq (by omega)),zfj];rfl
 ·subst hacc
  simp only [tu]
  rw [bz (by omega)]
end GV
end Go.Proofs.YtkhihcleegljhaaGreat

namespace Go.Proofs.YtkhihcleegljhaaGreat
namespace GV
theorem zc5{x:Int}(h: -4611686018427387904≤x∧x≤4611686018427387904):IntKind.i64.wrap x=x:=by
 simp [IntKind.wrap,IntKind.signed,IntKind.bits];omega
theorem z4l{σ ρ:Type}(L:Nat→Nat→σ→Option ρ)(n:Nat)(st:Nat→σ)(r:ρ)(step: ∀ F k,k<n→L (F+1) k (st k)=L F (k+1) (st (k+1)))(fin: ∀ F,L (F+1) n (st n)=some r){F:Nat}(c:n<F):L F 0 (st 0)=some r:=
 z4k L n (fun k s=>s=st k) r (fun F k s b a=> .inr ⟨st (k+1),rfl,by rw [a];exact step F k b⟩) (fun F s a=>by rw [a];exact fin F) F 0 (st 0) (Nat.zero_le _) (by omega) rfl
theorem zc6{ρ:Type}(L:Nat→Nat→Option ρ)(n:Nat)(p:Nat→Bool)(d f:ρ)(b: ∀ F k,k<n→p k=true→L (F+1) k=some f)(skip: ∀ F k,k<n→p k=false→L (F+1) k=L F (k+1))(fin: ∀ F,L (F+1) n=some d){F:Nat}(h:n<F):
 L F 0=some (bif (List.range n).any p then f else d):=by
 refine z4k (σ:=Unit) (fun F k _=>L F k) n (fun k _=> ∀ j,j<k→p j=false) _ (fun F k s a c=>?_) (fun F s c=>?_) F 0 () (Nat.zero_le _) (by omega) (fun j g=>absurd g (by omega))
 ·cases hp:p k with
  |true=>
   left
   have:(List.range n).any p=true:=by rw [List.any_eq_true];exact⟨k,List.mem_range.2 a,hp⟩
   rw [this];exact b F k a hp
  |false=>
   right
   refine⟨(),fun j g=>?_,skip F k a hp⟩
   by_cases e:j=k
   ·subst e;exact hp
   ·exact c j (by omega)
 ·have:(List.range n).any p=false:=by rw [List.any_eq_false];intro k a;rw [c k (List.mem_range.1 a)];simp
  rw [this];exact fin F
theorem z81{n:Nat}{p:Nat→Bool}:(List.range n).any p=false↔ ∀ k,k<n→p k=false:=by
 rw [List.any_eq_false]
 exact⟨fun h k a=>by have:=h k (List.mem_range.2 a);simpa using this,fun h k a=>by rw [h k (List.mem_range.1 a)];simp⟩
theorem zbq{n:Nat}{p:Nat→Bool}:(List.range n).any p=true↔ ∃ k,k<n∧p k=true:=by
 rw [List.any_eq_true]
 exact⟨fun⟨k,a,b⟩=>⟨k,List.mem_range.1 a,b⟩,fun⟨k,a,b⟩=>⟨k,List.mem_range.2 a,b⟩⟩
/-! ### What is reckoned-/
def zen(X:List (List Int)):Nat→Nat
 |0=>0
 |k+1=>max (zen X k) (X.getD k default).length
def z7g(X:List (List Int)):Nat→Nat
 |0=>0
 |k+1=>z7g X k+(X.getD k default).length
def cols(X:List (List Int)):Nat:=zen X X.length
def tot(X:List (List Int)):Nat:=z7g X X.length
def zcq(v:Int):Bool:= !(decide (v< -1))&& !(decide (256≤v))
def zgo(n:Nat)(r:List Int):Bool:=decide (r.length=n)&&(List.range r.length).all fun j=>zcq (r.getD j default)
def zqc(X:List (List Int)):Bool:=(List.range X.length).all fun k=>zgo (cols X) (X.getD k default)
def zpx(X:List (List Int)):Int:=bif zqc X then 0 else 1
structure Bx (X:List (List Int)):Prop where
 rows:X.length≤100
 tot:tot X≤3000
theorem zjr{X:List (List Int)}: ∀ n k,k<n→(X.getD k default).length≤z7g X n
 |n+1,k,h=>by
  unfold z7g
  by_cases e:k=n
  ·subst e;omega
  ·have:=zjr (X:=X) n k (by omega);omega
theorem zeb{X:List (List Int)}: ∀ n k,k≤n→z7g X k≤z7g X n
 |0,k,h=>by
  have:k=0:=by omega
  subst this;exact Nat.le_refl _
 |n+1,k,h=>by
  by_cases e:k=n+1
  ·subst e;exact Nat.le_refl _
  ·have:=zeb (X:=X) n k (by omega)
   have a:z7g X (n+1)=z7g X n+(X.getD n default).length:=rfl
   omega
theorem zj6{X:List (List Int)}: ∀ n,zen X n≤z7g X n
 |0=>Nat.le_refl _
 |n+1=>by have:=zj6 (X:=X) n;unfold zen z7g;omega
theorem zj4{X:List (List Int)}{m:Nat}: ∀ n,(∀ k,k<n→(X.getD k default).length=m)→zen X n=if n=0 then 0 else m
 |0,_=>rfl
 |n+1,h=>by
  unfold zen
  rw [zj4 n fun k a=>h k (by omega),h n (by omega),if_neg (Nat.succ_ne_zero n)]
  split<;>omega
theorem Bx.row{X:List (List Int)}(h:Bx X){k:Nat}(a:k<X.length):(X.getD k default).length≤3000:=Nat.le_trans (zjr _ _ a) h.tot
theorem Bx.cols{X:List (List Int)}(h:Bx X):cols X≤3000:=Nat.le_trans (zj6 _) h.tot
/-! ### columns-/
theorem zkv{N:Nat}{X:List (List Int)}(h:Bx X)(c:200≤N):yz N ⟨X⟩=some (cols X:Int):=by
 have d:=h.rows
 have a:ww N ⟨X⟩ N 0 0=some (cols X:Int):=by
  refine z4l (fun F k s=>ww N ⟨X⟩ F s (k:Int)) X.length (fun k=>(zen X k:Int)) _ (fun F k b=>?_) (fun F=>?_) (by omega)
  ·simp only [ww]
   rw [cz (by omega),qc (jl b),qc (jq (by omega)),xk]
   congr 1
   simp only [zen];omega
  ·simp only [ww]
   rw [bz (by omega)];rfl
 unfold yz
 rw [ji a]
/-! ### Check-/
theorem zji{N:Nat}{X:List (List Int)}(h:Bx X)(m:5000≤N):ae N ⟨X⟩=some (zpx X):=by
 have n:=h.rows
 have o:=h.tot
 have p:=h.cols
 have i:ay N ⟨X⟩ N 0 0=some (tot X:Int):=by
  refine z4l (fun F k s=>ay N ⟨X⟩ F s (k:Int)) X.length (fun k=>(z7g X k:Int)) _ (fun F k b=>?_) (fun F=>?_) (by omega)
  ·have q:z7g X (k+1)≤tot X:=zeb _ _ b
   have hm':z7g X (k+1)=z7g X k+(X.getD k default).length:=rfl
   simp only [ay]
   rw [cz (by omega),qc (jl b),xk,zc5 (by omega),zc5 (by omega)]
   congr 1
  ·simp only [ay]
   rw [bz (by omega)];rfl
 have g: ∀ k,k<X.length→ol N ⟨X⟩ (k:Int) N 0=some (bif (List.range (X.getD k default).length).any (fun j=> !zcq ((X.getD k default).getD j default)) then Ex.rt (Ex.rt 1) else Ex.go ()):=by
  intro k b
  have r:=h.row b
  refine zc6 (fun F j=>ol N ⟨X⟩ (k:Int) F (j:Int)) (X.getD k default).length _ _ _ (fun F j d a=>?_) (fun F j d a=>?_) (fun F=>?_) (by omega)
  ·simp only [ol]
   rw [cz (by rw [xk];omega),qc (jl (by rw [xk];exact d))]
   have a:(!zcq (ix (ix X (k:Int)) (j:Int)))=true:=a
   simp only [zcq] at a
   by_cases e:ix (ix X (k:Int)) (j:Int)< -1
   ·rw [cz e];rfl
   ·rw [bz e]
    by_cases f:256≤ix (ix X (k:Int)) (j:Int)
    ·rw [cz f];rfl
    ·simp [e,f] at a
  ·simp only [ol]
   rw [cz (by rw [xk];omega),qc (jl (by rw [xk];exact d))]
   have a:(!zcq (ix (ix X (k:Int)) (j:Int)))=false:=a
   simp only [zcq] at a
   have e: ¬ix (ix X (k:Int)) (j:Int)< -1:=by intro e;simp [e] at a
   have f: ¬256≤ix (ix X (k:Int)) (j:Int):=by intro f;simp [f] at a
   rw [bz e,bz f,z9s,zrh,z9s,znb,zc5 (by omega)];rfl
  ·simp only [ol]
   rw [bz (by rw [xk];omega)]
 have l:om N ⟨X⟩ (cols X:Int) N 0=some (bif (List.range X.length).any (fun k=> !zgo (cols X) (X.getD k default)) then Ex.rt 1 else Ex.go ()):=by
  refine zc6 (fun F k=>om N ⟨X⟩ (cols X:Int) F (k:Int)) X.length _ _ _ (fun F k b a=>?_) (fun F k b a=>?_) (fun F=>?_) (by omega)
  ·simp only [om]
   rw [cz (by omega),qc (jl b),xk]
   by_cases hl:(X.getD k default).length=cols X
   ·have hany:(List.range (X.getD k default).length).any (fun j=> !zcq ((X.getD k default).getD j default))=true:=by
     simp only [zgo,hl,decide_true,Bool.true_and,Bool.not_eq_true',List.all_eq_false] at a
     obtain⟨j,d,c⟩:=a
     rw [List.any_eq_true]
     exact⟨j,by rw [hl];exact d,by simpa using c⟩
    rw [bz (by omega),g k b,hany];rfl
   ·rw [cz (by omega)];rfl
  ·simp only [om]
   rw [cz (by omega),qc (jl b),xk]
   simp only [zgo,Bool.not_eq_false',Bool.and_eq_true,decide_eq_true_eq,List.all_eq_true] at a
   have hany:(List.range (X.getD k default).length).any (fun j=> !zcq ((X.getD k default).getD j default))=false:=by
    rw [List.any_eq_false];intro j d;rw [a.2 j d];simp
   rw [bz (by omega),g k b,hany,cond_false,z9s,znb,zc5 (by omega)];rfl
  ·simp only [om]
   rw [bz (by omega)]
 unfold ae
 rw [ji (zkv h (by omega)),ji i]
 rw [cf (by rw [decide_eq_false (by show¬(4096:Int)<(X.length:Int);omega),decide_eq_false (by omega),decide_eq_false (by omega)];rfl),ji l]
 unfold zpx zqc
 cases c:(List.range X.length).all (fun k=>zgo (cols X) (X.getD k default)) with
 |true=>
  have:(List.range X.length).any (fun k=> !zgo (cols X) (X.getD k default))=false:=by
   rw [List.any_eq_false];intro k b;rw [List.all_eq_true] at c;rw [c k b];simp
  rw [this];rfl
 |false=>
  have:(List.range X.length).any (fun k=> !zgo (cols X) (X.getD k default))=true:=by
   rw [List.all_eq_false] at c;obtain⟨k,b,c⟩:=c;rw [List.any_eq_true];exact⟨k,b,by simpa using c⟩
  rw [this];rfl
/-! ### What a valid matrix is-/
structure VX (X:List (List Int)):Prop extends Bx X where
 len: ∀ k,k<X.length→(X.getD k default).length=_root_.Go.Proofs.YtkhihcleegljhaaGreat.GV.cols X
 cell: ∀ k,k<X.length→ ∀ j,j<(X.getD k default).length→ -1≤(X.getD k default).getD j default∧(X.getD k default).getD j default≤255
theorem zrq{X:List (List Int)}(h:Bx X):zqc X=true↔VX X:=by
 unfold zqc
 rw [List.all_eq_true]
 constructor
 ·intro b
  refine⟨h,fun k a=>?_,fun k a j c=>?_⟩
  ·have:=b k (List.mem_range.2 a)
   simp only [zgo,Bool.and_eq_true,decide_eq_true_eq] at this
   exact this.1
  ·have:=b k (List.mem_range.2 a)
   simp only [zgo,Bool.and_eq_true,decide_eq_true_eq,List.all_eq_true] at this
   have:=this.2 j (List.mem_range.2 c)
   simp only [zcq,Bool.and_eq_true,Bool.not_eq_true',decide_eq_false_iff_not] at this
   omega
 ·intro b k a
  have a:=List.mem_range.1 a
  simp only [zgo,Bool.and_eq_true,decide_eq_true_eq,List.all_eq_true]
  refine⟨b.len k a,fun j c=>?_⟩
  have:=b.cell k a j (List.mem_range.1 c)
  simp only [zcq,Bool.and_eq_true,Bool.not_eq_true',decide_eq_false_iff_not]
  omega
theorem zfg{X:List (List Int)}(h:VX X):zpx X=0:=by unfold zpx;rw [(zrq h.toBx).2 h];rfl
/-! ### Killers-/
def zed(r:List Int)(j:Nat):Bool:=decide (r.getD j default≠ -1)
def zey(p:Nat→Bool):Nat→List Int
 |0=>[]
 |j+1=>bif p j then zey p j++[(j:Int)] else zey p j
def kl(r:List Int):List Int:=zey (zed r) r.length
theorem zk2(p:Nat→Bool): ∀ j,(zey p j).length≤j
 |0=>Nat.le_refl _
 |j+1=>by
  have:=zk2 p j
  unfold zey
  cases p j
  ·simp only [cond_false];omega
  ·simp only [cond_true,List.length_append,List.length_singleton];omega
theorem zbz{p:Nat→Bool}{c:Int}: ∀ {j:Nat},c∈zey p j↔ ∃ i:Nat,i<j∧c=i∧p i=true
 |0=>⟨fun h=>absurd h (by simp [zey]),fun⟨i,h,_⟩=>absurd h (by omega)⟩
 |j+1=>by
  unfold zey
  cases hb:p j
  ·simp only [cond_false]
   rw [zbz (j:=j)]
   constructor
   ·rintro⟨i,d,a⟩;exact⟨i,by omega,a⟩
   ·rintro⟨i,d,a,b⟩
    have:i≠j:=fun e=>by subst e;rw [hb] at b;cases b
    exact⟨i,by omega,a,b⟩
  ·simp only [cond_true,List.mem_append,List.mem_singleton]
   rw [zbz (j:=j)]
   constructor
   ·rintro(⟨i,d,a⟩|rfl)
    ·exact⟨i,by omega,a⟩
    ·exact⟨j,by omega,rfl,hb⟩
   ·rintro⟨i,d,a,b⟩
    by_cases e:i=j
    ·subst e;exact .inr a
    ·exact .inl ⟨i,by omega,a,b⟩
theorem zo1{p:Nat→Bool}{n:Nat}:(zey p n).length=0↔ ∀ j,j<n→p j=false:=by
 rw [List.length_eq_zero_iff,List.eq_nil_iff_forall_not_mem]
 constructor
 ·intro h j b
  cases hp:p j with
  |false=>rfl
  |true=>exact absurd (zbz.2 ⟨j,b,rfl,hp⟩) (h j)
 ·intro h c d
  obtain⟨i,e,_,a⟩:=zbz.1 d
  rw [h i e] at a;cases a
theorem zng{N:Nat}{X:List (List Int)}{k j:Nat}(a:k<X.length)(b:j<(X.getD k default).length):aj N ⟨X⟩ (k:Int) (j:Int)=some (zed (X.getD k default) j):=by
 unfold aj
 rw [qc (jl a),qc (jl (by rw [xk];exact b))];rfl
theorem zks{N:Nat}{X:List (List Int)}(h:Bx X)(d:5000≤N){k:Nat}(a:k<X.length):yg N ⟨X⟩ (k:Int)=some (kl (X.getD k default)):=by
 have e:=h.row a
 have b:wz N ⟨X⟩ (k:Int) N [] 0=some (kl (X.getD k default)):=by
  refine z4l (fun F j s=>wz N ⟨X⟩ (k:Int) F s (j:Int)) (X.getD k default).length (fun j=>zey (zed (X.getD k default)) j) _ (fun F j c=>?_) (fun F=>?_) (by omega)
  ·have f:=zk2 (zed (X.getD k default)) j
   simp only [wz]
   rw [cz (by rw [xk];omega),zng a c,z9s]
   cases hb:zed (X.getD k default) j
   ·rw [cond_false,z9s,qc (jq (by omega))]
    simp only [zey,hb,cond_false];rfl
   ·rw [cond_true,qc ⟨by simp only [List.length_singleton];omega,by simp only [List.length_singleton];omega⟩,z9s,qc (jq (by omega))]
    simp only [zey,hb,cond_true];rfl
  ·simp only [wz]
   rw [bz (by rw [xk];omega)];rfl
 unfold yg
 rw [qc (jl a),ji b]
end GV
end Go.Proofs.YtkhihcleegljhaaGreat

namespace Go.Proofs.YtkhihcleegljhaaGreat
namespace GV
theorem zsi{α:Type}{X:List α}{i:Nat}{d:α}(h:i<X.length):X.getD i d=X[i]:=by rw [List.getD_eq_getElem?_getD,List.getElem?_eq_getElem h];rfl
def z4g{α:Type}(n:Nat)(d:α)(f:Nat→α)(k:Nat):List α:=(List.range n).map fun i=>if i<k then f i else d
theorem z6y{α:Type}{n:Nat}{d:α}{f:Nat→α}{k:Nat}:(z4g n d f k).length=n:=by simp [z4g]
theorem zd8{α:Type}{n:Nat}{d:α}{f:Nat→α}:List.replicate n d=z4g n d f 0:=by
 apply List.ext_getElem
 ·simp [z4g]
 ·intro i a b;simp [z4g]
theorem ze5{α:Type}{n:Nat}{d:α}{f:Nat→α}{k:Nat}:(z4g n d f k).set k (f k)=z4g n d f (k+1):=by
 apply List.ext_getElem
 ·simp [z4g]
 ·intro i a b
  rw [List.getElem_set]
  simp only [z4g,List.getElem_map,List.getElem_range]
  by_cases e:k=i
  ·subst e;rw [if_pos rfl,if_pos (by omega)]
  ·rw [if_neg e]
   by_cases h:i<k
   ·rw [if_pos h,if_pos (by omega)]
   ·rw [if_neg h,if_neg (by omega)]
theorem ze2{α:Type}[Inhabited α]{n:Nat}{d:α}{f:Nat→α}{k i:Nat}(hi:i<n)(a:i<k):(z4g n d f k).getD i default=f i:=by
 rw [zsi (by rw [z6y];exact hi)]
 simp [z4g,a]
end GV
end Go.Proofs.YtkhihcleegljhaaGreat

namespace Go.Proofs.YtkhihcleegljhaaGreat
namespace GV
def z6g(X:List (List Int))(k:Nat):Bool:=decide (0<(kl (X.getD k default)).length)
theorem zex{X:List (List Int)}{k:Nat}:z6g X k=true↔ ∃ j,j<(X.getD k default).length∧zed (X.getD k default) j=true:=by
 unfold z6g
 rw [decide_eq_true_eq]
 constructor
 ·intro h
  cases hs:(List.range (X.getD k default).length).any (zed (X.getD k default)) with
  |true=>exact zbq.1 hs
  |false=>have:=zo1.2 (z81.1 hs);unfold kl at h;omega
 ·rintro⟨j,a,b⟩
  exact List.length_pos_of_mem (zbz.2 ⟨j,a,rfl,b⟩)
theorem zgj{X:List (List Int)}{k:Nat}(h:z6g X k=false){j:Nat}(a:j<(X.getD k default).length):zed (X.getD k default) j=false:=by
 cases hb:zed (X.getD k default) j with
 |false=>rfl
 |true=>rw [zex.2 ⟨j,a,hb⟩] at h;cases h
def z7b(X:List (List Int)):List Bool:=z4g X.length false (z6g X) X.length
theorem zij{N:Nat}{X:List (List Int)}(h:VX X)(a:5000≤N):z1i N ⟨X⟩=some (z7b X,0):=by
 have d:=h.rows
 have c:oz N ⟨X⟩ N 0 (mk (X.length:Int) false)=some (z7b X):=by
  rw [zek,zd8 (f:=z6g X)]
  refine z4l (fun F k s=>oz N ⟨X⟩ F (k:Int) s) X.length (fun k=>z4g X.length false (z6g X) k) _ (fun F k b=>?_) (fun F=>?_) (by omega)
  ·simp only [oz]
   rw [cz (by rw [zek,List.length_replicate];omega),ji (zks h.toBx a b),qc (jl (by rw [z6y];exact b)),qc (jq (by omega)),zb7,←ze5]
   have e:(decide (0<((kl (X.getD k default)).length:Int)))=z6g X k:=by
    unfold z6g
    by_cases hh:0<(kl (X.getD k default)).length
    ·rw [decide_eq_true (by omega),decide_eq_true hh]
    ·rw [decide_eq_false (by omega),decide_eq_false hh]
   rw [e];rfl
  ·simp only [oz]
   rw [bz (by rw [zek,List.length_replicate];omega)];rfl
 unfold z1i
 rw [ji (zji h.toBx a),zfg h,bz (by decide),qc ⟨by omega,by show (1:Int)*(X.length:Int)≤_;omega,by show (X.length:Int)≤_;omega⟩,ji c]
/-! ### rows-/
/-! ### counts-/
/-! ### The reference-/
theorem zsf{X:List (List Int)}(h:VX X){k j:Nat}(a:k<X.length)(b:j<(X.getD k default).length):decide (0≤(X.getD k default).getD j default)=zed (X.getD k default) j:=by
 have:=h.cell k a j b
 unfold zed
 by_cases e:(X.getD k default).getD j default= -1
 ·rw [e];rfl
 ·rw [decide_eq_true (show _ from e),decide_eq_true (by omega)]
theorem zhg{N:Nat}{X:List (List Int)}(h:VX X){k j:Nat}(a:k<X.length)(b:j<(X.getD k default).length):z1n N ⟨X⟩ (k:Int) (j:Int)=some (zed (X.getD k default) j):=by
 unfold z1n
 rw [qc (jl a),qc (jl (by rw [xk];exact b)),←zsf h a b];rfl
theorem zl1{N:Nat}{X:List (List Int)}(h:VX X)(e:5000≤N){k:Nat}(a:k<X.length):z1b N ⟨X⟩ (k:Int)=some (z6g X k):=by
 have f:=h.toBx.row a
 have d:yh N ⟨X⟩ (k:Int) N 0=some (bif (List.range (X.getD k default).length).any (zed (X.getD k default)) then Ex.rt true else Ex.go ()):=by
  refine zc6 (fun F j=>yh N ⟨X⟩ (k:Int) F (j:Int)) (X.getD k default).length _ _ _ (fun F j b c=>?_) (fun F j b c=>?_) (fun F=>?_) (by omega)
  ·simp only [yh]
   rw [qc (jl a),cz (by rw [xk];omega),ji (zhg h a b),c];rfl
  ·simp only [yh]
   rw [qc (jl a),cz (by rw [xk];omega),ji (zhg h a b),c,cond_false,qc (jq (by omega))];rfl
  ·simp only [yh]
   rw [qc (jl a),bz (by rw [xk];omega)]
 unfold z1b
 rw [ji d]
 cases hk':z6g X k with
 |true=>rw [zbq.2 (zex.1 hk')];rfl
 |false=>rw [z81.2 fun j b=>zgj hk' b];rfl
end GV
end Go.Proofs.YtkhihcleegljhaaGreat
