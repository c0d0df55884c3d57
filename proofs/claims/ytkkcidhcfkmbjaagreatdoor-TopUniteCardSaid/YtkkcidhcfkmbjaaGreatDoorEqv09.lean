
import Derived.Test.YtkkcidhcfkmbjaaGreatDoorShPlain
import Derived.Test.YtkkcidhcfkmbjaaGreatDoorShPl
import Derived.Test.YtkkcidhcfkmbjaaGreatDoorShMap
set_option linter.unusedVariables false
set_option linter.unusedSimpArgs false
set_option linter.unusedSectionVars false
namespace Go.Proofs.YtkkcidhcfkmbjaaGreatDoor
namespace GV
def eOk(m:Mach)(e:Edge):Prop:=(e.to= -1∧e.out= -1)∨(0≤e.to∧e.to<m.rows.length∧0≤e.out∧e.out<m.outputs)
structure MOk (m:Mach):Prop where
 i1:1≤m.inputs
 i2:m.inputs≤16
 o1:1≤m.outputs
 o2:m.outputs≤16
 r1:1≤m.rows.length
 r2:m.rows.length≤64
 row: ∀ s,s<m.rows.length→((m.rows.getD s default).length:Int)=m.inputs
 edge: ∀ s i,s<m.rows.length→i<(m.rows.getD s default).length→eOk m ((m.rows.getD s default).getD i default)
def uy(m:Mach)(s i:Int):Edge:=if s<0 then⟨-1,-1⟩ else(m.rows.getD s.toNat default).getD i.toNat default
def z0n(m:Mach):Int→List Int→List Int
 |_,[]=>[]
 |s,i::w=>(uy m s i).out::z0n m (uy m s i).to w
def aftL(m:Mach):Int→List Int→Int
 |s,[]=>s
 |s,i::w=>aftL m (uy m s i).to w
def WOk(n:Int)(w:List Int):Prop:= ∀ k,k<w.length→0≤w.getD k default∧w.getD k default<n
def SOk(m:Mach)(s:Int):Prop:=s= -1∨(0≤s∧s<m.rows.length)
theorem z6v(m:Mach): ∀ (s:Int) (u v:List Int),aftL m s (u++v)=aftL m (aftL m s u) v
 |s,[],v=>rfl
 |s,i::u,v=>z6v m _ u v
theorem z7c(m:Mach): ∀ (s:Int) (u v:List Int),z0n m s (u++v)=z0n m s u++z0n m (aftL m s u) v
 |s,[],v=>rfl
 |s,i::u,v=>by
  show _::z0n m _ (u++v)=_::(z0n m _ u++_)
  rw [z7c m _ u v];rfl
theorem z6s(m:Mach): ∀ (s:Int) (w:List Int),(z0n m s w).length=w.length
 |s,[]=>rfl
 |s,i::w=>by simp [z0n,z6s m _ w]
theorem z4l(m:Mach)(a:MOk m)(s i:Int)(b:SOk m s)(hi:0≤i∧i<m.inputs):SOk m (uy m s i).to∧ -1≤(uy m s i).out∧(uy m s i).out≤16:=by
 unfold uy
 split
 ·exact⟨.inl rfl,by simp,by simp⟩
 ·have hs':0≤s∧s<m.rows.length:=by rcases b with h|h<;>omega
  have c:=a.row s.toNat (by omega)
  have d:=a.o2
  rcases a.edge s.toNat i.toNat (by omega) (by omega) with h|h
  ·exact⟨.inl h.1,by omega,by omega⟩
  ·exact⟨.inr ⟨h.1,h.2.1⟩,by omega,by omega⟩
theorem z9g(m:Mach)(b:MOk m): ∀ (s:Int) (w:List Int),SOk m s→WOk m.inputs w→SOk m (aftL m s w)
 |s,[],a,_=>a
 |s,i::w,a,c=>z9g m b _ w (z4l m b s i a (by simpa using c 0 (by simp))).1 (fun k d=>by simpa using c (k+1) (by simpa using d))
def z9k(m:Mach)(x:Edge):Bool:=decide (x.to= -1∧x.out= -1)||(((decide (0≤x.to)&&decide (x.to<m.rows.length))&&decide (0≤x.out))&&decide (x.out<m.outputs))
theorem zak(m:Mach)(x:Edge):z9k m x=true↔eOk m x:=by
 simp [z9k,eOk];omega
theorem z4t{α:Type}[Inhabited α](p:α→Bool)(X:List α)(k:Nat)(h:k<X.length):(X.take (k+1)).any p=((X.take k).any p||p (X.getD k default)):=by
 rw [List.take_succ_eq_append_getElem h,List.any_append]
 simp [List.getD_eq_getElem?_getD,h]
def ze2{α:Type}(p:α→Bool)(X:List α):Int:=match X.findIdx? p with|some i=>i|none=> -1
theorem zkj{α:Type}(p:α→Bool)(X:List α):decide (0≤ze2 p X)=X.any p:=by
 unfold ze2
 cases h:X.findIdx? p with
 |none=>
  have:=List.findIdx?_eq_none_iff.1 h
  simp only [Bool.eq_false_iff] at*
  rw [show decide ((0:Int)≤ -1)=false from rfl]
  symm
  rw [List.any_eq_false]
  intro x a
  simp [this x a]
 |some i=>
  obtain⟨hi,b,_⟩:=List.findIdx?_eq_some_iff_getElem.1 h
  rw [show decide ((0:Int)≤(i:Int))=true from by simp]
  symm
  rw [List.any_eq_true]
  exact⟨_,List.getElem_mem hi,b⟩
theorem zd5{α:Type}[Inhabited α](p:α→Bool)(X:List α)(k:Nat)(h:k<X.length)(a:(X.take k).any p=false)(b:p (X.getD k default)=true):ze2 p X=k:=by
 have:X.findIdx? p=some k:=by
  rw [List.findIdx?_eq_some_iff_getElem]
  refine⟨h,by simpa [List.getD_eq_getElem?_getD,h] using b,fun j c=>?_⟩
  rw [List.any_eq_false] at a
  have:=a X[j] (by rw [List.mem_take_iff_getElem];exact⟨j,by omega,rfl⟩)
  simpa using this
 simp [ze2,this]
theorem zmv{α:Type}(p:α→Bool)(X:List α)(a:X.any p=false):ze2 p X= -1:=by
 have:X.findIdx? p=none:=by
  rw [List.findIdx?_eq_none_iff]
  rw [List.any_eq_false] at a
  intro x b
  simpa using a x b
 simp [ze2,this]
def eqB{α:Type}(p:α→α→Bool):List α→List α→Bool
 | [],[]=>true
 |x::xs,y::ys=>p x y&&eqB p xs ys
 |_,_=>false
def aj(m:Mach)(r:List Edge):Bool:=decide ((r.length:Int)≠m.inputs)||r.any fun x=> !z9k m x
def z1y(m:Mach):Int:=if(16<m.inputs∨16<m.outputs)∨64<m.rows.length then 3 else if(m.inputs<1∨m.outputs<1)∨m.rows.length<1 then 1 else if m.rows.any (aj m)=true then 1 else 0
structure Small (m:Mach):Prop where
 r:m.rows.length≤100
 c: ∀ k,k<m.rows.length→(m.rows.getD k default).length≤100
theorem zhj{m:Mach}(h:(16<m.inputs∨16<m.outputs)∨64<m.rows.length):z1y m=3:=by unfold z1y;rw [if_pos h]
theorem zgw{m:Mach}(h: ¬((16<m.inputs∨16<m.outputs)∨64<m.rows.length))(a:(m.inputs<1∨m.outputs<1)∨m.rows.length<1):z1y m=1:=by unfold z1y;rw [if_neg h,if_pos a]
theorem zgp{m:Mach}(h: ¬((16<m.inputs∨16<m.outputs)∨64<m.rows.length))(a: ¬((m.inputs<1∨m.outputs<1)∨m.rows.length<1))(b:m.rows.any (aj m)=false):z1y m=0:=by
 unfold z1y;rw [if_neg h,if_neg a,if_neg (by rw [b];decide)]
theorem zd6{α:Type}[Inhabited α](p:α→Bool)(X:List α):X.any p=false↔ ∀ k,k<X.length→p (X.getD k default)=false:=by
 rw [List.any_eq_false]
 refine⟨fun h k a=>by simpa using h _ (z1p a),fun h x b=>?_⟩
 obtain⟨k,a,rfl⟩:=List.getElem_of_mem b
 have:=h k a
 simp only [List.getD_eq_getElem?_getD,List.getElem?_eq_getElem a,Option.getD_some] at this
 simp [this]
theorem z5t(m:Mach)(r:List Edge):aj m r=false↔(r.length:Int)=m.inputs∧ ∀ i,i<r.length→eOk m (r.getD i default):=by
 unfold aj
 rw [Bool.or_eq_false_iff,zd6]
 refine and_congr (by simp) (forall_congr' fun i=>forall_congr' fun hi=>?_)
 rw [←zak];simp
theorem zd0(m:Mach):z1y m=0↔MOk m:=by
 unfold z1y
 by_cases h:(16<m.inputs∨16<m.outputs)∨64<m.rows.length
 ·rw [if_pos h];exact⟨fun h=>absurd h (by decide),fun a=>by have:=a.i2;have:=a.o2;have:=a.r2;omega⟩
 rw [if_neg h]
 by_cases h1:(m.inputs<1∨m.outputs<1)∨m.rows.length<1
 ·rw [if_pos h1];exact⟨fun h=>absurd h (by decide),fun a=>by have:=a.i1;have:=a.o1;have:=a.r1;omega⟩
 rw [if_neg h1]
 cases hr:m.rows.any (aj m)
 ·rw [if_neg (by decide)]
  have:=(zd6 _ _).1 hr
  exact⟨fun _=>⟨by omega,by omega,by omega,by omega,by omega,by omega,fun s b=>((z5t m _).1 (this s b)).1,fun s i b hi=>((z5t m _).1 (this s b)).2 i hi⟩,fun _=>rfl⟩
 ·rw [if_pos rfl]
  refine⟨fun h=>absurd h (by decide),fun a=>?_⟩
  have:m.rows.any (aj m)=false:=(zd6 _ _).2 fun k c=>(z5t m _).2 ⟨a.row k c,fun i hi=>a.edge k i c hi⟩
  rw [hr] at this;cases this
theorem MOk.small{m:Mach}(a:MOk m):Small m:=⟨by have:=a.r2;omega,fun k b=>by have:=a.row k b;have:=a.i2;omega⟩
def zan:List Int→List Int→Int
 |x::a,y::b=>if x<y then-1 else if y<x then 1 else zan a b
 |_,_=>0
def cmpL(a b:List Int):Int:=if a.length<b.length then-1 else if b.length<a.length then 1 else zan a b
theorem zei{α:Type}[Inhabited α](X:List α)(k:Nat)(h:k<X.length):X.drop k=X.getD k default::X.drop (k+1):=by
 rw [List.drop_eq_getElem_cons h];simp [List.getD_eq_getElem?_getD,h]
theorem zn2{a b:List Int}{k:Nat}(c:k<a.length)(d:k<b.length):zan (a.drop k) (b.drop k)=if a.getD k default<b.getD k default then-1 else if b.getD k default<a.getD k default then 1 else zan (a.drop (k+1)) (b.drop (k+1)):=by
 rw [zei a k c,zei b k d];rfl
theorem zks: ∀ (a b:List Int),a.length=b.length→(zan a b=0↔a=b)
 | [],[],_=>by simp [zan]
 |x::a,y::b,h=>by
  have ih:=zks a b (by simpa using h)
  unfold zan
  by_cases h1:x<y
  ·rw [if_pos h1];simp;omega
  by_cases h2:y<x
  ·rw [if_neg h1,if_pos h2];simp;omega
  rw [if_neg h1,if_neg h2,ih,show x=y from by omega];simp
theorem cmpL_eq(a b:List Int):cmpL a b=0↔a=b:=by
 unfold cmpL
 by_cases h1:a.length<b.length
 ·rw [if_pos h1];exact⟨fun h=>absurd h (by decide),fun h=>by subst h;omega⟩
 by_cases h2:b.length<a.length
 ·rw [if_neg h1,if_pos h2];exact⟨fun h=>absurd h (by decide),fun h=>by subst h;omega⟩
 rw [if_neg h1,if_neg h2]
 exact zks a b (by omega)
theorem z4p{α:Type}[Inhabited α]{X Y:List α}(b:X.length=Y.length)(h: ∀ k,k<X.length→X.getD k default=Y.getD k default):X=Y:=by
 refine List.ext_getElem b fun k a c=>?_
 have:=h k a
 simpa only [List.getD_eq_getElem?_getD,List.getElem?_eq_getElem a,List.getElem?_eq_getElem c,Option.getD_some] using this
theorem MOk.mul{m:Mach}(a:MOk m):m.rows.length*m.inputs.toNat≤1024∧(m.rows.length:Int)*m.inputs=((m.rows.length*m.inputs.toNat:Nat):Int):=by
 have b:=a.r2;have c:=a.i1;have d:=a.i2
 refine⟨Nat.le_trans (Nat.mul_le_mul b (show m.inputs.toNat≤16 by omega)) (by decide),?_⟩
 rw [Int.natCast_mul,Int.toNat_of_nonneg (by omega)]
inductive Reach (m:Mach) (s:Nat):Nat→Prop
 |refl:Reach m s s
 |step {t i:Nat}:Reach m s t→t<m.rows.length→i<(m.rows.getD t default).length→0≤((m.rows.getD t default).getD i default).to→Reach m s ((m.rows.getD t default).getD i default).to.toNat
theorem Reach.trans{m:Mach}{a b c:Nat}(h:Reach m a b)(k:Reach m b c):Reach m a c:=by
 induction k with
 |refl=>exact h
 |step _ e hi d ih=>exact .step ih e hi d
theorem Reach.lt{m:Mach}(c:MOk m){a b:Nat}(h:Reach m a b)(d:a<m.rows.length):b<m.rows.length:=by
 cases h with
 |refl=>exact d
 |step g e f i=>rcases c.edge _ _ e f with h|h<;>omega
def Closed(m:Mach)(Y:List Bool)(t:Nat):Prop:= ∀ i,i<(m.rows.getD t default).length→0≤((m.rows.getD t default).getD i default).to→Y.getD ((m.rows.getD t default).getD i default).to.toNat default=true
structure Vis (m:Mach) (X:List Bool) (s:Int) (Y:List Bool):Prop where
 len:Y.length=X.length
 cnt:Y.count false≤X.count false
 mono: ∀ t,X.getD t default=true→Y.getD t default=true
 here:0≤s→Y.getD s.toNat default=true
 reach: ∀ t,Y.getD t default=true→X.getD t default=true∨(0≤s∧Reach m s.toNat t)
 closed: ∀ t,t<m.rows.length→Y.getD t default=true→X.getD t default=true∨Closed m Y t
structure VisK (m:Mach) (X:List Bool) (s:Nat) (k:Nat) (Y:List Bool):Prop where
 len:Y.length=X.length
 cnt:Y.count false<X.count false
 mono: ∀ t,X.getD t default=true→Y.getD t default=true
 here:Y.getD s default=true
 reach: ∀ t,Y.getD t default=true→X.getD t default=true∨Reach m s t
 closed: ∀ t,t<m.rows.length→Y.getD t default=true→X.getD t default=true∨t=s∨Closed m Y t
 done: ∀ i,i<k→0≤((m.rows.getD s default).getD i default).to→Y.getD ((m.rows.getD s default).getD i default).to.toNat default=true
theorem zni{x y:Edge}(h:x.to=y.to∧x.out=y.out):x=y:=by cases x;cases y;simp at h;simp [h]
theorem zpg{P:Nat→Prop}{k:Nat}(h: ∀ j,j<k→P j)(a:P k): ∀ j,j<k+1→P j:=fun j b=>by
 rcases Nat.lt_succ_iff_lt_or_eq.1 b with c|rfl
 ·exact h j c
 ·exact a
theorem Small.mem{m:Mach}(h:Small m){r:List Edge}(b:r∈m.rows):r.length≤100:=by
 obtain⟨k,a,rfl⟩:=List.getElem_of_mem b
 have:=h.c k a
 simpa [List.getD_eq_getElem?_getD,a] using this
theorem zoe{m:Mach}{x:Edge}(h:(x.to= -1∧x.out= -1)∨(0≤x.to∧x.to<m.rows.length∧0≤x.out∧x.out<m.outputs)):(!z9k m x)=false:=by rw [(zak m x).2 h];rfl
theorem zsb{m:Mach}{x:Edge}(h: ¬((x.to= -1∧x.out= -1)∨(0≤x.to∧x.to<m.rows.length∧0≤x.out∧x.out<m.outputs))):(!z9k m x)=true:=by
 cases hf:z9k m x
 ·rfl
 ·exact absurd ((zak m x).1 hf) h
def zus(m:Mach)(Y:List Bool):Prop:= ∀ t,t<m.rows.length→Y.getD t default=true→Closed m Y t
structure RInv (m:Mach) (a:Nat) (r:Nat) (Y:List Bool):Prop where
 len:Y.length=m.rows.length
 sound: ∀ t,Y.getD t default=true→Reach m a t
 start:Y.getD a default=true
 prog:zus m Y∨r<Y.count true
structure RPass (m:Mach) (a:Nat) (Y0:List Bool) (s i:Nat) (Y:List Bool):Prop where
 len:Y.length=m.rows.length
 sound: ∀ t,Y.getD t default=true→Reach m a t
 start:Y.getD a default=true
 fix:zus m Y0→Y=Y0
 prog:Y0.count true<Y.count true∨(Y=Y0∧ ∀ t,t<m.rows.length→Y.getD t default=true→ ∀ j,(t<s∨(t=s∧j<i))→j<(m.rows.getD t default).length→0≤((m.rows.getD t default).getD j default).to→Y.getD ((m.rows.getD t default).getD j default).to.toNat default=true)
def MDat.n(x:MDat):Int:=1+x.states%6
def MDat.inp(x:MDat):Int:=1+x.ins%3
def MDat.out(x:MDat):Int:=1+x.outs%3
def MDat.num(x:MDat)(k:Nat):Int:=if k<x.edges.length then x.edges.getD k default else 0
def zhf(x:MDat)(v:Int):Edge:=if x.part=true∧v%4=3 then⟨-1,-1⟩ else⟨v/4%x.n,v/4/x.n%x.out⟩
def z94(x:MDat)(s i:Nat):Edge:=zhf x (x.num (s*x.inp.toNat+i))
def zg1(x:MDat)(s:Nat):List Edge:=(List.range x.inp.toNat).map (z94 x s)
def mOf(x:MDat):Mach:=⟨x.inp,x.out,(List.range x.n.toNat).map (zg1 x)⟩
structure MDOk (x:MDat):Prop where
 st:0≤x.states∧x.states≤255
 ins:0≤x.ins∧x.ins≤255
 outs:0≤x.outs∧x.outs≤255
 ed: ∀ k,k<x.edges.length→0≤x.edges.getD k default∧x.edges.getD k default≤65535
theorem MDOk.num{x:MDat}(h:MDOk x)(k:Nat):0≤x.num k∧x.num k≤65535:=by
 unfold MDat.num
 split
 ·exact h.ed k (by assumption)
 ·omega
theorem z7h{α:Type}[Inhabited α](f:Nat→α){n k:Nat}(h:k<n):((List.range n).map f).getD k default=f k:=by
 simp [List.getD_eq_getElem?_getD,h]
theorem zp7{x:MDat}{v:Int}{m:Mach}(c:0≤v)(a:(m.rows.length:Int)=x.n)(b:m.outputs=x.out)(d:1≤x.n)(e:1≤x.out):eOk m (zhf x v):=by
 unfold zhf eOk
 split
 ·exact .inl ⟨rfl,rfl⟩
 ·refine .inr ⟨Int.emod_nonneg _ (by omega),?_,Int.emod_nonneg _ (by omega),?_⟩
  ·rw [a];exact Int.emod_lt_of_pos _ (by omega)
  ·rw [b];exact Int.emod_lt_of_pos _ (by omega)
theorem zp3{x:MDat}(h:MDOk x):MOk (mOf x):=by
 have e:=h.st;have f:=h.ins;have g:=h.outs
 have c:1≤x.n∧x.n≤6:=by unfold MDat.n;omega
 have d:1≤x.inp∧x.inp≤3:=by unfold MDat.inp;omega
 have b:1≤x.out∧x.out≤3:=by unfold MDat.out;omega
 have j:(mOf x).rows.length=x.n.toNat:=by simp [mOf]
 have hrow: ∀ s,s<(mOf x).rows.length→(mOf x).rows.getD s default=zg1 x s:=fun s a=>z7h _ (by omega)
 refine⟨d.1,by show x.inp≤16;omega,b.1,by show x.out≤16;omega,by omega,by omega,fun s a=>?_,fun s i a hi=>?_⟩
 ·rw [hrow s a];show ((zg1 x s).length:Int)=x.inp;simp [zg1];omega
 ·rw [hrow s a] at hi⊢
  have hi':i<x.inp.toNat:=by simpa [zg1] using hi
  rw [show (zg1 x s).getD i default=z94 x s i from z7h _ hi']
  exact zp7 (h.num _).1 (by omega) rfl c.1 b.1
theorem zpu{x:MDat}{s i:Nat}{v:Int}(a:x.num (s*x.inp.toNat+i)=v)(h:x.part=true∧v%4=3):z94 x s i=⟨-1,-1⟩:=by
 unfold z94 zhf;rw [a,if_pos h]
theorem zra{x:MDat}{s i:Nat}{v:Int}(b:x.num (s*x.inp.toNat+i)=v)(h:x.part=true→ ¬v%4=3):z94 x s i=⟨v/4%x.n,v/4/x.n%x.out⟩:=by
 unfold z94 zhf;rw [b,if_neg (fun a=>h a.1 a.2)]
theorem z8w{α:Type}(f:Nat→α)(k:Nat):(List.range (k+1)).map f=(List.range k).map f++[f k]:=by rw [List.range_succ,List.map_append];rfl
theorem zn1{k:Nat}{a:Int}(b:k≤6)(c:1≤a∧a≤3):0≤(k:Int)*a∧(k:Int)*a≤18∧(k:Int)*a=((k*a.toNat:Nat):Int):=by
 have e:(k:Int)*a=((k*a.toNat:Nat):Int):=by rw [Int.natCast_mul,Int.toNat_of_nonneg (by omega)]
 have h:k*a.toNat≤6*3:=Nat.mul_le_mul b (by omega)
 exact⟨by omega,by omega,e⟩
end GV
end Go.Proofs.YtkkcidhcfkmbjaaGreatDoor

namespace Go.Proofs.YtkkcidhcfkmbjaaGreatDoor
namespace GV
/-! ### The order of words-/
def za2:List Int→List Int→Prop
 |a::x,b::y=>a<b∨(a=b∧za2 x y)
 |_,_=>False
def llt(a b:List Int):Prop:=a.length<b.length∨(a.length=b.length∧za2 a b)
def lle(a b:List Int):Prop:=a=b∨llt a b
theorem z98: ∀ a,¬za2 a a
 | [],h=>h
 |x::a,h=>by
  rcases h with h|⟨_,h⟩
  ·omega
  ·exact z98 a h
theorem zba: ∀ {a b c},za2 a b→za2 b c→za2 a c
 | [],_,_,h,_=>h.elim
 |_::_,[],_,h,_=>h.elim
 |_::_,_::_,[],_,h=>h.elim
 |x::a,y::b,z::c,h,k=>by
  rcases h with h|⟨rfl,h⟩
  ·rcases k with k|⟨rfl,k⟩
   ·exact .inl (by omega)
   ·exact .inl h
  ·rcases k with k|⟨rfl,k⟩
   ·exact .inl k
   ·exact .inr ⟨rfl,zba h k⟩
theorem zc9: ∀ {a b:List Int} (i j:Int),za2 a b→a.length=b.length→za2 (a++[i]) (b++[j])
 | [],_,_,_,h,_=>h.elim
 |_::_,[],_,_,h,_=>h.elim
 |x::a,y::b,i,j,h,c=>by
  rcases h with h|⟨rfl,h⟩
  ·exact .inl h
  ·exact .inr ⟨rfl,zc9 i j h (by simpa using c)⟩
theorem zcj: ∀ (a:List Int) {i j:Int},i<j→za2 (a++[i]) (a++[j])
 | [],_,_,h=> .inl h
 |_::a,_,_,h=> .inr ⟨rfl,zcj a h⟩
theorem zj0(a:List Int): ¬llt a a:=by
 rintro(h|⟨_,h⟩)
 ·omega
 ·exact z98 a h
theorem z4x{a b c:List Int}(h:llt a b)(k:llt b c):llt a c:=by
 rcases h with h|⟨h,h'⟩
 ·rcases k with k|⟨k,_⟩
  ·exact .inl (by omega)
  ·exact .inl (by omega)
 ·rcases k with k|⟨k,k'⟩
  ·exact .inl (by omega)
  ·exact .inr ⟨by omega,zba h' k'⟩
theorem zc1{a b:List Int}(i j:Int)(h:llt a b):llt (a++[i]) (b++[j]):=by
 rcases h with h|⟨h,h'⟩
 ·exact .inl (by simp;omega)
 ·exact .inr ⟨by simp [h],zc9 i j h' h⟩
theorem zh0(a:List Int){i j:Int}(h:i<j):llt (a++[i]) (a++[j]):= .inr ⟨by simp,zcj a h⟩
theorem zam{a b c:List Int}(h:lle a b)(k:lle b c):lle a c:=by
 rcases h with rfl|h
 ·exact k
 ·rcases k with rfl|k
  ·exact .inr h
  ·exact .inr (z4x h k)
theorem zib{a b:List Int}(i:Int)(h:lle a b):lle (a++[i]) (b++[i]):=by
 rcases h with rfl|h
 ·exact .inl rfl
 ·exact .inr (zc1 i i h)
/-! ### Entries-/
structure BE where
 st:Nat
 par:Int
 inp:Int
 wd:List Int
 deriving DecidableEq,Inhabited
def ed(m:Mach)(s i:Nat):Int:=((m.rows.getD s default).getD i default).to
def occ(All:List BE)(t:Nat):Bool:=All.any fun e=>decide (e.st=t)
theorem zk9{All:List BE}{t:Nat}:occ All t=true↔ ∃ j,j<All.length∧(All.getD j default).st=t:=by
 unfold occ
 rw [List.any_eq_true]
 constructor
 ·rintro⟨e,c,b⟩
  obtain⟨j,a,rfl⟩:=List.mem_iff_getElem.1 c
  exact⟨j,a,by simpa [List.getD_eq_getElem?_getD,a] using b⟩
 ·rintro⟨j,a,b⟩
  exact⟨_,z1p a,by simpa using b⟩
def push(m:Mach)(x:BE)(All:List BE)(i:Nat):List BE:=
 if ed m x.st i= -1 then All else if occ All (ed m x.st i).toNat=true then All else All++[⟨(ed m x.st i).toNat,x.st,i,x.wd++[(i:Int)]⟩]
def yj(m:Mach)(x:BE)(All:List BE):Nat→List BE
 |0=>All
 |k+1=>push m x (yj m x All k) k
def bfs(m:Mach):Nat→Nat→List BE→List BE
 |0,_,All=>All
 |g+1,p,All=>if p<All.length then bfs m g (p+1) (yj m (All.getD p default) All m.inputs.toNat) else All
theorem z1e{m:Mach}(a:MOk m){s i:Nat}(b:s<m.rows.length)(hi:i<m.inputs.toNat):ed m s i= -1∨(0≤ed m s i∧ed m s i<m.rows.length):=by
 have:=z4l m a (s:Int) (i:Int) (.inr ⟨by omega,by omega⟩) ⟨by omega,by have:=a.i1;omega⟩
 have h:=this.1
 unfold uy at h
 rw [if_neg (by omega)] at h
 exact h
theorem zii(m:Mach)(x:BE)(All:List BE)(i:Nat):All<+:push m x All i:=by
 unfold push
 split
 ·exact List.prefix_refl _
 ·split
  ·exact List.prefix_refl _
  ·exact List.prefix_append _ _
theorem fe(m:Mach)(x:BE)(All:List BE): ∀ k,All<+:yj m x All k
 |0=>List.prefix_refl _
 |k+1=>(fe m x All k).trans (zii m x _ k)
theorem zlg(m:Mach): ∀ g p All,All<+:bfs m g p All
 |0,_,All=>List.prefix_refl _
 |g+1,p,All=>by
  unfold bfs
  split
  ·exact(fe m _ All _).trans (zlg m g (p+1) _)
  ·exact List.prefix_refl _
theorem z9z{X Y:List BE}(h:X<+:Y){j:Nat}(a:j<X.length):Y.getD j default=X.getD j default:=by
 obtain⟨t,rfl⟩:=h
 simp [List.getD_eq_getElem?_getD,List.getElem?_append_left a]
structure Inv (m:Mach) (s0 p k:Nat) (All:List BE):Prop where
 pos:0<All.length
 root:All.getD 0 default=⟨s0,-1,-1,[]⟩
 rng: ∀ j,j<All.length→(All.getD j default).st<m.rows.length
 dis: ∀ i j,i<All.length→j<All.length→(All.getD i default).st=(All.getD j default).st→i=j
 aft: ∀ j,j<All.length→aftL m s0 (All.getD j default).wd=((All.getD j default).st:Int)
 par: ∀ j,0<j→j<All.length→ ∃ q i,q<j∧i<m.inputs.toNat∧(All.getD j default).par=((All.getD q default).st:Int)∧(All.getD j default).inp=(i:Int)∧(All.getD j default).wd=(All.getD q default).wd++[(i:Int)]∧ed m (All.getD q default).st i=((All.getD j default).st:Int)
 inc: ∀ i j,i<j→j<All.length→llt (All.getD i default).wd (All.getD j default).wd
 bnd:p<All.length→ ∀ j,j<All.length→llt (All.getD j default).wd ((All.getD p default).wd++[(k:Int)])
 cls: ∀ q i,q<All.length→i<m.inputs.toNat→(q<p∨(q=p∧i<k))→ed m (All.getD q default).st i≠ -1→ ∃ j,j<All.length∧((All.getD j default).st:Int)=ed m (All.getD q default).st i∧lle (All.getD j default).wd ((All.getD q default).wd++[(i:Int)])
theorem zfu{X:List BE}{e:BE}{j:Nat}(h:j<X.length):(X++[e]).getD j default=X.getD j default:=by
 simp [List.getD_eq_getElem?_getD,List.getElem?_append_left h]
theorem zdv{X:List BE}{e:BE}:(X++[e]).getD X.length default=e:=by
 simp [List.getD_eq_getElem?_getD]
theorem zns{m:Mach}(z:MOk m){s0 p k:Nat}{All:List BE}(h:Inv m s0 p k All)(g:p<All.length)(y:k<m.inputs.toNat):Inv m s0 p (k+1) (push m (All.getD p default) All k):=by
 have r:=h.bnd g
 have hlast:llt ((All.getD p default).wd++[(k:Int)]) ((All.getD p default).wd++[((k+1:Nat):Int)]):=zh0 _ (by omega)
 have hsame:(∀ q i,q=p→i=k→ed m (All.getD q default).st i≠ -1→ ∃ j,j<All.length∧((All.getD j default).st:Int)=ed m (All.getD q default).st i∧lle (All.getD j default).wd ((All.getD q default).wd++[(i:Int)]))→Inv m s0 p (k+1) All:=fun s=>
  {h with
   bnd:=fun _ j a=>z4x (r j a) hlast
   cls:=fun q i f hi d c=>by
    rcases d with l|⟨rfl,l⟩
    ·exact h.cls q i f hi (.inl l) c
    ·by_cases e:i=k
     ·exact s q i rfl e c
     ·exact h.cls q i f hi (.inr ⟨rfl,by omega⟩) c}
 unfold push
 by_cases h1:ed m (All.getD p default).st k= -1
 ·rw [if_pos h1]
  exact hsame fun q i f hi c=>by subst f;subst hi;exact absurd h1 c
 ·rw [if_neg h1]
  have t:=z1e z (h.rng p g) y
  obtain⟨C,D⟩:=t.resolve_left h1
  by_cases h4:occ All (ed m (All.getD p default).st k).toNat=true
  ·rw [if_pos h4]
   refine hsame fun q i f hi c=>?_
   subst f;subst hi
   obtain⟨j,a,u⟩:=zk9.1 h4
   exact⟨j,a,by rw [u];omega,.inr (r j a)⟩
  ·rw [if_neg h4]
   have hnew: ∀ j,j<All.length→(All.getD j default).st≠(ed m (All.getD p default).st k).toNat:=fun j a e=>h4 (zk9.2 ⟨j,a,e⟩)
   have hlen:(All++[(⟨(ed m (All.getD p default).st k).toNat,((All.getD p default).st:Int),(k:Int),(All.getD p default).wd++[(k:Int)]⟩:BE)]).length=All.length+1:=by simp
   generalize hE:(⟨(ed m (All.getD p default).st k).toNat,((All.getD p default).st:Int),(k:Int),(All.getD p default).wd++[(k:Int)]⟩:BE)=e at hlen⊢
   have n:e.st=(ed m (All.getD p default).st k).toNat:=by rw [←hE]
   have A:e.par=((All.getD p default).st:Int):=by rw [←hE]
   have B:e.inp=(k:Int):=by rw [←hE]
   have o:e.wd=(All.getD p default).wd++[(k:Int)]:=by rw [←hE]
   have cs: ∀ j,j<(All++[e]).length→j<All.length∨j=All.length:=fun j a=>by rw [hlen] at a;omega
   have lt:=fun {j:Nat} (a:j<All.length)=>zfu (e:=e) a
   have le:=zdv (X:=All) (e:=e)
   refine⟨by rw [hlen];omega,by rw [lt h.pos];exact h.root,fun j a=>?_,fun i j hi a b=>?_,fun j a=>?_,fun j v a=>?_,fun i j b a=>?_,fun _ j a=>?_,fun q i f hi d c=>?_⟩
   ·rcases cs j a with a|rfl
    ·rw [lt a];exact h.rng j a
    ·rw [le,n];omega
   ·rcases cs i hi with hi|rfl<;>rcases cs j a with a|rfl
    ·rw [lt hi,lt a] at b;exact h.dis i j hi a b
    ·rw [lt hi,le,n] at b;exact absurd b (hnew i hi)
    ·rw [le,lt a,n] at b;exact absurd b.symm (hnew j a)
    ·rfl
   ·rcases cs j a with a|rfl
    ·rw [lt a];exact h.aft j a
    ·rw [le,o,n,z6v,h.aft p g]
     show (uy m ((All.getD p default).st:Int) (k:Int)).to=_
     unfold uy
     rw [if_neg (by omega)]
     show ed m (All.getD p default).st k=_
     omega
   ·rcases cs j a with a|rfl
    ·obtain⟨q,i,w,x⟩:=h.par j v a
     exact⟨q,i,w,by rw [lt a,lt (by omega)];exact x⟩
    ·refine⟨p,k,g,y,?_⟩
     rw [le,lt g,n,A,B,o]
     exact⟨rfl,rfl,rfl,by omega⟩
   ·rcases cs j a with a|rfl
    ·rw [lt a,lt (by omega)];exact h.inc i j b a
    ·rw [le,lt b,o];exact r i b
   ·rw [lt g]
    rcases cs j a with a|rfl
    ·rw [lt a];exact z4x (r j a) hlast
    ·rw [le,o];exact hlast
   ·have hq':q<All.length:=by rcases d with l|⟨rfl,_⟩<;>omega
    rw [lt hq'] at c⊢
    by_cases s:q=p∧i=k
    ·obtain⟨rfl,rfl⟩:=s
     exact⟨All.length,by rw [hlen];omega,by rw [le,n];omega,by rw [le,o];exact .inl rfl⟩
    ·obtain⟨j,a,w,x⟩:=h.cls q i hq' hi (by rcases d with l|⟨rfl,l⟩;exact .inl l;exact .inr ⟨rfl,by omega⟩) c
     exact⟨j,by rw [hlen];omega,by rw [lt a];exact w,by rw [lt a];exact x⟩
theorem zbt{m:Mach}(a:MOk m){s0 p:Nat}{All:List BE}(h:Inv m s0 p 0 All)(b:p<All.length): ∀ k,k≤m.inputs.toNat→Inv m s0 p k (yj m (All.getD p default) All k)
 |0,_=>h
 |k+1,c=>by
  have ih:=zbt a h b k (by omega)
  have hpre:=fe m (All.getD p default) All k
  have e:(yj m (All.getD p default) All k).getD p default=All.getD p default:=z9z hpre b
  have:=zns a ih (by have:=hpre.length_le;omega) (by omega)
  rw [e] at this
  exact this
theorem zhw{m:Mach}{s0 p:Nat}{All:List BE}(h:Inv m s0 p m.inputs.toNat All)(c:p<All.length):Inv m s0 (p+1) 0 All:=
 {h with
  bnd:=fun hp' j d=>z4x (h.bnd c j d) (zc1 _ _ (h.inc p (p+1) (by omega) hp'))
  cls:=fun q i e hi a b=>h.cls q i e hi (by rcases a with f|⟨_,f⟩;exact(Nat.lt_or_ge q p).imp id fun _=>⟨by omega,hi⟩;omega) b}
theorem z9n{m:Mach}{s0 p k:Nat}{All:List BE}(h:Inv m s0 p k All):All.length≤m.rows.length:=by
 have b:(All.map (·.st)).Nodup:=by
  rw [List.nodup_iff_pairwise_ne,List.pairwise_iff_getElem]
  intro i j hi a c e
  rw [List.length_map] at hi a
  rw [List.getElem_map,List.getElem_map] at e
  have:=h.dis i j hi a (by simpa [List.getD_eq_getElem?_getD,a,hi] using e)
  omega
 have hsub:(All.map (·.st))⊆List.range m.rows.length:=by
  intro x d
  obtain⟨e,f,rfl⟩:=List.mem_map.1 d
  obtain⟨j,a,rfl⟩:=List.mem_iff_getElem.1 f
  have:=h.rng j a
  rw [List.mem_range]
  simpa [List.getD_eq_getElem?_getD,a] using this
 have:=List.Nodup.length_le_of_subset b hsub
 simpa using this
theorem zkc{m:Mach}(a:MOk m){s0:Nat}: ∀ (g p:Nat) (All:List BE),p+g=m.rows.length→p≤All.length→Inv m s0 p 0 All→ ∃ q,(bfs m g p All).length≤q∧Inv m s0 q 0 (bfs m g p All)
 |0,p,All,b,c,h=>⟨p,by have:=z9n h;show All.length≤p;omega,h⟩
 |g+1,p,All,b,c,h=>by
  unfold bfs
  by_cases hlt:p<All.length
  ·rw [if_pos hlt]
   have d:=zbt a h hlt _ (Nat.le_refl _)
   have hpre:=(fe m (All.getD p default) All m.inputs.toNat).length_le
   exact zkc a g (p+1) _ (by omega) (by omega) (zhw d (by omega))
  ·rw [if_neg hlt]
   exact⟨p,by omega,h⟩
def rch(m:Mach)(s0:Nat):List BE:=bfs m m.rows.length 0 [⟨s0,-1,-1,[]⟩]
structure Rch (m:Mach) (s0:Nat) (P:List BE):Prop where
 pos:0<P.length
 le:P.length≤m.rows.length
 root:P.getD 0 default=⟨s0,-1,-1,[]⟩
 rng: ∀ j,j<P.length→(P.getD j default).st<m.rows.length
 dis: ∀ i j,i<P.length→j<P.length→(P.getD i default).st=(P.getD j default).st→i=j
 aft: ∀ j,j<P.length→aftL m s0 (P.getD j default).wd=((P.getD j default).st:Int)
 par: ∀ j,0<j→j<P.length→ ∃ q i,q<j∧i<m.inputs.toNat∧(P.getD j default).par=((P.getD q default).st:Int)∧(P.getD j default).inp=(i:Int)∧(P.getD j default).wd=(P.getD q default).wd++[(i:Int)]∧ed m (P.getD q default).st i=((P.getD j default).st:Int)
 inc: ∀ i j,i<j→j<P.length→llt (P.getD i default).wd (P.getD j default).wd
 cls: ∀ q i,q<P.length→i<m.inputs.toNat→ed m (P.getD q default).st i≠ -1→ ∃ j,j<P.length∧((P.getD j default).st:Int)=ed m (P.getD q default).st i∧lle (P.getD j default).wd ((P.getD q default).wd++[(i:Int)])
theorem zhm{m:Mach}{s0:Nat}(b:s0<m.rows.length):Inv m s0 0 0 [⟨s0,-1,-1,[]⟩]:=by
 have c: ∀ j,j<[(⟨s0,-1,-1,[]⟩:BE)].length→j=0:=fun j a=>by simpa using a
 refine⟨by simp,rfl,fun j a=>?_,fun i j hi a _=>?_,fun j a=>?_,fun j h a=>?_,fun i j d a=>?_,fun _ j a=>?_,fun q i e hi f g=>?_⟩
 ·rw [c j a];exact b
 ·rw [c i hi,c j a]
 ·rw [c j a];rfl
 ·have:=c j a;omega
 ·have:=c j a;omega
 ·rw [c j a];exact .inl (by simp)
 ·have:=c q e;omega
theorem zs6{m:Mach}(b:MOk m){s0:Nat}(c:s0<m.rows.length):Rch m s0 (rch m s0):=by
 obtain⟨q,d,h⟩:=zkc b m.rows.length 0 _ (by omega) (by simp) (zhm c)
 exact⟨h.pos,z9n h,h.root,h.rng,h.dis,h.aft,h.par,h.inc,fun q' i hq' hi a=>h.cls q' i hq' hi (.inl (Nat.lt_of_lt_of_le hq' d)) a⟩
section rch
variable {m : Mach} {s0 : Nat} {P : List BE}
theorem Rch.wok(h:Rch m s0 P): ∀ j,j<P.length→WOk m.inputs (P.getD j default).wd∧(P.getD j default).wd.length≤j
 |j,b=>by
  by_cases h0:j=0
  ·subst h0;rw [h.root];exact⟨fun k a=>by simp at a,by simp⟩
  ·obtain⟨q,i,d,hi,_,_,c,_⟩:=h.par j (by omega) b
   obtain⟨ih,ihl⟩:=Rch.wok h q (by omega)
   rw [c]
   refine⟨fun k a=>?_,by rw [List.length_append,List.length_singleton];omega⟩
   rw [List.length_append,List.length_singleton] at a
   by_cases hk':k<(P.getD q default).wd.length
   ·rw [List.getD_eq_getElem?_getD,List.getElem?_append_left hk',←List.getD_eq_getElem?_getD];exact ih k hk'
   ·have:k=(P.getD q default).wd.length:=by omega
    subst this
    rw [List.getD_eq_getElem?_getD,List.getElem?_concat_length]
    exact⟨by simp,by simp only [Option.getD_some];omega⟩
theorem zph{n c:Int}{u:List Int}(h:WOk n (u++[c])):WOk n u∧0≤c∧c<n:=by
 refine⟨fun k a=>?_,?_⟩
 ·have:=h k (by simp;omega)
  rwa [List.getD_eq_getElem?_getD,List.getElem?_append_left a,←List.getD_eq_getElem?_getD] at this
 ·have:=h u.length (by simp)
  rwa [List.getD_eq_getElem?_getD,List.getElem?_concat_length] at this
theorem zhn(m:Mach): ∀ (w:List Int),aftL m (-1) w= -1
 | []=>rfl
 |c::w=>by
  show aftL m (uy m (-1) c).to w= -1
  rw [show uy m (-1) c=⟨-1,-1⟩ from rfl]
  exact zhn m w
theorem Rch.least(i:MOk m)(h:Rch m s0 P): ∀ (n:Nat) (w:List Int),w.length=n→WOk m.inputs w→aftL m s0 w≠ -1→ ∃ j,j<P.length∧((P.getD j default).st:Int)=aftL m s0 w∧lle (P.getD j default).wd w
 |0,w,b,g,a=>by
  have:w=[]:=List.length_eq_zero_iff.1 b
  subst this
  exact⟨0,h.pos,by rw [h.root];rfl,by rw [h.root];exact .inl rfl⟩
 |n+1,w,b,g,a=>by
  obtain⟨u,c,rfl⟩: ∃ u c,w=u++[c]:=⟨w.dropLast,w.getLast (by intro e;rw [e] at b;simp at b),(List.dropLast_concat_getLast _).symm⟩
  obtain⟨k,l,o⟩:=zph g
  rw [z6v] at a⊢
  have hune:aftL m s0 u≠ -1:=fun e=>by rw [e,zhn] at a;exact a rfl
  obtain⟨q,p,d,f⟩:=Rch.least i h n u (by simpa using b) k hune
  rw [←d] at a⊢
  have hstep:aftL m ((P.getD q default).st:Int) [c]=ed m (P.getD q default).st c.toNat:=by
   show (uy m ((P.getD q default).st:Int) c).to=_
   unfold uy
   rw [if_neg (by omega)]
   rfl
  rw [hstep] at a⊢
  obtain⟨j,r,s,t⟩:=h.cls q c.toNat p (by omega) a
  refine⟨j,r,s,zam t ?_⟩
  rw [show ((c.toNat:Nat):Int)=c by omega]
  exact zib c f
theorem Rch.min(b:MOk m)(h:Rch m s0 P){j:Nat}(c:j<P.length){w:List Int}(d:WOk m.inputs w)(a:aftL m s0 w=((P.getD j default).st:Int)):lle (P.getD j default).wd w:=by
 obtain⟨i,hi,e,f⟩:=h.least b _ w rfl d (by rw [a];omega)
 rw [a] at e
 have:=h.dis i j hi c (by omega)
 subst this
 exact f
end rch
end GV
end Go.Proofs.YtkkcidhcfkmbjaaGreatDoor

namespace Go.Proofs.YtkkcidhcfkmbjaaGreatDoor
namespace GV
set_option maxRecDepth 100000
theorem zs2{N:Nat}{s:List Edge}{f:Edge→Option Bool}{p:Edge→Bool}(b: ∀ k,k<s.length→f (s.getD k default)=some (p (s.getD k default)))(c:s.length<N)(d:s.length≤4611686018427387904):
 xu N s f=some (ze2 p s):=by
 have h:jg N s f N 0=some (if s.any p=true then Ex.rt (ze2 p s) else Ex.go ()):=by
  refine z0w (σ:=Unit) (fun F k _=>jg N s f F (k:Int)) s.length (fun k _=>(s.take k).any p=false) _ (fun F k _ a hi=>?_) (fun F _ hi=>?_) N 0 () (Nat.zero_le _) (by omega) (by simp)
  ·simp only [jg]
   rw [bq (by omega),zg (j3 a),mf,q8 (b k a)]
   cases hp:p (s.getD k default)
   ·right
    refine⟨(),by rw [z4t p s k a,hi,hp];rfl,?_⟩
    rw [cf rfl,zg (qj (by omega))];rfl
   ·left
    rw [ct rfl,if_pos (List.any_eq_true.2 ⟨_,z1p a,hp⟩),zd5 p s k a hi hp]
  ·simp only [jg]
   rw [yt (by omega),if_neg (by rw [List.take_length] at hi;rw [hi];decide)]
 unfold xu
 rw [q8 h]
 by_cases ha:s.any p=true
 ·rw [if_pos ha];rfl
 ·rw [if_neg ha,zmv p s (by simpa using ha)];rfl
theorem zn0{N:Nat}{s:List Edge}{f:Edge→Option Bool}{p:Edge→Bool}(a: ∀ k,k<s.length→f (s.getD k default)=some (p (s.getD k default)))(b:s.length<N)(c:s.length≤4611686018427387904):
 yg N s f=some (s.any p):=by
 unfold yg
 rw [q8 (zs2 a b c),zkj]
theorem zo8{N:Nat}{m:Mach}(b:Small m)(f:200≤N):yz N m=some (z1y m):=by
 unfold yz
 by_cases h:(16<m.inputs∨16<m.outputs)∨64<m.rows.length
 ·rw [ct (by simp;omega),zhj h]
 ·rw [cf (by simp;omega)]
  by_cases h1:(m.inputs<1∨m.outputs<1)∨m.rows.length<1
  ·rw [ct (by simp;omega),zgw h h1]
  ·rw [cf (by simp;omega)]
   have g:=b.r
   have d:yo N m N 0=some (if m.rows.any (aj m)=true then Ex.rt 1 else Ex.go ()):=by
    refine z0w (σ:=Unit) (fun F k _=>yo N m F (k:Int)) m.rows.length (fun k _=>(m.rows.take k).any (aj m)=false) _ (fun F k _ a hi=>?_) (fun F _ hi=>?_) N 0 () (Nat.zero_le _) (by omega) (by simp)
    ·simp only [yo]
     have i:=b.c k a
     rw [bq (by omega),zg (j3 a),mf,za9 (fun _=>zn0 (p:=fun x=> !z9k m x) (fun j l=>rfl) (by omega) (by omega))]
     have e:(decide (((m.rows.getD k default).length:Int)≠m.inputs)||((bif (true&&(decide (((m.rows.getD k default).length:Int)≠m.inputs)==false)) then some ((m.rows.getD k default).any fun x=> !z9k m x) else none).getD default))=aj m (m.rows.getD k default):=by
      unfold aj
      cases decide (((m.rows.getD k default).length:Int)≠m.inputs)<;>rfl
     rw [e]
     cases hr:aj m (m.rows.getD k default)
     ·right
      refine⟨(),by rw [z4t _ _ k a,hi,hr];rfl,?_⟩
      rw [cf rfl,zg (qj (by omega))];rfl
     ·left
      rw [ct rfl,if_pos (List.any_eq_true.2 ⟨_,z1p a,hr⟩)]
    ·simp only [yo]
     rw [yt (by omega),if_neg (by rw [List.take_length] at hi;rw [hi];decide)]
   rw [q8 d]
   by_cases ha:m.rows.any (aj m)=true
   ·rw [if_pos ha];unfold z1y;rw [if_neg h,if_neg h1,if_pos ha];rfl
   ·rw [if_neg ha,zgp h h1 (by simpa using ha)];rfl
/-! ### Words-/
theorem zk1{N:Nat}{a b:List Int}(f:a.length<N)(g:a.length≤4611686018427387904):di N a b=some (cmpL a b):=by
 unfold di cmpL
 by_cases h1:a.length<b.length
 ·rw [bq (by omega),if_pos h1]
 ·rw [yt (by omega),if_neg h1]
  by_cases h2:b.length<a.length
  ·rw [bq (by omega),if_pos h2]
  ·rw [yt (by omega),if_neg h2]
   have h:a.length=b.length:=by omega
   have e:ko N a b N 0=some (if zan a b=0 then Ex.go () else Ex.rt (zan a b)):=by
    refine z0w (σ:=Unit) (fun F k _=>ko N a b F (k:Int)) a.length (fun k _=>zan (a.drop k) (b.drop k)=zan a b) _ (fun F k _ d hi=>?_) (fun F _ hi=>?_) N 0 () (Nat.zero_le _) (by omega) rfl
    ·simp only [ko]
     rw [bq (by omega),zg (j3 d),zg (j3 (by omega))]
     have c:=zn2 d (show k<b.length by omega)
     rw [hi] at c
     by_cases h3:a.getD k default<b.getD k default
     ·left
      refine Eq.trans (bq h3) ?_
      rw [if_pos h3] at c;rw [c];rfl
     ·refine(show _∨_ from ?_)
      rw [if_neg h3] at c
      by_cases h4:b.getD k default<a.getD k default
      ·left
       refine Eq.trans (yt h3) ?_
       rw [zg (j3 d),zg (j3 (by omega))]
       refine Eq.trans (bq h4) ?_
       rw [if_pos h4] at c;rw [c];rfl
      ·right
       rw [if_neg h4] at c
       refine⟨(),c.symm,Eq.trans (yt h3) ?_⟩
       rw [zg (j3 d),zg (j3 (by omega))]
       refine Eq.trans (yt h4) ?_
       rw [zg (qj (by omega))];rfl
    ·simp only [ko]
     rw [yt (by omega)]
     have:zan a b=0:=by rw [←hi,List.drop_of_length_le (Nat.le_refl _)];rfl
     rw [if_pos this]
   rw [q8 e]
   by_cases h5:zan a b=0
   ·rw [if_pos h5,h5];rfl
   ·rw [if_neg h5];rfl
theorem zhg{N:Nat}{a b:List Int}(c:a.length<N)(d:a.length≤4611686018427387904):ak N a b=some (decide (a=b)):=by
 unfold ak
 rw [q8 (zk1 c d)]
 by_cases h:a=b
 ·rw [decide_eq_true h,decide_eq_true ((cmpL_eq a b).2 h)]
 ·rw [decide_eq_false h,decide_eq_false (fun e=>h ((cmpL_eq a b).1 e))]
theorem zlu{N:Nat}{m:Mach}(p:Small m)(u:200≤N):om N m=some (z1y m):=by
 have v:=p.r
 unfold om
 by_cases h:(16<m.inputs∨16<m.outputs)∨64<m.rows.length
 ·rw [ct (by simp;omega),zhj h]
 ·rw [cf (by simp;omega)]
  by_cases h1:(m.inputs<1∨m.outputs<1)∨m.rows.length<1
  ·rw [ct (by simp only [Bool.or_eq_true,decide_eq_true_eq];omega),zgw h h1]
  ·rw [cf (by
    have:(m.rows.length:Int)≠0:=by omega
    simp only [Bool.or_eq_false_iff,decide_eq_false_iff_not];omega)]
   have q:jm N m N 0=some (if m.rows.any (aj m)=true then Ex.rt 1 else Ex.go ()):=by
    refine z0w (σ:=Unit) (fun F k _=>jm N m F (k:Int)) m.rows.length (fun k _=>(m.rows.take k).any (aj m)=false) _ (fun F k _ d hi=>?_) (fun F _ hi=>?_) N 0 () (Nat.zero_le _) (by omega) (by simp)
    ·have w:=p.c k d
     have j:(bd (gd (okI m.rows (k:Int))<|bif decide (((ix m.rows (k:Int)).length:Int)≠m.inputs) then(some (Ex.rt (Ex.rt 1))) else kg N m (k:Int) N 0) fun l=>Ex.on l (fun s=>gd (in64 ((k:Int)+1))<|jm N m F ((k:Int)+1)) some)=
      if aj m (m.rows.getD k default)=true then some (Ex.rt 1) else jm N m F ((k+1:Nat):Int):=by
      rw [zg (j3 d)]
      by_cases g:((m.rows.getD k default).length:Int)≠m.inputs
      ·have b:aj m (m.rows.getD k default)=true:=by unfold aj;rw [decide_eq_true g];rfl
       rw [if_pos b]
       refine Eq.trans (q8 (x:=Ex.rt (Ex.rt 1)) (bq g)) rfl
      ·have h2':((ix m.rows (k:Int)).length:Int)=m.inputs:=Decidable.of_not_not g
       have n:kg N m (k:Int) N 0=some (if aj m (m.rows.getD k default)=true then Ex.rt (Ex.rt 1) else Ex.go ()):=by
        refine z0w (σ:=Unit) (fun G i _=>kg N m (k:Int) G (i:Int)) m.inputs.toNat (fun i _=>(((m.rows.getD k default).take i).any fun x=> !z9k m x)=false) _ (fun G i _ hi' e=>?_) (fun G _ e=>?_) N 0 () (Nat.zero_le _) (by have:((m.rows.getD k default).length:Int)=m.inputs:=h2';omega) (by simp)
        ·have a:i<(m.rows.getD k default).length:=by have:((m.rows.getD k default).length:Int)=m.inputs:=h2';omega
         simp only [kg]
         rw [bq (by omega),zg (j3 d),zg (show okI (ix m.rows (k:Int)) (i:Int) from j3 a)]
         have t:ix (ix m.rows (k:Int)) (i:Int)=(m.rows.getD k default).getD i default:=rfl
         rw [t]
         generalize hxe:(m.rows.getD k default).getD i default=x at*
         by_cases h3:x.to= -1∧x.out= -1
         ·right
          have f:=zoe (m:=m) (x:=x) (.inl h3)
          refine⟨(),by rw [z4t _ _ i a,e,hxe,f];rfl,?_⟩
          rw [ct (by rw [decide_eq_true h3.1,decide_eq_true h3.2];rfl),znt,zh9,zg (qj (by omega))];rfl
         ·rw [cf (by rw [←Bool.decide_and];exact decide_eq_false h3)]
          by_cases h4:0≤x.to∧x.to<m.rows.length∧0≤x.out∧x.out<m.outputs
          ·right
           have f:=zoe (m:=m) (x:=x) (.inr h4)
           refine⟨(),by rw [z4t _ _ i a,e,hxe,f];rfl,?_⟩
           rw [cf (by simp;omega),znt,zh9,zg (qj (by omega))];rfl
          ·left
           have f:=zsb (m:=m) (x:=x) (fun h=>h.elim h3 h4)
           rw [ct (by simp;omega),znt,zv7,if_pos]
           unfold aj
           rw [Bool.or_eq_true]
           exact .inr (List.any_eq_true.2 ⟨_,z1p a,by rw [hxe];exact f⟩)
        ·simp only [kg]
         rw [yt (by omega),if_neg]
         have o:(m.rows.getD k default).length=m.inputs.toNat:=by have:((m.rows.getD k default).length:Int)=m.inputs:=h2';omega
         rw [←o,List.take_length] at e
         unfold aj
         rw [e,decide_eq_false g];decide
       refine Eq.trans (q8 (Eq.trans (yt (fun h=>h h2')) n)) ?_
       by_cases b:aj m (m.rows.getD k default)=true
       ·rw [if_pos b,if_pos b];rfl
       ·rw [if_neg b,if_neg b,zh9,zg (qj (by omega))];rfl
     simp only [jm]
     rw [bq (by omega),j]
     cases hr:aj m (m.rows.getD k default)
     ·right
      exact⟨(),by rw [z4t _ _ k d,hi,hr];rfl,if_neg (by decide)⟩
     ·left
      rw [if_pos rfl,if_pos (List.any_eq_true.2 ⟨_,z1p d,hr⟩)]
    ·simp only [jm]
     rw [yt (by omega),if_neg (by rw [List.take_length] at hi;rw [hi];decide)]
   rw [q8 q]
   by_cases ha:m.rows.any (aj m)=true
   ·rw [if_pos ha];unfold z1y;rw [if_neg h,if_neg h1,if_pos ha];rfl
   ·rw [if_neg ha,zgp h h1 (by simpa using ha)];rfl
/-! ### Data-/
theorem zry{N:Nat}{x:MDat}(b:MDOk x)(o:200≤N){s:Nat}(p:s<6):um N x (s:Int) N [] 0=some (zg1 x s):=by
 have q:=b.st;have r:=b.ins;have t:=b.outs
 have hinp:x.inp=1+x.ins%3:=rfl
 refine z0w (fun F i acc=>um N x (s:Int) F acc (i:Int)) x.inp.toNat (fun i acc=>acc=(List.range i).map (z94 x s)) _ (fun F i acc hi hacc=> .inr ?_) (fun F acc hacc=>?_) N 0 [] (Nat.zero_le _) (by omega) rfl
 ·subst hacc
  refine⟨_,rfl,?_⟩
  have g:=zn1 (k:=s) (a:=x.inp) (by omega) (by omega)
  have j:(s:Int)*((1:Int)+x.ins%3)+(i:Int)=((s*x.inp.toNat+i:Nat):Int):=by
   rw [←hinp,g.2.2];rfl
  have hnum:=b.num (s*x.inp.toNat+i)
  simp only [um]
  rw [bq (by omega)]
  have l:(gd (in64 ((s:Int)*((1:Int)+(x.ins%3))))<|gd (in64 (((s:Int)*((1:Int)+(x.ins%3)))+(i:Int)))<|bif decide (((s:Int)*((1:Int)+(x.ins%3)))+(i:Int)<(x.edges.length:Int)) then(gd (okI x.edges (((s:Int)*((1:Int)+(x.ins%3)))+(i:Int)))<|gd (in64 (ix x.edges (((s:Int)*((1:Int)+(x.ins%3)))+(i:Int))))<|some (ix x.edges (((s:Int)*((1:Int)+(x.ins%3)))+(i:Int)))) else(some (0:Int)))=some (x.num (s*x.inp.toNat+i)):=by
   rw [zg (qj (by rw [←hinp];omega)),j,zg (qj (by omega))]
   unfold MDat.num
   by_cases hk:s*x.inp.toNat+i<x.edges.length
   ·have m:=b.ed _ hk
    rw [bq (by omega),if_pos hk,zg (j3 hk),zg (show in64 (ix x.edges ((s*x.inp.toNat+i:Nat):Int)) from qj (show-4611686018427387904≤x.edges.getD (s*x.inp.toNat+i) default∧x.edges.getD (s*x.inp.toNat+i) default≤4611686018427387904 by omega))];rfl
   ·rw [yt (by omega),if_neg hk]
  have hacc:((List.range i).map (z94 x s)).length=i:=by simp
  refine Eq.trans (q8 (x:=(List.range (i+1)).map (z94 x s)) (Eq.trans (q8 l) ?_)) ?_
  ·rw [zg (fun _=>⟨hnum.1,by omega⟩),z8w]
   by_cases hp:x.part=true∧x.num (s*x.inp.toNat+i)%4=3
   ·rw [ct (by rw [hp.1,decide_eq_true hp.2];rfl),zg ⟨by rw [hacc];simp;omega,by rw [hacc];simp;omega⟩,zpu rfl hp]
   ·have c:x.n=1+x.states%6:=rfl
    have d:x.out=1+x.outs%3:=rfl
    have e:0≤x.num (s*x.inp.toNat+i)/4:=by omega
    have f:0≤x.num (s*x.inp.toNat+i)/4/x.n:=Int.ediv_nonneg e (by omega)
    rw [cf (by
     rw [Bool.and_eq_false_iff]
     by_cases h:x.part=true
     ·exact .inr (decide_eq_false fun h'=>hp ⟨h,h'⟩)
     ·exact .inl (by simpa using h)),←c,←d,zg ⟨by omega,by omega,by omega⟩,zg ⟨e,by omega⟩,zg ⟨by omega,by omega,by omega⟩,zg ⟨e,by omega,by omega⟩,zg ⟨f,by omega⟩,zg ⟨by rw [hacc];simp;omega,by rw [hacc];simp;omega⟩,zra rfl (fun h h'=>hp ⟨h,h'⟩)]
  ·rw [zg (qj (by omega))];rfl
 ·subst hacc
  simp only [um]
  rw [yt (by omega)];rfl
theorem zo1{N:Nat}{x:MDat}(a:MDOk x)(b:200≤N):gz N x=some (mOf x):=by
 have d:=a.st;have e:=a.ins;have f:=a.outs
 have c:x.n=1+x.states%6:=rfl
 unfold gz
 rw [zg ⟨by omega,by omega⟩,zg (qj (by omega)),zg (qj (by omega)),zg ⟨by omega,by omega⟩,zg (qj (by omega)),zg (qj (by omega)),zg ⟨by omega,by omega⟩,zg (qj (by omega)),zg (qj (by omega))]
 refine Eq.trans (q8 (x:=(List.range x.n.toNat).map (zg1 x)) ?_) rfl
 refine z0w (fun F s acc=>ww N x F (s:Int) acc) x.n.toNat (fun s acc=>acc=(List.range s).map (zg1 x)) _ (fun F s acc g hacc=> .inr ?_) (fun F acc hacc=>?_) N 0 [] (Nat.zero_le _) (by omega) rfl
 ·subst hacc
  refine⟨_,rfl,?_⟩
  simp only [ww]
  rw [bq (by omega),q8 (zry a b (by omega)),zg ⟨by simp;omega,by simp;omega⟩,zg (qj (by omega)),z8w];rfl
 ·subst hacc
  simp only [ww]
  rw [yt (by omega)]
end GV
end Go.Proofs.YtkkcidhcfkmbjaaGreatDoor

namespace Go.Proofs.YtkkcidhcfkmbjaaGreatDoor
namespace GV
section names
variable {κ κ' : Type} [DecidableEq κ] [DecidableEq κ']
def z3k(f:Nat→κ)(u:Nat):Bool:=(List.range u).all fun t=>decide (f t≠f u)
theorem l8{f:Nat→κ}{u:Nat}:z3k f u=true↔ ∀ t,t<u→f t≠f u:=by
 unfold z3k
 rw [List.all_eq_true]
 exact⟨fun h t a=>of_decide_eq_true (h t (List.mem_range.2 a)),fun h t a=>decide_eq_true (h t (List.mem_range.1 a))⟩
def cntF(f:Nat→κ):Nat→Nat
 |0=>0
 |u+1=>cntF f u+if z3k f u=true then 1 else 0
theorem zl6(f:Nat→κ): ∀ u,cntF f u≤u
 |0=>Nat.le_refl _
 |u+1=>by have:=zl6 f u;unfold cntF;split<;>omega
theorem cntF_step(f:Nat→κ)(u:Nat):cntF f u≤cntF f (u+1):=by show _≤cntF f u+_;omega
theorem zmr(f:Nat→κ){u v:Nat}(h:u≤v):cntF f u≤cntF f v:=by
 induction v with
 |zero=>rw [show u=0 by omega];exact Nat.le_refl _
 |succ v ih=>
  by_cases e:u=v+1
  ·rw [e];exact Nat.le_refl _
  ·exact Nat.le_trans (ih (by omega)) (cntF_step f v)
theorem zf9(f:Nat→κ){u v:Nat}(h:u<v)(a:z3k f u=true):cntF f u<cntF f v:=by
 have b:=zmr f (show u+1≤v by omega)
 have c:cntF f (u+1)=cntF f u+1:=by show cntF f u+_=_;rw [if_pos a]
 omega
theorem zpo{f:Nat→κ}{u v:Nat}(a:z3k f u=true)(b:z3k f v=true)(h:cntF f u=cntF f v):u=v:=by
 rcases Nat.lt_trichotomy u v with e|e|e
 ·have:=zf9 f e a;omega
 ·exact e
 ·have:=zf9 f e b;omega
def z5c(f:Nat→κ)(s:Nat):Nat:=((List.range s).find? fun t=>decide (f t=f s)).getD s
theorem z0q(f:Nat→κ)(s:Nat):z5c f s≤s∧f (z5c f s)=f s∧ ∀ t,t<z5c f s→f t≠f s:=by
 unfold z5c
 cases h:(List.range s).find? fun t=>decide (f t=f s) with
 |none=>
  rw [List.find?_eq_none] at h
  exact⟨Nat.le_refl _,rfl,fun t a=>by simpa using h t (List.mem_range.2 a)⟩
 |some u=>
  obtain⟨c,i,d,b,e⟩:=List.find?_eq_some_iff_getElem.1 h
  rw [List.getElem_range] at b
  subst b
  rw [List.length_range] at d
  refine⟨by show i≤s;omega,by simpa using c,fun t a=>?_⟩
  have:=e t a
  rw [List.getElem_range] at this
  simpa using this
theorem z7j(f:Nat→κ)(s:Nat):z3k f (z5c f s)=true:=by
 obtain⟨d,a,b⟩:=z0q f s
 exact l8.2 fun t c=>by rw [a];exact b t c
theorem zi7{f:Nat→κ}{u s:Nat}(a:z3k f u=true)(h:f u=f s)(b:u≤s):z5c f s=u:=by
 obtain⟨g,c,d⟩:=z0q f s
 rcases Nat.lt_trichotomy (z5c f s) u with e|e|e
 ·exact absurd (c.trans h.symm) (l8.1 a _ e)
 ·exact e
 ·exact absurd h (d u e)
theorem z9r{f:Nat→κ}{u:Nat}(a:z3k f u=true):z5c f u=u:=zi7 a rfl (Nat.le_refl _)
theorem zht{f:Nat→κ}{s t:Nat}(h:f s=f t):z5c f s=z5c f t:=by
 obtain⟨g,a,b⟩:=z0q f s
 obtain⟨i,c,d⟩:=z0q f t
 rcases Nat.lt_trichotomy (z5c f s) (z5c f t) with e|e|e
 ·exact absurd (a.trans h) (d _ e)
 ·exact e
 ·exact absurd (c.trans h.symm) (b _ e)
def name(f:Nat→κ)(s:Nat):Nat:=cntF f (z5c f s)
theorem z9y{f:Nat→κ}{s t:Nat}:name f s=name f t↔f s=f t:=by
 constructor
 ·intro h
  have:=zpo (z7j f s) (z7j f t) h
  rw [←(z0q f s).2.1,this,(z0q f t).2.1]
 ·intro h;unfold name;rw [zht h]
theorem zlm{f:Nat→κ}{u:Nat}(h:z3k f u=true):name f u=cntF f u:=by unfold name;rw [z9r h]
theorem zmi(f:Nat→κ):name f 0=0:=by
 unfold name
 rw [z9r (l8.2 fun t a=>by omega)];rfl
/-! Only which keys are equal counts. -/
theorem zcf{f:Nat→κ}{g:Nat→κ'}{n:Nat}(h: ∀ s t,s<n→t<n→(f s=f t↔g s=g t)){u:Nat}(b:u<n):z3k f u=z3k g u:=by
 rw [Bool.eq_iff_iff,l8,l8]
 exact⟨fun k t a e=>k t a ((h t u (by omega) b).2 e),fun k t a e=>k t a ((h t u (by omega) b).1 e)⟩
theorem zdl{f:Nat→κ}{g:Nat→κ'}{n:Nat}(h: ∀ s t,s<n→t<n→(f s=f t↔g s=g t)): ∀ {u:Nat},u≤n→cntF f u=cntF g u
 |0,_=>rfl
 |u+1,a=>by
  show cntF f u+_=cntF g u+_
  rw [zdl h (by omega),zcf h (show u<n by omega)]
theorem zln{f:Nat→κ}{g:Nat→κ'}{n:Nat}(h: ∀ s t,s<n→t<n→(f s=f t↔g s=g t)){s:Nat}(a:s<n):z5c f s=z5c g s:=by
 obtain⟨b,c,d⟩:=z0q g s
 refine zi7 ?_ ((h _ _ (by omega) a).2 c) b
 rw [zcf h (by omega)];exact z7j g s
theorem z6e{f:Nat→κ}{g:Nat→κ'}{n:Nat}(h: ∀ s t,s<n→t<n→(f s=f t↔g s=g t)){s:Nat}(a:s<n):name f s=name g s:=by
 have:=(z0q g s).1
 unfold name
 rw [zln h a,zdl h (by omega)]
/-! A map from keys to names,as the first k things are named. -/
def nmM(f:Nat→κ):Nat→List (κ×Int)
 |0=>[]
 |k+1=>nmM f k++if z3k f k=true then [(f k,(cntF f k:Int))] else []
theorem zl4(f:Nat→κ): ∀ k,(nmM f k).length=cntF f k
 |0=>rfl
 |k+1=>by
  show (nmM f k++_).length=cntF f k+_
  rw [List.length_append,zl4 f k]
  split<;>rfl
theorem zhc{β:Type}{M M':List (κ×β)}{x:κ}:z1d (M++M') x=(z1d M x||z1d M' x):=by
 induction M with
 |nil=>rfl
 |cons p l ih=>
  show (if x=p.1 then true else z1d (l++M') x)=((if x=p.1 then true else z1d l x)||z1d M' x)
  split
  ·rfl
  ·exact ih
theorem zhk{β:Type}{z:β}{M M':List (κ×β)}{x:κ}:z1c z (M++M') x=if z1d M x=true then z1c z M x else z1c z M' x:=by
 induction M with
 |nil=>rfl
 |cons p l ih=>
  show (if x=p.1 then p.2 else z1c z (l++M') x)=if(if x=p.1 then true else z1d l x)=true then(if x=p.1 then p.2 else z1c z l x) else z1c z M' x
  by_cases h:x=p.1
  ·simp [h]
  ·simp only [if_neg h];exact ih
theorem zoz{β:Type}{M:List (κ×β)}{x:κ}{v:β}(h:z1d M x=false):z2x M x v=M++[(x,v)]:=by
 induction M with
 |nil=>rfl
 |cons p l ih=>
  unfold z1d at h
  by_cases e:x=p.1
  ·simp [e] at h
  ·rw [if_neg e] at h
   simp only [z2x,if_neg e,ih h,List.cons_append]
theorem z9d(f:Nat→κ)(x:κ): ∀ k,z1d (nmM f k) x=true↔ ∃ t,t<k∧f t=x
 |0=>⟨fun h=>by simp [nmM,z1d] at h,fun⟨t,c,_⟩=>by omega⟩
 |k+1=>by
  show z1d (nmM f k++_) x=true↔_
  rw [zhc,Bool.or_eq_true,z9d f x k]
  constructor
  ·rintro(⟨t,c,h⟩|h)
   ·exact⟨t,by omega,h⟩
   ·split at h
    ·by_cases e:x=f k
     ·exact⟨k,by omega,e.symm⟩
     ·simp [z1d,e] at h
    ·simp [z1d] at h
  ·rintro⟨t,c,h⟩
   by_cases e: ∃ u,u<k∧f u=x
   ·exact .inl e
   ·have a:t=k:=by
     rcases Nat.lt_or_ge t k with d|d
     ·exact absurd ⟨t,d,h⟩ e
     ·omega
    subst a
    right
    rw [if_pos (l8.2 fun u g b=>e ⟨u,g,b.trans h⟩)]
    simp [z1d,h]
theorem zkz(f:Nat→κ){s:Nat}: ∀ k,s<k→z1c 0 (nmM f k) (f s)=(name f s:Int)
 |0,h=>by omega
 |k+1,h=>by
  show z1c 0 (nmM f k++_) (f s)=_
  rw [zhk]
  by_cases e:z1d (nmM f k) (f s)=true
  ·rw [if_pos e]
   obtain⟨t,i,a⟩:=(z9d f _ k).1 e
   rw [←a,zkz f k i,z9y.2 a]
  ·rw [if_neg e]
   have d: ∀ u,u<k→f u≠f s:=fun u j c=>e ((z9d f _ k).2 ⟨u,j,c⟩)
   have l:s=k:=by
    rcases Nat.lt_or_ge s k with g|g
    ·exact absurd rfl (d s g)
    ·omega
   subst l
   have b:=l8.2 d
   rw [if_pos b,zlm b]
   simp [z1c]
theorem zqm(f:Nat→κ){k:Nat}(h:z1d (nmM f k) (f k)=false):z2x (nmM f k) (f k) ((nmM f k).length:Int)=nmM f (k+1):=by
 have a:z3k f k=true:=l8.2 fun t c b=>by
  have:=(z9d f (f k) k).2 ⟨t,c,b⟩
  rw [h] at this;cases this
 rw [zoz h,zl4]
 show _=nmM f k++_
 rw [if_pos a]
theorem zqu(f:Nat→κ){k:Nat}(h:z1d (nmM f k) (f k)=true):nmM f (k+1)=nmM f k:=by
 obtain⟨t,b,a⟩:=(z9d f _ k).1 h
 show nmM f k++_=_
 rw [if_neg (fun c=>l8.1 c t b a),List.append_nil]
def zmj(f:Nat→κ)(n:Nat):List Int:=(List.range n).map fun s=>(name f s:Int)
theorem zjt{f:Nat→κ}{g:Nat→κ'}{n:Nat}(h: ∀ s t,s<n→t<n→(f s=f t↔g s=g t)):zmj f n=zmj g n:=by
 unfold zmj
 refine List.map_congr_left fun s a=>?_
 rw [z6e h (List.mem_range.1 a)]
end names
def ztt{κ:Type}[DecidableEq κ](f:Nat→κ)(n:Nat):List Nat:=(List.range n).filter fun u=>z3k f u
section ztt
variable {κ : Type} [DecidableEq κ] {f : Nat → κ}
end ztt
end GV
end Go.Proofs.YtkkcidhcfkmbjaaGreatDoor

namespace Go.Proofs.YtkkcidhcfkmbjaaGreatDoor
namespace GV
def ou(m:Mach)(s i:Nat):Int:=((m.rows.getD s default).getD i default).out
def z5d(m:Mach)(p:Nat→Nat)(s:Nat):List (Int×Int):=(List.range m.inputs.toNat).map fun i=>(ou m s i,if ed m s i= -1 then-1 else(p (ed m s i).toNat:Int))
def zg2(m:Mach)(p:Nat→Nat)(s:Nat):Nat×List (Int×Int):=(p s,z5d m p s)
def pkc(m:Mach):Nat→Nat→Nat
 |0=>fun _=>0
 |k+1=>fun s=>name (zg2 m (pkc m k)) s
def pL(m:Mach)(k:Nat):List Int:=(List.range m.rows.length).map fun s=>(pkc m k s:Int)
section
variable {m : Mach}
theorem zft(k:Nat):(pL m k).length=m.rows.length:=by simp [pL]
theorem zj1{k s:Nat}(h:s<m.rows.length):(pL m k).getD s default=(pkc m k s:Int):=by simp [pL,List.getD_eq_getElem?_getD,h]
theorem zr7(k:Nat):pL m (k+1)=zmj (zg2 m (pkc m k)) m.rows.length:=rfl
theorem zqa{p:Nat→Nat}{s t:Nat}:z5d m p s=z5d m p t↔ ∀ i,i<m.inputs.toNat→ou m s i=ou m t i∧(if ed m s i= -1 then-1 else(p (ed m s i).toNat:Int))=(if ed m t i= -1 then-1 else(p (ed m t i).toNat:Int)):=by
 unfold z5d
 rw [List.map_inj_left]
 constructor
 ·intro h i hi
  have:=h i (List.mem_range.2 hi)
  exact⟨congrArg Prod.fst this,congrArg Prod.snd this⟩
 ·intro h i hi
  obtain⟨a,b⟩:=h i (List.mem_range.1 hi)
  exact Prod.ext a b
theorem z3z(a:MOk m){s i:Nat}(b:s<m.rows.length)(hi:i<m.inputs.toNat):(ed m s i= -1↔ou m s i= -1)∧ -1≤ou m s i∧ou m s i<16:=by
 have c:=a.row s b
 have d:=a.o2
 rcases a.edge s i b (by omega) with h|h
 ·exact⟨⟨fun _=>h.2,fun _=>h.1⟩,by show-1≤((m.rows.getD s default).getD i default).out;omega,by show ((m.rows.getD s default).getD i default).out<16;omega⟩
 ·refine⟨⟨fun e=>?_,fun e=>?_⟩,?_,?_⟩
  ·have:((m.rows.getD s default).getD i default).to= -1:=e
   omega
  ·have:((m.rows.getD s default).getD i default).out= -1:=e
   omega
  ·show-1≤((m.rows.getD s default).getD i default).out;omega
  ·show ((m.rows.getD s default).getD i default).out<16;omega
theorem zgs{k s t:Nat}:pkc m (k+1) s=pkc m (k+1) t↔pkc m k s=pkc m k t∧z5d m (pkc m k) s=z5d m (pkc m k) t:=by
 show name _ s=name _ t↔_
 rw [z9y]
 unfold zg2
 rw [Prod.mk.injEq]
theorem zo9(b:MOk m){k s t:Nat}(g:s<m.rows.length)(j:t<m.rows.length):pkc m (k+1) s=pkc m (k+1) t↔pkc m k s=pkc m k t∧ ∀ i,i<m.inputs.toNat→ou m s i=ou m t i∧(ed m s i≠ -1→ed m t i≠ -1→pkc m k (ed m s i).toNat=pkc m k (ed m t i).toNat):=by
 rw [zgs,zqa]
 refine and_congr_right fun _=>forall_congr' fun i=>forall_congr' fun hi=>?_
 refine and_congr_right fun c=>?_
 have d:=(z3z b g hi).1
 have f:=(z3z b j hi).1
 by_cases e:ed m s i= -1
 ·have a:ed m t i= -1:=f.2 (by rw [←c];exact d.1 e)
  rw [if_pos e,if_pos a]
  exact⟨fun _ h=>absurd e h,fun _=>rfl⟩
 ·have a:ed m t i≠ -1:=fun a=>e (d.2 (by rw [c];exact f.1 a))
  rw [if_neg e,if_neg a]
  exact⟨fun h _ _=>Int.ofNat.inj h,fun h=>congrArg Int.ofNat (h e a)⟩
theorem z7a{k s t:Nat}(h:pkc m (k+1) s=pkc m (k+1) t):pkc m k s=pkc m k t:=(zgs.1 h).1
theorem zsm{k j s t:Nat}(a:k≤j)(h:pkc m j s=pkc m j t):pkc m k s=pkc m k t:=by
 induction j with
 |zero=>rw [show k=0 by omega];rfl
 |succ j ih=>
  by_cases e:k=j+1
  ·rw [e];exact h
  ·exact ih (by omega) (z7a h)
def zac(m:Mach)(k:Nat):Prop:= ∀ s t,s<m.rows.length→t<m.rows.length→pkc m k s=pkc m k t→pkc m (k+1) s=pkc m (k+1) t
theorem zi6{k s:Nat}:name (pkc m k) s=pkc m k s:=by
 cases k with
 |zero=>
  show name (fun _:Nat=>(0:Nat)) s=0
  rw [show name (fun _:Nat=>(0:Nat)) s=name (fun _:Nat=>(0:Nat)) 0 from z9y.2 rfl,zmi]
 |succ k=>exact z6e (n:=s+1) (fun a b _ _=>by show name _ a=name _ b↔_;exact z9y) (Nat.lt_succ_self s)
theorem zem{k:Nat}(h:zac m k){s:Nat}(c:s<m.rows.length):pkc m (k+1) s=pkc m k s:=by
 rw [←zi6 (k:=k+1),←zi6 (k:=k)]
 exact z6e (n:=m.rows.length) (fun a b d e=>⟨z7a,h a b d e⟩) c
theorem zi2(k:Nat):pL m (k+1)=pL m k↔zac m k:=by
 constructor
 ·intro h s t a c e
  have b: ∀ s,s<m.rows.length→pkc m (k+1) s=pkc m k s:=fun s a=>by
   have:=congrArg (fun l:List Int=>l.getD s default) h
   simp only [zj1 a] at this
   omega
  rw [b s a,b t c,e]
 ·intro h
  unfold pL
  exact List.map_congr_left fun s a=>by rw [zem h (List.mem_range.1 a)]
theorem zf4(b:MOk m){p q:Nat→Nat}(h: ∀ s,s<m.rows.length→p s=q s){s:Nat}(c:s<m.rows.length):z5d m p s=z5d m q s:=by
 unfold z5d
 refine List.map_congr_left fun i hi=>?_
 rcases z1e b c (List.mem_range.1 hi) with a|a
 ·rw [if_pos a,if_pos a]
 ·rw [h _ (by omega)]
theorem z15(c:MOk m){k:Nat}(h:zac m k): ∀ j,k≤j→ ∀ s,s<m.rows.length→pkc m j s=pkc m k s
 |0,i,s,d=>by rw [show k=0 by omega]
 |j+1,i,s,d=>by
  by_cases e:k=j+1
  ·rw [e]
  ·have ih:=z15 c h j (by omega)
   rw [←zem h d]
   show name _ s=name _ s
   refine z6e (n:=m.rows.length) (fun a b f g=>?_) d
   unfold zg2
   rw [ih a f,ih b g,zf4 c ih f,zf4 c ih g]
theorem zr4(a:MOk m){k j:Nat}(h:zac m k)(b:k≤j):pL m j=pL m k:=by
 unfold pL
 exact List.map_congr_left fun s c=>by rw [z15 a h j b s (List.mem_range.1 c)]
theorem zgm{κ κ':Type}[DecidableEq κ][DecidableEq κ']{f:Nat→κ}{g:Nat→κ'}: ∀ {n:Nat},(∀ u,u<n→z3k f u=true→z3k g u=true)→cntF f n≤cntF g n∧(cntF f n=cntF g n→ ∀ u,u<n→z3k f u=z3k g u)
 |0,_=>⟨Nat.le_refl _,fun _ u c=>by omega⟩
 |n+1,h=>by
  obtain⟨j,d⟩:=zgm (n:=n) (f:=f) (g:=g) fun u c=>h u (by omega)
  have i:=h n (by omega)
  have a:cntF f (n+1)=cntF f n+if z3k f n=true then 1 else 0:=rfl
  have b:cntF g (n+1)=cntF g n+if z3k g n=true then 1 else 0:=rfl
  cases hf:z3k f n<;>cases hg:z3k g n
  ·rw [hf] at a;rw [hg] at b
   simp only [Bool.false_eq_true,if_false] at a b
   refine⟨by omega,fun e u c=>?_⟩
   by_cases hu':u=n
   ·subst hu';rw [hf,hg]
   ·exact d (by omega) u (by omega)
  ·rw [hf] at a;rw [hg] at b
   simp only [Bool.false_eq_true,if_false,if_true] at a b
   exact⟨by omega,fun e=>by omega⟩
  ·rw [hf,hg] at i;exact absurd (i rfl) (by decide)
  ·rw [hf] at a;rw [hg] at b
   simp only [if_true] at a b
   refine⟨by omega,fun e u c=>?_⟩
   by_cases hu':u=n
   ·subst hu';rw [hf,hg]
   ·exact d (by omega) u (by omega)
theorem zf8{k:Nat}(h: ¬zac m k):cntF (pkc m k) m.rows.length<cntF (pkc m (k+1)) m.rows.length:=by
 obtain⟨v,l⟩:=zgm (n:=m.rows.length) (f:=pkc m k) (g:=pkc m (k+1)) fun u w o=>l8.2 fun t a e=>l8.1 o t a (z7a e)
 rcases Nat.lt_or_ge (cntF (pkc m k) m.rows.length) (cntF (pkc m (k+1)) m.rows.length) with b|b
 ·exact b
 ·exfalso
  have p:=l (by omega)
  refine h fun s t x a e=>?_
  obtain⟨y,c,_⟩:=z0q (pkc m (k+1)) s
  obtain⟨z,d,_⟩:=z0q (pkc m (k+1)) t
  have i:=z7j (pkc m (k+1)) s
  have j:=z7j (pkc m (k+1)) t
  rw [←p _ (by omega)] at i j
  have q:pkc m k (z5c (pkc m (k+1)) s)=pkc m k (z5c (pkc m (k+1)) t):=by rw [z7a c,z7a d,e]
  have r:z5c (pkc m (k+1)) s=z5c (pkc m (k+1)) t:=by
   rw [←z9r i,←z9r j];exact zht q
  rw [←c,r,d]
theorem zdh(a:1≤m.rows.length): ∀ k,(∀ j,j<k→ ¬zac m j)→k+1≤cntF (pkc m k) m.rows.length
 |0,_=>by
  have:=zf9 (pkc m 0) (show 0<m.rows.length by omega) (l8.2 fun t b=>by omega)
  omega
 |k+1,h=>by
  have c:=zdh a k fun j d=>h j (by omega)
  have e:=zf8 (h k (by omega))
  omega
theorem zeq{p:Nat→Prop}: ∀ n,p n→ ∃ k,k≤n∧p k∧ ∀ j,j<k→ ¬p j
 |n,h=>by
  by_cases e: ∃ j,j<n∧p j
  ·obtain⟨j,b,a⟩:=e
   obtain⟨k,f,c,d⟩:=zeq j a
   exact⟨k,by omega,c,d⟩
  ·exact⟨n,Nat.le_refl _,h,fun j b a=>e ⟨j,b,a⟩⟩
theorem zfd(c:MOk m): ∃ k,k<m.rows.length∧zac m k∧ ∀ j,j<k→ ¬zac m j:=by
 have d:=c.r1
 have e: ∃ k,k<m.rows.length∧zac m k:=by
  refine Classical.byContradiction fun b=>?_
  have:=zdh d m.rows.length fun j f a=>b ⟨j,f,a⟩
  have:=zl6 (pkc m m.rows.length) m.rows.length
  omega
 obtain⟨n,b,a⟩:=e
 obtain⟨k,i,g,h⟩:=zeq n a
 exact⟨k,by omega,g,h⟩
def cls(m:Mach)(s:Nat):Nat:=pkc m m.rows.length s
def zp9(m:Mach):List Int:=pL m m.rows.length
theorem zi0(a:MOk m):zac m m.rows.length:=by
 obtain⟨k,f,b,_⟩:=zfd a
 intro s t c d e
 rw [z15 a b _ (by omega) s c,z15 a b _ (by omega) t d] at*
 exact e
/-! ### Responses-/
theorem zcp(m:Mach): ∀ w:List Int,z0n m (-1) w=List.replicate w.length (-1)
 | []=>rfl
 |c::w=>by
  show (uy m (-1) c).out::z0n m (uy m (-1) c).to w=_
  rw [show uy m (-1) c=⟨-1,-1⟩ from rfl,zcp m w];rfl
theorem pq{s:Nat}(i:Nat)(w:List Int):z0n m (s:Int) ((i:Int)::w)=ou m s i::z0n m (ed m s i) w:=by
 show (uy m (s:Int) (i:Int)).out::z0n m (uy m (s:Int) (i:Int)).to w=_
 unfold uy
 rw [if_neg (by omega)];rfl
theorem z7u{s:Nat}(i:Nat)(w:List Int):aftL m (s:Int) ((i:Int)::w)=aftL m (ed m s i) w:=by
 show aftL m (uy m (s:Int) (i:Int)).to w=_
 unfold uy
 rw [if_neg (by omega)];rfl
theorem z7q(a:MOk m): ∀ (k:Nat) {s t:Nat},s<m.rows.length→t<m.rows.length→(pkc m k s=pkc m k t↔ ∀ w,WOk m.inputs w→w.length≤k→z0n m (s:Int) w=z0n m (t:Int) w)
 |0,s,t,f,g=>⟨fun _ w _ d=>by
  have:w=[]:=List.length_eq_zero_iff.1 (by omega)
  subst this;rfl,fun _=>rfl⟩
 |k+1,s,t,f,g=>by
  rw [zo9 a f g]
  constructor
  ·rintro⟨C,v⟩ w b d
   match w,b,d with
   | [],_,_=>rfl
   |c::w,b,d=>
    have x:0≤c∧c<m.inputs:=b 0 (by simp)
    obtain⟨i,rfl⟩:=Int.eq_ofNat_of_zero_le x.1
    have hi:i<m.inputs.toNat:=by omega
    obtain⟨q,y⟩:=v i hi
    have r:=(z3z a f hi).1
    have u:=(z3z a g hi).1
    rw [pq,pq,q]
    congr 1
    rcases z1e a f hi with e|e
    ·rw [e,u.2 (by rw [←q];exact r.1 e)]
    ·have l:ed m t i≠ -1:=fun n=>by have:=r.2 (by rw [q];exact u.1 n);omega
     have n:=(z1e a g hi).resolve_left l
     have:=(z7q a k (s:=(ed m s i).toNat) (t:=(ed m t i).toNat) (by omega) (by omega)).1 (y (by omega) l) w (fun j o=>b (j+1) (by simpa using o)) (by simpa using d)
     rwa [Int.toNat_of_nonneg e.1,Int.toNat_of_nonneg n.1] at this
  ·intro h
   refine⟨(z7q a k f g).2 fun w b d=>h w b (by omega),fun i hi=>?_⟩
   have p: ∀ w,WOk m.inputs w→WOk m.inputs ((i:Int)::w):=fun w b j o=>by
    cases j with
    |zero=>exact⟨by show 0≤(i:Int);omega,by show (i:Int)<m.inputs;omega⟩
    |succ j=>exact b j (by simpa using o)
   refine⟨?_,fun z n=>?_⟩
   ·have:=h [(i:Int)] (p [] fun j o=>by simp at o) (by simp)
    rw [pq,pq] at this
    exact(List.cons.inj this).1
   ·have A:=(z1e a f hi).resolve_left z
    have B:=(z1e a g hi).resolve_left n
    refine(z7q a k (by omega) (by omega)).2 fun w b d=>?_
    have:=h ((i:Int)::w) (p w b) (by simpa using d)
    rw [pq,pq] at this
    rw [Int.toNat_of_nonneg A.1,Int.toNat_of_nonneg B.1]
    exact(List.cons.inj this).2
theorem zf7(a:MOk m){s t:Nat}(b:s<m.rows.length)(c:t<m.rows.length):cls m s=cls m t↔ ∀ w,WOk m.inputs w→z0n m (s:Int) w=z0n m (t:Int) w:=by
 constructor
 ·intro h w d
  have e:pkc m (m.rows.length+w.length) s=pkc m (m.rows.length+w.length) t:=by
   rw [z15 a (zi0 a) _ (by omega) s b,z15 a (zi0 a) _ (by omega) t c];exact h
  exact(z7q a _ b c).1 e w d (by omega)
 ·intro h
  exact(z7q a _ b c).2 fun w d _=>h w d
end
end GV
end Go.Proofs.YtkkcidhcfkmbjaaGreatDoor
