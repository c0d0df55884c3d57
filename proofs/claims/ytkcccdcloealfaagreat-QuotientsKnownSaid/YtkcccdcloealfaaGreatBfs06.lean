
import Derived.Test.YtkcccdcloealfaaGreatShPlain
import Derived.Test.YtkcccdcloealfaaGreatShMap
set_option linter.unusedVariables false
set_option linter.unusedSimpArgs false
namespace Go.Proofs.YtkcccdcloealfaaGreat
namespace GV
def eOk(m:Mach)(e:Edge):Prop:=(e.to= -1∧e.out= -1)∨(0≤e.to∧e.to<m.rows.length∧0≤e.out∧e.out<m.outputs)
structure MOk (m:Mach):Prop where
 i1:1≤m.inputs
 i2:m.inputs≤16
 o1:1≤m.outputs
 o2:m.outputs≤16
 r1:1≤m.rows.length
 r2:m.rows.length≤64
 row: ∀ s,s<m.rows.length→((m.rows.getD s default).length:Int)=m.inputs
 edge: ∀ s i,s<m.rows.length→i<(m.rows.getD s default).length→eOk m ((m.rows.getD s default).getD i default)
def zhi(l:List Edge)(k:Nat):Nat:=(l.take k).countP fun e=>decide (0≤e.to)
def zcq(m:Mach)(k:Nat):Nat:=((m.rows.take k).map fun r=>r.countP fun e=>decide (0≤e.to)).sum
def zvy(m:Mach):Nat:=zcq m m.rows.length
theorem zib(l:List Edge):zhi l 0=0:=by simp [zhi]
theorem zi3(l:List Edge)(k:Nat)(h:k<l.length):zhi l (k+1)=zhi l k+if 0≤(l.getD k default).to then 1 else 0:=by
 unfold zhi
 rw [List.take_succ_eq_append_getElem h,List.countP_append]
 simp [List.countP_cons,List.getD_eq_getElem?_getD,h]
theorem zu8(l:List Edge)(k:Nat):zhi l k≤k:=by
 unfold zhi;exact Nat.le_trans List.countP_le_length (List.length_take_le _ _)
theorem zcs(m:Mach)(k:Nat)(h:k<m.rows.length):zcq m (k+1)=zcq m k+zhi (m.rows.getD k default) (m.rows.getD k default).length:=by
 unfold zcq zhi
 rw [List.take_succ_eq_append_getElem h,List.map_append,List.sum_append,List.take_length]
 congr 1
 simp [List.getD_eq_getElem?_getD,h]
theorem zup(m:Mach)(a:MOk m): ∀ k,k≤m.rows.length→zcq m k≤16*k
 |0,_=>by simp [zcq]
 |k+1,h=>by
  rw [zcs m k h]
  have:=zup m a k (by omega)
  have b:=zu8 (m.rows.getD k default) (m.rows.getD k default).length
  have c:=a.row k h
  have d:=a.i2
  omega
def z0h(m:Mach)(s i:Int):Edge:=if s<0 then⟨-1,-1⟩ else(m.rows.getD s.toNat default).getD i.toNat default
def z2x(m:Mach):Int→List Int→List Int
 |_,[]=>[]
 |s,i::w=>(z0h m s i).out::z2x m (z0h m s i).to w
def z0e(m:Mach):Int→List Int→Int
 |s,[]=>s
 |s,i::w=>z0e m (z0h m s i).to w
def WOk(n:Int)(w:List Int):Prop:= ∀ k,k<w.length→0≤w.getD k default∧w.getD k default<n
def SOk(m:Mach)(s:Int):Prop:=s= -1∨(0≤s∧s<m.rows.length)
theorem z5z(m:Mach): ∀ (s:Int) (u v:List Int),z0e m s (u++v)=z0e m (z0e m s u) v
 |s,[],v=>rfl
 |s,i::u,v=>z5z m _ u v
theorem z5v(m:Mach): ∀ (s:Int) (u v:List Int),z2x m s (u++v)=z2x m s u++z2x m (z0e m s u) v
 |s,[],v=>rfl
 |s,i::u,v=>by
  show _::z2x m _ (u++v)=_::(z2x m _ u++_)
  rw [z5v m _ u v];rfl
theorem z4m(m:Mach): ∀ (s:Int) (w:List Int),(z2x m s w).length=w.length
 |s,[]=>rfl
 |s,i::w=>by simp [z2x,z4m m _ w]
theorem z99(w:List Int)(k:Nat)(h:k<w.length):w.take (k+1)=w.take k++[w.getD k default]:=by
 rw [List.take_succ_eq_append_getElem h];simp [List.getD_eq_getElem?_getD,h]
theorem zxq(m:Mach)(s:Int)(w:List Int)(k:Nat)(h:k<w.length):z2x m s (w.take (k+1))=z2x m s (w.take k)++[(z0h m (z0e m s (w.take k)) (w.getD k default)).out]:=by
 rw [z99 w k h,z5v];rfl
theorem zwj(m:Mach)(s:Int)(w:List Int)(k:Nat)(h:k<w.length):z0e m s (w.take (k+1))=(z0h m (z0e m s (w.take k)) (w.getD k default)).to:=by
 rw [z99 w k h,z5z];rfl
theorem zki(m:Mach)(a:MOk m)(s i:Int)(b:SOk m s)(hi:0≤i∧i<m.inputs):SOk m (z0h m s i).to∧ -1≤(z0h m s i).out∧(z0h m s i).out≤16:=by
 unfold z0h
 split
 ·exact⟨.inl rfl,by simp,by simp⟩
 ·have hs':0≤s∧s<m.rows.length:=by rcases b with h|h<;>omega
  have c:=a.row s.toNat (by omega)
  have d:=a.o2
  rcases a.edge s.toNat i.toNat (by omega) (by omega) with h|h
  ·exact⟨.inl h.1,by omega,by omega⟩
  ·exact⟨.inr ⟨h.1,h.2.1⟩,by omega,by omega⟩
theorem zex(m:Mach)(b:MOk m): ∀ (s:Int) (w:List Int),SOk m s→WOk m.inputs w→SOk m (z0e m s w)
 |s,[],a,_=>a
 |s,i::w,a,c=>zex m b _ w (zki m b s i a (by simpa using c 0 (by simp))).1 (fun k d=>by simpa using c (k+1) (by simpa using d))
theorem q1k{n:Int}{w:List Int}(h:WOk n w)(k:Nat):WOk n (w.take k):=fun j a=>by
 rw [List.length_take] at a
 have:=h j (by omega)
 rwa [show (w.take k).getD j default=w.getD j default from by simp only [List.getD_eq_getElem?_getD,List.getElem?_take];rw [if_pos (by omega)]]
def zhl(m:Mach)(x:Edge):Bool:=decide (x.to= -1∧x.out= -1)||(((decide (0≤x.to)&&decide (x.to<m.rows.length))&&decide (0≤x.out))&&decide (x.out<m.outputs))
theorem zi8(m:Mach)(x:Edge):zhl m x=true↔eOk m x:=by
 simp [zhl,eOk];omega
theorem z9o{α:Type}[Inhabited α](p:α→Bool)(X:List α)(k:Nat)(h:k<X.length):(X.take (k+1)).any p=((X.take k).any p||p (X.getD k default)):=by
 rw [List.take_succ_eq_append_getElem h,List.any_append]
 simp [List.getD_eq_getElem?_getD,h]
def zjq{α:Type}(p:α→Bool)(X:List α):Int:=match X.findIdx? p with|some i=>i|none=> -1
theorem zof{α:Type}(p:α→Bool)(X:List α):decide (0≤zjq p X)=X.any p:=by
 unfold zjq
 cases h:X.findIdx? p with
 |none=>
  have:=List.findIdx?_eq_none_iff.1 h
  simp only [Bool.eq_false_iff] at*
  rw [show decide ((0:Int)≤ -1)=false from rfl]
  symm
  rw [List.any_eq_false]
  intro x a
  simp [this x a]
 |some i=>
  obtain⟨hi,b,_⟩:=List.findIdx?_eq_some_iff_getElem.1 h
  rw [show decide ((0:Int)≤(i:Int))=true from by simp]
  symm
  rw [List.any_eq_true]
  exact⟨_,List.getElem_mem hi,b⟩
theorem zfv{α:Type}[Inhabited α](p:α→Bool)(X:List α)(k:Nat)(h:k<X.length)(a:(X.take k).any p=false)(b:p (X.getD k default)=true):zjq p X=k:=by
 have:X.findIdx? p=some k:=by
  rw [List.findIdx?_eq_some_iff_getElem]
  refine⟨h,by simpa [List.getD_eq_getElem?_getD,h] using b,fun j c=>?_⟩
  rw [List.any_eq_false] at a
  have:=a X[j] (by rw [List.mem_take_iff_getElem];exact⟨j,by omega,rfl⟩)
  simpa using this
 simp [zjq,this]
theorem zif{α:Type}(p:α→Bool)(X:List α)(a:X.any p=false):zjq p X= -1:=by
 have:X.findIdx? p=none:=by
  rw [List.findIdx?_eq_none_iff]
  rw [List.any_eq_false] at a
  intro x b
  simpa using a x b
 simp [zjq,this]
def z3w(m:Mach)(r:List Edge):Bool:=decide ((r.length:Int)≠m.inputs)||r.any fun x=> !zhl m x
def z0z(m:Mach):Int:=if(16<m.inputs∨16<m.outputs)∨64<m.rows.length then 3 else if(m.inputs<1∨m.outputs<1)∨m.rows.length<1 then 1 else if m.rows.any (z3w m)=true then 1 else 0
structure Small (m:Mach):Prop where
 r:m.rows.length≤100
 c: ∀ k,k<m.rows.length→(m.rows.getD k default).length≤100
theorem zs2{m:Mach}(h:(16<m.inputs∨16<m.outputs)∨64<m.rows.length):z0z m=3:=by unfold z0z;rw [if_pos h]
theorem zrj{m:Mach}(h: ¬((16<m.inputs∨16<m.outputs)∨64<m.rows.length))(a:(m.inputs<1∨m.outputs<1)∨m.rows.length<1):z0z m=1:=by unfold z0z;rw [if_neg h,if_pos a]
theorem zqf{m:Mach}(h: ¬((16<m.inputs∨16<m.outputs)∨64<m.rows.length))(a: ¬((m.inputs<1∨m.outputs<1)∨m.rows.length<1))(b:m.rows.any (z3w m)=false):z0z m=0:=by
 unfold z0z;rw [if_neg h,if_neg a,if_neg (by rw [b];decide)]
theorem ze0{α:Type}[Inhabited α](p:α→Bool)(X:List α):X.any p=false↔ ∀ k,k<X.length→p (X.getD k default)=false:=by
 rw [List.any_eq_false]
 refine⟨fun h k a=>by simpa using h _ (z1t a),fun h x b=>?_⟩
 obtain⟨k,a,rfl⟩:=List.getElem_of_mem b
 have:=h k a
 simp only [List.getD_eq_getElem?_getD,List.getElem?_eq_getElem a,Option.getD_some] at this
 simp [this]
theorem zcy(m:Mach)(r:List Edge):z3w m r=false↔(r.length:Int)=m.inputs∧ ∀ i,i<r.length→eOk m (r.getD i default):=by
 unfold z3w
 rw [Bool.or_eq_false_iff,ze0]
 refine and_congr (by simp) (forall_congr' fun i=>forall_congr' fun hi=>?_)
 rw [←zi8];simp
theorem z2y(m:Mach):z0z m=0↔MOk m:=by
 unfold z0z
 by_cases h:(16<m.inputs∨16<m.outputs)∨64<m.rows.length
 ·rw [if_pos h];exact⟨fun h=>absurd h (by decide),fun a=>by have:=a.i2;have:=a.o2;have:=a.r2;omega⟩
 rw [if_neg h]
 by_cases h1:(m.inputs<1∨m.outputs<1)∨m.rows.length<1
 ·rw [if_pos h1];exact⟨fun h=>absurd h (by decide),fun a=>by have:=a.i1;have:=a.o1;have:=a.r1;omega⟩
 rw [if_neg h1]
 cases hr:m.rows.any (z3w m)
 ·rw [if_neg (by decide)]
  have:=(ze0 _ _).1 hr
  exact⟨fun _=>⟨by omega,by omega,by omega,by omega,by omega,by omega,fun s b=>((zcy m _).1 (this s b)).1,fun s i b hi=>((zcy m _).1 (this s b)).2 i hi⟩,fun _=>rfl⟩
 ·rw [if_pos rfl]
  refine⟨fun h=>absurd h (by decide),fun a=>?_⟩
  have:m.rows.any (z3w m)=false:=(ze0 _ _).2 fun k c=>(zcy m _).2 ⟨a.row k c,fun i hi=>a.edge k i c hi⟩
  rw [hr] at this;cases this
theorem MOk.small{m:Mach}(a:MOk m):Small m:=⟨by have:=a.r2;omega,fun k b=>by have:=a.row k b;have:=a.i2;omega⟩
def zia:List Int→List Int→Int
 |x::a,y::b=>if x<y then-1 else if y<x then 1 else zia a b
 |_,_=>0
def cmpL(a b:List Int):Int:=if a.length<b.length then-1 else if b.length<a.length then 1 else zia a b
theorem z92{α:Type}[Inhabited α](X:List α)(k:Nat)(h:k<X.length):X.drop k=X.getD k default::X.drop (k+1):=by
 rw [List.drop_eq_getElem_cons h];simp [List.getD_eq_getElem?_getD,h]
theorem zxy{a b:List Int}{k:Nat}(c:k<a.length)(d:k<b.length):zia (a.drop k) (b.drop k)=if a.getD k default<b.getD k default then-1 else if b.getD k default<a.getD k default then 1 else zia (a.drop (k+1)) (b.drop (k+1)):=by
 rw [z92 a k c,z92 b k d];rfl
theorem zv3: ∀ (a b:List Int),a.length=b.length→(zia a b=0↔a=b)
 | [],[],_=>by simp [zia]
 |x::a,y::b,h=>by
  have ih:=zv3 a b (by simpa using h)
  unfold zia
  by_cases h1:x<y
  ·rw [if_pos h1];simp;omega
  by_cases h2:y<x
  ·rw [if_neg h1,if_pos h2];simp;omega
  rw [if_neg h1,if_neg h2,ih,show x=y from by omega];simp
theorem cmpL_eq(a b:List Int):cmpL a b=0↔a=b:=by
 unfold cmpL
 by_cases h1:a.length<b.length
 ·rw [if_pos h1];exact⟨fun h=>absurd h (by decide),fun h=>by subst h;omega⟩
 by_cases h2:b.length<a.length
 ·rw [if_neg h1,if_pos h2];exact⟨fun h=>absurd h (by decide),fun h=>by subst h;omega⟩
 rw [if_neg h1,if_neg h2]
 exact zv3 a b (by omega)
theorem z0d{α:Type}[Inhabited α]{X Y:List α}(b:X.length=Y.length)(h: ∀ k,k<X.length→X.getD k default=Y.getD k default):X=Y:=by
 refine List.ext_getElem b fun k a c=>?_
 have:=h k a
 simpa only [List.getD_eq_getElem?_getD,List.getElem?_eq_getElem a,List.getElem?_eq_getElem c,Option.getD_some] using this
theorem zjy{a b:Mach}:a=b↔a.inputs=b.inputs∧a.outputs=b.outputs∧a.rows=b.rows:=by
 cases a;cases b;simp
def z9y(m:Mach)(k:Nat):Edge:=(m.rows.getD (k/m.inputs.toNat) default).getD (k%m.inputs.toNat) default
def z90(m:Mach)(k:Nat):List (Int×Int):=((List.range k).filter fun k=>decide ((z9y m k).to= -1∧(z9y m k).out= -1)).map fun k=>(((k/m.inputs.toNat:Nat):Int),((k%m.inputs.toNat:Nat):Int))
def zo6(m:Mach):List (Int×Int):=z90 m (m.rows.length*m.inputs.toNat)
theorem zqx(m:Mach):z90 m 0=[]:=rfl
theorem zj6(m:Mach)(k:Nat):z90 m (k+1)=z90 m k++if(z9y m k).to= -1∧(z9y m k).out= -1 then [(((k/m.inputs.toNat:Nat):Int),((k%m.inputs.toNat:Nat):Int))] else []:=by
 unfold z90
 rw [List.range_succ,List.filter_append,List.map_append]
 congr 1
 by_cases h:(z9y m k).to= -1∧(z9y m k).out= -1
 ·rw [if_pos h];simp [h]
 ·rw [if_neg h];simp only [List.filter_cons,List.filter_nil,decide_eq_false h];rfl
theorem zy3(m:Mach)(k:Nat):(z90 m k).length≤k:=by
 unfold z90;rw [List.length_map];exact Nat.le_trans (List.length_filter_le _ _) (by simp)
theorem zmy{n k i:Nat}(h:i<n):(k*n+i)/n=k:=by
 rw [Nat.mul_comm,Nat.mul_add_div (by omega),Nat.div_eq_of_lt h];rfl
theorem zne{n k i:Nat}(h:i<n):(k*n+i)%n=i:=by
 rw [Nat.mul_comm,Nat.mul_add_mod,Nat.mod_eq_of_lt h]
theorem MOk.mul{m:Mach}(a:MOk m):m.rows.length*m.inputs.toNat≤1024∧(m.rows.length:Int)*m.inputs=((m.rows.length*m.inputs.toNat:Nat):Int):=by
 have b:=a.r2;have c:=a.i1;have d:=a.i2
 refine⟨Nat.le_trans (Nat.mul_le_mul b (show m.inputs.toNat≤16 by omega)) (by decide),?_⟩
 rw [Int.natCast_mul,Int.toNat_of_nonneg (by omega)]
theorem q1b{n k i N:Nat}(a:k<N)(hi:i<n):k*n+i<N*n:=by
 have:(k+1)*n≤N*n:=Nat.mul_le_mul_right n a
 rw [Nat.succ_mul] at this;omega
def zoe(m:Mach):Bool:=if z0z m≠0 then false else decide (((zo6 m).length:Int)=0)
theorem q83{m:Mach}(a:MOk m)(s:Int)(k:Nat)(b:s.toNat<m.rows.length)(c:k<(m.rows.getD s.toNat default).length):SOk m ((m.rows.getD s.toNat default).getD k default).to:=by
 rcases a.edge s.toNat k b c with h|h
 ·exact .inl h.1
 ·exact .inr ⟨h.1,h.2.1⟩
inductive Reach (m:Mach) (s:Nat):Nat→Prop
 |refl:Reach m s s
 |step {t i:Nat}:Reach m s t→t<m.rows.length→i<(m.rows.getD t default).length→0≤((m.rows.getD t default).getD i default).to→Reach m s ((m.rows.getD t default).getD i default).to.toNat
theorem Reach.trans{m:Mach}{a b c:Nat}(h:Reach m a b)(k:Reach m b c):Reach m a c:=by
 induction k with
 |refl=>exact h
 |step _ e hi d ih=>exact .step ih e hi d
theorem Reach.lt{m:Mach}(c:MOk m){a b:Nat}(h:Reach m a b)(d:a<m.rows.length):b<m.rows.length:=by
 cases h with
 |refl=>exact d
 |step g e f i=>rcases c.edge _ _ e f with h|h<;>omega
def Closed(m:Mach)(Y:List Bool)(t:Nat):Prop:= ∀ i,i<(m.rows.getD t default).length→0≤((m.rows.getD t default).getD i default).to→Y.getD ((m.rows.getD t default).getD i default).to.toNat default=true
structure Vis (m:Mach) (X:List Bool) (s:Int) (Y:List Bool):Prop where
 len:Y.length=X.length
 cnt:Y.count false≤X.count false
 mono: ∀ t,X.getD t default=true→Y.getD t default=true
 here:0≤s→Y.getD s.toNat default=true
 reach: ∀ t,Y.getD t default=true→X.getD t default=true∨(0≤s∧Reach m s.toNat t)
 closed: ∀ t,t<m.rows.length→Y.getD t default=true→X.getD t default=true∨Closed m Y t
structure VisK (m:Mach) (X:List Bool) (s:Nat) (k:Nat) (Y:List Bool):Prop where
 len:Y.length=X.length
 cnt:Y.count false<X.count false
 mono: ∀ t,X.getD t default=true→Y.getD t default=true
 here:Y.getD s default=true
 reach: ∀ t,Y.getD t default=true→X.getD t default=true∨Reach m s t
 closed: ∀ t,t<m.rows.length→Y.getD t default=true→X.getD t default=true∨t=s∨Closed m Y t
 done: ∀ i,i<k→0≤((m.rows.getD s default).getD i default).to→Y.getD ((m.rows.getD s default).getD i default).to.toNat default=true
theorem q1i{m:Mach}{X:List Bool}{s:Int}(h:s= -1∨X.getD s.toNat default=true)(a:s= -1∨0≤s):Vis m X s X:=
 ⟨rfl,Nat.le_refl _,fun _ h=>h,fun b=>by rcases h with h|h;omega;exact h,fun _ h=> .inl h,fun _ _ h=> .inl h⟩
theorem zfe{X:List Bool}{s t:Nat}(a:s<X.length):(X.set s true).getD t default=if t=s then true else X.getD t default:=by
 simp only [List.getD_eq_getElem?_getD,List.getElem?_set]
 by_cases h:s=t
 ·subst h;simp [a]
 ·rw [if_neg h,if_neg (fun e=>h e.symm)]
theorem zgm: ∀ {X:List Bool} {s:Nat},s<X.length→X.getD s default=false→(X.set s true).count false+1=X.count false
 |x::X,0,_,h=>by
  have:x=false:=by simpa using h
  subst this
  simp
 |x::X,s+1,a,h=>by
  have:=zgm (X:=X) (s:=s) (by simpa using a) (by simpa using h)
  rw [List.set_cons_succ,List.count_cons,List.count_cons];omega
theorem zxn{m:Mach}{X:List Bool}{s:Nat}(c:s<X.length)(h:X.getD s default=false):VisK m X s 0 (X.set s true):=by
 have b:=fun t=>zfe (t:=t) c
 refine⟨by simp,by have:=zgm c h;omega,fun t a=>by rw [b];split<;>simp_all,by rw [b,if_pos rfl],fun t a=>?_,fun t _ a=>?_,fun i hi=>by omega⟩
 ·rw [b] at a
  by_cases e:t=s
  ·subst e;exact .inr .refl
  ·rw [if_neg e] at a;exact .inl a
 ·rw [b] at a
  by_cases e:t=s
  ·exact .inr (.inl e)
  ·rw [if_neg e] at a;exact .inl a
theorem zw0{m:Mach}{X Y Z:List Bool}{s k:Nat}(b:VisK m X s k Y)(f:s<m.rows.length)(g:k<(m.rows.getD s default).length)(a:Vis m Y ((m.rows.getD s default).getD k default).to Z):VisK m X s (k+1) Z:=by
 refine⟨a.len.trans b.len,Nat.lt_of_le_of_lt a.cnt b.cnt,fun t d=>a.mono t (b.mono t d),a.mono _ b.here,fun t d=>?_,fun t e d=>?_,fun i hi c=>?_⟩
 ·rcases a.reach t d with h|⟨c,h⟩
  ·exact b.reach t h
  ·exact .inr ((Reach.step .refl f g c).trans h)
 ·rcases a.closed t e d with h|h
  ·rcases b.closed t e h with h|h|h
   ·exact .inl h
   ·exact .inr (.inl h)
   ·exact .inr (.inr fun i hi c=>a.mono _ (h i hi c))
  ·exact .inr (.inr h)
 ·rcases Nat.lt_succ_iff_lt_or_eq.1 hi with h|rfl
  ·exact a.mono _ (b.done i h c)
  ·exact a.here c
theorem zyf{m:Mach}{X Y:List Bool}{s:Int}{k:Nat}(b:0≤s)(a:VisK m X s.toNat k Y)(e: ¬k<(m.rows.getD s.toNat default).length):Vis m X s Y:=
 ⟨a.len,Nat.le_of_lt a.cnt,a.mono,fun _=>a.here,fun t c=>(a.reach t c).imp id fun h=>⟨b,h⟩,fun t d c=>by
  rcases a.closed t d c with h|rfl|h
  ·exact .inl h
  ·exact .inr fun i hi b=>a.done i (by omega) b
  ·exact .inr h⟩
noncomputable def connB(m:Mach):Bool:= @decide (∀ t,t<m.rows.length→Reach m 0 t) (Classical.propDecidable _)
theorem q1a{m:Mach}{Y:List Bool}(d:Y.length=m.rows.length)(h: ∀ t,t<m.rows.length→(Y.getD t default=true↔Reach m 0 t)):connB m= !Y.contains false:=by
 unfold connB
 cases hc:Y.contains false
 ·refine(@decide_eq_true _ (Classical.propDecidable _) ?_).trans rfl
  intro t a
  rw [←h t a]
  cases hy:Y.getD t default with
  |true=>rfl
  |false=>
   have:Y.contains false=true:=by
    rw [List.contains_iff_mem,←hy];exact z1t (by omega)
   rw [hc] at this;cases this
 ·refine(@decide_eq_false _ (Classical.propDecidable _) ?_).trans rfl
  intro hall
  rw [List.contains_iff_mem] at hc
  obtain⟨k,b,c⟩:=List.getElem_of_mem hc
  have:=(h k (by omega)).2 (hall k (by omega))
  simp only [List.getD_eq_getElem?_getD,List.getElem?_eq_getElem b,Option.getD_some,c] at this
  cases this
theorem q0e{m:Mach}(e:MOk m){n:Nat}(g:n=m.rows.length){Y:List Bool}(h:Vis m (List.replicate n false) 0 Y):connB m= !Y.contains false:=by
 have l:=e.r1
 have f: ∀ t,(List.replicate n false).getD t default=false:=fun t=>by
  simp only [List.getD_eq_getElem?_getD,List.getElem?_replicate];split<;>rfl
 have b: ∀ t,t<m.rows.length→Y.getD t default=true→Closed m Y t:=fun t a c=>(h.closed t a c).resolve_left (by rw [f];simp)
 refine q1a (by rw [h.len];simp [g]) fun t a=>⟨fun c=>?_,fun d=>?_⟩
 ·exact((h.reach t c).resolve_left (by rw [f];simp)).2
 ·clear a
  have key: ∀ t,Reach m 0 t→Y.getD t default=true∧t<m.rows.length:=by
   intro t a
   refine⟨?_,a.lt e (by omega)⟩
   induction a with
   |refl=>exact h.here (Int.le_refl _)
   |step o i j k ih=>exact b _ i ih _ j k
  exact(key t d).1
theorem zpo(Y:List Bool):(Y.any fun x=>decide (false=x))=Y.contains false:=by
 rw [Bool.eq_iff_iff,List.any_eq_true,List.contains_iff_mem]
 exact⟨fun⟨x,a,h⟩=>by rw [of_decide_eq_true h];exact a,fun h=>⟨false,h,rfl⟩⟩
theorem zr5{x y:Edge}(h:x.to=y.to∧x.out=y.out):x=y:=by cases x;cases y;simp at h;simp [h]
theorem zcj{P:Nat→Prop}{k:Nat}(h: ∀ j,j<k→P j)(a:P k): ∀ j,j<k+1→P j:=fun j b=>by
 rcases Nat.lt_succ_iff_lt_or_eq.1 b with c|rfl
 ·exact h j c
 ·exact a
def zra(a b:Mach):Bool:=(((decide (z0z a=0)&&decide (z0z b=0))&&decide (a.inputs=b.inputs))&&decide (a.outputs=b.outputs))&&decide (a.rows=b.rows)
theorem zy1(a b:Mach):zra a b=true↔MOk a∧a=b:=by
 unfold zra
 simp only [Bool.and_eq_true,decide_eq_true_eq,z2y]
 rw [zjy]
 refine⟨fun⟨⟨⟨⟨f,g⟩,c⟩,d⟩,e⟩=>⟨f,c,d,e⟩,fun⟨f,c,d,e⟩=>⟨⟨⟨⟨f,?_⟩,c⟩,d⟩,e⟩⟩
 rwa [←(zjy.2 ⟨c,d,e⟩:a=b)]
theorem zz1{m:Mach}{x:Edge}(h:(x.to= -1∧x.out= -1)∨(0≤x.to∧x.to<m.rows.length∧0≤x.out∧x.out<m.outputs)):(!zhl m x)=false:=by rw [(zi8 m x).2 h];rfl
theorem q56{m:Mach}{x:Edge}(h: ¬((x.to= -1∧x.out= -1)∨(0≤x.to∧x.to<m.rows.length∧0≤x.out∧x.out<m.outputs))):(!zhl m x)=true:=by
 cases hf:zhl m x
 ·rfl
 ·exact absurd ((zi8 m x).1 hf) h
def z8z(m:Mach):Bool:=decide ((zvy m:Int)=m.rows.length*m.inputs)
def q6n(m:Mach)(Y:List Bool):Prop:= ∀ t,t<m.rows.length→Y.getD t default=true→Closed m Y t
structure RInv (m:Mach) (a:Nat) (r:Nat) (Y:List Bool):Prop where
 len:Y.length=m.rows.length
 sound: ∀ t,Y.getD t default=true→Reach m a t
 start:Y.getD a default=true
 prog:q6n m Y∨r<Y.count true
structure RPass (m:Mach) (a:Nat) (Y0:List Bool) (s i:Nat) (Y:List Bool):Prop where
 len:Y.length=m.rows.length
 sound: ∀ t,Y.getD t default=true→Reach m a t
 start:Y.getD a default=true
 fix:q6n m Y0→Y=Y0
 prog:Y0.count true<Y.count true∨(Y=Y0∧ ∀ t,t<m.rows.length→Y.getD t default=true→ ∀ j,(t<s∨(t=s∧j<i))→j<(m.rows.getD t default).length→0≤((m.rows.getD t default).getD j default).to→Y.getD ((m.rows.getD t default).getD j default).to.toNat default=true)
theorem zzv{Y:List Bool}{t:Nat}(h:Y.getD t default=true)(a:t<Y.length):Y.set t true=Y:=by
 refine z0d (by simp) fun k b=>?_
 rw [zfe a]
 by_cases e:k=t
 ·subst e;rw [if_pos rfl,h]
 ·rw [if_neg e]
theorem zgd: ∀ {X:List Bool} {s:Nat},s<X.length→X.getD s default=false→(X.set s true).count true=X.count true+1
 |x::X,0,_,h=>by
  have:x=false:=by simpa using h
  subst this
  simp
 |x::X,s+1,a,h=>by
  have:=zgd (X:=X) (s:=s) (by simpa using a) (by simpa using h)
  rw [List.set_cons_succ,List.count_cons,List.count_cons];omega
theorem q37{m:Mach}{a r:Nat}{Y:List Bool}(h:RInv m a r Y):RPass m a Y 0 0 Y:=
 ⟨h.len,h.sound,h.start,fun _=>rfl,.inr ⟨rfl,fun t _ _ j b=>by omega⟩⟩
theorem q3y{m:Mach}{a s i:Nat}{c Y:List Bool}(h:RPass m a c s i Y)(g: ¬(Y.getD s default=true∧0≤((m.rows.getD s default).getD i default).to)):RPass m a c s (i+1) Y:=by
 refine⟨h.len,h.sound,h.start,h.fix,h.prog.imp id fun⟨e,k⟩=>⟨e,fun t l d j n b f=>?_⟩⟩
 by_cases e:t=s∧j=i
 ·obtain⟨rfl,rfl⟩:=e;exact absurd ⟨d,f⟩ g
 ·exact k t l d j (by omega) b f
theorem q5h{m:Mach}{a s i:Nat}{g Y:List Bool}(q:MOk m)(h:RPass m a g s i Y)(c:s<m.rows.length)(hi:i<(m.rows.getD s default).length)(k:Y.getD s default=true)(l:0≤((m.rows.getD s default).getD i default).to):
 RPass m a g s (i+1) (Y.set ((m.rows.getD s default).getD i default).to.toNat true):=by
 have d:((m.rows.getD s default).getD i default).to.toNat<Y.length:=by
  rw [h.len];rcases q.edge s i c hi with h|h<;>omega
 cases hv:Y.getD ((m.rows.getD s default).getD i default).to.toNat default with
 |true=>
  rw [zzv hv d]
  refine⟨h.len,h.sound,h.start,h.fix,h.prog.imp id fun⟨e,r⟩=>⟨e,fun t b hy' j u f h0'=>?_⟩⟩
  by_cases e:t=s∧j=i
  ·obtain⟨rfl,rfl⟩:=e;exact hv
  ·exact r t b hy' j (by omega) f h0'
 |false=>
  have n:=fun t=>zfe (t:=t) d
  refine⟨by simp [h.len],fun t b=>?_,by rw [n];split;rfl;exact h.start,fun o=>?_,.inl ?_⟩
  ·rw [n] at b
   by_cases e:t=((m.rows.getD s default).getD i default).to.toNat
   ·subst e;exact .step (h.sound _ k) c hi l
   ·rw [if_neg e] at b;exact h.sound t b
  ·have e:=h.fix o
   subst e
   have:=o s c k i hi l
   rw [hv] at this;cases this
  ·rw [zgd d hv]
   rcases h.prog with p|⟨p,_⟩
   ·omega
   ·subst p;omega
theorem q6d{m:Mach}{a s i:Nat}{d Y:List Bool}(h:RPass m a d s i Y)(hi:(m.rows.getD s default).length≤i):RPass m a d (s+1) 0 Y:=
 ⟨h.len,h.sound,h.start,h.fix,h.prog.imp id fun⟨e,f⟩=>⟨e,fun t g k j b c l=>f t g k j (by
  rcases b with b|b
  ·by_cases e:t=s
   ·subst e;exact .inr ⟨rfl,by omega⟩
   ·exact .inl (by omega)
  ·omega) c l⟩⟩
theorem q5q{m:Mach}{a s r:Nat}{d Y:List Bool}(h:RPass m a d s 0 Y)(k:m.rows.length≤s)(b:RInv m a r d):RInv m a (r+1) Y:=by
 refine⟨h.len,h.sound,h.start,?_⟩
 rcases b.prog with c|c
 ·rw [h.fix c];exact .inl c
 ·rcases h.prog with l|⟨_,e⟩
  ·exact .inr (by omega)
  ·exact .inl fun t f g j i b=>e t f g j (.inl (by omega)) i b
theorem zx9{m:Mach}{a:Nat}(g:a<m.rows.length):RInv m a 0 ((List.replicate m.rows.length false).set a true):=by
 have c:a<(List.replicate m.rows.length false).length:=by simpa using g
 have d: ∀ t,(List.replicate m.rows.length false).getD t default=false:=fun t=>by
  simp only [List.getD_eq_getElem?_getD,List.getElem?_replicate];split<;>rfl
 have f:=fun t=>zfe (t:=t) c
 refine⟨by simp,fun t b=>?_,by rw [f,if_pos rfl],.inr (by rw [zgd c (d a)];omega)⟩
 rw [f,d] at b
 by_cases e:t=a
 ·subst e;exact .refl
 ·rw [if_neg e] at b;cases b
noncomputable def reachL(m:Mach)(a:Nat):List Bool:=(List.range m.rows.length).map fun t=> @decide (Reach m a t) (Classical.propDecidable _)
theorem z8y{m:Mach}{a t:Nat}(b:t<m.rows.length):(reachL m a).getD t default=true↔Reach m a t:=by
 unfold reachL
 simp only [List.getD_eq_getElem?_getD,List.getElem?_map,List.getElem?_range b,Option.map_some,Option.getD_some]
 exact⟨fun h=> @of_decide_eq_true _ (Classical.propDecidable _) h,fun h=> @decide_eq_true _ (Classical.propDecidable _) h⟩
theorem z9a(m:Mach)(a:Nat):(reachL m a).length=m.rows.length:=by simp [reachL]
theorem q0g{m:Mach}{a r:Nat}{Y:List Bool}(i:MOk m)(j:a<m.rows.length)(h:RInv m a r Y)(n:m.rows.length≤r):Y=reachL m a:=by
 have b:q6n m Y:=h.prog.resolve_right (by have:=List.count_le_length (a:=true) (l:=Y);rw [h.len] at this;omega)
 have key: ∀ t,Reach m a t→Y.getD t default=true:=by
  intro t c
  induction c with
  |refl=>exact h.start
  |step o d e f ih=>exact b _ d ih _ e f
 refine z0d (by rw [h.len,z9a]) fun k g=>?_
 rw [Bool.eq_iff_iff,z8y (by rw [←h.len];exact g)]
 exact⟨h.sound k,key k⟩
theorem zv1{m:Mach}(h: ∀ j,j<m.rows.length→(reachL m 0).getD j default=true):connB m=true:=by
 unfold connB
 exact @decide_eq_true _ (Classical.propDecidable _) fun t a=>(z8y a).1 (h t a)
theorem zul{m:Mach}{j:Nat}(a:j<m.rows.length)(h:(reachL m 0).getD j default=false):connB m=false:=by
 unfold connB
 refine @decide_eq_false _ (Classical.propDecidable _) fun hall=>?_
 rw [(z8y a).2 (hall j a)] at h;cases h
def MDat.n(x:MDat):Int:=1+x.states%6
def MDat.inp(x:MDat):Int:=1+x.ins%3
def MDat.out(x:MDat):Int:=1+x.outs%3
def MDat.num(x:MDat)(k:Nat):Int:=if k<x.edges.length then x.edges.getD k default else 0
def zqd(x:MDat)(v:Int):Edge:=if x.part=true∧v%4=3 then⟨-1,-1⟩ else⟨v/4%x.n,v/4/x.n%x.out⟩
def zh1(x:MDat)(s i:Nat):Edge:=zqd x (x.num (s*x.inp.toNat+i))
def zpe(x:MDat)(s:Nat):List Edge:=(List.range x.inp.toNat).map (zh1 x s)
def mOf(x:MDat):Mach:=⟨x.inp,x.out,(List.range x.n.toNat).map (zpe x)⟩
structure MDOk (x:MDat):Prop where
 st:0≤x.states∧x.states≤255
 ins:0≤x.ins∧x.ins≤255
 outs:0≤x.outs∧x.outs≤255
 ed: ∀ k,k<x.edges.length→0≤x.edges.getD k default∧x.edges.getD k default≤65535
theorem MDOk.num{x:MDat}(h:MDOk x)(k:Nat):0≤x.num k∧x.num k≤65535:=by
 unfold MDat.num
 split
 ·exact h.ed k (by assumption)
 ·omega
theorem ae{α:Type}[Inhabited α](f:Nat→α){n k:Nat}(h:k<n):((List.range n).map f).getD k default=f k:=by
 simp [List.getD_eq_getElem?_getD,h]
theorem zyc{x:MDat}{v:Int}{m:Mach}(c:0≤v)(a:(m.rows.length:Int)=x.n)(b:m.outputs=x.out)(d:1≤x.n)(e:1≤x.out):eOk m (zqd x v):=by
 unfold zqd eOk
 split
 ·exact .inl ⟨rfl,rfl⟩
 ·refine .inr ⟨Int.emod_nonneg _ (by omega),?_,Int.emod_nonneg _ (by omega),?_⟩
  ·rw [a];exact Int.emod_lt_of_pos _ (by omega)
  ·rw [b];exact Int.emod_lt_of_pos _ (by omega)
theorem zj0{x:MDat}(h:MDOk x):MOk (mOf x):=by
 have e:=h.st;have f:=h.ins;have g:=h.outs
 have c:1≤x.n∧x.n≤6:=by unfold MDat.n;omega
 have d:1≤x.inp∧x.inp≤3:=by unfold MDat.inp;omega
 have b:1≤x.out∧x.out≤3:=by unfold MDat.out;omega
 have j:(mOf x).rows.length=x.n.toNat:=by simp [mOf]
 have hrow: ∀ s,s<(mOf x).rows.length→(mOf x).rows.getD s default=zpe x s:=fun s a=>ae _ (by omega)
 refine⟨d.1,by show x.inp≤16;omega,b.1,by show x.out≤16;omega,by omega,by omega,fun s a=>?_,fun s i a hi=>?_⟩
 ·rw [hrow s a];show ((zpe x s).length:Int)=x.inp;simp [zpe];omega
 ·rw [hrow s a] at hi⊢
  have hi':i<x.inp.toNat:=by simpa [zpe] using hi
  rw [show (zpe x s).getD i default=zh1 x s i from ae _ hi']
  exact zyc (h.num _).1 (by omega) rfl c.1 b.1
theorem q1y{x:MDat}{s i:Nat}{v:Int}(a:x.num (s*x.inp.toNat+i)=v)(h:x.part=true∧v%4=3):zh1 x s i=⟨-1,-1⟩:=by
 unfold zh1 zqd;rw [a,if_pos h]
theorem q3q{x:MDat}{s i:Nat}{v:Int}(b:x.num (s*x.inp.toNat+i)=v)(h:x.part=true→ ¬v%4=3):zh1 x s i=⟨v/4%x.n,v/4/x.n%x.out⟩:=by
 unfold zh1 zqd;rw [b,if_neg (fun a=>h a.1 a.2)]
theorem z2w{α:Type}(f:Nat→α)(k:Nat):(List.range (k+1)).map f=(List.range k).map f++[f k]:=by rw [List.range_succ,List.map_append];rfl
theorem zvx{k:Nat}{a:Int}(b:k≤6)(c:1≤a∧a≤3):0≤(k:Int)*a∧(k:Int)*a≤18∧(k:Int)*a=((k*a.toNat:Nat):Int):=by
 have e:(k:Int)*a=((k*a.toNat:Nat):Int):=by rw [Int.natCast_mul,Int.toNat_of_nonneg (by omega)]
 have h:k*a.toNat≤6*3:=Nat.mul_le_mul b (by omega)
 exact⟨by omega,by omega,e⟩
def wOf(x:WDat)(n:Int):List Int:=(x.syms.take 12).map (· %n)
structure WDOk (x:WDat):Prop where
 sy: ∀ k,k<x.syms.length→0≤x.syms.getD k default∧x.syms.getD k default≤255
theorem q1v{x:WDat}{n:Int}{k:Nat}(a:k<x.syms.length):(x.syms.take (k+1)).map (· %n)=(x.syms.take k).map (· %n)++[x.syms.getD k default%n]:=by
 rw [z99 _ k a,List.map_append];rfl
theorem q49{x:WDat}{n:Int}{k:Nat}(a:k≤x.syms.length)(b:k≤12)(h:k<x.syms.length→12≤k):(x.syms.take k).map (· %n)=wOf x n:=by
 unfold wOf
 by_cases e:k<x.syms.length
 ·rw [show k=12 from by have:=h e;omega]
 ·rw [List.take_of_length_le (by omega),List.take_of_length_le (by omega)]
theorem zt8{x:WDat}{n:Int}(b:1≤n):WOk n (wOf x n)∧(wOf x n).length≤12:=by
 refine⟨fun k a=>?_,by unfold wOf;rw [List.length_map,List.length_take];omega⟩
 unfold wOf at a⊢
 rw [List.length_map] at a
 simp only [List.getD_eq_getElem?_getD,List.getElem?_map,List.getElem?_eq_getElem a,Option.map_some,Option.getD_some]
 exact⟨Int.emod_nonneg _ (by omega),Int.emod_lt_of_pos _ (by omega)⟩
end GV
end Go.Proofs.YtkcccdcloealfaaGreat

namespace Go.Proofs.YtkcccdcloealfaaGreat
namespace GV
section names
variable {κ κ' : Type} [DecidableEq κ] [DecidableEq κ']
def z1v(f:Nat→κ)(u:Nat):Bool:=(List.range u).all fun t=>decide (f t≠f u)
theorem oo{f:Nat→κ}{u:Nat}:z1v f u=true↔ ∀ t,t<u→f t≠f u:=by
 unfold z1v
 rw [List.all_eq_true]
 exact⟨fun h t a=>of_decide_eq_true (h t (List.mem_range.2 a)),fun h t a=>decide_eq_true (h t (List.mem_range.1 a))⟩
def cntF(f:Nat→κ):Nat→Nat
 |0=>0
 |u+1=>cntF f u+if z1v f u=true then 1 else 0
theorem z9d(f:Nat→κ): ∀ u,cntF f u≤u
 |0=>Nat.le_refl _
 |u+1=>by have:=z9d f u;unfold cntF;split<;>omega
theorem cntF_step(f:Nat→κ)(u:Nat):cntF f u≤cntF f (u+1):=by show _≤cntF f u+_;omega
theorem znj(f:Nat→κ){u v:Nat}(h:u≤v):cntF f u≤cntF f v:=by
 induction v with
 |zero=>rw [show u=0 by omega];exact Nat.le_refl _
 |succ v ih=>
  by_cases e:u=v+1
  ·rw [e];exact Nat.le_refl _
  ·exact Nat.le_trans (ih (by omega)) (cntF_step f v)
theorem za9(f:Nat→κ){u v:Nat}(h:u<v)(a:z1v f u=true):cntF f u<cntF f v:=by
 have b:=znj f (show u+1≤v by omega)
 have c:cntF f (u+1)=cntF f u+1:=by show cntF f u+_=_;rw [if_pos a]
 omega
theorem zz0{f:Nat→κ}{u v:Nat}(a:z1v f u=true)(b:z1v f v=true)(h:cntF f u=cntF f v):u=v:=by
 rcases Nat.lt_trichotomy u v with e|e|e
 ·have:=za9 f e a;omega
 ·exact e
 ·have:=za9 f e b;omega
theorem znn(f:Nat→κ): ∀ {n c:Nat},c<cntF f n→ ∃ u,u<n∧z1v f u=true∧cntF f u=c
 |0,c,h=>by simp [cntF] at h
 |n+1,c,h=>by
  by_cases h1:c<cntF f n
  ·obtain⟨u,b,a⟩:=znn f h1
   exact⟨u,by omega,a⟩
  ·have a:c<cntF f n+if z1v f n=true then 1 else 0:=h
   by_cases h3:z1v f n=true
   ·rw [if_pos h3] at a
    exact⟨n,by omega,h3,by omega⟩
   ·rw [if_neg h3] at a;omega
def z7v(f:Nat→κ)(s:Nat):Nat:=((List.range s).find? fun t=>decide (f t=f s)).getD s
theorem z4q(f:Nat→κ)(s:Nat):z7v f s≤s∧f (z7v f s)=f s∧ ∀ t,t<z7v f s→f t≠f s:=by
 unfold z7v
 cases h:(List.range s).find? fun t=>decide (f t=f s) with
 |none=>
  rw [List.find?_eq_none] at h
  exact⟨Nat.le_refl _,rfl,fun t a=>by simpa using h t (List.mem_range.2 a)⟩
 |some u=>
  obtain⟨c,i,d,b,e⟩:=List.find?_eq_some_iff_getElem.1 h
  rw [List.getElem_range] at b
  subst b
  rw [List.length_range] at d
  refine⟨by show i≤s;omega,by simpa using c,fun t a=>?_⟩
  have:=e t a
  rw [List.getElem_range] at this
  simpa using this
theorem z7z(f:Nat→κ)(s:Nat):z1v f (z7v f s)=true:=by
 obtain⟨d,a,b⟩:=z4q f s
 exact oo.2 fun t c=>by rw [a];exact b t c
theorem zlu{f:Nat→κ}{u s:Nat}(a:z1v f u=true)(h:f u=f s)(b:u≤s):z7v f s=u:=by
 obtain⟨g,c,d⟩:=z4q f s
 rcases Nat.lt_trichotomy (z7v f s) u with e|e|e
 ·exact absurd (c.trans h.symm) (oo.1 a _ e)
 ·exact e
 ·exact absurd h (d u e)
theorem zci{f:Nat→κ}{u:Nat}(a:z1v f u=true):z7v f u=u:=zlu a rfl (Nat.le_refl _)
theorem zkm{f:Nat→κ}{s t:Nat}(h:f s=f t):z7v f s=z7v f t:=by
 obtain⟨g,a,b⟩:=z4q f s
 obtain⟨i,c,d⟩:=z4q f t
 rcases Nat.lt_trichotomy (z7v f s) (z7v f t) with e|e|e
 ·exact absurd (a.trans h) (d _ e)
 ·exact e
 ·exact absurd (c.trans h.symm) (b _ e)
def name(f:Nat→κ)(s:Nat):Nat:=cntF f (z7v f s)
theorem zhr{f:Nat→κ}{s t:Nat}:name f s=name f t↔f s=f t:=by
 constructor
 ·intro h
  have:=zz0 (z7z f s) (z7z f t) h
  rw [←(z4q f s).2.1,this,(z4q f t).2.1]
 ·intro h;unfold name;rw [zkm h]
theorem q3o{f:Nat→κ}{s n:Nat}(h:s<n):name f s<cntF f n:=za9 f (Nat.lt_of_le_of_lt (z4q f s).1 h) (z7z f s)
theorem zae{f:Nat→κ}{u:Nat}(h:z1v f u=true):name f u=cntF f u:=by unfold name;rw [zci h]
theorem zn6(f:Nat→κ):name f 0=0:=by
 unfold name
 rw [zci (oo.2 fun t a=>by omega)];rfl
/-! Only which keys are equal counts. -/
theorem zg3{f:Nat→κ}{g:Nat→κ'}{n:Nat}(h: ∀ s t,s<n→t<n→(f s=f t↔g s=g t)){u:Nat}(b:u<n):z1v f u=z1v g u:=by
 rw [Bool.eq_iff_iff,oo,oo]
 exact⟨fun k t a e=>k t a ((h t u (by omega) b).2 e),fun k t a e=>k t a ((h t u (by omega) b).1 e)⟩
theorem zg6{f:Nat→κ}{g:Nat→κ'}{n:Nat}(h: ∀ s t,s<n→t<n→(f s=f t↔g s=g t)): ∀ {u:Nat},u≤n→cntF f u=cntF g u
 |0,_=>rfl
 |u+1,a=>by
  show cntF f u+_=cntF g u+_
  rw [zg6 h (by omega),zg3 h (show u<n by omega)]
theorem zy9{f:Nat→κ}{g:Nat→κ'}{n:Nat}(h: ∀ s t,s<n→t<n→(f s=f t↔g s=g t)){s:Nat}(a:s<n):z7v f s=z7v g s:=by
 obtain⟨b,c,d⟩:=z4q g s
 refine zlu ?_ ((h _ _ (by omega) a).2 c) b
 rw [zg3 h (by omega)];exact z7z g s
theorem zb6{f:Nat→κ}{g:Nat→κ'}{n:Nat}(h: ∀ s t,s<n→t<n→(f s=f t↔g s=g t)){s:Nat}(a:s<n):name f s=name g s:=by
 have:=(z4q g s).1
 unfold name
 rw [zy9 h a,zg6 h (by omega)]
/-! A map from keys to names,as the first k things are named. -/
def nmM(f:Nat→κ):Nat→List (κ×Int)
 |0=>[]
 |k+1=>nmM f k++if z1v f k=true then [(f k,(cntF f k:Int))] else []
theorem zpi(f:Nat→κ): ∀ k,(nmM f k).length=cntF f k
 |0=>rfl
 |k+1=>by
  show (nmM f k++_).length=cntF f k+_
  rw [List.length_append,zpi f k]
  split<;>rfl
theorem zre{β:Type}{M M':List (κ×β)}{x:κ}:z6e (M++M') x=(z6e M x||z6e M' x):=by
 induction M with
 |nil=>rfl
 |cons p l ih=>
  show (if x=p.1 then true else z6e (l++M') x)=((if x=p.1 then true else z6e l x)||z6e M' x)
  split
  ·rfl
  ·exact ih
theorem zs5{β:Type}{z:β}{M M':List (κ×β)}{x:κ}:z4x z (M++M') x=if z6e M x=true then z4x z M x else z4x z M' x:=by
 induction M with
 |nil=>rfl
 |cons p l ih=>
  show (if x=p.1 then p.2 else z4x z (l++M') x)=if(if x=p.1 then true else z6e l x)=true then(if x=p.1 then p.2 else z4x z l x) else z4x z M' x
  by_cases h:x=p.1
  ·simp [h]
  ·simp only [if_neg h];exact ih
theorem q0m{β:Type}{M:List (κ×β)}{x:κ}{v:β}(h:z6e M x=false):z98 M x v=M++[(x,v)]:=by
 induction M with
 |nil=>rfl
 |cons p l ih=>
  unfold z6e at h
  by_cases e:x=p.1
  ·simp [e] at h
  ·rw [if_neg e] at h
   simp only [z98,if_neg e,ih h,List.cons_append]
theorem zd3(f:Nat→κ)(x:κ): ∀ k,z6e (nmM f k) x=true↔ ∃ t,t<k∧f t=x
 |0=>⟨fun h=>by simp [nmM,z6e] at h,fun⟨t,c,_⟩=>by omega⟩
 |k+1=>by
  show z6e (nmM f k++_) x=true↔_
  rw [zre,Bool.or_eq_true,zd3 f x k]
  constructor
  ·rintro(⟨t,c,h⟩|h)
   ·exact⟨t,by omega,h⟩
   ·split at h
    ·by_cases e:x=f k
     ·exact⟨k,by omega,e.symm⟩
     ·simp [z6e,e] at h
    ·simp [z6e] at h
  ·rintro⟨t,c,h⟩
   by_cases e: ∃ u,u<k∧f u=x
   ·exact .inl e
   ·have a:t=k:=by
     rcases Nat.lt_or_ge t k with d|d
     ·exact absurd ⟨t,d,h⟩ e
     ·omega
    subst a
    right
    rw [if_pos (oo.2 fun u g b=>e ⟨u,g,b.trans h⟩)]
    simp [z6e,h]
theorem zp6(f:Nat→κ){s:Nat}: ∀ k,s<k→z4x 0 (nmM f k) (f s)=(name f s:Int)
 |0,h=>by omega
 |k+1,h=>by
  show z4x 0 (nmM f k++_) (f s)=_
  rw [zs5]
  by_cases e:z6e (nmM f k) (f s)=true
  ·rw [if_pos e]
   obtain⟨t,i,a⟩:=(zd3 f _ k).1 e
   rw [←a,zp6 f k i,zhr.2 a]
  ·rw [if_neg e]
   have d: ∀ u,u<k→f u≠f s:=fun u j c=>e ((zd3 f _ k).2 ⟨u,j,c⟩)
   have l:s=k:=by
    rcases Nat.lt_or_ge s k with g|g
    ·exact absurd rfl (d s g)
    ·omega
   subst l
   have b:=oo.2 d
   rw [if_pos b,zae b]
   simp [z4x]
theorem zuv(f:Nat→κ){k:Nat}(h:z6e (nmM f k) (f k)=false):z98 (nmM f k) (f k) ((nmM f k).length:Int)=nmM f (k+1):=by
 have a:z1v f k=true:=oo.2 fun t c b=>by
  have:=(zd3 f (f k) k).2 ⟨t,c,b⟩
  rw [h] at this;cases this
 rw [q0m h,zpi]
 show _=nmM f k++_
 rw [if_pos a]
theorem zuj(f:Nat→κ){k:Nat}(h:z6e (nmM f k) (f k)=true):nmM f (k+1)=nmM f k:=by
 obtain⟨t,b,a⟩:=(zd3 f _ k).1 h
 show nmM f k++_=_
 rw [if_neg (fun c=>oo.1 c t b a),List.append_nil]
def zw7(f:Nat→κ)(n:Nat):List Int:=(List.range n).map fun s=>(name f s:Int)
theorem zs9{f:Nat→κ}{g:Nat→κ'}{n:Nat}(h: ∀ s t,s<n→t<n→(f s=f t↔g s=g t)):zw7 f n=zw7 g n:=by
 unfold zw7
 refine List.map_congr_left fun s a=>?_
 rw [zb6 h (List.mem_range.1 a)]
end names
def z2f{κ:Type}[DecidableEq κ](f:Nat→κ)(n:Nat):List Nat:=(List.range n).filter fun u=>z1v f u
section z2f
variable {κ : Type} [DecidableEq κ] {f : Nat → κ}
theorem zc5(n:Nat):z2f f (n+1)=z2f f n++if z1v f n=true then [n] else []:=by
 unfold z2f
 rw [List.range_succ,List.filter_append]
 congr 1
 by_cases h:z1v f n=true
 ·rw [if_pos h,List.filter_cons_of_pos h];rfl
 ·rw [if_neg h,List.filter_cons_of_neg h];rfl
theorem z4l: ∀ n,(z2f f n).length=cntF f n
 |0=>rfl
 |n+1=>by
  rw [zc5,List.length_append,z4l n]
  show _=cntF f n+_
  split<;>rfl
theorem zld: ∀ {n u:Nat},u<n→z1v f u=true→(z2f f n).getD (cntF f u) 0=u
 |0,u,h,_=>by omega
 |n+1,u,h,a=>by
  rw [zc5]
  by_cases e:u=n
  ·subst e
   rw [if_pos a,List.getD_eq_getElem?_getD,←z4l u,List.getElem?_concat_length];rfl
  ·have b:=za9 f (show u<n by omega) a
   rw [List.getD_eq_getElem?_getD,List.getElem?_append_left (by rw [z4l];exact b),←List.getD_eq_getElem?_getD]
   exact zld (by omega) a
theorem z6f{n c:Nat}(h:c<cntF f n):(z2f f n).getD c 0<n∧z1v f ((z2f f n).getD c 0)=true∧cntF f ((z2f f n).getD c 0)=c:=by
 obtain⟨u,a,b,rfl⟩:=znn f h
 rw [zld a b]
 exact⟨a,b,rfl⟩
end z2f
end GV
end Go.Proofs.YtkcccdcloealfaaGreat

namespace Go.Proofs.YtkcccdcloealfaaGreat
namespace GV
/-! ### The order of words-/
def z8b:List Int→List Int→Prop
 |a::x,b::y=>a<b∨(a=b∧z8b x y)
 |_,_=>False
def llt(a b:List Int):Prop:=a.length<b.length∨(a.length=b.length∧z8b a b)
def lle(a b:List Int):Prop:=a=b∨llt a b
theorem z6d: ∀ a,¬z8b a a
 | [],h=>h
 |x::a,h=>by
  rcases h with h|⟨_,h⟩
  ·omega
  ·exact z6d a h
theorem zbh: ∀ {a b c},z8b a b→z8b b c→z8b a c
 | [],_,_,h,_=>h.elim
 |_::_,[],_,h,_=>h.elim
 |_::_,_::_,[],_,h=>h.elim
 |x::a,y::b,z::c,h,k=>by
  rcases h with h|⟨rfl,h⟩
  ·rcases k with k|⟨rfl,k⟩
   ·exact .inl (by omega)
   ·exact .inl h
  ·rcases k with k|⟨rfl,k⟩
   ·exact .inl k
   ·exact .inr ⟨rfl,zbh h k⟩
theorem zbj: ∀ {a b:List Int},a.length=b.length→z8b a b∨a=b∨z8b b a
 | [],[],_=> .inr (.inl rfl)
 | [],_::_,h=>by simp at h
 |_::_,[],h=>by simp at h
 |x::a,y::b,h=>by
  rcases Int.lt_trichotomy x y with e|rfl|e
  ·exact .inl (.inl e)
  ·rcases zbj (a:=a) (b:=b) (by simpa using h) with k|rfl|k
   ·exact .inl (.inr ⟨rfl,k⟩)
   ·exact .inr (.inl rfl)
   ·exact .inr (.inr (.inr ⟨rfl,k⟩))
  ·exact .inr (.inr (.inl e))
theorem zlw: ∀ {a b:List Int} (i j:Int),z8b a b→a.length=b.length→z8b (a++[i]) (b++[j])
 | [],_,_,_,h,_=>h.elim
 |_::_,[],_,_,h,_=>h.elim
 |x::a,y::b,i,j,h,c=>by
  rcases h with h|⟨rfl,h⟩
  ·exact .inl h
  ·exact .inr ⟨rfl,zlw i j h (by simpa using c)⟩
theorem zla: ∀ (a:List Int) {i j:Int},i<j→z8b (a++[i]) (a++[j])
 | [],_,_,h=> .inl h
 |_::a,_,_,h=> .inr ⟨rfl,zla a h⟩
theorem zas(a:List Int): ¬llt a a:=by
 rintro(h|⟨_,h⟩)
 ·omega
 ·exact z6d a h
theorem zah{a b c:List Int}(h:llt a b)(k:llt b c):llt a c:=by
 rcases h with h|⟨h,h'⟩
 ·rcases k with k|⟨k,_⟩
  ·exact .inl (by omega)
  ·exact .inl (by omega)
 ·rcases k with k|⟨k,k'⟩
  ·exact .inl (by omega)
  ·exact .inr ⟨by omega,zbh h' k'⟩
theorem zwy(a b:List Int):llt a b∨a=b∨llt b a:=by
 rcases Nat.lt_trichotomy a.length b.length with h|h|h
 ·exact .inl (.inl h)
 ·rcases zbj h with k|k|k
  ·exact .inl (.inr ⟨h,k⟩)
  ·exact .inr (.inl k)
  ·exact .inr (.inr (.inr ⟨h.symm,k⟩))
 ·exact .inr (.inr (.inl h))
theorem zm4{a b:List Int}(i j:Int)(h:llt a b):llt (a++[i]) (b++[j]):=by
 rcases h with h|⟨h,h'⟩
 ·exact .inl (by simp;omega)
 ·exact .inr ⟨by simp [h],zlw i j h' h⟩
theorem q0t(a:List Int){i j:Int}(h:i<j):llt (a++[i]) (a++[j]):= .inr ⟨by simp,zla a h⟩
theorem zms{a b c:List Int}(h:lle a b)(k:lle b c):lle a c:=by
 rcases h with rfl|h
 ·exact k
 ·rcases k with rfl|k
  ·exact .inr h
  ·exact .inr (zah h k)
theorem q0p{a b:List Int}(i:Int)(h:lle a b):lle (a++[i]) (b++[i]):=by
 rcases h with rfl|h
 ·exact .inl rfl
 ·exact .inr (zm4 i i h)
theorem zot{a b c:List Int}(h:lle a b)(k:llt b c):llt a c:=by
 rcases h with rfl|h
 ·exact k
 ·exact zah h k
theorem zdf{a b:List Int}(h:lle a b): ¬llt b a:=fun k=>zas _ (zot h k)
/-! ### Entries-/
structure BE where
 st:Nat
 par:Int
 inp:Int
 wd:List Int
 deriving DecidableEq,Inhabited
def ed(m:Mach)(s i:Nat):Int:=((m.rows.getD s default).getD i default).to
def occ(All:List BE)(t:Nat):Bool:=All.any fun e=>decide (e.st=t)
theorem z1m{All:List BE}{t:Nat}:occ All t=true↔ ∃ j,j<All.length∧(All.getD j default).st=t:=by
 unfold occ
 rw [List.any_eq_true]
 constructor
 ·rintro⟨e,c,b⟩
  obtain⟨j,a,rfl⟩:=List.mem_iff_getElem.1 c
  exact⟨j,a,by simpa [List.getD_eq_getElem?_getD,a] using b⟩
 ·rintro⟨j,a,b⟩
  exact⟨_,z1t a,by simpa using b⟩
def push(m:Mach)(x:BE)(All:List BE)(i:Nat):List BE:=
 if ed m x.st i= -1 then All else if occ All (ed m x.st i).toNat=true then All else All++[⟨(ed m x.st i).toNat,x.st,i,x.wd++[(i:Int)]⟩]
def lh(m:Mach)(x:BE)(All:List BE):Nat→List BE
 |0=>All
 |k+1=>push m x (lh m x All k) k
def bfs(m:Mach):Nat→Nat→List BE→List BE
 |0,_,All=>All
 |g+1,p,All=>if p<All.length then bfs m g (p+1) (lh m (All.getD p default) All m.inputs.toNat) else All
theorem z4r{m:Mach}(a:MOk m){s i:Nat}(b:s<m.rows.length)(hi:i<m.inputs.toNat):ed m s i= -1∨(0≤ed m s i∧ed m s i<m.rows.length):=by
 have:=zki m a (s:Int) (i:Int) (.inr ⟨by omega,by omega⟩) ⟨by omega,by have:=a.i1;omega⟩
 have h:=this.1
 unfold z0h at h
 rw [if_neg (by omega)] at h
 exact h
theorem q1l(m:Mach)(x:BE)(All:List BE)(i:Nat):All<+:push m x All i:=by
 unfold push
 split
 ·exact List.prefix_refl _
 ·split
  ·exact List.prefix_refl _
  ·exact List.prefix_append _ _
theorem z6b(m:Mach)(x:BE)(All:List BE): ∀ k,All<+:lh m x All k
 |0=>List.prefix_refl _
 |k+1=>(z6b m x All k).trans (q1l m x _ k)
theorem zpj(m:Mach): ∀ g p All,All<+:bfs m g p All
 |0,_,All=>List.prefix_refl _
 |g+1,p,All=>by
  unfold bfs
  split
  ·exact(z6b m _ All _).trans (zpj m g (p+1) _)
  ·exact List.prefix_refl _
theorem zq8{X Y:List BE}(h:X<+:Y){j:Nat}(a:j<X.length):Y.getD j default=X.getD j default:=by
 obtain⟨t,rfl⟩:=h
 simp [List.getD_eq_getElem?_getD,List.getElem?_append_left a]
structure Inv (m:Mach) (s0 p k:Nat) (All:List BE):Prop where
 pos:0<All.length
 root:All.getD 0 default=⟨s0,-1,-1,[]⟩
 rng: ∀ j,j<All.length→(All.getD j default).st<m.rows.length
 dis: ∀ i j,i<All.length→j<All.length→(All.getD i default).st=(All.getD j default).st→i=j
 aft: ∀ j,j<All.length→z0e m s0 (All.getD j default).wd=((All.getD j default).st:Int)
 par: ∀ j,0<j→j<All.length→ ∃ q i,q<j∧i<m.inputs.toNat∧(All.getD j default).par=((All.getD q default).st:Int)∧(All.getD j default).inp=(i:Int)∧(All.getD j default).wd=(All.getD q default).wd++[(i:Int)]∧ed m (All.getD q default).st i=((All.getD j default).st:Int)
 inc: ∀ i j,i<j→j<All.length→llt (All.getD i default).wd (All.getD j default).wd
 bnd:p<All.length→ ∀ j,j<All.length→llt (All.getD j default).wd ((All.getD p default).wd++[(k:Int)])
 cls: ∀ q i,q<All.length→i<m.inputs.toNat→(q<p∨(q=p∧i<k))→ed m (All.getD q default).st i≠ -1→ ∃ j,j<All.length∧((All.getD j default).st:Int)=ed m (All.getD q default).st i∧lle (All.getD j default).wd ((All.getD q default).wd++[(i:Int)])
theorem zp4{X:List BE}{e:BE}{j:Nat}(h:j<X.length):(X++[e]).getD j default=X.getD j default:=by
 simp [List.getD_eq_getElem?_getD,List.getElem?_append_left h]
theorem zmc{X:List BE}{e:BE}:(X++[e]).getD X.length default=e:=by
 simp [List.getD_eq_getElem?_getD]
theorem q0d{m:Mach}(z:MOk m){s0 p k:Nat}{All:List BE}(h:Inv m s0 p k All)(g:p<All.length)(y:k<m.inputs.toNat):Inv m s0 p (k+1) (push m (All.getD p default) All k):=by
 have r:=h.bnd g
 have hlast:llt ((All.getD p default).wd++[(k:Int)]) ((All.getD p default).wd++[((k+1:Nat):Int)]):=q0t _ (by omega)
 have hsame:(∀ q i,q=p→i=k→ed m (All.getD q default).st i≠ -1→ ∃ j,j<All.length∧((All.getD j default).st:Int)=ed m (All.getD q default).st i∧lle (All.getD j default).wd ((All.getD q default).wd++[(i:Int)]))→Inv m s0 p (k+1) All:=fun s=>
  {h with
   bnd:=fun _ j a=>zah (r j a) hlast
   cls:=fun q i f hi d c=>by
    rcases d with l|⟨rfl,l⟩
    ·exact h.cls q i f hi (.inl l) c
    ·by_cases e:i=k
     ·exact s q i rfl e c
     ·exact h.cls q i f hi (.inr ⟨rfl,by omega⟩) c}
 unfold push
 by_cases h1:ed m (All.getD p default).st k= -1
 ·rw [if_pos h1]
  exact hsame fun q i f hi c=>by subst f;subst hi;exact absurd h1 c
 ·rw [if_neg h1]
  have t:=z4r z (h.rng p g) y
  obtain⟨C,D⟩:=t.resolve_left h1
  by_cases h4:occ All (ed m (All.getD p default).st k).toNat=true
  ·rw [if_pos h4]
   refine hsame fun q i f hi c=>?_
   subst f;subst hi
   obtain⟨j,a,u⟩:=z1m.1 h4
   exact⟨j,a,by rw [u];omega,.inr (r j a)⟩
  ·rw [if_neg h4]
   have hnew: ∀ j,j<All.length→(All.getD j default).st≠(ed m (All.getD p default).st k).toNat:=fun j a e=>h4 (z1m.2 ⟨j,a,e⟩)
   have hlen:(All++[(⟨(ed m (All.getD p default).st k).toNat,((All.getD p default).st:Int),(k:Int),(All.getD p default).wd++[(k:Int)]⟩:BE)]).length=All.length+1:=by simp
   generalize hE:(⟨(ed m (All.getD p default).st k).toNat,((All.getD p default).st:Int),(k:Int),(All.getD p default).wd++[(k:Int)]⟩:BE)=e at hlen⊢
   have n:e.st=(ed m (All.getD p default).st k).toNat:=by rw [←hE]
   have A:e.par=((All.getD p default).st:Int):=by rw [←hE]
   have B:e.inp=(k:Int):=by rw [←hE]
   have o:e.wd=(All.getD p default).wd++[(k:Int)]:=by rw [←hE]
   have cs: ∀ j,j<(All++[e]).length→j<All.length∨j=All.length:=fun j a=>by rw [hlen] at a;omega
   have lt:=fun {j:Nat} (a:j<All.length)=>zp4 (e:=e) a
   have le:=zmc (X:=All) (e:=e)
   refine⟨by rw [hlen];omega,by rw [lt h.pos];exact h.root,fun j a=>?_,fun i j hi a b=>?_,fun j a=>?_,fun j v a=>?_,fun i j b a=>?_,fun _ j a=>?_,fun q i f hi d c=>?_⟩
   ·rcases cs j a with a|rfl
    ·rw [lt a];exact h.rng j a
    ·rw [le,n];omega
   ·rcases cs i hi with hi|rfl<;>rcases cs j a with a|rfl
    ·rw [lt hi,lt a] at b;exact h.dis i j hi a b
    ·rw [lt hi,le,n] at b;exact absurd b (hnew i hi)
    ·rw [le,lt a,n] at b;exact absurd b.symm (hnew j a)
    ·rfl
   ·rcases cs j a with a|rfl
    ·rw [lt a];exact h.aft j a
    ·rw [le,o,n,z5z,h.aft p g]
     show (z0h m ((All.getD p default).st:Int) (k:Int)).to=_
     unfold z0h
     rw [if_neg (by omega)]
     show ed m (All.getD p default).st k=_
     omega
   ·rcases cs j a with a|rfl
    ·obtain⟨q,i,w,x⟩:=h.par j v a
     exact⟨q,i,w,by rw [lt a,lt (by omega)];exact x⟩
    ·refine⟨p,k,g,y,?_⟩
     rw [le,lt g,n,A,B,o]
     exact⟨rfl,rfl,rfl,by omega⟩
   ·rcases cs j a with a|rfl
    ·rw [lt a,lt (by omega)];exact h.inc i j b a
    ·rw [le,lt b,o];exact r i b
   ·rw [lt g]
    rcases cs j a with a|rfl
    ·rw [lt a];exact zah (r j a) hlast
    ·rw [le,o];exact hlast
   ·have hq':q<All.length:=by rcases d with l|⟨rfl,_⟩<;>omega
    rw [lt hq'] at c⊢
    by_cases s:q=p∧i=k
    ·obtain⟨rfl,rfl⟩:=s
     exact⟨All.length,by rw [hlen];omega,by rw [le,n];omega,by rw [le,o];exact .inl rfl⟩
    ·obtain⟨j,a,w,x⟩:=h.cls q i hq' hi (by rcases d with l|⟨rfl,l⟩;exact .inl l;exact .inr ⟨rfl,by omega⟩) c
     exact⟨j,by rw [hlen];omega,by rw [lt a];exact w,by rw [lt a];exact x⟩
theorem zgq{m:Mach}(a:MOk m){s0 p:Nat}{All:List BE}(h:Inv m s0 p 0 All)(b:p<All.length): ∀ k,k≤m.inputs.toNat→Inv m s0 p k (lh m (All.getD p default) All k)
 |0,_=>h
 |k+1,c=>by
  have ih:=zgq a h b k (by omega)
  have hpre:=z6b m (All.getD p default) All k
  have e:(lh m (All.getD p default) All k).getD p default=All.getD p default:=zq8 hpre b
  have:=q0d a ih (by have:=hpre.length_le;omega) (by omega)
  rw [e] at this
  exact this
theorem zm5{m:Mach}{s0 p:Nat}{All:List BE}(h:Inv m s0 p m.inputs.toNat All)(c:p<All.length):Inv m s0 (p+1) 0 All:=
 {h with
  bnd:=fun hp' j d=>zah (h.bnd c j d) (zm4 _ _ (h.inc p (p+1) (by omega) hp'))
  cls:=fun q i e hi a b=>h.cls q i e hi (by rcases a with f|⟨_,f⟩;exact(Nat.lt_or_ge q p).imp id fun _=>⟨by omega,hi⟩;omega) b}
theorem zfc{m:Mach}{s0 p k:Nat}{All:List BE}(h:Inv m s0 p k All):All.length≤m.rows.length:=by
 have b:(All.map (·.st)).Nodup:=by
  rw [List.nodup_iff_pairwise_ne,List.pairwise_iff_getElem]
  intro i j hi a c e
  rw [List.length_map] at hi a
  rw [List.getElem_map,List.getElem_map] at e
  have:=h.dis i j hi a (by simpa [List.getD_eq_getElem?_getD,a,hi] using e)
  omega
 have hsub:(All.map (·.st))⊆List.range m.rows.length:=by
  intro x d
  obtain⟨e,f,rfl⟩:=List.mem_map.1 d
  obtain⟨j,a,rfl⟩:=List.mem_iff_getElem.1 f
  have:=h.rng j a
  rw [List.mem_range]
  simpa [List.getD_eq_getElem?_getD,a] using this
 have:=List.Nodup.length_le_of_subset b hsub
 simpa using this
theorem zve{m:Mach}(a:MOk m){s0:Nat}: ∀ (g p:Nat) (All:List BE),p+g=m.rows.length→p≤All.length→Inv m s0 p 0 All→ ∃ q,(bfs m g p All).length≤q∧Inv m s0 q 0 (bfs m g p All)
 |0,p,All,b,c,h=>⟨p,by have:=zfc h;show All.length≤p;omega,h⟩
 |g+1,p,All,b,c,h=>by
  unfold bfs
  by_cases hlt:p<All.length
  ·rw [if_pos hlt]
   have d:=zgq a h hlt _ (Nat.le_refl _)
   have hpre:=(z6b m (All.getD p default) All m.inputs.toNat).length_le
   exact zve a g (p+1) _ (by omega) (by omega) (zm5 d (by omega))
  ·rw [if_neg hlt]
   exact⟨p,by omega,h⟩
def rch(m:Mach)(s0:Nat):List BE:=bfs m m.rows.length 0 [⟨s0,-1,-1,[]⟩]
structure Rch (m:Mach) (s0:Nat) (P:List BE):Prop where
 pos:0<P.length
 le:P.length≤m.rows.length
 root:P.getD 0 default=⟨s0,-1,-1,[]⟩
 rng: ∀ j,j<P.length→(P.getD j default).st<m.rows.length
 dis: ∀ i j,i<P.length→j<P.length→(P.getD i default).st=(P.getD j default).st→i=j
 aft: ∀ j,j<P.length→z0e m s0 (P.getD j default).wd=((P.getD j default).st:Int)
 par: ∀ j,0<j→j<P.length→ ∃ q i,q<j∧i<m.inputs.toNat∧(P.getD j default).par=((P.getD q default).st:Int)∧(P.getD j default).inp=(i:Int)∧(P.getD j default).wd=(P.getD q default).wd++[(i:Int)]∧ed m (P.getD q default).st i=((P.getD j default).st:Int)
 inc: ∀ i j,i<j→j<P.length→llt (P.getD i default).wd (P.getD j default).wd
 cls: ∀ q i,q<P.length→i<m.inputs.toNat→ed m (P.getD q default).st i≠ -1→ ∃ j,j<P.length∧((P.getD j default).st:Int)=ed m (P.getD q default).st i∧lle (P.getD j default).wd ((P.getD q default).wd++[(i:Int)])
theorem zlo{m:Mach}{s0:Nat}(b:s0<m.rows.length):Inv m s0 0 0 [⟨s0,-1,-1,[]⟩]:=by
 have c: ∀ j,j<[(⟨s0,-1,-1,[]⟩:BE)].length→j=0:=fun j a=>by simpa using a
 refine⟨by simp,rfl,fun j a=>?_,fun i j hi a _=>?_,fun j a=>?_,fun j h a=>?_,fun i j d a=>?_,fun _ j a=>?_,fun q i e hi f g=>?_⟩
 ·rw [c j a];exact b
 ·rw [c i hi,c j a]
 ·rw [c j a];rfl
 ·have:=c j a;omega
 ·have:=c j a;omega
 ·rw [c j a];exact .inl (by simp)
 ·have:=c q e;omega
theorem zge{m:Mach}(b:MOk m){s0:Nat}(c:s0<m.rows.length):Rch m s0 (rch m s0):=by
 obtain⟨q,d,h⟩:=zve b m.rows.length 0 _ (by omega) (by simp) (zlo c)
 exact⟨h.pos,zfc h,h.root,h.rng,h.dis,h.aft,h.par,h.inc,fun q' i hq' hi a=>h.cls q' i hq' hi (.inl (Nat.lt_of_lt_of_le hq' d)) a⟩
section rch
variable {m : Mach} {s0 : Nat} {P : List BE}
theorem Rch.wok(h:Rch m s0 P): ∀ j,j<P.length→WOk m.inputs (P.getD j default).wd∧(P.getD j default).wd.length≤j
 |j,b=>by
  by_cases h0:j=0
  ·subst h0;rw [h.root];exact⟨fun k a=>by simp at a,by simp⟩
  ·obtain⟨q,i,d,hi,_,_,c,_⟩:=h.par j (by omega) b
   obtain⟨ih,ihl⟩:=Rch.wok h q (by omega)
   rw [c]
   refine⟨fun k a=>?_,by rw [List.length_append,List.length_singleton];omega⟩
   rw [List.length_append,List.length_singleton] at a
   by_cases hk':k<(P.getD q default).wd.length
   ·rw [List.getD_eq_getElem?_getD,List.getElem?_append_left hk',←List.getD_eq_getElem?_getD];exact ih k hk'
   ·have:k=(P.getD q default).wd.length:=by omega
    subst this
    rw [List.getD_eq_getElem?_getD,List.getElem?_concat_length]
    exact⟨by simp,by simp only [Option.getD_some];omega⟩
theorem zq7{n c:Int}{u:List Int}(h:WOk n (u++[c])):WOk n u∧0≤c∧c<n:=by
 refine⟨fun k a=>?_,?_⟩
 ·have:=h k (by simp;omega)
  rwa [List.getD_eq_getElem?_getD,List.getElem?_append_left a,←List.getD_eq_getElem?_getD] at this
 ·have:=h u.length (by simp)
  rwa [List.getD_eq_getElem?_getD,List.getElem?_concat_length] at this
theorem zhf(m:Mach): ∀ (w:List Int),z0e m (-1) w= -1
 | []=>rfl
 |c::w=>by
  show z0e m (z0h m (-1) c).to w= -1
  rw [show z0h m (-1) c=⟨-1,-1⟩ from rfl]
  exact zhf m w
theorem Rch.least(i:MOk m)(h:Rch m s0 P): ∀ (n:Nat) (w:List Int),w.length=n→WOk m.inputs w→z0e m s0 w≠ -1→ ∃ j,j<P.length∧((P.getD j default).st:Int)=z0e m s0 w∧lle (P.getD j default).wd w
 |0,w,b,g,a=>by
  have:w=[]:=List.length_eq_zero_iff.1 b
  subst this
  exact⟨0,h.pos,by rw [h.root];rfl,by rw [h.root];exact .inl rfl⟩
 |n+1,w,b,g,a=>by
  obtain⟨u,c,rfl⟩: ∃ u c,w=u++[c]:=⟨w.dropLast,w.getLast (by intro e;rw [e] at b;simp at b),(List.dropLast_concat_getLast _).symm⟩
  obtain⟨k,l,o⟩:=zq7 g
  rw [z5z] at a⊢
  have hune:z0e m s0 u≠ -1:=fun e=>by rw [e,zhf] at a;exact a rfl
  obtain⟨q,p,d,f⟩:=Rch.least i h n u (by simpa using b) k hune
  rw [←d] at a⊢
  have hstep:z0e m ((P.getD q default).st:Int) [c]=ed m (P.getD q default).st c.toNat:=by
   show (z0h m ((P.getD q default).st:Int) c).to=_
   unfold z0h
   rw [if_neg (by omega)]
   rfl
  rw [hstep] at a⊢
  obtain⟨j,r,s,t⟩:=h.cls q c.toNat p (by omega) a
  refine⟨j,r,s,zms t ?_⟩
  rw [show ((c.toNat:Nat):Int)=c by omega]
  exact q0p c f
theorem Rch.min(b:MOk m)(h:Rch m s0 P){j:Nat}(c:j<P.length){w:List Int}(d:WOk m.inputs w)(a:z0e m s0 w=((P.getD j default).st:Int)):lle (P.getD j default).wd w:=by
 obtain⟨i,hi,e,f⟩:=h.least b _ w rfl d (by rw [a];omega)
 rw [a] at e
 have:=h.dis i j hi c (by omega)
 subst this
 exact f
end rch
end GV
end Go.Proofs.YtkcccdcloealfaaGreat
