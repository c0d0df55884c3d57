
import Derived.Test.YtnnobdkjgafdmaaShPlain
import Derived.Test.YtnnobdkjgafdmaaShPl
import Derived.Test.YtnnobdkjgafdmaaShRow
set_option linter.unusedVariables false
set_option linter.unusedSimpArgs false
set_option linter.unusedSectionVars false
namespace Go.Proofs.Ytnnobdkjgafdmaa
namespace GV
def eOk(m:Mach)(e:Edge):Prop:=(e.to= -1∧e.out= -1)∨(0≤e.to∧e.to<m.rows.length∧0≤e.out∧e.out<m.outputs)
structure MOk (m:Mach):Prop where
 i1:1≤m.inputs
 i2:m.inputs≤16
 o1:1≤m.outputs
 o2:m.outputs≤16
 r1:1≤m.rows.length
 r2:m.rows.length≤64
 row: ∀ s,s<m.rows.length→((m.rows.getD s default).length:Int)=m.inputs
 edge: ∀ s i,s<m.rows.length→i<(m.rows.getD s default).length→eOk m ((m.rows.getD s default).getD i default)
def zcj(l:List Edge)(k:Nat):Nat:=(l.take k).countP fun e=>decide (0≤e.to)
def z8p(m:Mach)(k:Nat):Nat:=((m.rows.take k).map fun r=>r.countP fun e=>decide (0≤e.to)).sum
def zt8(m:Mach):Nat:=z8p m m.rows.length
theorem zjr(l:List Edge):zcj l 0=0:=by simp [zcj]
theorem zjo(l:List Edge)(k:Nat)(h:k<l.length):zcj l (k+1)=zcj l k+if 0≤(l.getD k default).to then 1 else 0:=by
 unfold zcj
 rw [List.take_succ_eq_append_getElem h,List.countP_append]
 simp [List.countP_cons,List.getD_eq_getElem?_getD,h]
theorem zg8(l:List Edge)(k:Nat):zcj l k≤k:=by
 unfold zcj;exact Nat.le_trans List.countP_le_length (List.length_take_le _ _)
theorem z8x(m:Mach)(k:Nat)(h:k<m.rows.length):z8p m (k+1)=z8p m k+zcj (m.rows.getD k default) (m.rows.getD k default).length:=by
 unfold z8p zcj
 rw [List.take_succ_eq_append_getElem h,List.map_append,List.sum_append,List.take_length]
 congr 1
 simp [List.getD_eq_getElem?_getD,h]
theorem zr4(m:Mach)(a:MOk m): ∀ k,k≤m.rows.length→z8p m k≤16*k
 |0,_=>by simp [z8p]
 |k+1,h=>by
  rw [z8x m k h]
  have:=zr4 m a k (by omega)
  have b:=zg8 (m.rows.getD k default) (m.rows.getD k default).length
  have c:=a.row k h
  have d:=a.i2
  omega
def z1h(m:Mach)(s i:Int):Edge:=if s<0 then⟨-1,-1⟩ else(m.rows.getD s.toNat default).getD i.toNat default
def z05(m:Mach):Int→List Int→List Int
 |_,[]=>[]
 |s,i::w=>(z1h m s i).out::z05 m (z1h m s i).to w
def z1s(m:Mach):Int→List Int→Int
 |s,[]=>s
 |s,i::w=>z1s m (z1h m s i).to w
def WOk(n:Int)(w:List Int):Prop:= ∀ k,k<w.length→0≤w.getD k default∧w.getD k default<n
def SOk(m:Mach)(s:Int):Prop:=s= -1∨(0≤s∧s<m.rows.length)
theorem z6a(m:Mach): ∀ (s:Int) (u v:List Int),z1s m s (u++v)=z1s m (z1s m s u) v
 |s,[],v=>rfl
 |s,i::u,v=>z6a m _ u v
theorem zav(m:Mach): ∀ (s:Int) (u v:List Int),z05 m s (u++v)=z05 m s u++z05 m (z1s m s u) v
 |s,[],v=>rfl
 |s,i::u,v=>by
  show _::z05 m _ (u++v)=_::(z05 m _ u++_)
  rw [zav m _ u v];rfl
theorem z5w(m:Mach): ∀ (s:Int) (w:List Int),(z05 m s w).length=w.length
 |s,[]=>rfl
 |s,i::w=>by simp [z05,z5w m _ w]
theorem zf8(w:List Int)(k:Nat)(h:k<w.length):w.take (k+1)=w.take k++[w.getD k default]:=by
 rw [List.take_succ_eq_append_getElem h];simp [List.getD_eq_getElem?_getD,h]
theorem zss(m:Mach)(s:Int)(w:List Int)(k:Nat)(h:k<w.length):z05 m s (w.take (k+1))=z05 m s (w.take k)++[(z1h m (z1s m s (w.take k)) (w.getD k default)).out]:=by
 rw [zf8 w k h,zav];rfl
theorem ztf(m:Mach)(s:Int)(w:List Int)(k:Nat)(h:k<w.length):z1s m s (w.take (k+1))=(z1h m (z1s m s (w.take k)) (w.getD k default)).to:=by
 rw [zf8 w k h,z6a];rfl
theorem zmg(m:Mach)(a:MOk m)(s i:Int)(b:SOk m s)(hi:0≤i∧i<m.inputs):SOk m (z1h m s i).to∧ -1≤(z1h m s i).out∧(z1h m s i).out≤16:=by
 unfold z1h
 split
 ·exact⟨.inl rfl,by simp,by simp⟩
 ·have hs':0≤s∧s<m.rows.length:=by rcases b with h|h<;>omega
  have c:=a.row s.toNat (by omega)
  have d:=a.o2
  rcases a.edge s.toNat i.toNat (by omega) (by omega) with h|h
  ·exact⟨.inl h.1,by omega,by omega⟩
  ·exact⟨.inr ⟨h.1,h.2.1⟩,by omega,by omega⟩
theorem zr2(m:Mach)(b:MOk m): ∀ (s:Int) (w:List Int),SOk m s→WOk m.inputs w→SOk m (z1s m s w)
 |s,[],a,_=>a
 |s,i::w,a,c=>zr2 m b _ w (zmg m b s i a (by simpa using c 0 (by simp))).1 (fun k d=>by simpa using c (k+1) (by simpa using d))
theorem zwl{n:Int}{w:List Int}(h:WOk n w)(k:Nat):WOk n (w.take k):=fun j a=>by
 rw [List.length_take] at a
 have:=h j (by omega)
 rwa [show (w.take k).getD j default=w.getD j default from by simp only [List.getD_eq_getElem?_getD,List.getElem?_take];rw [if_pos (by omega)]]
def ze4(m:Mach)(x:Edge):Bool:=decide (x.to= -1∧x.out= -1)||(((decide (0≤x.to)&&decide (x.to<m.rows.length))&&decide (0≤x.out))&&decide (x.out<m.outputs))
theorem zf9(m:Mach)(x:Edge):ze4 m x=true↔eOk m x:=by
 simp [ze4,eOk];omega
theorem z6x{α:Type}[Inhabited α](p:α→Bool)(X:List α)(k:Nat)(h:k<X.length):(X.take (k+1)).any p=((X.take k).any p||p (X.getD k default)):=by
 rw [List.take_succ_eq_append_getElem h,List.any_append]
 simp [List.getD_eq_getElem?_getD,h]
def zg1{α:Type}(p:α→Bool)(X:List α):Int:=match X.findIdx? p with|some i=>i|none=> -1
theorem zkz{α:Type}(p:α→Bool)(X:List α):decide (0≤zg1 p X)=X.any p:=by
 unfold zg1
 cases h:X.findIdx? p with
 |none=>
  have:=List.findIdx?_eq_none_iff.1 h
  simp only [Bool.eq_false_iff] at*
  rw [show decide ((0:Int)≤ -1)=false from rfl]
  symm
  rw [List.any_eq_false]
  intro x a
  simp [this x a]
 |some i=>
  obtain⟨hi,b,_⟩:=List.findIdx?_eq_some_iff_getElem.1 h
  rw [show decide ((0:Int)≤(i:Int))=true from by simp]
  symm
  rw [List.any_eq_true]
  exact⟨_,List.getElem_mem hi,b⟩
theorem zco{α:Type}[Inhabited α](p:α→Bool)(X:List α)(k:Nat)(h:k<X.length)(a:(X.take k).any p=false)(b:p (X.getD k default)=true):zg1 p X=k:=by
 have:X.findIdx? p=some k:=by
  rw [List.findIdx?_eq_some_iff_getElem]
  refine⟨h,by simpa [List.getD_eq_getElem?_getD,h] using b,fun j c=>?_⟩
  rw [List.any_eq_false] at a
  have:=a X[j] (by rw [List.mem_take_iff_getElem];exact⟨j,by omega,rfl⟩)
  simpa using this
 simp [zg1,this]
theorem zf6{α:Type}(p:α→Bool)(X:List α)(a:X.any p=false):zg1 p X= -1:=by
 have:X.findIdx? p=none:=by
  rw [List.findIdx?_eq_none_iff]
  rw [List.any_eq_false] at a
  intro x b
  simpa using a x b
 simp [zg1,this]
def z0u(m:Mach)(r:List Edge):Bool:=decide ((r.length:Int)≠m.inputs)||r.any fun x=> !ze4 m x
def lh(m:Mach):Int:=if(16<m.inputs∨16<m.outputs)∨64<m.rows.length then 3 else if(m.inputs<1∨m.outputs<1)∨m.rows.length<1 then 1 else if m.rows.any (z0u m)=true then 1 else 0
structure Small (m:Mach):Prop where
 r:m.rows.length≤100
 c: ∀ k,k<m.rows.length→(m.rows.getD k default).length≤100
theorem zm7{m:Mach}(h:(16<m.inputs∨16<m.outputs)∨64<m.rows.length):lh m=3:=by unfold lh;rw [if_pos h]
theorem zm8{m:Mach}(h: ¬((16<m.inputs∨16<m.outputs)∨64<m.rows.length))(a:(m.inputs<1∨m.outputs<1)∨m.rows.length<1):lh m=1:=by unfold lh;rw [if_neg h,if_pos a]
theorem zm1{m:Mach}(h: ¬((16<m.inputs∨16<m.outputs)∨64<m.rows.length))(a: ¬((m.inputs<1∨m.outputs<1)∨m.rows.length<1))(b:m.rows.any (z0u m)=false):lh m=0:=by
 unfold lh;rw [if_neg h,if_neg a,if_neg (by rw [b];decide)]
theorem zhm{α:Type}[Inhabited α](p:α→Bool)(X:List α):X.any p=false↔ ∀ k,k<X.length→p (X.getD k default)=false:=by
 rw [List.any_eq_false]
 refine⟨fun h k a=>by simpa using h _ (z1o a),fun h x b=>?_⟩
 obtain⟨k,a,rfl⟩:=List.getElem_of_mem b
 have:=h k a
 simp only [List.getD_eq_getElem?_getD,List.getElem?_eq_getElem a,Option.getD_some] at this
 simp [this]
theorem z9m(m:Mach)(r:List Edge):z0u m r=false↔(r.length:Int)=m.inputs∧ ∀ i,i<r.length→eOk m (r.getD i default):=by
 unfold z0u
 rw [Bool.or_eq_false_iff,zhm]
 refine and_congr (by simp) (forall_congr' fun i=>forall_congr' fun hi=>?_)
 rw [←zf9];simp
theorem z3b(m:Mach):lh m=0↔MOk m:=by
 unfold lh
 by_cases h:(16<m.inputs∨16<m.outputs)∨64<m.rows.length
 ·rw [if_pos h];exact⟨fun h=>absurd h (by decide),fun a=>by have:=a.i2;have:=a.o2;have:=a.r2;omega⟩
 rw [if_neg h]
 by_cases h1:(m.inputs<1∨m.outputs<1)∨m.rows.length<1
 ·rw [if_pos h1];exact⟨fun h=>absurd h (by decide),fun a=>by have:=a.i1;have:=a.o1;have:=a.r1;omega⟩
 rw [if_neg h1]
 cases hr:m.rows.any (z0u m)
 ·rw [if_neg (by decide)]
  have:=(zhm _ _).1 hr
  exact⟨fun _=>⟨by omega,by omega,by omega,by omega,by omega,by omega,fun s b=>((z9m m _).1 (this s b)).1,fun s i b hi=>((z9m m _).1 (this s b)).2 i hi⟩,fun _=>rfl⟩
 ·rw [if_pos rfl]
  refine⟨fun h=>absurd h (by decide),fun a=>?_⟩
  have:m.rows.any (z0u m)=false:=(zhm _ _).2 fun k c=>(z9m m _).2 ⟨a.row k c,fun i hi=>a.edge k i c hi⟩
  rw [hr] at this;cases this
theorem MOk.small{m:Mach}(a:MOk m):Small m:=⟨by have:=a.r2;omega,fun k b=>by have:=a.row k b;have:=a.i2;omega⟩
def zeg:List Int→List Int→Int
 |x::a,y::b=>if x<y then-1 else if y<x then 1 else zeg a b
 |_,_=>0
def cmpL(a b:List Int):Int:=if a.length<b.length then-1 else if b.length<a.length then 1 else zeg a b
theorem z5a{α:Type}[Inhabited α](X:List α)(k:Nat)(h:k<X.length):X.drop k=X.getD k default::X.drop (k+1):=by
 rw [List.drop_eq_getElem_cons h];simp [List.getD_eq_getElem?_getD,h]
theorem zti{a b:List Int}{k:Nat}(c:k<a.length)(d:k<b.length):zeg (a.drop k) (b.drop k)=if a.getD k default<b.getD k default then-1 else if b.getD k default<a.getD k default then 1 else zeg (a.drop (k+1)) (b.drop (k+1)):=by
 rw [z5a a k c,z5a b k d];rfl
theorem zq9: ∀ (a b:List Int),a.length=b.length→(zeg a b=0↔a=b)
 | [],[],_=>by simp [zeg]
 |x::a,y::b,h=>by
  have ih:=zq9 a b (by simpa using h)
  unfold zeg
  by_cases h1:x<y
  ·rw [if_pos h1];simp;omega
  by_cases h2:y<x
  ·rw [if_neg h1,if_pos h2];simp;omega
  rw [if_neg h1,if_neg h2,ih,show x=y from by omega];simp
theorem cmpL_eq(a b:List Int):cmpL a b=0↔a=b:=by
 unfold cmpL
 by_cases h1:a.length<b.length
 ·rw [if_pos h1];exact⟨fun h=>absurd h (by decide),fun h=>by subst h;omega⟩
 by_cases h2:b.length<a.length
 ·rw [if_neg h1,if_pos h2];exact⟨fun h=>absurd h (by decide),fun h=>by subst h;omega⟩
 rw [if_neg h1,if_neg h2]
 exact zq9 a b (by omega)
theorem zha{α:Type}[Inhabited α]{X Y:List α}(b:X.length=Y.length)(h: ∀ k,k<X.length→X.getD k default=Y.getD k default):X=Y:=by
 refine List.ext_getElem b fun k a c=>?_
 have:=h k a
 simpa only [List.getD_eq_getElem?_getD,List.getElem?_eq_getElem a,List.getElem?_eq_getElem c,Option.getD_some] using this
def z6g(m:Mach)(k:Nat):Edge:=(m.rows.getD (k/m.inputs.toNat) default).getD (k%m.inputs.toNat) default
def z5e(m:Mach)(k:Nat):List (Int×Int):=((List.range k).filter fun k=>decide ((z6g m k).to= -1∧(z6g m k).out= -1)).map fun k=>(((k/m.inputs.toNat:Nat):Int),((k%m.inputs.toNat:Nat):Int))
def zkn(m:Mach):List (Int×Int):=z5e m (m.rows.length*m.inputs.toNat)
theorem znr(m:Mach):z5e m 0=[]:=rfl
theorem zfi(m:Mach)(k:Nat):z5e m (k+1)=z5e m k++if(z6g m k).to= -1∧(z6g m k).out= -1 then [(((k/m.inputs.toNat:Nat):Int),((k%m.inputs.toNat:Nat):Int))] else []:=by
 unfold z5e
 rw [List.range_succ,List.filter_append,List.map_append]
 congr 1
 by_cases h:(z6g m k).to= -1∧(z6g m k).out= -1
 ·rw [if_pos h];simp [h]
 ·rw [if_neg h];simp only [List.filter_cons,List.filter_nil,decide_eq_false h];rfl
theorem zsx(m:Mach)(k:Nat):(z5e m k).length≤k:=by
 unfold z5e;rw [List.length_map];exact Nat.le_trans (List.length_filter_le _ _) (by simp)
theorem zjm{n k i:Nat}(h:i<n):(k*n+i)/n=k:=by
 rw [Nat.mul_comm,Nat.mul_add_div (by omega),Nat.div_eq_of_lt h];rfl
theorem zje{n k i:Nat}(h:i<n):(k*n+i)%n=i:=by
 rw [Nat.mul_comm,Nat.mul_add_mod,Nat.mod_eq_of_lt h]
theorem MOk.mul{m:Mach}(a:MOk m):m.rows.length*m.inputs.toNat≤1024∧(m.rows.length:Int)*m.inputs=((m.rows.length*m.inputs.toNat:Nat):Int):=by
 have b:=a.r2;have c:=a.i1;have d:=a.i2
 refine⟨Nat.le_trans (Nat.mul_le_mul b (show m.inputs.toNat≤16 by omega)) (by decide),?_⟩
 rw [Int.natCast_mul,Int.toNat_of_nonneg (by omega)]
theorem zts{n k i N:Nat}(a:k<N)(hi:i<n):k*n+i<N*n:=by
 have:(k+1)*n≤N*n:=Nat.mul_le_mul_right n a
 rw [Nat.succ_mul] at this;omega
def zln(m:Mach):Bool:=if lh m≠0 then false else decide (((zkn m).length:Int)=0)
theorem q2m{m:Mach}(a:MOk m)(s:Int)(k:Nat)(b:s.toNat<m.rows.length)(c:k<(m.rows.getD s.toNat default).length):SOk m ((m.rows.getD s.toNat default).getD k default).to:=by
 rcases a.edge s.toNat k b c with h|h
 ·exact .inl h.1
 ·exact .inr ⟨h.1,h.2.1⟩
inductive Reach (m:Mach) (s:Nat):Nat→Prop
 |refl:Reach m s s
 |step {t i:Nat}:Reach m s t→t<m.rows.length→i<(m.rows.getD t default).length→0≤((m.rows.getD t default).getD i default).to→Reach m s ((m.rows.getD t default).getD i default).to.toNat
theorem Reach.trans{m:Mach}{a b c:Nat}(h:Reach m a b)(k:Reach m b c):Reach m a c:=by
 induction k with
 |refl=>exact h
 |step _ e hi d ih=>exact .step ih e hi d
theorem Reach.lt{m:Mach}(c:MOk m){a b:Nat}(h:Reach m a b)(d:a<m.rows.length):b<m.rows.length:=by
 cases h with
 |refl=>exact d
 |step g e f i=>rcases c.edge _ _ e f with h|h<;>omega
def Closed(m:Mach)(Y:List Bool)(t:Nat):Prop:= ∀ i,i<(m.rows.getD t default).length→0≤((m.rows.getD t default).getD i default).to→Y.getD ((m.rows.getD t default).getD i default).to.toNat default=true
structure Vis (m:Mach) (X:List Bool) (s:Int) (Y:List Bool):Prop where
 len:Y.length=X.length
 cnt:Y.count false≤X.count false
 mono: ∀ t,X.getD t default=true→Y.getD t default=true
 here:0≤s→Y.getD s.toNat default=true
 reach: ∀ t,Y.getD t default=true→X.getD t default=true∨(0≤s∧Reach m s.toNat t)
 closed: ∀ t,t<m.rows.length→Y.getD t default=true→X.getD t default=true∨Closed m Y t
structure VisK (m:Mach) (X:List Bool) (s:Nat) (k:Nat) (Y:List Bool):Prop where
 len:Y.length=X.length
 cnt:Y.count false<X.count false
 mono: ∀ t,X.getD t default=true→Y.getD t default=true
 here:Y.getD s default=true
 reach: ∀ t,Y.getD t default=true→X.getD t default=true∨Reach m s t
 closed: ∀ t,t<m.rows.length→Y.getD t default=true→X.getD t default=true∨t=s∨Closed m Y t
 done: ∀ i,i<k→0≤((m.rows.getD s default).getD i default).to→Y.getD ((m.rows.getD s default).getD i default).to.toNat default=true
theorem ztn{m:Mach}{X:List Bool}{s:Int}(h:s= -1∨X.getD s.toNat default=true)(a:s= -1∨0≤s):Vis m X s X:=
 ⟨rfl,Nat.le_refl _,fun _ h=>h,fun b=>by rcases h with h|h;omega;exact h,fun _ h=> .inl h,fun _ _ h=> .inl h⟩
theorem zbf{X:List Bool}{s t:Nat}(a:s<X.length):(X.set s true).getD t default=if t=s then true else X.getD t default:=by
 simp only [List.getD_eq_getElem?_getD,List.getElem?_set]
 by_cases h:s=t
 ·subst h;simp [a]
 ·rw [if_neg h,if_neg (fun e=>h e.symm)]
theorem zc0: ∀ {X:List Bool} {s:Nat},s<X.length→X.getD s default=false→(X.set s true).count false+1=X.count false
 |x::X,0,_,h=>by
  have:x=false:=by simpa using h
  subst this
  simp
 |x::X,s+1,a,h=>by
  have:=zc0 (X:=X) (s:=s) (by simpa using a) (by simpa using h)
  rw [List.set_cons_succ,List.count_cons,List.count_cons];omega
theorem zsh{m:Mach}{X:List Bool}{s:Nat}(c:s<X.length)(h:X.getD s default=false):VisK m X s 0 (X.set s true):=by
 have b:=fun t=>zbf (t:=t) c
 refine⟨by simp,by have:=zc0 c h;omega,fun t a=>by rw [b];split<;>simp_all,by rw [b,if_pos rfl],fun t a=>?_,fun t _ a=>?_,fun i hi=>by omega⟩
 ·rw [b] at a
  by_cases e:t=s
  ·subst e;exact .inr .refl
  ·rw [if_neg e] at a;exact .inl a
 ·rw [b] at a
  by_cases e:t=s
  ·exact .inr (.inl e)
  ·rw [if_neg e] at a;exact .inl a
theorem zt2{m:Mach}{X Y Z:List Bool}{s k:Nat}(b:VisK m X s k Y)(f:s<m.rows.length)(g:k<(m.rows.getD s default).length)(a:Vis m Y ((m.rows.getD s default).getD k default).to Z):VisK m X s (k+1) Z:=by
 refine⟨a.len.trans b.len,Nat.lt_of_le_of_lt a.cnt b.cnt,fun t d=>a.mono t (b.mono t d),a.mono _ b.here,fun t d=>?_,fun t e d=>?_,fun i hi c=>?_⟩
 ·rcases a.reach t d with h|⟨c,h⟩
  ·exact b.reach t h
  ·exact .inr ((Reach.step .refl f g c).trans h)
 ·rcases a.closed t e d with h|h
  ·rcases b.closed t e h with h|h|h
   ·exact .inl h
   ·exact .inr (.inl h)
   ·exact .inr (.inr fun i hi c=>a.mono _ (h i hi c))
  ·exact .inr (.inr h)
 ·rcases Nat.lt_succ_iff_lt_or_eq.1 hi with h|rfl
  ·exact a.mono _ (b.done i h c)
  ·exact a.here c
theorem zvv{m:Mach}{X Y:List Bool}{s:Int}{k:Nat}(b:0≤s)(a:VisK m X s.toNat k Y)(e: ¬k<(m.rows.getD s.toNat default).length):Vis m X s Y:=
 ⟨a.len,Nat.le_of_lt a.cnt,a.mono,fun _=>a.here,fun t c=>(a.reach t c).imp id fun h=>⟨b,h⟩,fun t d c=>by
  rcases a.closed t d c with h|rfl|h
  ·exact .inl h
  ·exact .inr fun i hi b=>a.done i (by omega) b
  ·exact .inr h⟩
noncomputable def connB(m:Mach):Bool:= @decide (∀ t,t<m.rows.length→Reach m 0 t) (Classical.propDecidable _)
theorem zuv{m:Mach}{Y:List Bool}(d:Y.length=m.rows.length)(h: ∀ t,t<m.rows.length→(Y.getD t default=true↔Reach m 0 t)):connB m= !Y.contains false:=by
 unfold connB
 cases hc:Y.contains false
 ·refine(@decide_eq_true _ (Classical.propDecidable _) ?_).trans rfl
  intro t a
  rw [←h t a]
  cases hy:Y.getD t default with
  |true=>rfl
  |false=>
   have:Y.contains false=true:=by
    rw [List.contains_iff_mem,←hy];exact z1o (by omega)
   rw [hc] at this;cases this
 ·refine(@decide_eq_false _ (Classical.propDecidable _) ?_).trans rfl
  intro hall
  rw [List.contains_iff_mem] at hc
  obtain⟨k,b,c⟩:=List.getElem_of_mem hc
  have:=(h k (by omega)).2 (hall k (by omega))
  simp only [List.getD_eq_getElem?_getD,List.getElem?_eq_getElem b,Option.getD_some,c] at this
  cases this
theorem zv3{m:Mach}(e:MOk m){n:Nat}(g:n=m.rows.length){Y:List Bool}(h:Vis m (List.replicate n false) 0 Y):connB m= !Y.contains false:=by
 have l:=e.r1
 have f: ∀ t,(List.replicate n false).getD t default=false:=fun t=>by
  simp only [List.getD_eq_getElem?_getD,List.getElem?_replicate];split<;>rfl
 have b: ∀ t,t<m.rows.length→Y.getD t default=true→Closed m Y t:=fun t a c=>(h.closed t a c).resolve_left (by rw [f];simp)
 refine zuv (by rw [h.len];simp [g]) fun t a=>⟨fun c=>?_,fun d=>?_⟩
 ·exact((h.reach t c).resolve_left (by rw [f];simp)).2
 ·clear a
  have key: ∀ t,Reach m 0 t→Y.getD t default=true∧t<m.rows.length:=by
   intro t a
   refine⟨?_,a.lt e (by omega)⟩
   induction a with
   |refl=>exact h.here (Int.le_refl _)
   |step o i j k ih=>exact b _ i ih _ j k
  exact(key t d).1
theorem zkt(Y:List Bool):(Y.any fun x=>decide (false=x))=Y.contains false:=by
 rw [Bool.eq_iff_iff,List.any_eq_true,List.contains_iff_mem]
 exact⟨fun⟨x,a,h⟩=>by rw [of_decide_eq_true h];exact a,fun h=>⟨false,h,rfl⟩⟩
theorem zo5{P:Nat→Prop}{k:Nat}(h: ∀ j,j<k→P j)(a:P k): ∀ j,j<k+1→P j:=fun j b=>by
 rcases Nat.lt_succ_iff_lt_or_eq.1 b with c|rfl
 ·exact h j c
 ·exact a
theorem Small.mem{m:Mach}(h:Small m){r:List Edge}(b:r∈m.rows):r.length≤100:=by
 obtain⟨k,a,rfl⟩:=List.getElem_of_mem b
 have:=h.c k a
 simpa [List.getD_eq_getElem?_getD,a] using this
theorem zww{m:Mach}{x:Edge}(h:(x.to= -1∧x.out= -1)∨(0≤x.to∧x.to<m.rows.length∧0≤x.out∧x.out<m.outputs)):(!ze4 m x)=false:=by rw [(zf9 m x).2 h];rfl
theorem zzh{m:Mach}{x:Edge}(h: ¬((x.to= -1∧x.out= -1)∨(0≤x.to∧x.to<m.rows.length∧0≤x.out∧x.out<m.outputs))):(!ze4 m x)=true:=by
 cases hf:ze4 m x
 ·rfl
 ·exact absurd ((zf9 m x).1 hf) h
def z7c(m:Mach):Bool:=decide ((zt8 m:Int)=m.rows.length*m.inputs)
def q02(m:Mach)(Y:List Bool):Prop:= ∀ t,t<m.rows.length→Y.getD t default=true→Closed m Y t
structure RInv (m:Mach) (a:Nat) (r:Nat) (Y:List Bool):Prop where
 len:Y.length=m.rows.length
 sound: ∀ t,Y.getD t default=true→Reach m a t
 start:Y.getD a default=true
 prog:q02 m Y∨r<Y.count true
structure RPass (m:Mach) (a:Nat) (Y0:List Bool) (s i:Nat) (Y:List Bool):Prop where
 len:Y.length=m.rows.length
 sound: ∀ t,Y.getD t default=true→Reach m a t
 start:Y.getD a default=true
 fix:q02 m Y0→Y=Y0
 prog:Y0.count true<Y.count true∨(Y=Y0∧ ∀ t,t<m.rows.length→Y.getD t default=true→ ∀ j,(t<s∨(t=s∧j<i))→j<(m.rows.getD t default).length→0≤((m.rows.getD t default).getD j default).to→Y.getD ((m.rows.getD t default).getD j default).to.toNat default=true)
theorem ztt{Y:List Bool}{t:Nat}(h:Y.getD t default=true)(a:t<Y.length):Y.set t true=Y:=by
 refine zha (by simp) fun k b=>?_
 rw [zbf a]
 by_cases e:k=t
 ·subst e;rw [if_pos rfl,h]
 ·rw [if_neg e]
theorem zc2: ∀ {X:List Bool} {s:Nat},s<X.length→X.getD s default=false→(X.set s true).count true=X.count true+1
 |x::X,0,_,h=>by
  have:x=false:=by simpa using h
  subst this
  simp
 |x::X,s+1,a,h=>by
  have:=zc2 (X:=X) (s:=s) (by simpa using a) (by simpa using h)
  rw [List.set_cons_succ,List.count_cons,List.count_cons];omega
theorem zyg{m:Mach}{a r:Nat}{Y:List Bool}(h:RInv m a r Y):RPass m a Y 0 0 Y:=
 ⟨h.len,h.sound,h.start,fun _=>rfl,.inr ⟨rfl,fun t _ _ j b=>by omega⟩⟩
theorem zxa{m:Mach}{a s i:Nat}{c Y:List Bool}(h:RPass m a c s i Y)(g: ¬(Y.getD s default=true∧0≤((m.rows.getD s default).getD i default).to)):RPass m a c s (i+1) Y:=by
 refine⟨h.len,h.sound,h.start,h.fix,h.prog.imp id fun⟨e,k⟩=>⟨e,fun t l d j n b f=>?_⟩⟩
 by_cases e:t=s∧j=i
 ·obtain⟨rfl,rfl⟩:=e;exact absurd ⟨d,f⟩ g
 ·exact k t l d j (by omega) b f
theorem q0f{m:Mach}{a s i:Nat}{g Y:List Bool}(q:MOk m)(h:RPass m a g s i Y)(c:s<m.rows.length)(hi:i<(m.rows.getD s default).length)(k:Y.getD s default=true)(l:0≤((m.rows.getD s default).getD i default).to):
 RPass m a g s (i+1) (Y.set ((m.rows.getD s default).getD i default).to.toNat true):=by
 have d:((m.rows.getD s default).getD i default).to.toNat<Y.length:=by
  rw [h.len];rcases q.edge s i c hi with h|h<;>omega
 cases hv:Y.getD ((m.rows.getD s default).getD i default).to.toNat default with
 |true=>
  rw [ztt hv d]
  refine⟨h.len,h.sound,h.start,h.fix,h.prog.imp id fun⟨e,r⟩=>⟨e,fun t b hy' j u f h0'=>?_⟩⟩
  by_cases e:t=s∧j=i
  ·obtain⟨rfl,rfl⟩:=e;exact hv
  ·exact r t b hy' j (by omega) f h0'
 |false=>
  have n:=fun t=>zbf (t:=t) d
  refine⟨by simp [h.len],fun t b=>?_,by rw [n];split;rfl;exact h.start,fun o=>?_,.inl ?_⟩
  ·rw [n] at b
   by_cases e:t=((m.rows.getD s default).getD i default).to.toNat
   ·subst e;exact .step (h.sound _ k) c hi l
   ·rw [if_neg e] at b;exact h.sound t b
  ·have e:=h.fix o
   subst e
   have:=o s c k i hi l
   rw [hv] at this;cases this
  ·rw [zc2 d hv]
   rcases h.prog with p|⟨p,_⟩
   ·omega
   ·subst p;omega
theorem zzw{m:Mach}{a s i:Nat}{d Y:List Bool}(h:RPass m a d s i Y)(hi:(m.rows.getD s default).length≤i):RPass m a d (s+1) 0 Y:=
 ⟨h.len,h.sound,h.start,h.fix,h.prog.imp id fun⟨e,f⟩=>⟨e,fun t g k j b c l=>f t g k j (by
  rcases b with b|b
  ·by_cases e:t=s
   ·subst e;exact .inr ⟨rfl,by omega⟩
   ·exact .inl (by omega)
  ·omega) c l⟩⟩
theorem q0j{m:Mach}{a s r:Nat}{d Y:List Bool}(h:RPass m a d s 0 Y)(k:m.rows.length≤s)(b:RInv m a r d):RInv m a (r+1) Y:=by
 refine⟨h.len,h.sound,h.start,?_⟩
 rcases b.prog with c|c
 ·rw [h.fix c];exact .inl c
 ·rcases h.prog with l|⟨_,e⟩
  ·exact .inr (by omega)
  ·exact .inl fun t f g j i b=>e t f g j (.inl (by omega)) i b
theorem zsz{m:Mach}{a:Nat}(g:a<m.rows.length):RInv m a 0 ((List.replicate m.rows.length false).set a true):=by
 have c:a<(List.replicate m.rows.length false).length:=by simpa using g
 have d: ∀ t,(List.replicate m.rows.length false).getD t default=false:=fun t=>by
  simp only [List.getD_eq_getElem?_getD,List.getElem?_replicate];split<;>rfl
 have f:=fun t=>zbf (t:=t) c
 refine⟨by simp,fun t b=>?_,by rw [f,if_pos rfl],.inr (by rw [zc2 c (d a)];omega)⟩
 rw [f,d] at b
 by_cases e:t=a
 ·subst e;exact .refl
 ·rw [if_neg e] at b;cases b
noncomputable def reachL(m:Mach)(a:Nat):List Bool:=(List.range m.rows.length).map fun t=> @decide (Reach m a t) (Classical.propDecidable _)
theorem zcg{m:Mach}{a t:Nat}(b:t<m.rows.length):(reachL m a).getD t default=true↔Reach m a t:=by
 unfold reachL
 simp only [List.getD_eq_getElem?_getD,List.getElem?_map,List.getElem?_range b,Option.map_some,Option.getD_some]
 exact⟨fun h=> @of_decide_eq_true _ (Classical.propDecidable _) h,fun h=> @decide_eq_true _ (Classical.propDecidable _) h⟩
theorem zbt(m:Mach)(a:Nat):(reachL m a).length=m.rows.length:=by simp [reachL]
theorem zwt{m:Mach}{a r:Nat}{Y:List Bool}(i:MOk m)(j:a<m.rows.length)(h:RInv m a r Y)(n:m.rows.length≤r):Y=reachL m a:=by
 have b:q02 m Y:=h.prog.resolve_right (by have:=List.count_le_length (a:=true) (l:=Y);rw [h.len] at this;omega)
 have key: ∀ t,Reach m a t→Y.getD t default=true:=by
  intro t c
  induction c with
  |refl=>exact h.start
  |step o d e f ih=>exact b _ d ih _ e f
 refine zha (by rw [h.len,zbt]) fun k g=>?_
 rw [Bool.eq_iff_iff,zcg (by rw [←h.len];exact g)]
 exact⟨h.sound k,key k⟩
theorem zxo{m:Mach}(h: ∀ j,j<m.rows.length→(reachL m 0).getD j default=true):connB m=true:=by
 unfold connB
 exact @decide_eq_true _ (Classical.propDecidable _) fun t a=>(zcg a).1 (h t a)
theorem zy4{m:Mach}{j:Nat}(a:j<m.rows.length)(h:(reachL m 0).getD j default=false):connB m=false:=by
 unfold connB
 refine @decide_eq_false _ (Classical.propDecidable _) fun hall=>?_
 rw [(zcg a).2 (hall j a)] at h;cases h
theorem zh0{α:Type}[Inhabited α](f:Nat→α){n k:Nat}(h:k<n):((List.range n).map f).getD k default=f k:=by
 simp [List.getD_eq_getElem?_getD,h]
theorem zc1{α:Type}(f:Nat→α)(k:Nat):(List.range (k+1)).map f=(List.range k).map f++[f k]:=by rw [List.range_succ,List.map_append];rfl
end GV
end Go.Proofs.Ytnnobdkjgafdmaa

namespace Go.Proofs.Ytnnobdkjgafdmaa
namespace GV
/-! ### The order of words-/
def zfl:List Int→List Int→Prop
 |a::x,b::y=>a<b∨(a=b∧zfl x y)
 |_,_=>False
def llt(a b:List Int):Prop:=a.length<b.length∨(a.length=b.length∧zfl a b)
def lle(a b:List Int):Prop:=a=b∨llt a b
theorem zfa: ∀ {a b c},zfl a b→zfl b c→zfl a c
 | [],_,_,h,_=>h.elim
 |_::_,[],_,h,_=>h.elim
 |_::_,_::_,[],_,h=>h.elim
 |x::a,y::b,z::c,h,k=>by
  rcases h with h|⟨rfl,h⟩
  ·rcases k with k|⟨rfl,k⟩
   ·exact .inl (by omega)
   ·exact .inl h
  ·rcases k with k|⟨rfl,k⟩
   ·exact .inl k
   ·exact .inr ⟨rfl,zfa h k⟩
theorem zho: ∀ {a b:List Int} (i j:Int),zfl a b→a.length=b.length→zfl (a++[i]) (b++[j])
 | [],_,_,_,h,_=>h.elim
 |_::_,[],_,_,h,_=>h.elim
 |x::a,y::b,i,j,h,c=>by
  rcases h with h|⟨rfl,h⟩
  ·exact .inl h
  ·exact .inr ⟨rfl,zho i j h (by simpa using c)⟩
theorem zgl: ∀ (a:List Int) {i j:Int},i<j→zfl (a++[i]) (a++[j])
 | [],_,_,h=> .inl h
 |_::a,_,_,h=> .inr ⟨rfl,zgl a h⟩
theorem zb8{a b c:List Int}(h:llt a b)(k:llt b c):llt a c:=by
 rcases h with h|⟨h,h'⟩
 ·rcases k with k|⟨k,_⟩
  ·exact .inl (by omega)
  ·exact .inl (by omega)
 ·rcases k with k|⟨k,k'⟩
  ·exact .inl (by omega)
  ·exact .inr ⟨by omega,zfa h' k'⟩
theorem zhz{a b:List Int}(i j:Int)(h:llt a b):llt (a++[i]) (b++[j]):=by
 rcases h with h|⟨h,h'⟩
 ·exact .inl (by simp;omega)
 ·exact .inr ⟨by simp [h],zho i j h' h⟩
theorem zlz(a:List Int){i j:Int}(h:i<j):llt (a++[i]) (a++[j]):= .inr ⟨by simp,zgl a h⟩
theorem zel{a b c:List Int}(h:lle a b)(k:lle b c):lle a c:=by
 rcases h with rfl|h
 ·exact k
 ·rcases k with rfl|k
  ·exact .inr h
  ·exact .inr (zb8 h k)
theorem zm4{a b:List Int}(i:Int)(h:lle a b):lle (a++[i]) (b++[i]):=by
 rcases h with rfl|h
 ·exact .inl rfl
 ·exact .inr (zhz i i h)
/-! ### Entries-/
structure BE where
 st:Nat
 par:Int
 inp:Int
 wd:List Int
 deriving DecidableEq,Inhabited
def ed(m:Mach)(s i:Nat):Int:=((m.rows.getD s default).getD i default).to
def occ(All:List BE)(t:Nat):Bool:=All.any fun e=>decide (e.st=t)
theorem zd2{All:List BE}{t:Nat}:occ All t=true↔ ∃ j,j<All.length∧(All.getD j default).st=t:=by
 unfold occ
 rw [List.any_eq_true]
 constructor
 ·rintro⟨e,c,b⟩
  obtain⟨j,a,rfl⟩:=List.mem_iff_getElem.1 c
  exact⟨j,a,by simpa [List.getD_eq_getElem?_getD,a] using b⟩
 ·rintro⟨j,a,b⟩
  exact⟨_,z1o a,by simpa using b⟩
def push(m:Mach)(x:BE)(All:List BE)(i:Nat):List BE:=
 if ed m x.st i= -1 then All else if occ All (ed m x.st i).toNat=true then All else All++[⟨(ed m x.st i).toNat,x.st,i,x.wd++[(i:Int)]⟩]
def zdg(m:Mach)(x:BE)(All:List BE):Nat→List BE
 |0=>All
 |k+1=>push m x (zdg m x All k) k
def bfs(m:Mach):Nat→Nat→List BE→List BE
 |0,_,All=>All
 |g+1,p,All=>if p<All.length then bfs m g (p+1) (zdg m (All.getD p default) All m.inputs.toNat) else All
theorem zdo{m:Mach}(a:MOk m){s i:Nat}(b:s<m.rows.length)(hi:i<m.inputs.toNat):ed m s i= -1∨(0≤ed m s i∧ed m s i<m.rows.length):=by
 have:=zmg m a (s:Int) (i:Int) (.inr ⟨by omega,by omega⟩) ⟨by omega,by have:=a.i1;omega⟩
 have h:=this.1
 unfold z1h at h
 rw [if_neg (by omega)] at h
 exact h
theorem zwa(m:Mach)(x:BE)(All:List BE)(i:Nat):All<+:push m x All i:=by
 unfold push
 split
 ·exact List.prefix_refl _
 ·split
  ·exact List.prefix_refl _
  ·exact List.prefix_append _ _
theorem zb5(m:Mach)(x:BE)(All:List BE): ∀ k,All<+:zdg m x All k
 |0=>List.prefix_refl _
 |k+1=>(zb5 m x All k).trans (zwa m x _ k)
theorem ztu{X Y:List BE}(h:X<+:Y){j:Nat}(a:j<X.length):Y.getD j default=X.getD j default:=by
 obtain⟨t,rfl⟩:=h
 simp [List.getD_eq_getElem?_getD,List.getElem?_append_left a]
structure Inv (m:Mach) (s0 p k:Nat) (All:List BE):Prop where
 pos:0<All.length
 root:All.getD 0 default=⟨s0,-1,-1,[]⟩
 rng: ∀ j,j<All.length→(All.getD j default).st<m.rows.length
 dis: ∀ i j,i<All.length→j<All.length→(All.getD i default).st=(All.getD j default).st→i=j
 aft: ∀ j,j<All.length→z1s m s0 (All.getD j default).wd=((All.getD j default).st:Int)
 par: ∀ j,0<j→j<All.length→ ∃ q i,q<j∧i<m.inputs.toNat∧(All.getD j default).par=((All.getD q default).st:Int)∧(All.getD j default).inp=(i:Int)∧(All.getD j default).wd=(All.getD q default).wd++[(i:Int)]∧ed m (All.getD q default).st i=((All.getD j default).st:Int)
 inc: ∀ i j,i<j→j<All.length→llt (All.getD i default).wd (All.getD j default).wd
 bnd:p<All.length→ ∀ j,j<All.length→llt (All.getD j default).wd ((All.getD p default).wd++[(k:Int)])
 cls: ∀ q i,q<All.length→i<m.inputs.toNat→(q<p∨(q=p∧i<k))→ed m (All.getD q default).st i≠ -1→ ∃ j,j<All.length∧((All.getD j default).st:Int)=ed m (All.getD q default).st i∧lle (All.getD j default).wd ((All.getD q default).wd++[(i:Int)])
theorem zlj{X:List BE}{e:BE}{j:Nat}(h:j<X.length):(X++[e]).getD j default=X.getD j default:=by
 simp [List.getD_eq_getElem?_getD,List.getElem?_append_left h]
theorem zj9{X:List BE}{e:BE}:(X++[e]).getD X.length default=e:=by
 simp [List.getD_eq_getElem?_getD]
theorem zwu{m:Mach}(z:MOk m){s0 p k:Nat}{All:List BE}(h:Inv m s0 p k All)(g:p<All.length)(y:k<m.inputs.toNat):Inv m s0 p (k+1) (push m (All.getD p default) All k):=by
 have r:=h.bnd g
 have hlast:llt ((All.getD p default).wd++[(k:Int)]) ((All.getD p default).wd++[((k+1:Nat):Int)]):=zlz _ (by omega)
 have hsame:(∀ q i,q=p→i=k→ed m (All.getD q default).st i≠ -1→ ∃ j,j<All.length∧((All.getD j default).st:Int)=ed m (All.getD q default).st i∧lle (All.getD j default).wd ((All.getD q default).wd++[(i:Int)]))→Inv m s0 p (k+1) All:=fun s=>
  {h with
   bnd:=fun _ j a=>zb8 (r j a) hlast
   cls:=fun q i f hi d c=>by
    rcases d with l|⟨rfl,l⟩
    ·exact h.cls q i f hi (.inl l) c
    ·by_cases e:i=k
     ·exact s q i rfl e c
     ·exact h.cls q i f hi (.inr ⟨rfl,by omega⟩) c}
 unfold push
 by_cases h1:ed m (All.getD p default).st k= -1
 ·rw [if_pos h1]
  exact hsame fun q i f hi c=>by subst f;subst hi;exact absurd h1 c
 ·rw [if_neg h1]
  have t:=zdo z (h.rng p g) y
  obtain⟨C,D⟩:=t.resolve_left h1
  by_cases h4:occ All (ed m (All.getD p default).st k).toNat=true
  ·rw [if_pos h4]
   refine hsame fun q i f hi c=>?_
   subst f;subst hi
   obtain⟨j,a,u⟩:=zd2.1 h4
   exact⟨j,a,by rw [u];omega,.inr (r j a)⟩
  ·rw [if_neg h4]
   have hnew: ∀ j,j<All.length→(All.getD j default).st≠(ed m (All.getD p default).st k).toNat:=fun j a e=>h4 (zd2.2 ⟨j,a,e⟩)
   have hlen:(All++[(⟨(ed m (All.getD p default).st k).toNat,((All.getD p default).st:Int),(k:Int),(All.getD p default).wd++[(k:Int)]⟩:BE)]).length=All.length+1:=by simp
   generalize hE:(⟨(ed m (All.getD p default).st k).toNat,((All.getD p default).st:Int),(k:Int),(All.getD p default).wd++[(k:Int)]⟩:BE)=e at hlen⊢
   have n:e.st=(ed m (All.getD p default).st k).toNat:=by rw [←hE]
   have A:e.par=((All.getD p default).st:Int):=by rw [←hE]
   have B:e.inp=(k:Int):=by rw [←hE]
   have o:e.wd=(All.getD p default).wd++[(k:Int)]:=by rw [←hE]
   have cs: ∀ j,j<(All++[e]).length→j<All.length∨j=All.length:=fun j a=>by rw [hlen] at a;omega
   have lt:=fun {j:Nat} (a:j<All.length)=>zlj (e:=e) a
   have le:=zj9 (X:=All) (e:=e)
   refine⟨by rw [hlen];omega,by rw [lt h.pos];exact h.root,fun j a=>?_,fun i j hi a b=>?_,fun j a=>?_,fun j v a=>?_,fun i j b a=>?_,fun _ j a=>?_,fun q i f hi d c=>?_⟩
   ·rcases cs j a with a|rfl
    ·rw [lt a];exact h.rng j a
    ·rw [le,n];omega
   ·rcases cs i hi with hi|rfl<;>rcases cs j a with a|rfl
    ·rw [lt hi,lt a] at b;exact h.dis i j hi a b
    ·rw [lt hi,le,n] at b;exact absurd b (hnew i hi)
    ·rw [le,lt a,n] at b;exact absurd b.symm (hnew j a)
    ·rfl
   ·rcases cs j a with a|rfl
    ·rw [lt a];exact h.aft j a
    ·rw [le,o,n,z6a,h.aft p g]
     show (z1h m ((All.getD p default).st:Int) (k:Int)).to=_
     unfold z1h
     rw [if_neg (by omega)]
     show ed m (All.getD p default).st k=_
     omega
   ·rcases cs j a with a|rfl
    ·obtain⟨q,i,w,x⟩:=h.par j v a
     exact⟨q,i,w,by rw [lt a,lt (by omega)];exact x⟩
    ·refine⟨p,k,g,y,?_⟩
     rw [le,lt g,n,A,B,o]
     exact⟨rfl,rfl,rfl,by omega⟩
   ·rcases cs j a with a|rfl
    ·rw [lt a,lt (by omega)];exact h.inc i j b a
    ·rw [le,lt b,o];exact r i b
   ·rw [lt g]
    rcases cs j a with a|rfl
    ·rw [lt a];exact zb8 (r j a) hlast
    ·rw [le,o];exact hlast
   ·have hq':q<All.length:=by rcases d with l|⟨rfl,_⟩<;>omega
    rw [lt hq'] at c⊢
    by_cases s:q=p∧i=k
    ·obtain⟨rfl,rfl⟩:=s
     exact⟨All.length,by rw [hlen];omega,by rw [le,n];omega,by rw [le,o];exact .inl rfl⟩
    ·obtain⟨j,a,w,x⟩:=h.cls q i hq' hi (by rcases d with l|⟨rfl,l⟩;exact .inl l;exact .inr ⟨rfl,by omega⟩) c
     exact⟨j,by rw [hlen];omega,by rw [lt a];exact w,by rw [lt a];exact x⟩
theorem zqe{m:Mach}(a:MOk m){s0 p:Nat}{All:List BE}(h:Inv m s0 p 0 All)(b:p<All.length): ∀ k,k≤m.inputs.toNat→Inv m s0 p k (zdg m (All.getD p default) All k)
 |0,_=>h
 |k+1,c=>by
  have ih:=zqe a h b k (by omega)
  have hpre:=zb5 m (All.getD p default) All k
  have e:(zdg m (All.getD p default) All k).getD p default=All.getD p default:=ztu hpre b
  have:=zwu a ih (by have:=hpre.length_le;omega) (by omega)
  rw [e] at this
  exact this
theorem zu9{m:Mach}{s0 p:Nat}{All:List BE}(h:Inv m s0 p m.inputs.toNat All)(c:p<All.length):Inv m s0 (p+1) 0 All:=
 {h with
  bnd:=fun hp' j d=>zb8 (h.bnd c j d) (zhz _ _ (h.inc p (p+1) (by omega) hp'))
  cls:=fun q i e hi a b=>h.cls q i e hi (by rcases a with f|⟨_,f⟩;exact(Nat.lt_or_ge q p).imp id fun _=>⟨by omega,hi⟩;omega) b}
theorem zri{m:Mach}{s0 p k:Nat}{All:List BE}(h:Inv m s0 p k All):All.length≤m.rows.length:=by
 have b:(All.map (·.st)).Nodup:=by
  rw [List.nodup_iff_pairwise_ne,List.pairwise_iff_getElem]
  intro i j hi a c e
  rw [List.length_map] at hi a
  rw [List.getElem_map,List.getElem_map] at e
  have:=h.dis i j hi a (by simpa [List.getD_eq_getElem?_getD,a,hi] using e)
  omega
 have hsub:(All.map (·.st))⊆List.range m.rows.length:=by
  intro x d
  obtain⟨e,f,rfl⟩:=List.mem_map.1 d
  obtain⟨j,a,rfl⟩:=List.mem_iff_getElem.1 f
  have:=h.rng j a
  rw [List.mem_range]
  simpa [List.getD_eq_getElem?_getD,a] using this
 have:=List.Nodup.length_le_of_subset b hsub
 simpa using this
theorem zqr{m:Mach}(a:MOk m){s0:Nat}: ∀ (g p:Nat) (All:List BE),p+g=m.rows.length→p≤All.length→Inv m s0 p 0 All→ ∃ q,(bfs m g p All).length≤q∧Inv m s0 q 0 (bfs m g p All)
 |0,p,All,b,c,h=>⟨p,by have:=zri h;show All.length≤p;omega,h⟩
 |g+1,p,All,b,c,h=>by
  unfold bfs
  by_cases hlt:p<All.length
  ·rw [if_pos hlt]
   have d:=zqe a h hlt _ (Nat.le_refl _)
   have hpre:=(zb5 m (All.getD p default) All m.inputs.toNat).length_le
   exact zqr a g (p+1) _ (by omega) (by omega) (zu9 d (by omega))
  ·rw [if_neg hlt]
   exact⟨p,by omega,h⟩
def rch(m:Mach)(s0:Nat):List BE:=bfs m m.rows.length 0 [⟨s0,-1,-1,[]⟩]
structure Rch (m:Mach) (s0:Nat) (P:List BE):Prop where
 pos:0<P.length
 le:P.length≤m.rows.length
 root:P.getD 0 default=⟨s0,-1,-1,[]⟩
 rng: ∀ j,j<P.length→(P.getD j default).st<m.rows.length
 dis: ∀ i j,i<P.length→j<P.length→(P.getD i default).st=(P.getD j default).st→i=j
 aft: ∀ j,j<P.length→z1s m s0 (P.getD j default).wd=((P.getD j default).st:Int)
 par: ∀ j,0<j→j<P.length→ ∃ q i,q<j∧i<m.inputs.toNat∧(P.getD j default).par=((P.getD q default).st:Int)∧(P.getD j default).inp=(i:Int)∧(P.getD j default).wd=(P.getD q default).wd++[(i:Int)]∧ed m (P.getD q default).st i=((P.getD j default).st:Int)
 inc: ∀ i j,i<j→j<P.length→llt (P.getD i default).wd (P.getD j default).wd
 cls: ∀ q i,q<P.length→i<m.inputs.toNat→ed m (P.getD q default).st i≠ -1→ ∃ j,j<P.length∧((P.getD j default).st:Int)=ed m (P.getD q default).st i∧lle (P.getD j default).wd ((P.getD q default).wd++[(i:Int)])
theorem zwb{m:Mach}{s0:Nat}(b:s0<m.rows.length):Inv m s0 0 0 [⟨s0,-1,-1,[]⟩]:=by
 have c: ∀ j,j<[(⟨s0,-1,-1,[]⟩:BE)].length→j=0:=fun j a=>by simpa using a
 refine⟨by simp,rfl,fun j a=>?_,fun i j hi a _=>?_,fun j a=>?_,fun j h a=>?_,fun i j d a=>?_,fun _ j a=>?_,fun q i e hi f g=>?_⟩
 ·rw [c j a];exact b
 ·rw [c i hi,c j a]
 ·rw [c j a];rfl
 ·have:=c j a;omega
 ·have:=c j a;omega
 ·rw [c j a];exact .inl (by simp)
 ·have:=c q e;omega
theorem zuu{m:Mach}(b:MOk m){s0:Nat}(c:s0<m.rows.length):Rch m s0 (rch m s0):=by
 obtain⟨q,d,h⟩:=zqr b m.rows.length 0 _ (by omega) (by simp) (zwb c)
 exact⟨h.pos,zri h,h.root,h.rng,h.dis,h.aft,h.par,h.inc,fun q' i hq' hi a=>h.cls q' i hq' hi (.inl (Nat.lt_of_lt_of_le hq' d)) a⟩
section rch
variable {m : Mach} {s0 : Nat} {P : List BE}
theorem Rch.wok(h:Rch m s0 P): ∀ j,j<P.length→WOk m.inputs (P.getD j default).wd∧(P.getD j default).wd.length≤j
 |j,b=>by
  by_cases h0:j=0
  ·subst h0;rw [h.root];exact⟨fun k a=>by simp at a,by simp⟩
  ·obtain⟨q,i,d,hi,_,_,c,_⟩:=h.par j (by omega) b
   obtain⟨ih,ihl⟩:=Rch.wok h q (by omega)
   rw [c]
   refine⟨fun k a=>?_,by rw [List.length_append,List.length_singleton];omega⟩
   rw [List.length_append,List.length_singleton] at a
   by_cases hk':k<(P.getD q default).wd.length
   ·rw [List.getD_eq_getElem?_getD,List.getElem?_append_left hk',←List.getD_eq_getElem?_getD];exact ih k hk'
   ·have:k=(P.getD q default).wd.length:=by omega
    subst this
    rw [List.getD_eq_getElem?_getD,List.getElem?_concat_length]
    exact⟨by simp,by simp only [Option.getD_some];omega⟩
theorem zw4{n c:Int}{u:List Int}(h:WOk n (u++[c])):WOk n u∧0≤c∧c<n:=by
 refine⟨fun k a=>?_,?_⟩
 ·have:=h k (by simp;omega)
  rwa [List.getD_eq_getElem?_getD,List.getElem?_append_left a,←List.getD_eq_getElem?_getD] at this
 ·have:=h u.length (by simp)
  rwa [List.getD_eq_getElem?_getD,List.getElem?_concat_length] at this
theorem zds(m:Mach): ∀ (w:List Int),z1s m (-1) w= -1
 | []=>rfl
 |c::w=>by
  show z1s m (z1h m (-1) c).to w= -1
  rw [show z1h m (-1) c=⟨-1,-1⟩ from rfl]
  exact zds m w
theorem Rch.least(i:MOk m)(h:Rch m s0 P): ∀ (n:Nat) (w:List Int),w.length=n→WOk m.inputs w→z1s m s0 w≠ -1→ ∃ j,j<P.length∧((P.getD j default).st:Int)=z1s m s0 w∧lle (P.getD j default).wd w
 |0,w,b,g,a=>by
  have:w=[]:=List.length_eq_zero_iff.1 b
  subst this
  exact⟨0,h.pos,by rw [h.root];rfl,by rw [h.root];exact .inl rfl⟩
 |n+1,w,b,g,a=>by
  obtain⟨u,c,rfl⟩: ∃ u c,w=u++[c]:=⟨w.dropLast,w.getLast (by intro e;rw [e] at b;simp at b),(List.dropLast_concat_getLast _).symm⟩
  obtain⟨k,l,o⟩:=zw4 g
  rw [z6a] at a⊢
  have hune:z1s m s0 u≠ -1:=fun e=>by rw [e,zds] at a;exact a rfl
  obtain⟨q,p,d,f⟩:=Rch.least i h n u (by simpa using b) k hune
  rw [←d] at a⊢
  have hstep:z1s m ((P.getD q default).st:Int) [c]=ed m (P.getD q default).st c.toNat:=by
   show (z1h m ((P.getD q default).st:Int) c).to=_
   unfold z1h
   rw [if_neg (by omega)]
   rfl
  rw [hstep] at a⊢
  obtain⟨j,r,s,t⟩:=h.cls q c.toNat p (by omega) a
  refine⟨j,r,s,zel t ?_⟩
  rw [show ((c.toNat:Nat):Int)=c by omega]
  exact zm4 c f
theorem Rch.min(b:MOk m)(h:Rch m s0 P){j:Nat}(c:j<P.length){w:List Int}(d:WOk m.inputs w)(a:z1s m s0 w=((P.getD j default).st:Int)):lle (P.getD j default).wd w:=by
 obtain⟨i,hi,e,f⟩:=h.least b _ w rfl d (by rw [a];omega)
 rw [a] at e
 have:=h.dis i j hi c (by omega)
 subst this
 exact f
end rch
end GV
end Go.Proofs.Ytnnobdkjgafdmaa

namespace Go.Proofs.Ytnnobdkjgafdmaa
namespace GV
set_option maxRecDepth 100000
theorem zzk{N:Nat}{s:List Edge}{f:Edge→Option Bool}{p:Edge→Bool}(b: ∀ k,k<s.length→f (s.getD k default)=some (p (s.getD k default)))(c:s.length<N)(d:s.length≤4611686018427387904):
 tq N s f=some (zg1 p s):=by
 have h:uf N s f N 0=some (if s.any p=true then Ex.rt (zg1 p s) else Ex.go ()):=by
  refine oh (σ:=Unit) (fun F k _=>uf N s f F (k:Int)) s.length (fun k _=>(s.take k).any p=false) _ (fun F k _ a hi=>?_) (fun F _ hi=>?_) N 0 () (Nat.zero_le _) (by omega) (by simp)
  ·simp only [uf]
   rw [xu (by omega),zl (jk a),z0g,qc (b k a)]
   cases hp:p (s.getD k default)
   ·right
    refine⟨(),by rw [z6x p s k a,hi,hp];rfl,?_⟩
    rw [cf rfl,zl (jb (by omega))];rfl
   ·left
    rw [ct rfl,if_pos (List.any_eq_true.2 ⟨_,z1o a,hp⟩),zco p s k a hi hp]
  ·simp only [uf]
   rw [yo (by omega),if_neg (by rw [List.take_length] at hi;rw [hi];decide)]
 unfold tq
 rw [qc h]
 by_cases ha:s.any p=true
 ·rw [if_pos ha];rfl
 ·rw [if_neg ha,zf6 p s (by simpa using ha)];rfl
theorem zt0{N:Nat}{s:List Edge}{f:Edge→Option Bool}{p:Edge→Bool}(a: ∀ k,k<s.length→f (s.getD k default)=some (p (s.getD k default)))(b:s.length<N)(c:s.length≤4611686018427387904):
 di N s f=some (s.any p):=by
 unfold di
 rw [qc (zzk a b c),zkz]
theorem zdd{N:Nat}{m:Mach}(b:Small m)(f:200≤N):sj N m=some (lh m):=by
 unfold sj
 by_cases h:(16<m.inputs∨16<m.outputs)∨64<m.rows.length
 ·rw [ct (by simp;omega),zm7 h]
 ·rw [cf (by simp;omega)]
  by_cases h1:(m.inputs<1∨m.outputs<1)∨m.rows.length<1
  ·rw [ct (by simp;omega),zm8 h h1]
  ·rw [cf (by simp;omega)]
   have g:=b.r
   have d:nz N m N 0=some (if m.rows.any (z0u m)=true then Ex.rt 1 else Ex.go ()):=by
    refine oh (σ:=Unit) (fun F k _=>nz N m F (k:Int)) m.rows.length (fun k _=>(m.rows.take k).any (z0u m)=false) _ (fun F k _ a hi=>?_) (fun F _ hi=>?_) N 0 () (Nat.zero_le _) (by omega) (by simp)
    ·simp only [nz]
     have i:=b.c k a
     rw [xu (by omega),zl (jk a),z0g,zpr (fun _=>zt0 (p:=fun x=> !ze4 m x) (fun j l=>rfl) (by omega) (by omega))]
     have e:(decide (((m.rows.getD k default).length:Int)≠m.inputs)||((bif (true&&(decide (((m.rows.getD k default).length:Int)≠m.inputs)==false)) then some ((m.rows.getD k default).any fun x=> !ze4 m x) else none).getD default))=z0u m (m.rows.getD k default):=by
      unfold z0u
      cases decide (((m.rows.getD k default).length:Int)≠m.inputs)<;>rfl
     rw [e]
     cases hr:z0u m (m.rows.getD k default)
     ·right
      refine⟨(),by rw [z6x _ _ k a,hi,hr];rfl,?_⟩
      rw [cf rfl,zl (jb (by omega))];rfl
     ·left
      rw [ct rfl,if_pos (List.any_eq_true.2 ⟨_,z1o a,hr⟩)]
    ·simp only [nz]
     rw [yo (by omega),if_neg (by rw [List.take_length] at hi;rw [hi];decide)]
   rw [qc d]
   by_cases ha:m.rows.any (z0u m)=true
   ·rw [if_pos ha];unfold lh;rw [if_neg h,if_neg h1,if_pos ha];rfl
   ·rw [if_neg ha,zm1 h h1 (by simpa using ha)];rfl
theorem zoh{N:Nat}{m:Mach}(a:MOk m)(h:200≤N):ru N m=some (zt8 m:Int):=by
 have j:=a.r2;have d:=a.i1;have e:=a.i2
 unfold ru
 refine Eq.trans (qc (x:=(zt8 m:Int)) ?_) rfl
 refine oh (fun F k (s:Int)=>xc N m F s (k:Int)) m.rows.length (fun k s=>s=(z8p m k:Int)) _ (fun F k s b hi=> .inr ?_) (fun F s hi=>?_) N 0 0 (Nat.zero_le _) (by omega) (by simp [z8p])
 ·subst hi
  have hlen:((m.rows.getD k default).length:Int)=m.inputs:=a.row k b
  have f:=zr4 m a k (by omega)
  have g:ww N m (k:Int) N (z8p m k:Int) 0=some (z8p m (k+1):Int):=by
   rw [z8x m k b]
   refine oh (fun F i (s:Int)=>ww N m (k:Int) F s (i:Int)) m.inputs.toNat (fun i s=>s=((z8p m k+zcj (m.rows.getD k default) i:Nat):Int)) _ (fun F i s hi c=> .inr ?_) (fun F s c=>?_) N 0 _ (Nat.zero_le _) (by omega) (by simp [zjr])
   ·subst c
    have hi':i<(m.rows.getD k default).length:=by omega
    refine⟨_,rfl,?_⟩
    simp only [ww]
    have l:=zg8 (m.rows.getD k default) i
    rw [xu (by omega),zl (jk b),zl (show okI (ix m.rows (k:Int)) (i:Int) from jk hi'),zjo _ _ hi']
    by_cases h0:0≤((m.rows.getD k default).getD i default).to
    ·rw [if_pos h0]
     refine Eq.trans (qc (x:=((z8p m k+(zcj (m.rows.getD k default) i+1):Nat):Int)) ?_) ?_
     ·refine Eq.trans (xu h0) ?_
      rw [zl (jb (by omega))];rfl
     ·rw [zl (jb (by omega))];rfl
    ·rw [if_neg h0]
     refine Eq.trans (qc (x:=((z8p m k+(zcj (m.rows.getD k default) i+0):Nat):Int)) ?_) ?_
     ·exact yo h0
     ·rw [zl (jb (by omega))];rfl
   ·subst c
    simp only [ww]
    rw [yo (by omega),show m.inputs.toNat=(m.rows.getD k default).length by omega]
  refine⟨_,rfl,?_⟩
  simp only [xc]
  rw [xu (by omega),qc g,zl (jb (by omega))];rfl
 ·subst hi
  simp only [xc]
  rw [yo (by omega)];rfl
theorem zla{N:Nat}{m:Mach}(a:MOk m)(b:200≤N):iw N m=some (z7c m):=by
 unfold iw
 have:=a.mul
 rw [qc (zoh a b),zl (jb (by rw [this.2];omega))];rfl
theorem zoe{N:Nat}{m:Mach}(b:MOk m)(v:200≤N){a:Nat}(f:a<m.rows.length):oo N m (a:Int)=some (reachL m a):=by
 have w:=b.r2;have k:=b.i1;have l:=b.i2
 unfold oo
 rw [zl ⟨by omega,by omega,by omega⟩,zef,zl (jk (by simpa using f)),z9n]
 refine Eq.trans (qc (x:=reachL m a) ?_) rfl
 refine oh (fun F r Y=>yz N m F (r:Int) Y) m.rows.length (fun r Y=>RInv m a r Y) _ (fun F r Y y hi=> .inr ?_) (fun F Y hi=>?_) N 0 _ (Nat.zero_le _) (by omega) (zsz f)
 ·obtain⟨Z,n,o⟩: ∃ Z,wu N m N 0 Y=some Z∧RInv m a (r+1) Z:=by
   refine z4q (fun F s Z=>wu N m F (s:Int) Z) m.rows.length (fun s Z=>RPass m a Y s 0 Z) _ (fun F s Z e g=> .inr ?_) (fun F Z g=>?_) N 0 Y (Nat.zero_le _) (by omega) (zyg hi)
   ·have hlen:((m.rows.getD s default).length:Int)=m.inputs:=b.row s e
    obtain⟨V,p,q⟩: ∃ V,w9 N m (s:Int) N 0 Z=some V∧RPass m a Y (s+1) 0 V:=by
     refine z4q (fun F i V=>w9 N m (s:Int) F (i:Int) V) m.inputs.toNat (fun i V=>RPass m a Y s i V) _ (fun F i V hi' d=> .inr ?_) (fun F V d=>?_) N 0 Z (Nat.zero_le _) (by omega) g
     ·have c:i<(m.rows.getD s default).length:=by omega
      have j:s<V.length:=by rw [d.len];exact e
      simp only [w9]
      rw [xu (by omega),zl (jk e),zl (show okI (ix m.rows (s:Int)) (i:Int) from jk c),zl (jk j)]
      by_cases hc:V.getD s default=true∧0≤((m.rows.getD s default).getD i default).to
      ·refine⟨_,q0f b d e c hc.1 hc.2,?_⟩
       have t:((m.rows.getD s default).getD i default).to.toNat<V.length:=by
        rw [d.len];rcases b.edge s i e c with h|h<;>omega
       refine Eq.trans (qc (x:=V.set ((m.rows.getD s default).getD i default).to.toNat true) ?_) ?_
       ·refine Eq.trans (ct (by show (V.getD s default&&decide (0≤((m.rows.getD s default).getD i default).to))=true;rw [hc.1,decide_eq_true hc.2];rfl)) ?_
        exact zl (show okI V ((m.rows.getD s default).getD i default).to from⟨hc.2,by omega⟩)
       ·rw [zl (jb (by omega))];rfl
      ·refine⟨V,zxa d hc,?_⟩
       refine Eq.trans (qc (x:=V) ?_) ?_
       ·refine cf (show (V.getD s default&&decide (0≤((m.rows.getD s default).getD i default).to))=false from ?_)
        cases h1:V.getD s default
        ·rfl
        ·exact decide_eq_false fun u=>hc ⟨h1,u⟩
       ·rw [zl (jb (by omega))];rfl
     ·simp only [w9]
      rw [yo (by omega)]
      exact⟨V,rfl,zzw d (by omega)⟩
    refine⟨V,q,?_⟩
    simp only [wu]
    rw [xu (by omega),qc p,zl (jb (by omega))];rfl
   ·simp only [wu]
    rw [yo (by omega)]
    exact⟨Z,rfl,q0j g (Nat.le_refl _) hi⟩
  refine⟨Z,o,?_⟩
  simp only [yz]
  rw [xu (by omega),qc n,zl (jb (by omega))];rfl
 ·simp only [yz]
  rw [yo (by omega),zwt b f hi (Nat.le_refl _)]
theorem ztx{N:Nat}{m:Mach}(b:MOk m)(c:200≤N):ak N m=some (connB m):=by
 have g:=b.r2;have d:=b.r1
 unfold ak
 rw [qc (show oo N m 0=_ from zoe (a:=0) b c (by omega))]
 have h:=zbt m 0
 have e:ul N (reachL m 0) N 0=some (if connB m=true then Ex.go () else Ex.rt false):=by
  refine oh (σ:=Unit) (fun F k _=>ul N (reachL m 0) F (k:Int)) m.rows.length (fun k _=> ∀ j,j<k→(reachL m 0).getD j default=true) _ (fun F k _ f hi=>?_) (fun F _ hi=>?_) N 0 () (Nat.zero_le _) (by omega) (fun j i=>by omega)
  ·simp only [ul]
   rw [xu (by omega),zl (jk (by omega)),z0g]
   cases hb:(reachL m 0).getD k default
   ·left
    refine Eq.trans (ct rfl) ?_
    rw [zy4 f hb];rfl
   ·right
    refine⟨(),zo5 hi hb,Eq.trans (cf rfl) ?_⟩
    rw [zl (jb (by omega))];rfl
  ·simp only [ul]
   rw [yo (by omega),zxo hi];rfl
 rw [qc e]
 cases connB m<;>rfl
/-! ### Words-/
theorem zzo{N:Nat}{s:List Int}{f:Int→Option Bool}{p:Int→Bool}(b: ∀ k,k<s.length→f (s.getD k default)=some (p (s.getD k default)))(c:s.length<N)(d:s.length≤4611686018427387904):
 lc N s f=some (zg1 p s):=by
 have h:yf N s f N 0=some (if s.any p=true then Ex.rt (zg1 p s) else Ex.go ()):=by
  refine oh (σ:=Unit) (fun F k _=>yf N s f F (k:Int)) s.length (fun k _=>(s.take k).any p=false) _ (fun F k _ a hi=>?_) (fun F _ hi=>?_) N 0 () (Nat.zero_le _) (by omega) (by simp)
  ·simp only [yf]
   rw [xu (by omega),zl (jk a),z0g,qc (b k a)]
   cases hp:p (s.getD k default)
   ·right
    refine⟨(),by rw [z6x p s k a,hi,hp];rfl,?_⟩
    rw [cf rfl,zl (jb (by omega))];rfl
   ·left
    rw [ct rfl,if_pos (List.any_eq_true.2 ⟨_,z1o a,hp⟩),zco p s k a hi hp]
  ·simp only [yf]
   rw [yo (by omega),if_neg (by rw [List.take_length] at hi;rw [hi];decide)]
 unfold lc
 rw [qc h]
 by_cases ha:s.any p=true
 ·rw [if_pos ha];rfl
 ·rw [if_neg ha,zf6 p s (by simpa using ha)];rfl
theorem zrw{N:Nat}{s:List Int}{f:Int→Option Bool}{p:Int→Bool}(a: ∀ k,k<s.length→f (s.getD k default)=some (p (s.getD k default)))(b:s.length<N)(c:s.length≤4611686018427387904):
 ig N s f=some (s.any p):=by
 unfold ig
 rw [qc (zzo a b c),zkz]
theorem zxp{N:Nat}{m:Mach}(a:MOk m){s i:Int}(b:SOk m s)(hi:0≤i∧i<m.inputs):z0t N m s i=some (z1h m s i):=by
 unfold z0t z1h
 rcases b with h|h
 ·rw [h];rfl
 ·have hrow:=a.row s.toNat (by omega)
  rw [yo (by omega),if_neg (by omega),zl h,zl (show okI (ix m.rows s) i from⟨hi.1,by rw [zps,hrow];exact hi.2⟩)];rfl
theorem zxw{N:Nat}{m:Mach}(d:MOk m){s:Int}{w:List Int}(f:SOk m s)(e:WOk m.inputs w)(g:w.length<N)(h:w.length≤1000000):si N m s w=some (z05 m s w):=by
 unfold si
 refine Eq.trans (qc (x:=z05 m s w) ?_) rfl
 refine oh (σ:=Int×List Int) (fun F k x=>pg N m w F x.1 x.2 (k:Int)) w.length (fun k x=>x.1=z1s m s (w.take k)∧x.2=z05 m s (w.take k)) _ (fun F k x a hi=> .inr ?_) (fun F x hi=>?_) N 0 (s,[]) (Nat.zero_le _) (by omega) (by simp [z1s,z05])
 ·obtain⟨t,X⟩:=x
  obtain⟨rfl,rfl⟩:=hi
  have b:=zr2 m d s (w.take k) f (zwl e k)
  refine⟨(z1s m s (w.take (k+1)),z05 m s (w.take (k+1))),⟨rfl,rfl⟩,?_⟩
  simp only [pg]
  have c:=z5w m s (w.take k)
  rw [List.length_take] at c
  rw [xu (by omega),zl (jk a)]
  refine Eq.trans (qc (zxp d b (show 0≤w.getD k default∧w.getD k default<m.inputs from e k a))) ?_
  rw [zl ⟨by simp;omega,by simp;omega⟩,zl (jb (by omega)),ztf m s w k a,zss m s w k a];rfl
 ·obtain⟨t,X⟩:=x
  obtain⟨rfl,rfl⟩:=hi
  simp only [pg]
  rw [yo (by omega),List.take_length]
theorem zsc{N:Nat}{m:Mach}(p:Small m)(u:200≤N):z0a N m=some (lh m):=by
 have v:=p.r
 unfold z0a
 by_cases h:(16<m.inputs∨16<m.outputs)∨64<m.rows.length
 ·rw [ct (by simp;omega),zm7 h]
 ·rw [cf (by simp;omega)]
  by_cases h1:(m.inputs<1∨m.outputs<1)∨m.rows.length<1
  ·rw [ct (by simp only [Bool.or_eq_true,decide_eq_true_eq];omega),zm8 h h1]
  ·rw [cf (by
    have:(m.rows.length:Int)≠0:=by omega
    simp only [Bool.or_eq_false_iff,decide_eq_false_iff_not];omega)]
   have q:uj N m N 0=some (if m.rows.any (z0u m)=true then Ex.rt 1 else Ex.go ()):=by
    refine oh (σ:=Unit) (fun F k _=>uj N m F (k:Int)) m.rows.length (fun k _=>(m.rows.take k).any (z0u m)=false) _ (fun F k _ d hi=>?_) (fun F _ hi=>?_) N 0 () (Nat.zero_le _) (by omega) (by simp)
    ·have w:=p.c k d
     have j:(bd (gd (okI m.rows (k:Int))<|bif decide (((ix m.rows (k:Int)).length:Int)≠m.inputs) then(some (Ex.rt (Ex.rt 1))) else wz N m (k:Int) N 0) fun l=>Ex.on l (fun s=>gd (in64 ((k:Int)+1))<|uj N m F ((k:Int)+1)) some)=
      if z0u m (m.rows.getD k default)=true then some (Ex.rt 1) else uj N m F ((k+1:Nat):Int):=by
      rw [zl (jk d)]
      by_cases g:((m.rows.getD k default).length:Int)≠m.inputs
      ·have b:z0u m (m.rows.getD k default)=true:=by unfold z0u;rw [decide_eq_true g];rfl
       rw [if_pos b]
       refine Eq.trans (qc (x:=Ex.rt (Ex.rt 1)) (xu g)) rfl
      ·have h2':((ix m.rows (k:Int)).length:Int)=m.inputs:=Decidable.of_not_not g
       have n:wz N m (k:Int) N 0=some (if z0u m (m.rows.getD k default)=true then Ex.rt (Ex.rt 1) else Ex.go ()):=by
        refine oh (σ:=Unit) (fun G i _=>wz N m (k:Int) G (i:Int)) m.inputs.toNat (fun i _=>(((m.rows.getD k default).take i).any fun x=> !ze4 m x)=false) _ (fun G i _ hi' e=>?_) (fun G _ e=>?_) N 0 () (Nat.zero_le _) (by have:((m.rows.getD k default).length:Int)=m.inputs:=h2';omega) (by simp)
        ·have a:i<(m.rows.getD k default).length:=by have:((m.rows.getD k default).length:Int)=m.inputs:=h2';omega
         simp only [wz]
         rw [xu (by omega),zl (jk d),zl (show okI (ix m.rows (k:Int)) (i:Int) from jk a)]
         have t:ix (ix m.rows (k:Int)) (i:Int)=(m.rows.getD k default).getD i default:=rfl
         rw [t]
         generalize hxe:(m.rows.getD k default).getD i default=x at*
         by_cases h3:x.to= -1∧x.out= -1
         ·right
          have f:=zww (m:=m) (x:=x) (.inl h3)
          refine⟨(),by rw [z6x _ _ i a,e,hxe,f];rfl,?_⟩
          rw [ct (by rw [decide_eq_true h3.1,decide_eq_true h3.2];rfl),zcb,zgk,zl (jb (by omega))];rfl
         ·rw [cf (by rw [←Bool.decide_and];exact decide_eq_false h3)]
          by_cases h4:0≤x.to∧x.to<m.rows.length∧0≤x.out∧x.out<m.outputs
          ·right
           have f:=zww (m:=m) (x:=x) (.inr h4)
           refine⟨(),by rw [z6x _ _ i a,e,hxe,f];rfl,?_⟩
           rw [cf (by simp;omega),zcb,zgk,zl (jb (by omega))];rfl
          ·left
           have f:=zzh (m:=m) (x:=x) (fun h=>h.elim h3 h4)
           rw [ct (by simp;omega),zcb,zzl,if_pos]
           unfold z0u
           rw [Bool.or_eq_true]
           exact .inr (List.any_eq_true.2 ⟨_,z1o a,by rw [hxe];exact f⟩)
        ·simp only [wz]
         rw [yo (by omega),if_neg]
         have o:(m.rows.getD k default).length=m.inputs.toNat:=by have:((m.rows.getD k default).length:Int)=m.inputs:=h2';omega
         rw [←o,List.take_length] at e
         unfold z0u
         rw [e,decide_eq_false g];decide
       refine Eq.trans (qc (Eq.trans (yo (fun h=>h h2')) n)) ?_
       by_cases b:z0u m (m.rows.getD k default)=true
       ·rw [if_pos b,if_pos b];rfl
       ·rw [if_neg b,if_neg b,zgk,zl (jb (by omega))];rfl
     simp only [uj]
     rw [xu (by omega),j]
     cases hr:z0u m (m.rows.getD k default)
     ·right
      exact⟨(),by rw [z6x _ _ k d,hi,hr];rfl,if_neg (by decide)⟩
     ·left
      rw [if_pos rfl,if_pos (List.any_eq_true.2 ⟨_,z1o d,hr⟩)]
    ·simp only [uj]
     rw [yo (by omega),if_neg (by rw [List.take_length] at hi;rw [hi];decide)]
   rw [qc q]
   by_cases ha:m.rows.any (z0u m)=true
   ·rw [if_pos ha];unfold lh;rw [if_neg h,if_neg h1,if_pos ha];rfl
   ·rw [if_neg ha,zm1 h h1 (by simpa using ha)];rfl
/-! ### Data-/
end GV
end Go.Proofs.Ytnnobdkjgafdmaa

namespace Go.Proofs.Ytnnobdkjgafdmaa
namespace GV
set_option maxRecDepth 100000
end GV
end Go.Proofs.Ytnnobdkjgafdmaa

namespace Go.Proofs.Ytnnobdkjgafdmaa
namespace GV
set_option maxRecDepth 100000
def wdOf(P:List BE)(t:Nat):List Int:=((P.find? fun e=>decide (e.st=t)).map (·.wd)).getD []
theorem zsf(P:List BE)(e:BE)(t:Nat):wdOf (P++[e]) t=if occ P t=true then wdOf P t else if e.st=t then e.wd else []:=by
 unfold wdOf occ
 rw [List.find?_append]
 by_cases h:(P.any fun e=>decide (e.st=t))=true
 ·rw [if_pos h]
  obtain⟨x,a,b⟩:=List.any_eq_true.1 h
  cases hf:P.find? (fun e=>decide (e.st=t)) with
  |none=>exact absurd b (by simpa using List.find?_eq_none.1 hf x a)
  |some y=>rfl
 ·rw [if_neg h]
  have c:P.find? (fun e=>decide (e.st=t))=none:=List.find?_eq_none.2 fun x a b=>h (List.any_eq_true.2 ⟨x,a,b⟩)
  rw [c]
  by_cases he:e.st=t
  ·simp [he]
  ·simp [he]
theorem zpw(P:List BE)(k:Nat)(h:k<P.length):P.take (k+1)=P.take k++[P.getD k default]:=by
 rw [List.take_add_one];simp [List.getD_eq_getElem?_getD,h]
section rch
variable {m : Mach} {s0 : Nat} {P : List BE}
theorem Rch.find(h:Rch m s0 P){j:Nat}: ∀ k,k≤P.length→j<k→wdOf (P.take k) (P.getD j default).st=(P.getD j default).wd
 |0,_,c=>by omega
 |k+1,f,c=>by
  rw [zpw P k (by omega),zsf]
  by_cases e:j=k
  ·subst e
   have a:occ (P.take j) (P.getD j default).st=false:=by
    cases hc:occ (P.take j) (P.getD j default).st with
    |false=>rfl
    |true=>
     obtain⟨i,hi,b⟩:=zd2.1 hc
     rw [List.length_take] at hi
     have d:(P.take j).getD i default=P.getD i default:=by simp only [List.getD_eq_getElem?_getD,List.getElem?_take,if_pos (show i<j by omega)]
     rw [d] at b
     have:=h.dis i j (by omega) (by omega) b
     omega
   rw [a,if_neg (by decide),if_pos rfl]
  ·have ih:=Rch.find h k (by omega) (show j<k by omega)
   have a:occ (P.take k) (P.getD j default).st=true:=zd2.2 ⟨j,by rw [List.length_take];omega,by simp only [List.getD_eq_getElem?_getD,List.getElem?_take,if_pos (show j<k by omega)]⟩
   rw [if_pos a,ih]
theorem Rch.fresh(h:Rch m s0 P){k:Nat}(b:k<P.length):occ (P.take k) (P.getD k default).st=false:=by
 cases hc:occ (P.take k) (P.getD k default).st with
 |false=>rfl
 |true=>
  obtain⟨i,hi,a⟩:=zd2.1 hc
  rw [List.length_take] at hi
  have c:(P.take k).getD i default=P.getD i default:=by simp only [List.getD_eq_getElem?_getD,List.getElem?_take,if_pos (show i<k by omega)]
  rw [c] at a
  have:=h.dis i k (by omega) b a
  omega
theorem Rch.wdOf(h:Rch m s0 P){j:Nat}(a:j<P.length):wdOf P (P.getD j default).st=(P.getD j default).wd:=by
 have:=h.find P.length (Nat.le_refl _) a
 rwa [List.take_length] at this
end rch
theorem zqw{N:Nat}{s:List Int}:z0y N s=some s:=by
 unfold z0y
 rw [zl (zl1 s),zku]
end GV
end Go.Proofs.Ytnnobdkjgafdmaa

namespace Go.Proofs.Ytnnobdkjgafdmaa
namespace GV
set_option maxRecDepth 100000
end GV
end Go.Proofs.Ytnnobdkjgafdmaa

namespace Go.Proofs.Ytnnobdkjgafdmaa
namespace GV
set_option maxRecDepth 100000
theorem q0q{N:Nat}{m:Mach}(a:MOk m)(b:200≤N):sj N m=some 0:=by rw [zdd a.small b,(z3b m).2 a]
end GV
end Go.Proofs.Ytnnobdkjgafdmaa

namespace Go.Proofs.Ytnnobdkjgafdmaa
namespace GV
set_option maxRecDepth 1000000
end GV
end Go.Proofs.Ytnnobdkjgafdmaa

namespace Go.Proofs.Ytnnobdkjgafdmaa
namespace GV
set_option maxRecDepth 100000
end GV
end Go.Proofs.Ytnnobdkjgafdmaa

namespace Go.Proofs.Ytnnobdkjgafdmaa
namespace GV
set_option maxRecDepth 100000
def pos(L:List Nat)(t:Int):Int:=if t= -1 then-1 else(L.idxOf t.toNat:Int)
structure ClosedP (m:Mach) (L:List Nat):Prop where
 rng: ∀ s∈L,s<m.rows.length
 nd:L.Nodup
 cl: ∀ s∈L,∀ i,i<m.inputs.toNat→ed m s i≠ -1→(ed m s i).toNat∈L
 ne:L≠[]
section
variable {m : Mach} {L : List Nat}
theorem ClosedP.len(a:ClosedP m L):L.length≤m.rows.length:=by
 have:=List.Nodup.length_le_of_subset a.nd (l₂:=List.range m.rows.length) (fun x b=>List.mem_range.2 (a.rng x b))
 simpa using this
end
/-! ### The program's part-/
theorem zim{α:Type}[Inhabited α](P:List α)(k:Nat)(h:k<P.length):P.take (k+1)=P.take k++[P.getD k default]:=by
 rw [List.take_add_one];simp [List.getD_eq_getElem?_getD,h]
theorem zx6{α:Type}{X:List α}{n k:Nat}{z y:α}(a:X.length=k)(b:k<n):(X++List.replicate (n-k) z).set k y=(X++[y])++List.replicate (n-(k+1)) z:=by
 rw [show n-k=(n-(k+1))+1 by omega,List.replicate_succ,List.set_append_right _ _ (by omega),a,Nat.sub_self]
 simp
end GV
end Go.Proofs.Ytnnobdkjgafdmaa

namespace Go.Proofs.Ytnnobdkjgafdmaa
namespace GV
set_option maxRecDepth 100000
end GV
end Go.Proofs.Ytnnobdkjgafdmaa

namespace Go.Proofs.Ytnnobdkjgafdmaa
namespace GV
set_option maxRecDepth 100000
section
variable {m : Mach} {L : List Nat}
end
/-! ### The states in their order-/
section
variable {m : Mach} {s0 : Nat} {P : List BE}
end
section
variable {m : Mach} {L : List Nat}
end
end GV
end Go.Proofs.Ytnnobdkjgafdmaa

namespace Go.Proofs.Ytnnobdkjgafdmaa
namespace GV
set_option maxRecDepth 100000
end GV
end Go.Proofs.Ytnnobdkjgafdmaa
