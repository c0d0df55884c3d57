import Derived.Test.YtjmlpkkbmnjhcaaShPlain
set_option linter.unusedVariables false
set_option linter.unusedSimpArgs false
set_option linter.unusedSectionVars false
namespace Go.Proofs.Ytjmlpkkbmnjhcaa
namespace GV
def eOk(m:Mach)(e:Edge):Prop:=(e.to= -1∧e.out= -1)∨(0≤e.to∧e.to<m.rows.length∧0≤e.out∧e.out<m.outputs)
structure MOk (m:Mach):Prop where
 i1:1≤m.inputs
 i2:m.inputs≤16
 o1:1≤m.outputs
 o2:m.outputs≤16
 r1:1≤m.rows.length
 r2:m.rows.length≤64
 row: ∀ s,s<m.rows.length→((m.rows.getD s default).length:Int)=m.inputs
 edge: ∀ s i,s<m.rows.length→i<(m.rows.getD s default).length→eOk m ((m.rows.getD s default).getD i default)
def z4w(m:Mach)(s i:Int):Edge:=if s<0 then⟨-1,-1⟩ else(m.rows.getD s.toNat default).getD i.toNat default
def z1a(m:Mach):Int→List Int→Int
 |s,[]=>s
 |s,i::w=>z1a m (z4w m s i).to w
def WOk(n:Int)(w:List Int):Prop:= ∀ k,k<w.length→0≤w.getD k default∧w.getD k default<n
def SOk(m:Mach)(s:Int):Prop:=s= -1∨(0≤s∧s<m.rows.length)
theorem z9t(m:Mach): ∀ (s:Int) (u v:List Int),z1a m s (u++v)=z1a m (z1a m s u) v
 |s,[],v=>rfl
 |s,i::u,v=>z9t m _ u v
theorem zjb(m:Mach)(a:MOk m)(s i:Int)(b:SOk m s)(hi:0≤i∧i<m.inputs):SOk m (z4w m s i).to∧ -1≤(z4w m s i).out∧(z4w m s i).out≤16:=by
 unfold z4w
 split
 ·exact⟨.inl rfl,by simp,by simp⟩
 ·have hs':0≤s∧s<m.rows.length:=by rcases b with h|h<;>omega
  have c:=a.row s.toNat (by omega)
  have d:=a.o2
  rcases a.edge s.toNat i.toNat (by omega) (by omega) with h|h
  ·exact⟨.inl h.1,by omega,by omega⟩
  ·exact⟨.inr ⟨h.1,h.2.1⟩,by omega,by omega⟩
def zjx(m:Mach)(x:Edge):Bool:=decide (x.to= -1∧x.out= -1)||(((decide (0≤x.to)&&decide (x.to<m.rows.length))&&decide (0≤x.out))&&decide (x.out<m.outputs))
theorem zos(m:Mach)(x:Edge):zjx m x=true↔eOk m x:=by
 simp [zjx,eOk];omega
theorem zid{α:Type}[Inhabited α](p:α→Bool)(X:List α)(k:Nat)(h:k<X.length):(X.take (k+1)).any p=((X.take k).any p||p (X.getD k default)):=by
 rw [List.take_succ_eq_append_getElem h,List.any_append]
 simp [List.getD_eq_getElem?_getD,h]
def zio{α:Type}(p:α→Bool)(X:List α):Int:=match X.findIdx? p with|some i=>i|none=> -1
theorem zrv{α:Type}(p:α→Bool)(X:List α):decide (0≤zio p X)=X.any p:=by
 unfold zio
 cases h:X.findIdx? p with
 |none=>
  have:=List.findIdx?_eq_none_iff.1 h
  simp only [Bool.eq_false_iff] at*
  rw [show decide ((0:Int)≤ -1)=false from rfl]
  symm
  rw [List.any_eq_false]
  intro x a
  simp [this x a]
 |some i=>
  obtain⟨hi,b,_⟩:=List.findIdx?_eq_some_iff_getElem.1 h
  rw [show decide ((0:Int)≤(i:Int))=true from by simp]
  symm
  rw [List.any_eq_true]
  exact⟨_,List.getElem_mem hi,b⟩
theorem zl4{α:Type}[Inhabited α](p:α→Bool)(X:List α)(k:Nat)(h:k<X.length)(a:(X.take k).any p=false)(b:p (X.getD k default)=true):zio p X=k:=by
 have:X.findIdx? p=some k:=by
  rw [List.findIdx?_eq_some_iff_getElem]
  refine⟨h,by simpa [List.getD_eq_getElem?_getD,h] using b,fun j c=>?_⟩
  rw [List.any_eq_false] at a
  have:=a X[j] (by rw [List.mem_take_iff_getElem];exact⟨j,by omega,rfl⟩)
  simpa using this
 simp [zio,this]
theorem zod{α:Type}(p:α→Bool)(X:List α)(a:X.any p=false):zio p X= -1:=by
 have:X.findIdx? p=none:=by
  rw [List.findIdx?_eq_none_iff]
  rw [List.any_eq_false] at a
  intro x b
  simpa using a x b
 simp [zio,this]
def z4z(m:Mach)(r:List Edge):Bool:=decide ((r.length:Int)≠m.inputs)||r.any fun x=> !zjx m x
def z3p(m:Mach):Int:=if(16<m.inputs∨16<m.outputs)∨64<m.rows.length then 3 else if(m.inputs<1∨m.outputs<1)∨m.rows.length<1 then 1 else if m.rows.any (z4z m)=true then 1 else 0
structure Small (m:Mach):Prop where
 r:m.rows.length≤100
 c: ∀ k,k<m.rows.length→(m.rows.getD k default).length≤100
theorem zp6{m:Mach}(h:(16<m.inputs∨16<m.outputs)∨64<m.rows.length):z3p m=3:=by unfold z3p;rw [if_pos h]
theorem zqi{m:Mach}(h: ¬((16<m.inputs∨16<m.outputs)∨64<m.rows.length))(a:(m.inputs<1∨m.outputs<1)∨m.rows.length<1):z3p m=1:=by unfold z3p;rw [if_neg h,if_pos a]
theorem zrn{m:Mach}(h: ¬((16<m.inputs∨16<m.outputs)∨64<m.rows.length))(a: ¬((m.inputs<1∨m.outputs<1)∨m.rows.length<1))(b:m.rows.any (z4z m)=false):z3p m=0:=by
 unfold z3p;rw [if_neg h,if_neg a,if_neg (by rw [b];decide)]
theorem zfd{α:Type}[Inhabited α](p:α→Bool)(X:List α):X.any p=false↔ ∀ k,k<X.length→p (X.getD k default)=false:=by
 rw [List.any_eq_false]
 refine⟨fun h k a=>by simpa using h _ (z3x a),fun h x b=>?_⟩
 obtain⟨k,a,rfl⟩:=List.getElem_of_mem b
 have:=h k a
 simp only [List.getD_eq_getElem?_getD,List.getElem?_eq_getElem a,Option.getD_some] at this
 simp [this]
theorem z90(m:Mach)(r:List Edge):z4z m r=false↔(r.length:Int)=m.inputs∧ ∀ i,i<r.length→eOk m (r.getD i default):=by
 unfold z4z
 rw [Bool.or_eq_false_iff,zfd]
 refine and_congr (by simp) (forall_congr' fun i=>forall_congr' fun hi=>?_)
 rw [←zos];simp
theorem zb2(m:Mach):z3p m=0↔MOk m:=by
 unfold z3p
 by_cases h:(16<m.inputs∨16<m.outputs)∨64<m.rows.length
 ·rw [if_pos h];exact⟨fun h=>absurd h (by decide),fun a=>by have:=a.i2;have:=a.o2;have:=a.r2;omega⟩
 rw [if_neg h]
 by_cases h1:(m.inputs<1∨m.outputs<1)∨m.rows.length<1
 ·rw [if_pos h1];exact⟨fun h=>absurd h (by decide),fun a=>by have:=a.i1;have:=a.o1;have:=a.r1;omega⟩
 rw [if_neg h1]
 cases hr:m.rows.any (z4z m)
 ·rw [if_neg (by decide)]
  have:=(zfd _ _).1 hr
  exact⟨fun _=>⟨by omega,by omega,by omega,by omega,by omega,by omega,fun s b=>((z90 m _).1 (this s b)).1,fun s i b hi=>((z90 m _).1 (this s b)).2 i hi⟩,fun _=>rfl⟩
 ·rw [if_pos rfl]
  refine⟨fun h=>absurd h (by decide),fun a=>?_⟩
  have:m.rows.any (z4z m)=false:=(zfd _ _).2 fun k c=>(z90 m _).2 ⟨a.row k c,fun i hi=>a.edge k i c hi⟩
  rw [hr] at this;cases this
theorem MOk.small{m:Mach}(a:MOk m):Small m:=⟨by have:=a.r2;omega,fun k b=>by have:=a.row k b;have:=a.i2;omega⟩
def zd3:List Int→List Int→Int
 |x::a,y::b=>if x<y then-1 else if y<x then 1 else zd3 a b
 |_,_=>0
def cmpL(a b:List Int):Int:=if a.length<b.length then-1 else if b.length<a.length then 1 else zd3 a b
theorem zgd{α:Type}[Inhabited α](X:List α)(k:Nat)(h:k<X.length):X.drop k=X.getD k default::X.drop (k+1):=by
 rw [List.drop_eq_getElem_cons h];simp [List.getD_eq_getElem?_getD,h]
theorem zoz{a b:List Int}{k:Nat}(c:k<a.length)(d:k<b.length):zd3 (a.drop k) (b.drop k)=if a.getD k default<b.getD k default then-1 else if b.getD k default<a.getD k default then 1 else zd3 (a.drop (k+1)) (b.drop (k+1)):=by
 rw [zgd a k c,zgd b k d];rfl
theorem zma: ∀ (a b:List Int),a.length=b.length→(zd3 a b=0↔a=b)
 | [],[],_=>by simp [zd3]
 |x::a,y::b,h=>by
  have ih:=zma a b (by simpa using h)
  unfold zd3
  by_cases h1:x<y
  ·rw [if_pos h1];simp;omega
  by_cases h2:y<x
  ·rw [if_neg h1,if_pos h2];simp;omega
  rw [if_neg h1,if_neg h2,ih,show x=y from by omega];simp
theorem cmpL_eq(a b:List Int):cmpL a b=0↔a=b:=by
 unfold cmpL
 by_cases h1:a.length<b.length
 ·rw [if_pos h1];exact⟨fun h=>absurd h (by decide),fun h=>by subst h;omega⟩
 by_cases h2:b.length<a.length
 ·rw [if_neg h1,if_pos h2];exact⟨fun h=>absurd h (by decide),fun h=>by subst h;omega⟩
 rw [if_neg h1,if_neg h2]
 exact zma a b (by omega)
theorem ze2{α:Type}[Inhabited α]{X Y:List α}(b:X.length=Y.length)(h: ∀ k,k<X.length→X.getD k default=Y.getD k default):X=Y:=by
 refine List.ext_getElem b fun k a c=>?_
 have:=h k a
 simpa only [List.getD_eq_getElem?_getD,List.getElem?_eq_getElem a,List.getElem?_eq_getElem c,Option.getD_some] using this
def z8t(m:Mach)(k:Nat):Edge:=(m.rows.getD (k/m.inputs.toNat) default).getD (k%m.inputs.toNat) default
def z8l(m:Mach)(k:Nat):List (Int×Int):=((List.range k).filter fun k=>decide ((z8t m k).to= -1∧(z8t m k).out= -1)).map fun k=>(((k/m.inputs.toNat:Nat):Int),((k%m.inputs.toNat:Nat):Int))
def zh8(m:Mach):List (Int×Int):=z8l m (m.rows.length*m.inputs.toNat)
theorem zjy(m:Mach):z8l m 0=[]:=rfl
theorem ziw(m:Mach)(k:Nat):z8l m (k+1)=z8l m k++if(z8t m k).to= -1∧(z8t m k).out= -1 then [(((k/m.inputs.toNat:Nat):Int),((k%m.inputs.toNat:Nat):Int))] else []:=by
 unfold z8l
 rw [List.range_succ,List.filter_append,List.map_append]
 congr 1
 by_cases h:(z8t m k).to= -1∧(z8t m k).out= -1
 ·rw [if_pos h];simp [h]
 ·rw [if_neg h];simp only [List.filter_cons,List.filter_nil,decide_eq_false h];rfl
theorem zng(m:Mach)(k:Nat):(z8l m k).length≤k:=by
 unfold z8l;rw [List.length_map];exact Nat.le_trans (List.length_filter_le _ _) (by simp)
theorem zgc{n k i:Nat}(h:i<n):(k*n+i)/n=k:=by
 rw [Nat.mul_comm,Nat.mul_add_div (by omega),Nat.div_eq_of_lt h];rfl
theorem zgj{n k i:Nat}(h:i<n):(k*n+i)%n=i:=by
 rw [Nat.mul_comm,Nat.mul_add_mod,Nat.mod_eq_of_lt h]
theorem MOk.mul{m:Mach}(a:MOk m):m.rows.length*m.inputs.toNat≤1024∧(m.rows.length:Int)*m.inputs=((m.rows.length*m.inputs.toNat:Nat):Int):=by
 have b:=a.r2;have c:=a.i1;have d:=a.i2
 refine⟨Nat.le_trans (Nat.mul_le_mul b (show m.inputs.toNat≤16 by omega)) (by decide),?_⟩
 rw [Int.natCast_mul,Int.toNat_of_nonneg (by omega)]
theorem zqh{n k i N:Nat}(a:k<N)(hi:i<n):k*n+i<N*n:=by
 have:(k+1)*n≤N*n:=Nat.mul_le_mul_right n a
 rw [Nat.succ_mul] at this;omega
def zl0(m:Mach):Bool:=if z3p m≠0 then false else decide (((zh8 m).length:Int)=0)
inductive Reach (m:Mach) (s:Nat):Nat→Prop
 |refl:Reach m s s
 |step {t i:Nat}:Reach m s t→t<m.rows.length→i<(m.rows.getD t default).length→0≤((m.rows.getD t default).getD i default).to→Reach m s ((m.rows.getD t default).getD i default).to.toNat
theorem Reach.trans{m:Mach}{a b c:Nat}(h:Reach m a b)(k:Reach m b c):Reach m a c:=by
 induction k with
 |refl=>exact h
 |step _ e hi d ih=>exact .step ih e hi d
theorem Reach.lt{m:Mach}(c:MOk m){a b:Nat}(h:Reach m a b)(d:a<m.rows.length):b<m.rows.length:=by
 cases h with
 |refl=>exact d
 |step g e f i=>rcases c.edge _ _ e f with h|h<;>omega
def Closed(m:Mach)(Y:List Bool)(t:Nat):Prop:= ∀ i,i<(m.rows.getD t default).length→0≤((m.rows.getD t default).getD i default).to→Y.getD ((m.rows.getD t default).getD i default).to.toNat default=true
structure Vis (m:Mach) (X:List Bool) (s:Int) (Y:List Bool):Prop where
 len:Y.length=X.length
 cnt:Y.count false≤X.count false
 mono: ∀ t,X.getD t default=true→Y.getD t default=true
 here:0≤s→Y.getD s.toNat default=true
 reach: ∀ t,Y.getD t default=true→X.getD t default=true∨(0≤s∧Reach m s.toNat t)
 closed: ∀ t,t<m.rows.length→Y.getD t default=true→X.getD t default=true∨Closed m Y t
structure VisK (m:Mach) (X:List Bool) (s:Nat) (k:Nat) (Y:List Bool):Prop where
 len:Y.length=X.length
 cnt:Y.count false<X.count false
 mono: ∀ t,X.getD t default=true→Y.getD t default=true
 here:Y.getD s default=true
 reach: ∀ t,Y.getD t default=true→X.getD t default=true∨Reach m s t
 closed: ∀ t,t<m.rows.length→Y.getD t default=true→X.getD t default=true∨t=s∨Closed m Y t
 done: ∀ i,i<k→0≤((m.rows.getD s default).getD i default).to→Y.getD ((m.rows.getD s default).getD i default).to.toNat default=true
theorem zqo{P:Nat→Prop}{k:Nat}(h: ∀ j,j<k→P j)(a:P k): ∀ j,j<k+1→P j:=fun j b=>by
 rcases Nat.lt_succ_iff_lt_or_eq.1 b with c|rfl
 ·exact h j c
 ·exact a
theorem Small.mem{m:Mach}(h:Small m){r:List Edge}(b:r∈m.rows):r.length≤100:=by
 obtain⟨k,a,rfl⟩:=List.getElem_of_mem b
 have:=h.c k a
 simpa [List.getD_eq_getElem?_getD,a] using this
def zwu(m:Mach)(Y:List Bool):Prop:= ∀ t,t<m.rows.length→Y.getD t default=true→Closed m Y t
structure RInv (m:Mach) (a:Nat) (r:Nat) (Y:List Bool):Prop where
 len:Y.length=m.rows.length
 sound: ∀ t,Y.getD t default=true→Reach m a t
 start:Y.getD a default=true
 prog:zwu m Y∨r<Y.count true
structure RPass (m:Mach) (a:Nat) (Y0:List Bool) (s i:Nat) (Y:List Bool):Prop where
 len:Y.length=m.rows.length
 sound: ∀ t,Y.getD t default=true→Reach m a t
 start:Y.getD a default=true
 fix:zwu m Y0→Y=Y0
 prog:Y0.count true<Y.count true∨(Y=Y0∧ ∀ t,t<m.rows.length→Y.getD t default=true→ ∀ j,(t<s∨(t=s∧j<i))→j<(m.rows.getD t default).length→0≤((m.rows.getD t default).getD j default).to→Y.getD ((m.rows.getD t default).getD j default).to.toNat default=true)
end GV
end Go.Proofs.Ytjmlpkkbmnjhcaa
