import Derived.Test.YtkhihcleegljhaaGreatShPlain
set_option linter.unusedVariables false
set_option linter.unusedSimpArgs false
namespace Go.Proofs.YtkhihcleegljhaaGreat
namespace GV
def eOk(m:Mach)(e:Edge):Prop:=(e.to= -1∧e.out= -1)∨(0≤e.to∧e.to<m.rows.length∧0≤e.out∧e.out<m.outputs)
structure MOk (m:Mach):Prop where
 i1:1≤m.inputs
 i2:m.inputs≤16
 o1:1≤m.outputs
 o2:m.outputs≤16
 r1:1≤m.rows.length
 r2:m.rows.length≤64
 row: ∀ s,s<m.rows.length→((m.rows.getD s default).length:Int)=m.inputs
 edge: ∀ s i,s<m.rows.length→i<(m.rows.getD s default).length→eOk m ((m.rows.getD s default).getD i default)
def z6q(m:Mach)(s i:Int):Edge:=if s<0 then⟨-1,-1⟩ else(m.rows.getD s.toNat default).getD i.toNat default
def z4d(m:Mach):Int→List Int→List Int
 |_,[]=>[]
 |s,i::w=>(z6q m s i).out::z4d m (z6q m s i).to w
def z4s(m:Mach):Int→List Int→Int
 |s,[]=>s
 |s,i::w=>z4s m (z6q m s i).to w
def WOk(n:Int)(w:List Int):Prop:= ∀ k,k<w.length→0≤w.getD k default∧w.getD k default<n
def SOk(m:Mach)(s:Int):Prop:=s= -1∨(0≤s∧s<m.rows.length)
theorem zbz(m:Mach): ∀ (s:Int) (u v:List Int),z4s m s (u++v)=z4s m (z4s m s u) v
 |s,[],v=>rfl
 |s,i::u,v=>zbz m _ u v
theorem zby(m:Mach): ∀ (s:Int) (u v:List Int),z4d m s (u++v)=z4d m s u++z4d m (z4s m s u) v
 |s,[],v=>rfl
 |s,i::u,v=>by
  show _::z4d m _ (u++v)=_::(z4d m _ u++_)
  rw [zby m _ u v];rfl
theorem z1x(m:Mach): ∀ (s:Int) (w:List Int),(z4d m s w).length=w.length
 |s,[]=>rfl
 |s,i::w=>by simp [z4d,z1x m _ w]
theorem zec(w:List Int)(k:Nat)(h:k<w.length):w.take (k+1)=w.take k++[w.getD k default]:=by
 rw [List.take_succ_eq_append_getElem h];simp [List.getD_eq_getElem?_getD,h]
theorem zdp(m:Mach)(s:Int)(w:List Int)(k:Nat)(h:k<w.length):z4d m s (w.take (k+1))=z4d m s (w.take k)++[(z6q m (z4s m s (w.take k)) (w.getD k default)).out]:=by
 rw [zec w k h,zby];rfl
theorem zef(m:Mach)(s:Int)(w:List Int)(k:Nat)(h:k<w.length):z4s m s (w.take (k+1))=(z6q m (z4s m s (w.take k)) (w.getD k default)).to:=by
 rw [zec w k h,zbz];rfl
theorem zkb(m:Mach)(a:MOk m)(s i:Int)(b:SOk m s)(hi:0≤i∧i<m.inputs):SOk m (z6q m s i).to∧ -1≤(z6q m s i).out∧(z6q m s i).out≤16:=by
 unfold z6q
 split
 ·exact⟨.inl rfl,by simp,by simp⟩
 ·have hs':0≤s∧s<m.rows.length:=by rcases b with h|h<;>omega
  have c:=a.row s.toNat (by omega)
  have d:=a.o2
  rcases a.edge s.toNat i.toNat (by omega) (by omega) with h|h
  ·exact⟨.inl h.1,by omega,by omega⟩
  ·exact⟨.inr ⟨h.1,h.2.1⟩,by omega,by omega⟩
theorem zf4(m:Mach)(b:MOk m): ∀ (s:Int) (w:List Int),SOk m s→WOk m.inputs w→SOk m (z4s m s w)
 |s,[],a,_=>a
 |s,i::w,a,c=>zf4 m b _ w (zkb m b s i a (by simpa using c 0 (by simp))).1 (fun k d=>by simpa using c (k+1) (by simpa using d))
theorem zfv{n:Int}{w:List Int}(h:WOk n w)(k:Nat):WOk n (w.take k):=fun j a=>by
 rw [List.length_take] at a
 have:=h j (by omega)
 rwa [show (w.take k).getD j default=w.getD j default from by simp only [List.getD_eq_getElem?_getD,List.getElem?_take];rw [if_pos (by omega)]]
theorem zl5(X:List Int)(n k:Nat)(z:Int)(a:X.length=k)(b:k<n):(X++List.replicate (n-k) (0:Int)).set k z=(X++[z])++List.replicate (n-(k+1)) (0:Int):=by
 subst a
 rw [List.set_append_right _ _ (Nat.le_refl _),Nat.sub_self,List.append_assoc]
 congr 1
 rw [show n-X.length=(n-(X.length+1))+1 from by omega,List.replicate_succ]
 rfl
def zal(m:Mach)(x:Edge):Bool:=decide (x.to= -1∧x.out= -1)||(((decide (0≤x.to)&&decide (x.to<m.rows.length))&&decide (0≤x.out))&&decide (x.out<m.outputs))
theorem zbg(m:Mach)(x:Edge):zal m x=true↔eOk m x:=by
 simp [zal,eOk];omega
theorem z7q{α:Type}[Inhabited α](p:α→Bool)(X:List α)(k:Nat)(h:k<X.length):(X.take (k+1)).any p=((X.take k).any p||p (X.getD k default)):=by
 rw [List.take_succ_eq_append_getElem h,List.any_append]
 simp [List.getD_eq_getElem?_getD,h]
def zdi{α:Type}(p:α→Bool)(X:List α):Int:=match X.findIdx? p with|some i=>i|none=> -1
theorem zhr{α:Type}(p:α→Bool)(X:List α):decide (0≤zdi p X)=X.any p:=by
 unfold zdi
 cases h:X.findIdx? p with
 |none=>
  have:=List.findIdx?_eq_none_iff.1 h
  simp only [Bool.eq_false_iff] at*
  rw [show decide ((0:Int)≤ -1)=false from rfl]
  symm
  rw [List.any_eq_false]
  intro x a
  simp [this x a]
 |some i=>
  obtain⟨hi,b,_⟩:=List.findIdx?_eq_some_iff_getElem.1 h
  rw [show decide ((0:Int)≤(i:Int))=true from by simp]
  symm
  rw [List.any_eq_true]
  exact⟨_,List.getElem_mem hi,b⟩
theorem zcx{α:Type}[Inhabited α](p:α→Bool)(X:List α)(k:Nat)(h:k<X.length)(a:(X.take k).any p=false)(b:p (X.getD k default)=true):zdi p X=k:=by
 have:X.findIdx? p=some k:=by
  rw [List.findIdx?_eq_some_iff_getElem]
  refine⟨h,by simpa [List.getD_eq_getElem?_getD,h] using b,fun j c=>?_⟩
  rw [List.any_eq_false] at a
  have:=a X[j] (by rw [List.mem_take_iff_getElem];exact⟨j,by omega,rfl⟩)
  simpa using this
 simp [zdi,this]
theorem zdt{α:Type}(p:α→Bool)(X:List α)(a:X.any p=false):zdi p X= -1:=by
 have:X.findIdx? p=none:=by
  rw [List.findIdx?_eq_none_iff]
  rw [List.any_eq_false] at a
  intro x b
  simpa using a x b
 simp [zdi,this]
def z0j(m:Mach)(r:List Edge):Bool:=decide ((r.length:Int)≠m.inputs)||r.any fun x=> !zal m x
def si(m:Mach):Int:=if(16<m.inputs∨16<m.outputs)∨64<m.rows.length then 3 else if(m.inputs<1∨m.outputs<1)∨m.rows.length<1 then 1 else if m.rows.any (z0j m)=true then 1 else 0
structure Small (m:Mach):Prop where
 r:m.rows.length≤100
 c: ∀ k,k<m.rows.length→(m.rows.getD k default).length≤100
theorem zfh{m:Mach}(h:(16<m.inputs∨16<m.outputs)∨64<m.rows.length):si m=3:=by unfold si;rw [if_pos h]
theorem zfl{m:Mach}(h: ¬((16<m.inputs∨16<m.outputs)∨64<m.rows.length))(a:(m.inputs<1∨m.outputs<1)∨m.rows.length<1):si m=1:=by unfold si;rw [if_neg h,if_pos a]
theorem zg4{m:Mach}(h: ¬((16<m.inputs∨16<m.outputs)∨64<m.rows.length))(a: ¬((m.inputs<1∨m.outputs<1)∨m.rows.length<1))(b:m.rows.any (z0j m)=false):si m=0:=by
 unfold si;rw [if_neg h,if_neg a,if_neg (by rw [b];decide)]
theorem zb2{α:Type}[Inhabited α](p:α→Bool)(X:List α):X.any p=false↔ ∀ k,k<X.length→p (X.getD k default)=false:=by
 rw [List.any_eq_false]
 refine⟨fun h k a=>by simpa using h _ (z2p a),fun h x b=>?_⟩
 obtain⟨k,a,rfl⟩:=List.getElem_of_mem b
 have:=h k a
 simp only [List.getD_eq_getElem?_getD,List.getElem?_eq_getElem a,Option.getD_some] at this
 simp [this]
theorem z8c(m:Mach)(r:List Edge):z0j m r=false↔(r.length:Int)=m.inputs∧ ∀ i,i<r.length→eOk m (r.getD i default):=by
 unfold z0j
 rw [Bool.or_eq_false_iff,zb2]
 refine and_congr (by simp) (forall_congr' fun i=>forall_congr' fun hi=>?_)
 rw [←zbg];simp
theorem z6i(m:Mach):si m=0↔MOk m:=by
 unfold si
 by_cases h:(16<m.inputs∨16<m.outputs)∨64<m.rows.length
 ·rw [if_pos h];exact⟨fun h=>absurd h (by decide),fun a=>by have:=a.i2;have:=a.o2;have:=a.r2;omega⟩
 rw [if_neg h]
 by_cases h1:(m.inputs<1∨m.outputs<1)∨m.rows.length<1
 ·rw [if_pos h1];exact⟨fun h=>absurd h (by decide),fun a=>by have:=a.i1;have:=a.o1;have:=a.r1;omega⟩
 rw [if_neg h1]
 cases hr:m.rows.any (z0j m)
 ·rw [if_neg (by decide)]
  have:=(zb2 _ _).1 hr
  exact⟨fun _=>⟨by omega,by omega,by omega,by omega,by omega,by omega,fun s b=>((z8c m _).1 (this s b)).1,fun s i b hi=>((z8c m _).1 (this s b)).2 i hi⟩,fun _=>rfl⟩
 ·rw [if_pos rfl]
  refine⟨fun h=>absurd h (by decide),fun a=>?_⟩
  have:m.rows.any (z0j m)=false:=(zb2 _ _).2 fun k c=>(z8c m _).2 ⟨a.row k c,fun i hi=>a.edge k i c hi⟩
  rw [hr] at this;cases this
theorem MOk.small{m:Mach}(a:MOk m):Small m:=⟨by have:=a.r2;omega,fun k b=>by have:=a.row k b;have:=a.i2;omega⟩
def z7c(m:Mach)(s:Int):Int:=if si m≠0 then si m else if s<0∨(m.rows.length:Int)≤s then 1 else 0
theorem zkw{m:Mach}{s:Int}(h:z7c m s=0):MOk m∧0≤s∧s<m.rows.length:=by
 unfold z7c at h
 by_cases h1:si m≠0
 ·rw [if_pos h1] at h;exact absurd h h1
 rw [if_neg h1] at h
 by_cases h2:s<0∨(m.rows.length:Int)≤s
 ·rw [if_pos h2] at h;cases h
 exact⟨(z6i m).1 (by omega),by omega,by omega⟩
def z3l(n c:Int):Bool:=decide (c<0)||decide (n≤c)
def ny(w:List Int)(n:Int):Int:=if 16<n∨256<w.length then 3 else if n<1 then 1 else if w.any (z3l n)=true then 1 else 0
theorem zcq{w:List Int}{n:Int}(h:16<n∨256<w.length):ny w n=3:=by unfold ny;rw [if_pos h]
theorem zfw{w:List Int}{n:Int}(h: ¬(16<n∨256<w.length))(a:n<1∨w.any (z3l n)=true):ny w n=1:=by
 unfold ny;rw [if_neg h]
 by_cases h2:n<1
 ·rw [if_pos h2]
 ·rw [if_neg h2,if_pos (a.resolve_left h2)]
theorem zjk{w:List Int}{n:Int}(h: ¬(16<n∨256<w.length))(a: ¬(n<1∨w.any (z3l n)=true)):ny w n=0:=by
 unfold ny;rw [if_neg h,if_neg (fun h=>a (.inl h)),if_neg (fun h=>a (.inr h))]
theorem z9g{w:List Int}{n:Int}(h:ny w n=0):WOk n w∧w.length≤256:=by
 unfold ny at h
 by_cases h1:16<n∨256<w.length
 ·rw [if_pos h1] at h;cases h
 rw [if_neg h1] at h
 by_cases h2:n<1
 ·rw [if_pos h2] at h;cases h
 rw [if_neg h2] at h
 cases h3:w.any (z3l n)
 ·refine⟨fun k a=>?_,by omega⟩
  have:=(zb2 _ _).1 h3 k a
  simp [z3l] at this
  exact this
 ·rw [h3,if_pos rfl] at h;cases h
def zmo(m:Mach)(s:Int)(w:List Int):Int:=if z7c m s≠0 then z7c m s else ny w m.inputs
def zn7(m:Mach)(s:Int)(w:List Int):List Int:=if z7c m s≠0 then [] else if ny w m.inputs≠0 then [] else z4d m s w
def z6z:List Int→List Int→Int
 |x::a,y::b=>if x<y then-1 else if y<x then 1 else z6z a b
 |_,_=>0
def cmpL(a b:List Int):Int:=if a.length<b.length then-1 else if b.length<a.length then 1 else z6z a b
theorem ze3{α:Type}[Inhabited α](X:List α)(k:Nat)(h:k<X.length):X.drop k=X.getD k default::X.drop (k+1):=by
 rw [List.drop_eq_getElem_cons h];simp [List.getD_eq_getElem?_getD,h]
theorem zdu{a b:List Int}{k:Nat}(c:k<a.length)(d:k<b.length):z6z (a.drop k) (b.drop k)=if a.getD k default<b.getD k default then-1 else if b.getD k default<a.getD k default then 1 else z6z (a.drop (k+1)) (b.drop (k+1)):=by
 rw [ze3 a k c,ze3 b k d];rfl
theorem zhq: ∀ (a b:List Int),a.length=b.length→(z6z a b=0↔a=b)
 | [],[],_=>by simp [z6z]
 |x::a,y::b,h=>by
  have ih:=zhq a b (by simpa using h)
  unfold z6z
  by_cases h1:x<y
  ·rw [if_pos h1];simp;omega
  by_cases h2:y<x
  ·rw [if_neg h1,if_pos h2];simp;omega
  rw [if_neg h1,if_neg h2,ih,show x=y from by omega];simp
theorem cmpL_eq(a b:List Int):cmpL a b=0↔a=b:=by
 unfold cmpL
 by_cases h1:a.length<b.length
 ·rw [if_pos h1];exact⟨fun h=>absurd h (by decide),fun h=>by subst h;omega⟩
 by_cases h2:b.length<a.length
 ·rw [if_neg h1,if_pos h2];exact⟨fun h=>absurd h (by decide),fun h=>by subst h;omega⟩
 rw [if_neg h1,if_neg h2]
 exact zhq a b (by omega)
theorem MOk.mul{m:Mach}(a:MOk m):m.rows.length*m.inputs.toNat≤1024∧(m.rows.length:Int)*m.inputs=((m.rows.length*m.inputs.toNat:Nat):Int):=by
 have b:=a.r2;have c:=a.i1;have d:=a.i2
 refine⟨Nat.le_trans (Nat.mul_le_mul b (show m.inputs.toNat≤16 by omega)) (by decide),?_⟩
 rw [Int.natCast_mul,Int.toNat_of_nonneg (by omega)]
inductive Reach (m:Mach) (s:Nat):Nat→Prop
 |refl:Reach m s s
 |step {t i:Nat}:Reach m s t→t<m.rows.length→i<(m.rows.getD t default).length→0≤((m.rows.getD t default).getD i default).to→Reach m s ((m.rows.getD t default).getD i default).to.toNat
theorem Reach.trans{m:Mach}{a b c:Nat}(h:Reach m a b)(k:Reach m b c):Reach m a c:=by
 induction k with
 |refl=>exact h
 |step _ e hi d ih=>exact .step ih e hi d
theorem Reach.lt{m:Mach}(c:MOk m){a b:Nat}(h:Reach m a b)(d:a<m.rows.length):b<m.rows.length:=by
 cases h with
 |refl=>exact d
 |step g e f i=>rcases c.edge _ _ e f with h|h<;>omega
def Closed(m:Mach)(Y:List Bool)(t:Nat):Prop:= ∀ i,i<(m.rows.getD t default).length→0≤((m.rows.getD t default).getD i default).to→Y.getD ((m.rows.getD t default).getD i default).to.toNat default=true
structure Vis (m:Mach) (X:List Bool) (s:Int) (Y:List Bool):Prop where
 len:Y.length=X.length
 cnt:Y.count false≤X.count false
 mono: ∀ t,X.getD t default=true→Y.getD t default=true
 here:0≤s→Y.getD s.toNat default=true
 reach: ∀ t,Y.getD t default=true→X.getD t default=true∨(0≤s∧Reach m s.toNat t)
 closed: ∀ t,t<m.rows.length→Y.getD t default=true→X.getD t default=true∨Closed m Y t
structure VisK (m:Mach) (X:List Bool) (s:Nat) (k:Nat) (Y:List Bool):Prop where
 len:Y.length=X.length
 cnt:Y.count false<X.count false
 mono: ∀ t,X.getD t default=true→Y.getD t default=true
 here:Y.getD s default=true
 reach: ∀ t,Y.getD t default=true→X.getD t default=true∨Reach m s t
 closed: ∀ t,t<m.rows.length→Y.getD t default=true→X.getD t default=true∨t=s∨Closed m Y t
 done: ∀ i,i<k→0≤((m.rows.getD s default).getD i default).to→Y.getD ((m.rows.getD s default).getD i default).to.toNat default=true
theorem Small.mem{m:Mach}(h:Small m){r:List Edge}(b:r∈m.rows):r.length≤100:=by
 obtain⟨k,a,rfl⟩:=List.getElem_of_mem b
 have:=h.c k a
 simpa [List.getD_eq_getElem?_getD,a] using this
theorem zjl{m:Mach}{x:Edge}(h:(x.to= -1∧x.out= -1)∨(0≤x.to∧x.to<m.rows.length∧0≤x.out∧x.out<m.outputs)):(!zal m x)=false:=by rw [(zbg m x).2 h];rfl
theorem zmx{m:Mach}{x:Edge}(h: ¬((x.to= -1∧x.out= -1)∨(0≤x.to∧x.to<m.rows.length∧0≤x.out∧x.out<m.outputs))):(!zal m x)=true:=by
 cases hf:zal m x
 ·rfl
 ·exact absurd ((zbg m x).1 hf) h
def zo6(m:Mach)(Y:List Bool):Prop:= ∀ t,t<m.rows.length→Y.getD t default=true→Closed m Y t
structure RInv (m:Mach) (a:Nat) (r:Nat) (Y:List Bool):Prop where
 len:Y.length=m.rows.length
 sound: ∀ t,Y.getD t default=true→Reach m a t
 start:Y.getD a default=true
 prog:zo6 m Y∨r<Y.count true
structure RPass (m:Mach) (a:Nat) (Y0:List Bool) (s i:Nat) (Y:List Bool):Prop where
 len:Y.length=m.rows.length
 sound: ∀ t,Y.getD t default=true→Reach m a t
 start:Y.getD a default=true
 fix:zo6 m Y0→Y=Y0
 prog:Y0.count true<Y.count true∨(Y=Y0∧ ∀ t,t<m.rows.length→Y.getD t default=true→ ∀ j,(t<s∨(t=s∧j<i))→j<(m.rows.getD t default).length→0≤((m.rows.getD t default).getD j default).to→Y.getD ((m.rows.getD t default).getD j default).to.toNat default=true)
def MDat.n(x:MDat):Int:=1+x.states%6
def MDat.out(x:MDat):Int:=1+x.outs%3
structure MDOk (x:MDat):Prop where
 st:0≤x.states∧x.states≤255
 ins:0≤x.ins∧x.ins≤255
 outs:0≤x.outs∧x.outs≤255
 ed: ∀ k,k<x.edges.length→0≤x.edges.getD k default∧x.edges.getD k default≤65535
end GV
end Go.Proofs.YtkhihcleegljhaaGreat
