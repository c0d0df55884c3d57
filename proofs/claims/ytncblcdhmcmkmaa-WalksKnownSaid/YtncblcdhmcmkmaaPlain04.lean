import Derived.Test.YtncblcdhmcmkmaaShPlain
set_option linter.unusedVariables false
set_option linter.unusedSimpArgs false
namespace Go.Proofs.Ytncblcdhmcmkmaa
namespace GV
def eOk(m:Mach)(e:Edge):Prop:=(e.to= -1∧e.out= -1)∨(0≤e.to∧e.to<m.rows.length∧0≤e.out∧e.out<m.outputs)
structure MOk (m:Mach):Prop where
 i1:1≤m.inputs
 i2:m.inputs≤16
 o1:1≤m.outputs
 o2:m.outputs≤16
 r1:1≤m.rows.length
 r2:m.rows.length≤64
 row: ∀ s,s<m.rows.length→((m.rows.getD s default).length:Int)=m.inputs
 edge: ∀ s i,s<m.rows.length→i<(m.rows.getD s default).length→eOk m ((m.rows.getD s default).getD i default)
def zcg(l:List Edge)(k:Nat):Nat:=(l.take k).countP fun e=>decide (0≤e.to)
def zb2(m:Mach)(k:Nat):Nat:=((m.rows.take k).map fun r=>r.countP fun e=>decide (0≤e.to)).sum
def zra(m:Mach):Nat:=zb2 m m.rows.length
theorem zfx(l:List Edge):zcg l 0=0:=by simp [zcg]
theorem zgl(l:List Edge)(k:Nat)(h:k<l.length):zcg l (k+1)=zcg l k+if 0≤(l.getD k default).to then 1 else 0:=by
 unfold zcg
 rw [List.take_succ_eq_append_getElem h,List.countP_append]
 simp [List.countP_cons,List.getD_eq_getElem?_getD,h]
theorem zlb(l:List Edge)(k:Nat):zcg l k≤k:=by
 unfold zcg;exact Nat.le_trans List.countP_le_length (List.length_take_le _ _)
theorem zcu(m:Mach)(k:Nat)(h:k<m.rows.length):zb2 m (k+1)=zb2 m k+zcg (m.rows.getD k default) (m.rows.getD k default).length:=by
 unfold zb2 zcg
 rw [List.take_succ_eq_append_getElem h,List.map_append,List.sum_append,List.take_length]
 congr 1
 simp [List.getD_eq_getElem?_getD,h]
theorem zlm(m:Mach)(a:MOk m): ∀ k,k≤m.rows.length→zb2 m k≤16*k
 |0,_=>by simp [zb2]
 |k+1,h=>by
  rw [zcu m k h]
  have:=zlm m a k (by omega)
  have b:=zlb (m.rows.getD k default) (m.rows.getD k default).length
  have c:=a.row k h
  have d:=a.i2
  omega
def z1m(m:Mach)(s i:Int):Edge:=if s<0 then⟨-1,-1⟩ else(m.rows.getD s.toNat default).getD i.toNat default
def z4l(m:Mach):Int→List Int→List Int
 |_,[]=>[]
 |s,i::w=>(z1m m s i).out::z4l m (z1m m s i).to w
def z2q(m:Mach):Int→List Int→Int
 |s,[]=>s
 |s,i::w=>z2q m (z1m m s i).to w
def WOk(n:Int)(w:List Int):Prop:= ∀ k,k<w.length→0≤w.getD k default∧w.getD k default<n
def SOk(m:Mach)(s:Int):Prop:=s= -1∨(0≤s∧s<m.rows.length)
theorem z6z(m:Mach): ∀ (s:Int) (u v:List Int),z2q m s (u++v)=z2q m (z2q m s u) v
 |s,[],v=>rfl
 |s,i::u,v=>z6z m _ u v
theorem zdg(m:Mach): ∀ (s:Int) (u v:List Int),z4l m s (u++v)=z4l m s u++z4l m (z2q m s u) v
 |s,[],v=>rfl
 |s,i::u,v=>by
  show _::z4l m _ (u++v)=_::(z4l m _ u++_)
  rw [zdg m _ u v];rfl
theorem z7g(m:Mach): ∀ (s:Int) (w:List Int),(z4l m s w).length=w.length
 |s,[]=>rfl
 |s,i::w=>by simp [z4l,z7g m _ w]
theorem z4y(w:List Int)(k:Nat)(h:k<w.length):w.take (k+1)=w.take k++[w.getD k default]:=by
 rw [List.take_succ_eq_append_getElem h];simp [List.getD_eq_getElem?_getD,h]
theorem zmk(m:Mach)(s:Int)(w:List Int)(k:Nat)(h:k<w.length):z4l m s (w.take (k+1))=z4l m s (w.take k)++[(z1m m (z2q m s (w.take k)) (w.getD k default)).out]:=by
 rw [z4y w k h,zdg];rfl
theorem zn7(m:Mach)(s:Int)(w:List Int)(k:Nat)(h:k<w.length):z2q m s (w.take (k+1))=(z1m m (z2q m s (w.take k)) (w.getD k default)).to:=by
 rw [z4y w k h,z6z];rfl
theorem zeh(m:Mach)(a:MOk m)(s i:Int)(b:SOk m s)(hi:0≤i∧i<m.inputs):SOk m (z1m m s i).to∧ -1≤(z1m m s i).out∧(z1m m s i).out≤16:=by
 unfold z1m
 split
 ·exact⟨.inl rfl,by simp,by simp⟩
 ·have hs':0≤s∧s<m.rows.length:=by rcases b with h|h<;>omega
  have c:=a.row s.toNat (by omega)
  have d:=a.o2
  rcases a.edge s.toNat i.toNat (by omega) (by omega) with h|h
  ·exact⟨.inl h.1,by omega,by omega⟩
  ·exact⟨.inr ⟨h.1,h.2.1⟩,by omega,by omega⟩
theorem zh0(m:Mach)(b:MOk m): ∀ (s:Int) (w:List Int),SOk m s→WOk m.inputs w→SOk m (z2q m s w)
 |s,[],a,_=>a
 |s,i::w,a,c=>zh0 m b _ w (zeh m b s i a (by simpa using c 0 (by simp))).1 (fun k d=>by simpa using c (k+1) (by simpa using d))
theorem zpn{n:Int}{w:List Int}(h:WOk n w)(k:Nat):WOk n (w.take k):=fun j a=>by
 rw [List.length_take] at a
 have:=h j (by omega)
 rwa [show (w.take k).getD j default=w.getD j default from by simp only [List.getD_eq_getElem?_getD,List.getElem?_take];rw [if_pos (by omega)]]
theorem zqf(X:List Int)(n k:Nat)(z:Int)(a:X.length=k)(b:k<n):(X++List.replicate (n-k) (0:Int)).set k z=(X++[z])++List.replicate (n-(k+1)) (0:Int):=by
 subst a
 rw [List.set_append_right _ _ (Nat.le_refl _),Nat.sub_self,List.append_assoc]
 congr 1
 rw [show n-X.length=(n-(X.length+1))+1 from by omega,List.replicate_succ]
 rfl
def zc7(m:Mach)(x:Edge):Bool:=decide (x.to= -1∧x.out= -1)||(((decide (0≤x.to)&&decide (x.to<m.rows.length))&&decide (0≤x.out))&&decide (x.out<m.outputs))
theorem zcz(m:Mach)(x:Edge):zc7 m x=true↔eOk m x:=by
 simp [zc7,eOk];omega
theorem z88{α:Type}[Inhabited α](p:α→Bool)(X:List α)(k:Nat)(h:k<X.length):(X.take (k+1)).any p=((X.take k).any p||p (X.getD k default)):=by
 rw [List.take_succ_eq_append_getElem h,List.any_append]
 simp [List.getD_eq_getElem?_getD,h]
def zft{α:Type}(p:α→Bool)(X:List α):Int:=match X.findIdx? p with|some i=>i|none=> -1
theorem zlr{α:Type}(p:α→Bool)(X:List α):decide (0≤zft p X)=X.any p:=by
 unfold zft
 cases h:X.findIdx? p with
 |none=>
  have:=List.findIdx?_eq_none_iff.1 h
  simp only [Bool.eq_false_iff] at*
  rw [show decide ((0:Int)≤ -1)=false from rfl]
  symm
  rw [List.any_eq_false]
  intro x a
  simp [this x a]
 |some i=>
  obtain⟨hi,b,_⟩:=List.findIdx?_eq_some_iff_getElem.1 h
  rw [show decide ((0:Int)≤(i:Int))=true from by simp]
  symm
  rw [List.any_eq_true]
  exact⟨_,List.getElem_mem hi,b⟩
theorem ze3{α:Type}[Inhabited α](p:α→Bool)(X:List α)(k:Nat)(h:k<X.length)(a:(X.take k).any p=false)(b:p (X.getD k default)=true):zft p X=k:=by
 have:X.findIdx? p=some k:=by
  rw [List.findIdx?_eq_some_iff_getElem]
  refine⟨h,by simpa [List.getD_eq_getElem?_getD,h] using b,fun j c=>?_⟩
  rw [List.any_eq_false] at a
  have:=a X[j] (by rw [List.mem_take_iff_getElem];exact⟨j,by omega,rfl⟩)
  simpa using this
 simp [zft,this]
theorem zgn{α:Type}(p:α→Bool)(X:List α)(a:X.any p=false):zft p X= -1:=by
 have:X.findIdx? p=none:=by
  rw [List.findIdx?_eq_none_iff]
  rw [List.any_eq_false] at a
  intro x b
  simpa using a x b
 simp [zft,this]
def z10(m:Mach)(r:List Edge):Bool:=decide ((r.length:Int)≠m.inputs)||r.any fun x=> !zc7 m x
def z3m(m:Mach):Int:=if(16<m.inputs∨16<m.outputs)∨64<m.rows.length then 3 else if(m.inputs<1∨m.outputs<1)∨m.rows.length<1 then 1 else if m.rows.any (z10 m)=true then 1 else 0
structure Small (m:Mach):Prop where
 r:m.rows.length≤100
 c: ∀ k,k<m.rows.length→(m.rows.getD k default).length≤100
theorem zjj{m:Mach}(h:(16<m.inputs∨16<m.outputs)∨64<m.rows.length):z3m m=3:=by unfold z3m;rw [if_pos h]
theorem zj4{m:Mach}(h: ¬((16<m.inputs∨16<m.outputs)∨64<m.rows.length))(a:(m.inputs<1∨m.outputs<1)∨m.rows.length<1):z3m m=1:=by unfold z3m;rw [if_neg h,if_pos a]
theorem zi2{m:Mach}(h: ¬((16<m.inputs∨16<m.outputs)∨64<m.rows.length))(a: ¬((m.inputs<1∨m.outputs<1)∨m.rows.length<1))(b:m.rows.any (z10 m)=false):z3m m=0:=by
 unfold z3m;rw [if_neg h,if_neg a,if_neg (by rw [b];decide)]
theorem zee{α:Type}[Inhabited α](p:α→Bool)(X:List α):X.any p=false↔ ∀ k,k<X.length→p (X.getD k default)=false:=by
 rw [List.any_eq_false]
 refine⟨fun h k a=>by simpa using h _ (z1g a),fun h x b=>?_⟩
 obtain⟨k,a,rfl⟩:=List.getElem_of_mem b
 have:=h k a
 simp only [List.getD_eq_getElem?_getD,List.getElem?_eq_getElem a,Option.getD_some] at this
 simp [this]
theorem z8p(m:Mach)(r:List Edge):z10 m r=false↔(r.length:Int)=m.inputs∧ ∀ i,i<r.length→eOk m (r.getD i default):=by
 unfold z10
 rw [Bool.or_eq_false_iff,zee]
 refine and_congr (by simp) (forall_congr' fun i=>forall_congr' fun hi=>?_)
 rw [←zcz];simp
theorem z8s(m:Mach):z3m m=0↔MOk m:=by
 unfold z3m
 by_cases h:(16<m.inputs∨16<m.outputs)∨64<m.rows.length
 ·rw [if_pos h];exact⟨fun h=>absurd h (by decide),fun a=>by have:=a.i2;have:=a.o2;have:=a.r2;omega⟩
 rw [if_neg h]
 by_cases h1:(m.inputs<1∨m.outputs<1)∨m.rows.length<1
 ·rw [if_pos h1];exact⟨fun h=>absurd h (by decide),fun a=>by have:=a.i1;have:=a.o1;have:=a.r1;omega⟩
 rw [if_neg h1]
 cases hr:m.rows.any (z10 m)
 ·rw [if_neg (by decide)]
  have:=(zee _ _).1 hr
  exact⟨fun _=>⟨by omega,by omega,by omega,by omega,by omega,by omega,fun s b=>((z8p m _).1 (this s b)).1,fun s i b hi=>((z8p m _).1 (this s b)).2 i hi⟩,fun _=>rfl⟩
 ·rw [if_pos rfl]
  refine⟨fun h=>absurd h (by decide),fun a=>?_⟩
  have:m.rows.any (z10 m)=false:=(zee _ _).2 fun k c=>(z8p m _).2 ⟨a.row k c,fun i hi=>a.edge k i c hi⟩
  rw [hr] at this;cases this
theorem MOk.small{m:Mach}(a:MOk m):Small m:=⟨by have:=a.r2;omega,fun k b=>by have:=a.row k b;have:=a.i2;omega⟩
def zch:List Int→List Int→Int
 |x::a,y::b=>if x<y then-1 else if y<x then 1 else zch a b
 |_,_=>0
def cmpL(a b:List Int):Int:=if a.length<b.length then-1 else if b.length<a.length then 1 else zch a b
theorem z7s{α:Type}[Inhabited α](X:List α)(k:Nat)(h:k<X.length):X.drop k=X.getD k default::X.drop (k+1):=by
 rw [List.drop_eq_getElem_cons h];simp [List.getD_eq_getElem?_getD,h]
theorem znk{a b:List Int}{k:Nat}(c:k<a.length)(d:k<b.length):zch (a.drop k) (b.drop k)=if a.getD k default<b.getD k default then-1 else if b.getD k default<a.getD k default then 1 else zch (a.drop (k+1)) (b.drop (k+1)):=by
 rw [z7s a k c,z7s b k d];rfl
theorem zld: ∀ (a b:List Int),a.length=b.length→(zch a b=0↔a=b)
 | [],[],_=>by simp [zch]
 |x::a,y::b,h=>by
  have ih:=zld a b (by simpa using h)
  unfold zch
  by_cases h1:x<y
  ·rw [if_pos h1];simp;omega
  by_cases h2:y<x
  ·rw [if_neg h1,if_pos h2];simp;omega
  rw [if_neg h1,if_neg h2,ih,show x=y from by omega];simp
theorem cmpL_eq(a b:List Int):cmpL a b=0↔a=b:=by
 unfold cmpL
 by_cases h1:a.length<b.length
 ·rw [if_pos h1];exact⟨fun h=>absurd h (by decide),fun h=>by subst h;omega⟩
 by_cases h2:b.length<a.length
 ·rw [if_neg h1,if_pos h2];exact⟨fun h=>absurd h (by decide),fun h=>by subst h;omega⟩
 rw [if_neg h1,if_neg h2]
 exact zld a b (by omega)
theorem z0t{α:Type}[Inhabited α]{X Y:List α}(b:X.length=Y.length)(h: ∀ k,k<X.length→X.getD k default=Y.getD k default):X=Y:=by
 refine List.ext_getElem b fun k a c=>?_
 have:=h k a
 simpa only [List.getD_eq_getElem?_getD,List.getElem?_eq_getElem a,List.getElem?_eq_getElem c,Option.getD_some] using this
theorem zdz{a b:Mach}:a=b↔a.inputs=b.inputs∧a.outputs=b.outputs∧a.rows=b.rows:=by
 cases a;cases b;simp
theorem MOk.mul{m:Mach}(a:MOk m):m.rows.length*m.inputs.toNat≤1024∧(m.rows.length:Int)*m.inputs=((m.rows.length*m.inputs.toNat:Nat):Int):=by
 have b:=a.r2;have c:=a.i1;have d:=a.i2
 refine⟨Nat.le_trans (Nat.mul_le_mul b (show m.inputs.toNat≤16 by omega)) (by decide),?_⟩
 rw [Int.natCast_mul,Int.toNat_of_nonneg (by omega)]
inductive Reach (m:Mach) (s:Nat):Nat→Prop
 |refl:Reach m s s
 |step {t i:Nat}:Reach m s t→t<m.rows.length→i<(m.rows.getD t default).length→0≤((m.rows.getD t default).getD i default).to→Reach m s ((m.rows.getD t default).getD i default).to.toNat
theorem Reach.trans{m:Mach}{a b c:Nat}(h:Reach m a b)(k:Reach m b c):Reach m a c:=by
 induction k with
 |refl=>exact h
 |step _ e hi d ih=>exact .step ih e hi d
theorem Reach.lt{m:Mach}(c:MOk m){a b:Nat}(h:Reach m a b)(d:a<m.rows.length):b<m.rows.length:=by
 cases h with
 |refl=>exact d
 |step g e f i=>rcases c.edge _ _ e f with h|h<;>omega
def Closed(m:Mach)(Y:List Bool)(t:Nat):Prop:= ∀ i,i<(m.rows.getD t default).length→0≤((m.rows.getD t default).getD i default).to→Y.getD ((m.rows.getD t default).getD i default).to.toNat default=true
structure Vis (m:Mach) (X:List Bool) (s:Int) (Y:List Bool):Prop where
 len:Y.length=X.length
 cnt:Y.count false≤X.count false
 mono: ∀ t,X.getD t default=true→Y.getD t default=true
 here:0≤s→Y.getD s.toNat default=true
 reach: ∀ t,Y.getD t default=true→X.getD t default=true∨(0≤s∧Reach m s.toNat t)
 closed: ∀ t,t<m.rows.length→Y.getD t default=true→X.getD t default=true∨Closed m Y t
structure VisK (m:Mach) (X:List Bool) (s:Nat) (k:Nat) (Y:List Bool):Prop where
 len:Y.length=X.length
 cnt:Y.count false<X.count false
 mono: ∀ t,X.getD t default=true→Y.getD t default=true
 here:Y.getD s default=true
 reach: ∀ t,Y.getD t default=true→X.getD t default=true∨Reach m s t
 closed: ∀ t,t<m.rows.length→Y.getD t default=true→X.getD t default=true∨t=s∨Closed m Y t
 done: ∀ i,i<k→0≤((m.rows.getD s default).getD i default).to→Y.getD ((m.rows.getD s default).getD i default).to.toNat default=true
theorem zcj{X:List Bool}{s t:Nat}(a:s<X.length):(X.set s true).getD t default=if t=s then true else X.getD t default:=by
 simp only [List.getD_eq_getElem?_getD,List.getElem?_set]
 by_cases h:s=t
 ·subst h;simp [a]
 ·rw [if_neg h,if_neg (fun e=>h e.symm)]
noncomputable def connB(m:Mach):Bool:= @decide (∀ t,t<m.rows.length→Reach m 0 t) (Classical.propDecidable _)
theorem zi7{x y:Edge}(h:x.to=y.to∧x.out=y.out):x=y:=by cases x;cases y;simp at h;simp [h]
theorem z9w{P:Nat→Prop}{k:Nat}(h: ∀ j,j<k→P j)(a:P k): ∀ j,j<k+1→P j:=fun j b=>by
 rcases Nat.lt_succ_iff_lt_or_eq.1 b with c|rfl
 ·exact h j c
 ·exact a
def ziw(a b:Mach):Bool:=(((decide (z3m a=0)&&decide (z3m b=0))&&decide (a.inputs=b.inputs))&&decide (a.outputs=b.outputs))&&decide (a.rows=b.rows)
theorem zmo(a b:Mach):ziw a b=true↔MOk a∧a=b:=by
 unfold ziw
 simp only [Bool.and_eq_true,decide_eq_true_eq,z8s]
 rw [zdz]
 refine⟨fun⟨⟨⟨⟨f,g⟩,c⟩,d⟩,e⟩=>⟨f,c,d,e⟩,fun⟨f,c,d,e⟩=>⟨⟨⟨⟨f,?_⟩,c⟩,d⟩,e⟩⟩
 rwa [←(zdz.2 ⟨c,d,e⟩:a=b)]
theorem Small.mem{m:Mach}(h:Small m){r:List Edge}(b:r∈m.rows):r.length≤100:=by
 obtain⟨k,a,rfl⟩:=List.getElem_of_mem b
 have:=h.c k a
 simpa [List.getD_eq_getElem?_getD,a] using this
theorem zom{m:Mach}{x:Edge}(h:(x.to= -1∧x.out= -1)∨(0≤x.to∧x.to<m.rows.length∧0≤x.out∧x.out<m.outputs)):(!zc7 m x)=false:=by rw [(zcz m x).2 h];rfl
theorem zsy{m:Mach}{x:Edge}(h: ¬((x.to= -1∧x.out= -1)∨(0≤x.to∧x.to<m.rows.length∧0≤x.out∧x.out<m.outputs))):(!zc7 m x)=true:=by
 cases hf:zc7 m x
 ·rfl
 ·exact absurd ((zcz m x).1 hf) h
def zk6(m:Mach):Bool:=decide ((zra m:Int)=m.rows.length*m.inputs)
def ztv(m:Mach)(Y:List Bool):Prop:= ∀ t,t<m.rows.length→Y.getD t default=true→Closed m Y t
structure RInv (m:Mach) (a:Nat) (r:Nat) (Y:List Bool):Prop where
 len:Y.length=m.rows.length
 sound: ∀ t,Y.getD t default=true→Reach m a t
 start:Y.getD a default=true
 prog:ztv m Y∨r<Y.count true
structure RPass (m:Mach) (a:Nat) (Y0:List Bool) (s i:Nat) (Y:List Bool):Prop where
 len:Y.length=m.rows.length
 sound: ∀ t,Y.getD t default=true→Reach m a t
 start:Y.getD a default=true
 fix:ztv m Y0→Y=Y0
 prog:Y0.count true<Y.count true∨(Y=Y0∧ ∀ t,t<m.rows.length→Y.getD t default=true→ ∀ j,(t<s∨(t=s∧j<i))→j<(m.rows.getD t default).length→0≤((m.rows.getD t default).getD j default).to→Y.getD ((m.rows.getD t default).getD j default).to.toNat default=true)
theorem zp6{Y:List Bool}{t:Nat}(h:Y.getD t default=true)(a:t<Y.length):Y.set t true=Y:=by
 refine z0t (by simp) fun k b=>?_
 rw [zcj a]
 by_cases e:k=t
 ·subst e;rw [if_pos rfl,h]
 ·rw [if_neg e]
theorem zb4: ∀ {X:List Bool} {s:Nat},s<X.length→X.getD s default=false→(X.set s true).count true=X.count true+1
 |x::X,0,_,h=>by
  have:x=false:=by simpa using h
  subst this
  simp
 |x::X,s+1,a,h=>by
  have:=zb4 (X:=X) (s:=s) (by simpa using a) (by simpa using h)
  rw [List.set_cons_succ,List.count_cons,List.count_cons];omega
theorem zsc{m:Mach}{a r:Nat}{Y:List Bool}(h:RInv m a r Y):RPass m a Y 0 0 Y:=
 ⟨h.len,h.sound,h.start,fun _=>rfl,.inr ⟨rfl,fun t _ _ j b=>by omega⟩⟩
theorem zs2{m:Mach}{a s i:Nat}{c Y:List Bool}(h:RPass m a c s i Y)(g: ¬(Y.getD s default=true∧0≤((m.rows.getD s default).getD i default).to)):RPass m a c s (i+1) Y:=by
 refine⟨h.len,h.sound,h.start,h.fix,h.prog.imp id fun⟨e,k⟩=>⟨e,fun t l d j n b f=>?_⟩⟩
 by_cases e:t=s∧j=i
 ·obtain⟨rfl,rfl⟩:=e;exact absurd ⟨d,f⟩ g
 ·exact k t l d j (by omega) b f
theorem zt6{m:Mach}{a s i:Nat}{g Y:List Bool}(q:MOk m)(h:RPass m a g s i Y)(c:s<m.rows.length)(hi:i<(m.rows.getD s default).length)(k:Y.getD s default=true)(l:0≤((m.rows.getD s default).getD i default).to):
 RPass m a g s (i+1) (Y.set ((m.rows.getD s default).getD i default).to.toNat true):=by
 have d:((m.rows.getD s default).getD i default).to.toNat<Y.length:=by
  rw [h.len];rcases q.edge s i c hi with h|h<;>omega
 cases hv:Y.getD ((m.rows.getD s default).getD i default).to.toNat default with
 |true=>
  rw [zp6 hv d]
  refine⟨h.len,h.sound,h.start,h.fix,h.prog.imp id fun⟨e,r⟩=>⟨e,fun t b hy' j u f h0'=>?_⟩⟩
  by_cases e:t=s∧j=i
  ·obtain⟨rfl,rfl⟩:=e;exact hv
  ·exact r t b hy' j (by omega) f h0'
 |false=>
  have n:=fun t=>zcj (t:=t) d
  refine⟨by simp [h.len],fun t b=>?_,by rw [n];split;rfl;exact h.start,fun o=>?_,.inl ?_⟩
  ·rw [n] at b
   by_cases e:t=((m.rows.getD s default).getD i default).to.toNat
   ·subst e;exact .step (h.sound _ k) c hi l
   ·rw [if_neg e] at b;exact h.sound t b
  ·have e:=h.fix o
   subst e
   have:=o s c k i hi l
   rw [hv] at this;cases this
  ·rw [zb4 d hv]
   rcases h.prog with p|⟨p,_⟩
   ·omega
   ·subst p;omega
theorem zsp{m:Mach}{a s i:Nat}{d Y:List Bool}(h:RPass m a d s i Y)(hi:(m.rows.getD s default).length≤i):RPass m a d (s+1) 0 Y:=
 ⟨h.len,h.sound,h.start,h.fix,h.prog.imp id fun⟨e,f⟩=>⟨e,fun t g k j b c l=>f t g k j (by
  rcases b with b|b
  ·by_cases e:t=s
   ·subst e;exact .inr ⟨rfl,by omega⟩
   ·exact .inl (by omega)
  ·omega) c l⟩⟩
theorem zt1{m:Mach}{a s r:Nat}{d Y:List Bool}(h:RPass m a d s 0 Y)(k:m.rows.length≤s)(b:RInv m a r d):RInv m a (r+1) Y:=by
 refine⟨h.len,h.sound,h.start,?_⟩
 rcases b.prog with c|c
 ·rw [h.fix c];exact .inl c
 ·rcases h.prog with l|⟨_,e⟩
  ·exact .inr (by omega)
  ·exact .inl fun t f g j i b=>e t f g j (.inl (by omega)) i b
theorem zn2{m:Mach}{a:Nat}(g:a<m.rows.length):RInv m a 0 ((List.replicate m.rows.length false).set a true):=by
 have c:a<(List.replicate m.rows.length false).length:=by simpa using g
 have d: ∀ t,(List.replicate m.rows.length false).getD t default=false:=fun t=>by
  simp only [List.getD_eq_getElem?_getD,List.getElem?_replicate];split<;>rfl
 have f:=fun t=>zcj (t:=t) c
 refine⟨by simp,fun t b=>?_,by rw [f,if_pos rfl],.inr (by rw [zb4 c (d a)];omega)⟩
 rw [f,d] at b
 by_cases e:t=a
 ·subst e;exact .refl
 ·rw [if_neg e] at b;cases b
noncomputable def reachL(m:Mach)(a:Nat):List Bool:=(List.range m.rows.length).map fun t=> @decide (Reach m a t) (Classical.propDecidable _)
theorem z8v{m:Mach}{a t:Nat}(b:t<m.rows.length):(reachL m a).getD t default=true↔Reach m a t:=by
 unfold reachL
 simp only [List.getD_eq_getElem?_getD,List.getElem?_map,List.getElem?_range b,Option.map_some,Option.getD_some]
 exact⟨fun h=> @of_decide_eq_true _ (Classical.propDecidable _) h,fun h=> @decide_eq_true _ (Classical.propDecidable _) h⟩
theorem zaq(m:Mach)(a:Nat):(reachL m a).length=m.rows.length:=by simp [reachL]
theorem zpl{m:Mach}{a r:Nat}{Y:List Bool}(i:MOk m)(j:a<m.rows.length)(h:RInv m a r Y)(n:m.rows.length≤r):Y=reachL m a:=by
 have b:ztv m Y:=h.prog.resolve_right (by have:=List.count_le_length (a:=true) (l:=Y);rw [h.len] at this;omega)
 have key: ∀ t,Reach m a t→Y.getD t default=true:=by
  intro t c
  induction c with
  |refl=>exact h.start
  |step o d e f ih=>exact b _ d ih _ e f
 refine z0t (by rw [h.len,zaq]) fun k g=>?_
 rw [Bool.eq_iff_iff,z8v (by rw [←h.len];exact g)]
 exact⟨h.sound k,key k⟩
theorem zm1{m:Mach}(h: ∀ j,j<m.rows.length→(reachL m 0).getD j default=true):connB m=true:=by
 unfold connB
 exact @decide_eq_true _ (Classical.propDecidable _) fun t a=>(z8v a).1 (h t a)
theorem zs3{m:Mach}{j:Nat}(a:j<m.rows.length)(h:(reachL m 0).getD j default=false):connB m=false:=by
 unfold connB
 refine @decide_eq_false _ (Classical.propDecidable _) fun hall=>?_
 rw [(z8v a).2 (hall j a)] at h;cases h
def MDat.n(x:MDat):Int:=1+x.states%6
def MDat.inp(x:MDat):Int:=1+x.ins%3
def MDat.out(x:MDat):Int:=1+x.outs%3
def MDat.num(x:MDat)(k:Nat):Int:=if k<x.edges.length then x.edges.getD k default else 0
def zi9(x:MDat)(v:Int):Edge:=if x.part=true∧v%4=3 then⟨-1,-1⟩ else⟨v/4%x.n,v/4/x.n%x.out⟩
def zbg(x:MDat)(s i:Nat):Edge:=zi9 x (x.num (s*x.inp.toNat+i))
def zhk(x:MDat)(s:Nat):List Edge:=(List.range x.inp.toNat).map (zbg x s)
def mOf(x:MDat):Mach:=⟨x.inp,x.out,(List.range x.n.toNat).map (zhk x)⟩
structure MDOk (x:MDat):Prop where
 st:0≤x.states∧x.states≤255
 ins:0≤x.ins∧x.ins≤255
 outs:0≤x.outs∧x.outs≤255
 ed: ∀ k,k<x.edges.length→0≤x.edges.getD k default∧x.edges.getD k default≤65535
theorem MDOk.num{x:MDat}(h:MDOk x)(k:Nat):0≤x.num k∧x.num k≤65535:=by
 unfold MDat.num
 split
 ·exact h.ed k (by assumption)
 ·omega
theorem z2v{α:Type}[Inhabited α](f:Nat→α){n k:Nat}(h:k<n):((List.range n).map f).getD k default=f k:=by
 simp [List.getD_eq_getElem?_getD,h]
theorem zp3{x:MDat}{v:Int}{m:Mach}(c:0≤v)(a:(m.rows.length:Int)=x.n)(b:m.outputs=x.out)(d:1≤x.n)(e:1≤x.out):eOk m (zi9 x v):=by
 unfold zi9 eOk
 split
 ·exact .inl ⟨rfl,rfl⟩
 ·refine .inr ⟨Int.emod_nonneg _ (by omega),?_,Int.emod_nonneg _ (by omega),?_⟩
  ·rw [a];exact Int.emod_lt_of_pos _ (by omega)
  ·rw [b];exact Int.emod_lt_of_pos _ (by omega)
theorem zci{x:MDat}(h:MDOk x):MOk (mOf x):=by
 have e:=h.st;have f:=h.ins;have g:=h.outs
 have c:1≤x.n∧x.n≤6:=by unfold MDat.n;omega
 have d:1≤x.inp∧x.inp≤3:=by unfold MDat.inp;omega
 have b:1≤x.out∧x.out≤3:=by unfold MDat.out;omega
 have j:(mOf x).rows.length=x.n.toNat:=by simp [mOf]
 have hrow: ∀ s,s<(mOf x).rows.length→(mOf x).rows.getD s default=zhk x s:=fun s a=>z2v _ (by omega)
 refine⟨d.1,by show x.inp≤16;omega,b.1,by show x.out≤16;omega,by omega,by omega,fun s a=>?_,fun s i a hi=>?_⟩
 ·rw [hrow s a];show ((zhk x s).length:Int)=x.inp;simp [zhk];omega
 ·rw [hrow s a] at hi⊢
  have hi':i<x.inp.toNat:=by simpa [zhk] using hi
  rw [show (zhk x s).getD i default=zbg x s i from z2v _ hi']
  exact zp3 (h.num _).1 (by omega) rfl c.1 b.1
theorem zqm{x:MDat}{s i:Nat}{v:Int}(a:x.num (s*x.inp.toNat+i)=v)(h:x.part=true∧v%4=3):zbg x s i=⟨-1,-1⟩:=by
 unfold zbg zi9;rw [a,if_pos h]
theorem zrt{x:MDat}{s i:Nat}{v:Int}(b:x.num (s*x.inp.toNat+i)=v)(h:x.part=true→ ¬v%4=3):zbg x s i=⟨v/4%x.n,v/4/x.n%x.out⟩:=by
 unfold zbg zi9;rw [b,if_neg (fun a=>h a.1 a.2)]
theorem zaw{α:Type}(f:Nat→α)(k:Nat):(List.range (k+1)).map f=(List.range k).map f++[f k]:=by rw [List.range_succ,List.map_append];rfl
theorem znp{k:Nat}{a:Int}(b:k≤6)(c:1≤a∧a≤3):0≤(k:Int)*a∧(k:Int)*a≤18∧(k:Int)*a=((k*a.toNat:Nat):Int):=by
 have e:(k:Int)*a=((k*a.toNat:Nat):Int):=by rw [Int.natCast_mul,Int.toNat_of_nonneg (by omega)]
 have h:k*a.toNat≤6*3:=Nat.mul_le_mul b (by omega)
 exact⟨by omega,by omega,e⟩
def wOf(x:WDat)(n:Int):List Int:=(x.syms.take 12).map (· %n)
structure WDOk (x:WDat):Prop where
 sy: ∀ k,k<x.syms.length→0≤x.syms.getD k default∧x.syms.getD k default≤255
theorem zqi{x:WDat}{n:Int}{k:Nat}(a:k<x.syms.length):(x.syms.take (k+1)).map (· %n)=(x.syms.take k).map (· %n)++[x.syms.getD k default%n]:=by
 rw [z4y _ k a,List.map_append];rfl
theorem zs1{x:WDat}{n:Int}{k:Nat}(a:k≤x.syms.length)(b:k≤12)(h:k<x.syms.length→12≤k):(x.syms.take k).map (· %n)=wOf x n:=by
 unfold wOf
 by_cases e:k<x.syms.length
 ·rw [show k=12 from by have:=h e;omega]
 ·rw [List.take_of_length_le (by omega),List.take_of_length_le (by omega)]
theorem zqc{x:WDat}{n:Int}(b:1≤n):WOk n (wOf x n)∧(wOf x n).length≤12:=by
 refine⟨fun k a=>?_,by unfold wOf;rw [List.length_map,List.length_take];omega⟩
 unfold wOf at a⊢
 rw [List.length_map] at a
 simp only [List.getD_eq_getElem?_getD,List.getElem?_map,List.getElem?_eq_getElem a,Option.map_some,Option.getD_some]
 exact⟨Int.emod_nonneg _ (by omega),Int.emod_lt_of_pos _ (by omega)⟩
end GV
end Go.Proofs.Ytncblcdhmcmkmaa
