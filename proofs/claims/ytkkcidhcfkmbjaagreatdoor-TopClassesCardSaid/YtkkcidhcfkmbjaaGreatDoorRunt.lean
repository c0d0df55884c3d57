
import Derived.Test.YtkkcidhcfkmbjaaGreatDoorShPlain
import Derived.Test.YtkkcidhcfkmbjaaGreatDoorShPl
import Derived.Test.YtkkcidhcfkmbjaaGreatDoorShMap
set_option linter.unusedVariables false
set_option linter.unusedSimpArgs false
set_option linter.unusedSectionVars false
namespace Go.Proofs.YtkkcidhcfkmbjaaGreatDoor
namespace GV
def eOk(m:Mach)(e:Edge):Prop:=(e.to= -1∧e.out= -1)∨(0≤e.to∧e.to<m.rows.length∧0≤e.out∧e.out<m.outputs)
structure MOk (m:Mach):Prop where
 i1:1≤m.inputs
 i2:m.inputs≤16
 o1:1≤m.outputs
 o2:m.outputs≤16
 r1:1≤m.rows.length
 r2:m.rows.length≤64
 row: ∀ s,s<m.rows.length→((m.rows.getD s default).length:Int)=m.inputs
 edge: ∀ s i,s<m.rows.length→i<(m.rows.getD s default).length→eOk m ((m.rows.getD s default).getD i default)
def l9(m:Mach)(s i:Int):Edge:=if s<0 then⟨-1,-1⟩ else(m.rows.getD s.toNat default).getD i.toNat default
def vw(m:Mach):Int→List Int→List Int
 |_,[]=>[]
 |s,i::w=>(l9 m s i).out::vw m (l9 m s i).to w
def aftL(m:Mach):Int→List Int→Int
 |s,[]=>s
 |s,i::w=>aftL m (l9 m s i).to w
def WOk(n:Int)(w:List Int):Prop:= ∀ k,k<w.length→0≤w.getD k default∧w.getD k default<n
def SOk(m:Mach)(s:Int):Prop:=s= -1∨(0≤s∧s<m.rows.length)
theorem z4e(m:Mach): ∀ (s:Int) (u v:List Int),aftL m s (u++v)=aftL m (aftL m s u) v
 |s,[],v=>rfl
 |s,i::u,v=>z4e m _ u v
theorem z7x(m:Mach): ∀ (s:Int) (u v:List Int),vw m s (u++v)=vw m s u++vw m (aftL m s u) v
 |s,[],v=>rfl
 |s,i::u,v=>by
  show _::vw m _ (u++v)=_::(vw m _ u++_)
  rw [z7x m _ u v];rfl
theorem z1m(m:Mach): ∀ (s:Int) (w:List Int),(vw m s w).length=w.length
 |s,[]=>rfl
 |s,i::w=>by simp [vw,z1m m _ w]
theorem zb9(w:List Int)(k:Nat)(h:k<w.length):w.take (k+1)=w.take k++[w.getD k default]:=by
 rw [List.take_succ_eq_append_getElem h];simp [List.getD_eq_getElem?_getD,h]
theorem zha(m:Mach)(s:Int)(w:List Int)(k:Nat)(h:k<w.length):vw m s (w.take (k+1))=vw m s (w.take k)++[(l9 m (aftL m s (w.take k)) (w.getD k default)).out]:=by
 rw [zb9 w k h,z7x];rfl
theorem zi5(m:Mach)(s:Int)(w:List Int)(k:Nat)(h:k<w.length):aftL m s (w.take (k+1))=(l9 m (aftL m s (w.take k)) (w.getD k default)).to:=by
 rw [zb9 w k h,z4e];rfl
theorem ze9(m:Mach)(a:MOk m)(s i:Int)(b:SOk m s)(hi:0≤i∧i<m.inputs):SOk m (l9 m s i).to∧ -1≤(l9 m s i).out∧(l9 m s i).out≤16:=by
 unfold l9
 split
 ·exact⟨.inl rfl,by simp,by simp⟩
 ·have hs':0≤s∧s<m.rows.length:=by rcases b with h|h<;>omega
  have c:=a.row s.toNat (by omega)
  have d:=a.o2
  rcases a.edge s.toNat i.toNat (by omega) (by omega) with h|h
  ·exact⟨.inl h.1,by omega,by omega⟩
  ·exact⟨.inr ⟨h.1,h.2.1⟩,by omega,by omega⟩
theorem zgp(m:Mach)(b:MOk m): ∀ (s:Int) (w:List Int),SOk m s→WOk m.inputs w→SOk m (aftL m s w)
 |s,[],a,_=>a
 |s,i::w,a,c=>zgp m b _ w (ze9 m b s i a (by simpa using c 0 (by simp))).1 (fun k d=>by simpa using c (k+1) (by simpa using d))
theorem zl0{n:Int}{w:List Int}(h:WOk n w)(k:Nat):WOk n (w.take k):=fun j a=>by
 rw [List.length_take] at a
 have:=h j (by omega)
 rwa [show (w.take k).getD j default=w.getD j default from by simp only [List.getD_eq_getElem?_getD,List.getElem?_take];rw [if_pos (by omega)]]
theorem zj8(X:List Int)(n k:Nat)(z:Int)(a:X.length=k)(b:k<n):(X++List.replicate (n-k) (0:Int)).set k z=(X++[z])++List.replicate (n-(k+1)) (0:Int):=by
 subst a
 rw [List.set_append_right _ _ (Nat.le_refl _),Nat.sub_self,List.append_assoc]
 congr 1
 rw [show n-X.length=(n-(X.length+1))+1 from by omega,List.replicate_succ]
 rfl
def zei(m:Mach)(x:Edge):Bool:=decide (x.to= -1∧x.out= -1)||(((decide (0≤x.to)&&decide (x.to<m.rows.length))&&decide (0≤x.out))&&decide (x.out<m.outputs))
theorem zhw(m:Mach)(x:Edge):zei m x=true↔eOk m x:=by
 simp [zei,eOk];omega
theorem z98{α:Type}[Inhabited α](p:α→Bool)(X:List α)(k:Nat)(h:k<X.length):(X.take (k+1)).any p=((X.take k).any p||p (X.getD k default)):=by
 rw [List.take_succ_eq_append_getElem h,List.any_append]
 simp [List.getD_eq_getElem?_getD,h]
def zao{α:Type}(p:α→Bool)(X:List α):Int:=match X.findIdx? p with|some i=>i|none=> -1
theorem zgq{α:Type}(p:α→Bool)(X:List α):decide (0≤zao p X)=X.any p:=by
 unfold zao
 cases h:X.findIdx? p with
 |none=>
  have:=List.findIdx?_eq_none_iff.1 h
  simp only [Bool.eq_false_iff] at*
  rw [show decide ((0:Int)≤ -1)=false from rfl]
  symm
  rw [List.any_eq_false]
  intro x a
  simp [this x a]
 |some i=>
  obtain⟨hi,b,_⟩:=List.findIdx?_eq_some_iff_getElem.1 h
  rw [show decide ((0:Int)≤(i:Int))=true from by simp]
  symm
  rw [List.any_eq_true]
  exact⟨_,List.getElem_mem hi,b⟩
theorem z9e{α:Type}[Inhabited α](p:α→Bool)(X:List α)(k:Nat)(h:k<X.length)(a:(X.take k).any p=false)(b:p (X.getD k default)=true):zao p X=k:=by
 have:X.findIdx? p=some k:=by
  rw [List.findIdx?_eq_some_iff_getElem]
  refine⟨h,by simpa [List.getD_eq_getElem?_getD,h] using b,fun j c=>?_⟩
  rw [List.any_eq_false] at a
  have:=a X[j] (by rw [List.mem_take_iff_getElem];exact⟨j,by omega,rfl⟩)
  simpa using this
 simp [zao,this]
theorem zbx{α:Type}(p:α→Bool)(X:List α)(a:X.any p=false):zao p X= -1:=by
 have:X.findIdx? p=none:=by
  rw [List.findIdx?_eq_none_iff]
  rw [List.any_eq_false] at a
  intro x b
  simpa using a x b
 simp [zao,this]
def eqB{α:Type}(p:α→α→Bool):List α→List α→Bool
 | [],[]=>true
 |x::xs,y::ys=>p x y&&eqB p xs ys
 |_,_=>false
def z0r(m:Mach)(r:List Edge):Bool:=decide ((r.length:Int)≠m.inputs)||r.any fun x=> !zei m x
def lq(m:Mach):Int:=if(16<m.inputs∨16<m.outputs)∨64<m.rows.length then 3 else if(m.inputs<1∨m.outputs<1)∨m.rows.length<1 then 1 else if m.rows.any (z0r m)=true then 1 else 0
structure Small (m:Mach):Prop where
 r:m.rows.length≤100
 c: ∀ k,k<m.rows.length→(m.rows.getD k default).length≤100
theorem zl5{m:Mach}(h:(16<m.inputs∨16<m.outputs)∨64<m.rows.length):lq m=3:=by unfold lq;rw [if_pos h]
theorem zjq{m:Mach}(h: ¬((16<m.inputs∨16<m.outputs)∨64<m.rows.length))(a:(m.inputs<1∨m.outputs<1)∨m.rows.length<1):lq m=1:=by unfold lq;rw [if_neg h,if_pos a]
theorem zl9{m:Mach}(h: ¬((16<m.inputs∨16<m.outputs)∨64<m.rows.length))(a: ¬((m.inputs<1∨m.outputs<1)∨m.rows.length<1))(b:m.rows.any (z0r m)=false):lq m=0:=by
 unfold lq;rw [if_neg h,if_neg a,if_neg (by rw [b];decide)]
theorem z3s{α:Type}[Inhabited α](p:α→Bool)(X:List α):X.any p=false↔ ∀ k,k<X.length→p (X.getD k default)=false:=by
 rw [List.any_eq_false]
 refine⟨fun h k a=>by simpa using h _ (lg a),fun h x b=>?_⟩
 obtain⟨k,a,rfl⟩:=List.getElem_of_mem b
 have:=h k a
 simp only [List.getD_eq_getElem?_getD,List.getElem?_eq_getElem a,Option.getD_some] at this
 simp [this]
theorem z2j(m:Mach)(r:List Edge):z0r m r=false↔(r.length:Int)=m.inputs∧ ∀ i,i<r.length→eOk m (r.getD i default):=by
 unfold z0r
 rw [Bool.or_eq_false_iff,z3s]
 refine and_congr (by simp) (forall_congr' fun i=>forall_congr' fun hi=>?_)
 rw [←zhw];simp
theorem z5y(m:Mach):lq m=0↔MOk m:=by
 unfold lq
 by_cases h:(16<m.inputs∨16<m.outputs)∨64<m.rows.length
 ·rw [if_pos h];exact⟨fun h=>absurd h (by decide),fun a=>by have:=a.i2;have:=a.o2;have:=a.r2;omega⟩
 rw [if_neg h]
 by_cases h1:(m.inputs<1∨m.outputs<1)∨m.rows.length<1
 ·rw [if_pos h1];exact⟨fun h=>absurd h (by decide),fun a=>by have:=a.i1;have:=a.o1;have:=a.r1;omega⟩
 rw [if_neg h1]
 cases hr:m.rows.any (z0r m)
 ·rw [if_neg (by decide)]
  have:=(z3s _ _).1 hr
  exact⟨fun _=>⟨by omega,by omega,by omega,by omega,by omega,by omega,fun s b=>((z2j m _).1 (this s b)).1,fun s i b hi=>((z2j m _).1 (this s b)).2 i hi⟩,fun _=>rfl⟩
 ·rw [if_pos rfl]
  refine⟨fun h=>absurd h (by decide),fun a=>?_⟩
  have:m.rows.any (z0r m)=false:=(z3s _ _).2 fun k c=>(z2j m _).2 ⟨a.row k c,fun i hi=>a.edge k i c hi⟩
  rw [hr] at this;cases this
theorem MOk.small{m:Mach}(a:MOk m):Small m:=⟨by have:=a.r2;omega,fun k b=>by have:=a.row k b;have:=a.i2;omega⟩
def z19(m:Mach)(s:Int):Int:=if lq m≠0 then lq m else if s<0∨(m.rows.length:Int)≤s then 1 else 0
theorem zk4{m:Mach}{s:Int}(h:z19 m s=0):MOk m∧0≤s∧s<m.rows.length:=by
 unfold z19 at h
 by_cases h1:lq m≠0
 ·rw [if_pos h1] at h;exact absurd h h1
 rw [if_neg h1] at h
 by_cases h2:s<0∨(m.rows.length:Int)≤s
 ·rw [if_pos h2] at h;cases h
 exact⟨(z5y m).1 (by omega),by omega,by omega⟩
theorem zhv{m:Mach}{s:Int}(a:MOk m)(h:0≤s∧s<m.rows.length):z19 m s=0:=by
 unfold z19;rw [if_neg (by rw [(z5y m).2 a];simp),if_neg (by omega)]
def z2i(n c:Int):Bool:=decide (c<0)||decide (n≤c)
def l5(w:List Int)(n:Int):Int:=if 16<n∨256<w.length then 3 else if n<1 then 1 else if w.any (z2i n)=true then 1 else 0
theorem zio{w:List Int}{n:Int}(h:16<n∨256<w.length):l5 w n=3:=by unfold l5;rw [if_pos h]
theorem zj1{w:List Int}{n:Int}(h: ¬(16<n∨256<w.length))(a:n<1∨w.any (z2i n)=true):l5 w n=1:=by
 unfold l5;rw [if_neg h]
 by_cases h2:n<1
 ·rw [if_pos h2]
 ·rw [if_neg h2,if_pos (a.resolve_left h2)]
theorem zef{w:List Int}{n:Int}(h: ¬(16<n∨256<w.length))(a: ¬(n<1∨w.any (z2i n)=true)):l5 w n=0:=by
 unfold l5;rw [if_neg h,if_neg (fun h=>a (.inl h)),if_neg (fun h=>a (.inr h))]
theorem ziz{w:List Int}{n:Int}(h:l5 w n=0):WOk n w∧w.length≤256:=by
 unfold l5 at h
 by_cases h1:16<n∨256<w.length
 ·rw [if_pos h1] at h;cases h
 rw [if_neg h1] at h
 by_cases h2:n<1
 ·rw [if_pos h2] at h;cases h
 rw [if_neg h2] at h
 cases h3:w.any (z2i n)
 ·refine⟨fun k a=>?_,by omega⟩
  have:=(z3s _ _).1 h3 k a
  simp [z2i] at this
  exact this
 ·rw [h3,if_pos rfl] at h;cases h
def znt(m:Mach)(s:Int)(w:List Int):Int:=if z19 m s≠0 then z19 m s else l5 w m.inputs
def znb(m:Mach)(s:Int)(w:List Int):List Int:=if z19 m s≠0 then [] else if l5 w m.inputs≠0 then [] else vw m s w
def z7g:List Int→List Int→Int
 |x::a,y::b=>if x<y then-1 else if y<x then 1 else z7g a b
 |_,_=>0
def cmpL(a b:List Int):Int:=if a.length<b.length then-1 else if b.length<a.length then 1 else z7g a b
theorem zbk{α:Type}[Inhabited α](X:List α)(k:Nat)(h:k<X.length):X.drop k=X.getD k default::X.drop (k+1):=by
 rw [List.drop_eq_getElem_cons h];simp [List.getD_eq_getElem?_getD,h]
theorem zho{a b:List Int}{k:Nat}(c:k<a.length)(d:k<b.length):z7g (a.drop k) (b.drop k)=if a.getD k default<b.getD k default then-1 else if b.getD k default<a.getD k default then 1 else z7g (a.drop (k+1)) (b.drop (k+1)):=by
 rw [zbk a k c,zbk b k d];rfl
theorem zgx: ∀ (a b:List Int),a.length=b.length→(z7g a b=0↔a=b)
 | [],[],_=>by simp [z7g]
 |x::a,y::b,h=>by
  have ih:=zgx a b (by simpa using h)
  unfold z7g
  by_cases h1:x<y
  ·rw [if_pos h1];simp;omega
  by_cases h2:y<x
  ·rw [if_neg h1,if_pos h2];simp;omega
  rw [if_neg h1,if_neg h2,ih,show x=y from by omega];simp
theorem cmpL_eq(a b:List Int):cmpL a b=0↔a=b:=by
 unfold cmpL
 by_cases h1:a.length<b.length
 ·rw [if_pos h1];exact⟨fun h=>absurd h (by decide),fun h=>by subst h;omega⟩
 by_cases h2:b.length<a.length
 ·rw [if_neg h1,if_pos h2];exact⟨fun h=>absurd h (by decide),fun h=>by subst h;omega⟩
 rw [if_neg h1,if_neg h2]
 exact zgx a b (by omega)
theorem zjc{α:Type}[Inhabited α]{X Y:List α}(b:X.length=Y.length)(h: ∀ k,k<X.length→X.getD k default=Y.getD k default):X=Y:=by
 refine List.ext_getElem b fun k a c=>?_
 have:=h k a
 simpa only [List.getD_eq_getElem?_getD,List.getElem?_eq_getElem a,List.getElem?_eq_getElem c,Option.getD_some] using this
theorem MOk.mul{m:Mach}(a:MOk m):m.rows.length*m.inputs.toNat≤1024∧(m.rows.length:Int)*m.inputs=((m.rows.length*m.inputs.toNat:Nat):Int):=by
 have b:=a.r2;have c:=a.i1;have d:=a.i2
 refine⟨Nat.le_trans (Nat.mul_le_mul b (show m.inputs.toNat≤16 by omega)) (by decide),?_⟩
 rw [Int.natCast_mul,Int.toNat_of_nonneg (by omega)]
inductive Reach (m:Mach) (s:Nat):Nat→Prop
 |refl:Reach m s s
 |step {t i:Nat}:Reach m s t→t<m.rows.length→i<(m.rows.getD t default).length→0≤((m.rows.getD t default).getD i default).to→Reach m s ((m.rows.getD t default).getD i default).to.toNat
theorem Reach.trans{m:Mach}{a b c:Nat}(h:Reach m a b)(k:Reach m b c):Reach m a c:=by
 induction k with
 |refl=>exact h
 |step _ e hi d ih=>exact .step ih e hi d
theorem Reach.lt{m:Mach}(c:MOk m){a b:Nat}(h:Reach m a b)(d:a<m.rows.length):b<m.rows.length:=by
 cases h with
 |refl=>exact d
 |step g e f i=>rcases c.edge _ _ e f with h|h<;>omega
def Closed(m:Mach)(Y:List Bool)(t:Nat):Prop:= ∀ i,i<(m.rows.getD t default).length→0≤((m.rows.getD t default).getD i default).to→Y.getD ((m.rows.getD t default).getD i default).to.toNat default=true
structure Vis (m:Mach) (X:List Bool) (s:Int) (Y:List Bool):Prop where
 len:Y.length=X.length
 cnt:Y.count false≤X.count false
 mono: ∀ t,X.getD t default=true→Y.getD t default=true
 here:0≤s→Y.getD s.toNat default=true
 reach: ∀ t,Y.getD t default=true→X.getD t default=true∨(0≤s∧Reach m s.toNat t)
 closed: ∀ t,t<m.rows.length→Y.getD t default=true→X.getD t default=true∨Closed m Y t
structure VisK (m:Mach) (X:List Bool) (s:Nat) (k:Nat) (Y:List Bool):Prop where
 len:Y.length=X.length
 cnt:Y.count false<X.count false
 mono: ∀ t,X.getD t default=true→Y.getD t default=true
 here:Y.getD s default=true
 reach: ∀ t,Y.getD t default=true→X.getD t default=true∨Reach m s t
 closed: ∀ t,t<m.rows.length→Y.getD t default=true→X.getD t default=true∨t=s∨Closed m Y t
 done: ∀ i,i<k→0≤((m.rows.getD s default).getD i default).to→Y.getD ((m.rows.getD s default).getD i default).to.toNat default=true
theorem ziq{P:Nat→Prop}{k:Nat}(h: ∀ j,j<k→P j)(a:P k): ∀ j,j<k+1→P j:=fun j b=>by
 rcases Nat.lt_succ_iff_lt_or_eq.1 b with c|rfl
 ·exact h j c
 ·exact a
theorem Small.mem{m:Mach}(h:Small m){r:List Edge}(b:r∈m.rows):r.length≤100:=by
 obtain⟨k,a,rfl⟩:=List.getElem_of_mem b
 have:=h.c k a
 simpa [List.getD_eq_getElem?_getD,a] using this
def zod(m:Mach)(Y:List Bool):Prop:= ∀ t,t<m.rows.length→Y.getD t default=true→Closed m Y t
structure RInv (m:Mach) (a:Nat) (r:Nat) (Y:List Bool):Prop where
 len:Y.length=m.rows.length
 sound: ∀ t,Y.getD t default=true→Reach m a t
 start:Y.getD a default=true
 prog:zod m Y∨r<Y.count true
structure RPass (m:Mach) (a:Nat) (Y0:List Bool) (s i:Nat) (Y:List Bool):Prop where
 len:Y.length=m.rows.length
 sound: ∀ t,Y.getD t default=true→Reach m a t
 start:Y.getD a default=true
 fix:zod m Y0→Y=Y0
 prog:Y0.count true<Y.count true∨(Y=Y0∧ ∀ t,t<m.rows.length→Y.getD t default=true→ ∀ j,(t<s∨(t=s∧j<i))→j<(m.rows.getD t default).length→0≤((m.rows.getD t default).getD j default).to→Y.getD ((m.rows.getD t default).getD j default).to.toNat default=true)
def MDat.n(x:MDat):Int:=1+x.states%6
def MDat.inp(x:MDat):Int:=1+x.ins%3
def MDat.out(x:MDat):Int:=1+x.outs%3
def MDat.num(x:MDat)(k:Nat):Int:=if k<x.edges.length then x.edges.getD k default else 0
def zd9(x:MDat)(v:Int):Edge:=if x.part=true∧v%4=3 then⟨-1,-1⟩ else⟨v/4%x.n,v/4/x.n%x.out⟩
def z6r(x:MDat)(s i:Nat):Edge:=zd9 x (x.num (s*x.inp.toNat+i))
def zc4(x:MDat)(s:Nat):List Edge:=(List.range x.inp.toNat).map (z6r x s)
def mOf(x:MDat):Mach:=⟨x.inp,x.out,(List.range x.n.toNat).map (zc4 x)⟩
structure MDOk (x:MDat):Prop where
 st:0≤x.states∧x.states≤255
 ins:0≤x.ins∧x.ins≤255
 outs:0≤x.outs∧x.outs≤255
 ed: ∀ k,k<x.edges.length→0≤x.edges.getD k default∧x.edges.getD k default≤65535
theorem MDOk.num{x:MDat}(h:MDOk x)(k:Nat):0≤x.num k∧x.num k≤65535:=by
 unfold MDat.num
 split
 ·exact h.ed k (by assumption)
 ·omega
theorem z4h{α:Type}[Inhabited α](f:Nat→α){n k:Nat}(h:k<n):((List.range n).map f).getD k default=f k:=by
 simp [List.getD_eq_getElem?_getD,h]
theorem zkc{x:MDat}{v:Int}{m:Mach}(c:0≤v)(a:(m.rows.length:Int)=x.n)(b:m.outputs=x.out)(d:1≤x.n)(e:1≤x.out):eOk m (zd9 x v):=by
 unfold zd9 eOk
 split
 ·exact .inl ⟨rfl,rfl⟩
 ·refine .inr ⟨Int.emod_nonneg _ (by omega),?_,Int.emod_nonneg _ (by omega),?_⟩
  ·rw [a];exact Int.emod_lt_of_pos _ (by omega)
  ·rw [b];exact Int.emod_lt_of_pos _ (by omega)
theorem zn4{x:MDat}(h:MDOk x):MOk (mOf x):=by
 have e:=h.st;have f:=h.ins;have g:=h.outs
 have c:1≤x.n∧x.n≤6:=by unfold MDat.n;omega
 have d:1≤x.inp∧x.inp≤3:=by unfold MDat.inp;omega
 have b:1≤x.out∧x.out≤3:=by unfold MDat.out;omega
 have j:(mOf x).rows.length=x.n.toNat:=by simp [mOf]
 have hrow: ∀ s,s<(mOf x).rows.length→(mOf x).rows.getD s default=zc4 x s:=fun s a=>z4h _ (by omega)
 refine⟨d.1,by show x.inp≤16;omega,b.1,by show x.out≤16;omega,by omega,by omega,fun s a=>?_,fun s i a hi=>?_⟩
 ·rw [hrow s a];show ((zc4 x s).length:Int)=x.inp;simp [zc4];omega
 ·rw [hrow s a] at hi⊢
  have hi':i<x.inp.toNat:=by simpa [zc4] using hi
  rw [show (zc4 x s).getD i default=z6r x s i from z4h _ hi']
  exact zkc (h.num _).1 (by omega) rfl c.1 b.1
theorem zlt{x:MDat}{s i:Nat}{v:Int}(a:x.num (s*x.inp.toNat+i)=v)(h:x.part=true∧v%4=3):z6r x s i=⟨-1,-1⟩:=by
 unfold z6r zd9;rw [a,if_pos h]
theorem zm1{x:MDat}{s i:Nat}{v:Int}(b:x.num (s*x.inp.toNat+i)=v)(h:x.part=true→ ¬v%4=3):z6r x s i=⟨v/4%x.n,v/4/x.n%x.out⟩:=by
 unfold z6r zd9;rw [b,if_neg (fun a=>h a.1 a.2)]
theorem aa{α:Type}(f:Nat→α)(k:Nat):(List.range (k+1)).map f=(List.range k).map f++[f k]:=by rw [List.range_succ,List.map_append];rfl
theorem zhz{k:Nat}{a:Int}(b:k≤6)(c:1≤a∧a≤3):0≤(k:Int)*a∧(k:Int)*a≤18∧(k:Int)*a=((k*a.toNat:Nat):Int):=by
 have e:(k:Int)*a=((k*a.toNat:Nat):Int):=by rw [Int.natCast_mul,Int.toNat_of_nonneg (by omega)]
 have h:k*a.toNat≤6*3:=Nat.mul_le_mul b (by omega)
 exact⟨by omega,by omega,e⟩
end GV
end Go.Proofs.YtkkcidhcfkmbjaaGreatDoor

namespace Go.Proofs.YtkkcidhcfkmbjaaGreatDoor
namespace GV
/-! ### The order of words-/
def z8h:List Int→List Int→Prop
 |a::x,b::y=>a<b∨(a=b∧z8h x y)
 |_,_=>False
def llt(a b:List Int):Prop:=a.length<b.length∨(a.length=b.length∧z8h a b)
def lle(a b:List Int):Prop:=a=b∨llt a b
theorem z6m: ∀ a,¬z8h a a
 | [],h=>h
 |x::a,h=>by
  rcases h with h|⟨_,h⟩
  ·omega
  ·exact z6m a h
theorem z7y: ∀ {a b c},z8h a b→z8h b c→z8h a c
 | [],_,_,h,_=>h.elim
 |_::_,[],_,h,_=>h.elim
 |_::_,_::_,[],_,h=>h.elim
 |x::a,y::b,z::c,h,k=>by
  rcases h with h|⟨rfl,h⟩
  ·rcases k with k|⟨rfl,k⟩
   ·exact .inl (by omega)
   ·exact .inl h
  ·rcases k with k|⟨rfl,k⟩
   ·exact .inl k
   ·exact .inr ⟨rfl,z7y h k⟩
theorem zaf: ∀ {a b:List Int} (i j:Int),z8h a b→a.length=b.length→z8h (a++[i]) (b++[j])
 | [],_,_,_,h,_=>h.elim
 |_::_,[],_,_,h,_=>h.elim
 |x::a,y::b,i,j,h,c=>by
  rcases h with h|⟨rfl,h⟩
  ·exact .inl h
  ·exact .inr ⟨rfl,zaf i j h (by simpa using c)⟩
theorem zg6(a:List Int): ¬llt a a:=by
 rintro(h|⟨_,h⟩)
 ·omega
 ·exact z6m a h
theorem zbp{a b c:List Int}(h:llt a b)(k:llt b c):llt a c:=by
 rcases h with h|⟨h,h'⟩
 ·rcases k with k|⟨k,_⟩
  ·exact .inl (by omega)
  ·exact .inl (by omega)
 ·rcases k with k|⟨k,k'⟩
  ·exact .inl (by omega)
  ·exact .inr ⟨by omega,z7y h' k'⟩
theorem zj0{a b:List Int}(i j:Int)(h:llt a b):llt (a++[i]) (b++[j]):=by
 rcases h with h|⟨h,h'⟩
 ·exact .inl (by simp;omega)
 ·exact .inr ⟨by simp [h],zaf i j h' h⟩
theorem zi8{a b c:List Int}(h:lle a b)(k:lle b c):lle a c:=by
 rcases h with rfl|h
 ·exact k
 ·rcases k with rfl|k
  ·exact .inr h
  ·exact .inr (zbp h k)
theorem zjv{a b:List Int}(i:Int)(h:lle a b):lle (a++[i]) (b++[i]):=by
 rcases h with rfl|h
 ·exact .inl rfl
 ·exact .inr (zj0 i i h)
/-! ### Entries-/
structure BE where
 st:Nat
 par:Int
 inp:Int
 wd:List Int
 deriving DecidableEq,Inhabited
def ed(m:Mach)(s i:Nat):Int:=((m.rows.getD s default).getD i default).to
def occ(All:List BE)(t:Nat):Bool:=All.any fun e=>decide (e.st=t)
def push(m:Mach)(x:BE)(All:List BE)(i:Nat):List BE:=
 if ed m x.st i= -1 then All else if occ All (ed m x.st i).toNat=true then All else All++[⟨(ed m x.st i).toNat,x.st,i,x.wd++[(i:Int)]⟩]
def zgv(m:Mach)(x:BE)(All:List BE):Nat→List BE
 |0=>All
 |k+1=>push m x (zgv m x All k) k
def bfs(m:Mach):Nat→Nat→List BE→List BE
 |0,_,All=>All
 |g+1,p,All=>if p<All.length then bfs m g (p+1) (zgv m (All.getD p default) All m.inputs.toNat) else All
theorem z4q{m:Mach}(a:MOk m){s i:Nat}(b:s<m.rows.length)(hi:i<m.inputs.toNat):ed m s i= -1∨(0≤ed m s i∧ed m s i<m.rows.length):=by
 have:=ze9 m a (s:Int) (i:Int) (.inr ⟨by omega,by omega⟩) ⟨by omega,by have:=a.i1;omega⟩
 have h:=this.1
 unfold l9 at h
 rw [if_neg (by omega)] at h
 exact h
structure Inv (m:Mach) (s0 p k:Nat) (All:List BE):Prop where
 pos:0<All.length
 root:All.getD 0 default=⟨s0,-1,-1,[]⟩
 rng: ∀ j,j<All.length→(All.getD j default).st<m.rows.length
 dis: ∀ i j,i<All.length→j<All.length→(All.getD i default).st=(All.getD j default).st→i=j
 aft: ∀ j,j<All.length→aftL m s0 (All.getD j default).wd=((All.getD j default).st:Int)
 par: ∀ j,0<j→j<All.length→ ∃ q i,q<j∧i<m.inputs.toNat∧(All.getD j default).par=((All.getD q default).st:Int)∧(All.getD j default).inp=(i:Int)∧(All.getD j default).wd=(All.getD q default).wd++[(i:Int)]∧ed m (All.getD q default).st i=((All.getD j default).st:Int)
 inc: ∀ i j,i<j→j<All.length→llt (All.getD i default).wd (All.getD j default).wd
 bnd:p<All.length→ ∀ j,j<All.length→llt (All.getD j default).wd ((All.getD p default).wd++[(k:Int)])
 cls: ∀ q i,q<All.length→i<m.inputs.toNat→(q<p∨(q=p∧i<k))→ed m (All.getD q default).st i≠ -1→ ∃ j,j<All.length∧((All.getD j default).st:Int)=ed m (All.getD q default).st i∧lle (All.getD j default).wd ((All.getD q default).wd++[(i:Int)])
def rch(m:Mach)(s0:Nat):List BE:=bfs m m.rows.length 0 [⟨s0,-1,-1,[]⟩]
structure Rch (m:Mach) (s0:Nat) (P:List BE):Prop where
 pos:0<P.length
 le:P.length≤m.rows.length
 root:P.getD 0 default=⟨s0,-1,-1,[]⟩
 rng: ∀ j,j<P.length→(P.getD j default).st<m.rows.length
 dis: ∀ i j,i<P.length→j<P.length→(P.getD i default).st=(P.getD j default).st→i=j
 aft: ∀ j,j<P.length→aftL m s0 (P.getD j default).wd=((P.getD j default).st:Int)
 par: ∀ j,0<j→j<P.length→ ∃ q i,q<j∧i<m.inputs.toNat∧(P.getD j default).par=((P.getD q default).st:Int)∧(P.getD j default).inp=(i:Int)∧(P.getD j default).wd=(P.getD q default).wd++[(i:Int)]∧ed m (P.getD q default).st i=((P.getD j default).st:Int)
 inc: ∀ i j,i<j→j<P.length→llt (P.getD i default).wd (P.getD j default).wd
 cls: ∀ q i,q<P.length→i<m.inputs.toNat→ed m (P.getD q default).st i≠ -1→ ∃ j,j<P.length∧((P.getD j default).st:Int)=ed m (P.getD q default).st i∧lle (P.getD j default).wd ((P.getD q default).wd++[(i:Int)])
section rch
variable {m : Mach} {s0 : Nat} {P : List BE}
theorem zks{n c:Int}{u:List Int}(h:WOk n (u++[c])):WOk n u∧0≤c∧c<n:=by
 refine⟨fun k a=>?_,?_⟩
 ·have:=h k (by simp;omega)
  rwa [List.getD_eq_getElem?_getD,List.getElem?_append_left a,←List.getD_eq_getElem?_getD] at this
 ·have:=h u.length (by simp)
  rwa [List.getD_eq_getElem?_getD,List.getElem?_concat_length] at this
theorem zeb(m:Mach): ∀ (w:List Int),aftL m (-1) w= -1
 | []=>rfl
 |c::w=>by
  show aftL m (l9 m (-1) c).to w= -1
  rw [show l9 m (-1) c=⟨-1,-1⟩ from rfl]
  exact zeb m w
theorem Rch.least(i:MOk m)(h:Rch m s0 P): ∀ (n:Nat) (w:List Int),w.length=n→WOk m.inputs w→aftL m s0 w≠ -1→ ∃ j,j<P.length∧((P.getD j default).st:Int)=aftL m s0 w∧lle (P.getD j default).wd w
 |0,w,b,g,a=>by
  have:w=[]:=List.length_eq_zero_iff.1 b
  subst this
  exact⟨0,h.pos,by rw [h.root];rfl,by rw [h.root];exact .inl rfl⟩
 |n+1,w,b,g,a=>by
  obtain⟨u,c,rfl⟩: ∃ u c,w=u++[c]:=⟨w.dropLast,w.getLast (by intro e;rw [e] at b;simp at b),(List.dropLast_concat_getLast _).symm⟩
  obtain⟨k,l,o⟩:=zks g
  rw [z4e] at a⊢
  have hune:aftL m s0 u≠ -1:=fun e=>by rw [e,zeb] at a;exact a rfl
  obtain⟨q,p,d,f⟩:=Rch.least i h n u (by simpa using b) k hune
  rw [←d] at a⊢
  have hstep:aftL m ((P.getD q default).st:Int) [c]=ed m (P.getD q default).st c.toNat:=by
   show (l9 m ((P.getD q default).st:Int) c).to=_
   unfold l9
   rw [if_neg (by omega)]
   rfl
  rw [hstep] at a⊢
  obtain⟨j,r,s,t⟩:=h.cls q c.toNat p (by omega) a
  refine⟨j,r,s,zi8 t ?_⟩
  rw [show ((c.toNat:Nat):Int)=c by omega]
  exact zjv c f
theorem Rch.min(b:MOk m)(h:Rch m s0 P){j:Nat}(c:j<P.length){w:List Int}(d:WOk m.inputs w)(a:aftL m s0 w=((P.getD j default).st:Int)):lle (P.getD j default).wd w:=by
 obtain⟨i,hi,e,f⟩:=h.least b _ w rfl d (by rw [a];omega)
 rw [a] at e
 have:=h.dis i j hi c (by omega)
 subst this
 exact f
end rch
end GV
end Go.Proofs.YtkkcidhcfkmbjaaGreatDoor

namespace Go.Proofs.YtkkcidhcfkmbjaaGreatDoor
namespace GV
set_option maxRecDepth 100000
theorem znw{N:Nat}{s:List Edge}{f:Edge→Option Bool}{p:Edge→Bool}(b: ∀ k,k<s.length→f (s.getD k default)=some (p (s.getD k default)))(c:s.length<N)(d:s.length≤4611686018427387904):
 y5 N s f=some (zao p s):=by
 have h:qm N s f N 0=some (if s.any p=true then Ex.rt (zao p s) else Ex.go ()):=by
  refine x9 (σ:=Unit) (fun F k _=>qm N s f F (k:Int)) s.length (fun k _=>(s.take k).any p=false) _ (fun F k _ a hi=>?_) (fun F _ hi=>?_) N 0 () (Nat.zero_le _) (by omega) (by simp)
  ·simp only [qm]
   rw [xw (by omega),zi (j5 a),dx,q8 (b k a)]
   cases hp:p (s.getD k default)
   ·right
    refine⟨(),by rw [z98 p s k a,hi,hp];rfl,?_⟩
    rw [cf rfl,zi (qi (by omega))];rfl
   ·left
    rw [ct rfl,if_pos (List.any_eq_true.2 ⟨_,lg a,hp⟩),z9e p s k a hi hp]
  ·simp only [qm]
   rw [yj (by omega),if_neg (by rw [List.take_length] at hi;rw [hi];decide)]
 unfold y5
 rw [q8 h]
 by_cases ha:s.any p=true
 ·rw [if_pos ha];rfl
 ·rw [if_neg ha,zbx p s (by simpa using ha)];rfl
theorem zhg{N:Nat}{s:List Edge}{f:Edge→Option Bool}{p:Edge→Bool}(a: ∀ k,k<s.length→f (s.getD k default)=some (p (s.getD k default)))(b:s.length<N)(c:s.length≤4611686018427387904):
 uz N s f=some (s.any p):=by
 unfold uz
 rw [q8 (znw a b c),zgq]
theorem zd5{N:Nat}{m:Mach}(b:Small m)(f:200≤N):xc N m=some (lq m):=by
 unfold xc
 by_cases h:(16<m.inputs∨16<m.outputs)∨64<m.rows.length
 ·rw [ct (by simp;omega),zl5 h]
 ·rw [cf (by simp;omega)]
  by_cases h1:(m.inputs<1∨m.outputs<1)∨m.rows.length<1
  ·rw [ct (by simp;omega),zjq h h1]
  ·rw [cf (by simp;omega)]
   have g:=b.r
   have d:wm N m N 0=some (if m.rows.any (z0r m)=true then Ex.rt 1 else Ex.go ()):=by
    refine x9 (σ:=Unit) (fun F k _=>wm N m F (k:Int)) m.rows.length (fun k _=>(m.rows.take k).any (z0r m)=false) _ (fun F k _ a hi=>?_) (fun F _ hi=>?_) N 0 () (Nat.zero_le _) (by omega) (by simp)
    ·simp only [wm]
     have i:=b.c k a
     rw [xw (by omega),zi (j5 a),dx,z9c (fun _=>zhg (p:=fun x=> !zei m x) (fun j l=>rfl) (by omega) (by omega))]
     have e:(decide (((m.rows.getD k default).length:Int)≠m.inputs)||((bif (true&&(decide (((m.rows.getD k default).length:Int)≠m.inputs)==false)) then some ((m.rows.getD k default).any fun x=> !zei m x) else none).getD default))=z0r m (m.rows.getD k default):=by
      unfold z0r
      cases decide (((m.rows.getD k default).length:Int)≠m.inputs)<;>rfl
     rw [e]
     cases hr:z0r m (m.rows.getD k default)
     ·right
      refine⟨(),by rw [z98 _ _ k a,hi,hr];rfl,?_⟩
      rw [cf rfl,zi (qi (by omega))];rfl
     ·left
      rw [ct rfl,if_pos (List.any_eq_true.2 ⟨_,lg a,hr⟩)]
    ·simp only [wm]
     rw [yj (by omega),if_neg (by rw [List.take_length] at hi;rw [hi];decide)]
   rw [q8 d]
   by_cases ha:m.rows.any (z0r m)=true
   ·rw [if_pos ha];unfold lq;rw [if_neg h,if_neg h1,if_pos ha];rfl
   ·rw [if_neg ha,zl9 h h1 (by simpa using ha)];rfl
/-! ### Words-/
theorem znx{N:Nat}{s:List Int}{f:Int→Option Bool}{p:Int→Bool}(b: ∀ k,k<s.length→f (s.getD k default)=some (p (s.getD k default)))(c:s.length<N)(d:s.length≤4611686018427387904):
 gm N s f=some (zao p s):=by
 have h:jk N s f N 0=some (if s.any p=true then Ex.rt (zao p s) else Ex.go ()):=by
  refine x9 (σ:=Unit) (fun F k _=>jk N s f F (k:Int)) s.length (fun k _=>(s.take k).any p=false) _ (fun F k _ a hi=>?_) (fun F _ hi=>?_) N 0 () (Nat.zero_le _) (by omega) (by simp)
  ·simp only [jk]
   rw [xw (by omega),zi (j5 a),dx,q8 (b k a)]
   cases hp:p (s.getD k default)
   ·right
    refine⟨(),by rw [z98 p s k a,hi,hp];rfl,?_⟩
    rw [cf rfl,zi (qi (by omega))];rfl
   ·left
    rw [ct rfl,if_pos (List.any_eq_true.2 ⟨_,lg a,hp⟩),z9e p s k a hi hp]
  ·simp only [jk]
   rw [yj (by omega),if_neg (by rw [List.take_length] at hi;rw [hi];decide)]
 unfold gm
 rw [q8 h]
 by_cases ha:s.any p=true
 ·rw [if_pos ha];rfl
 ·rw [if_neg ha,zbx p s (by simpa using ha)];rfl
theorem zhd{N:Nat}{s:List Int}{f:Int→Option Bool}{p:Int→Bool}(a: ∀ k,k<s.length→f (s.getD k default)=some (p (s.getD k default)))(b:s.length<N)(c:s.length≤4611686018427387904):
 ym N s f=some (s.any p):=by
 unfold ym
 rw [q8 (znx a b c),zgq]
theorem zfj{N:Nat}{a b:List Int}(f:a.length<N)(g:a.length≤4611686018427387904):xh N a b=some (cmpL a b):=by
 unfold xh cmpL
 by_cases h1:a.length<b.length
 ·rw [xw (by omega),if_pos h1]
 ·rw [yj (by omega),if_neg h1]
  by_cases h2:b.length<a.length
  ·rw [xw (by omega),if_pos h2]
  ·rw [yj (by omega),if_neg h2]
   have h:a.length=b.length:=by omega
   have e:jf N a b N 0=some (if z7g a b=0 then Ex.go () else Ex.rt (z7g a b)):=by
    refine x9 (σ:=Unit) (fun F k _=>jf N a b F (k:Int)) a.length (fun k _=>z7g (a.drop k) (b.drop k)=z7g a b) _ (fun F k _ d hi=>?_) (fun F _ hi=>?_) N 0 () (Nat.zero_le _) (by omega) rfl
    ·simp only [jf]
     rw [xw (by omega),zi (j5 d),zi (j5 (by omega))]
     have c:=zho d (show k<b.length by omega)
     rw [hi] at c
     by_cases h3:a.getD k default<b.getD k default
     ·left
      refine Eq.trans (xw h3) ?_
      rw [if_pos h3] at c;rw [c];rfl
     ·refine(show _∨_ from ?_)
      rw [if_neg h3] at c
      by_cases h4:b.getD k default<a.getD k default
      ·left
       refine Eq.trans (yj h3) ?_
       rw [zi (j5 d),zi (j5 (by omega))]
       refine Eq.trans (xw h4) ?_
       rw [if_pos h4] at c;rw [c];rfl
      ·right
       rw [if_neg h4] at c
       refine⟨(),c.symm,Eq.trans (yj h3) ?_⟩
       rw [zi (j5 d),zi (j5 (by omega))]
       refine Eq.trans (yj h4) ?_
       rw [zi (qi (by omega))];rfl
    ·simp only [jf]
     rw [yj (by omega)]
     have:z7g a b=0:=by rw [←hi,List.drop_of_length_le (Nat.le_refl _)];rfl
     rw [if_pos this]
   rw [q8 e]
   by_cases h5:z7g a b=0
   ·rw [if_pos h5,h5];rfl
   ·rw [if_neg h5];rfl
theorem zkl{N:Nat}{a b:List Int}(c:a.length<N)(d:a.length≤4611686018427387904):yl N a b=some (decide (a=b)):=by
 unfold yl
 rw [q8 (zfj c d)]
 by_cases h:a=b
 ·rw [decide_eq_true h,decide_eq_true ((cmpL_eq a b).2 h)]
 ·rw [decide_eq_false h,decide_eq_false (fun e=>h ((cmpL_eq a b).1 e))]
/-! ### Data-/
theorem zn6{N:Nat}{x:MDat}(b:MDOk x)(o:200≤N){s:Nat}(p:s<6):ku N x (s:Int) N [] 0=some (zc4 x s):=by
 have q:=b.st;have r:=b.ins;have t:=b.outs
 have hinp:x.inp=1+x.ins%3:=rfl
 refine x9 (fun F i acc=>ku N x (s:Int) F acc (i:Int)) x.inp.toNat (fun i acc=>acc=(List.range i).map (z6r x s)) _ (fun F i acc hi hacc=> .inr ?_) (fun F acc hacc=>?_) N 0 [] (Nat.zero_le _) (by omega) rfl
 ·subst hacc
  refine⟨_,rfl,?_⟩
  have g:=zhz (k:=s) (a:=x.inp) (by omega) (by omega)
  have j:(s:Int)*((1:Int)+x.ins%3)+(i:Int)=((s*x.inp.toNat+i:Nat):Int):=by
   rw [←hinp,g.2.2];rfl
  have hnum:=b.num (s*x.inp.toNat+i)
  simp only [ku]
  rw [xw (by omega)]
  have l:(gd (in64 ((s:Int)*((1:Int)+(x.ins%3))))<|gd (in64 (((s:Int)*((1:Int)+(x.ins%3)))+(i:Int)))<|bif decide (((s:Int)*((1:Int)+(x.ins%3)))+(i:Int)<(x.edges.length:Int)) then(gd (okI x.edges (((s:Int)*((1:Int)+(x.ins%3)))+(i:Int)))<|gd (in64 (ix x.edges (((s:Int)*((1:Int)+(x.ins%3)))+(i:Int))))<|some (ix x.edges (((s:Int)*((1:Int)+(x.ins%3)))+(i:Int)))) else(some (0:Int)))=some (x.num (s*x.inp.toNat+i)):=by
   rw [zi (qi (by rw [←hinp];omega)),j,zi (qi (by omega))]
   unfold MDat.num
   by_cases hk:s*x.inp.toNat+i<x.edges.length
   ·have m:=b.ed _ hk
    rw [xw (by omega),if_pos hk,zi (j5 hk),zi (show in64 (ix x.edges ((s*x.inp.toNat+i:Nat):Int)) from qi (show-4611686018427387904≤x.edges.getD (s*x.inp.toNat+i) default∧x.edges.getD (s*x.inp.toNat+i) default≤4611686018427387904 by omega))];rfl
   ·rw [yj (by omega),if_neg hk]
  have hacc:((List.range i).map (z6r x s)).length=i:=by simp
  refine Eq.trans (q8 (x:=(List.range (i+1)).map (z6r x s)) (Eq.trans (q8 l) ?_)) ?_
  ·rw [zi (fun _=>⟨hnum.1,by omega⟩),aa]
   by_cases hp:x.part=true∧x.num (s*x.inp.toNat+i)%4=3
   ·rw [ct (by rw [hp.1,decide_eq_true hp.2];rfl),zi ⟨by rw [hacc];simp;omega,by rw [hacc];simp;omega⟩,zlt rfl hp]
   ·have c:x.n=1+x.states%6:=rfl
    have d:x.out=1+x.outs%3:=rfl
    have e:0≤x.num (s*x.inp.toNat+i)/4:=by omega
    have f:0≤x.num (s*x.inp.toNat+i)/4/x.n:=Int.ediv_nonneg e (by omega)
    rw [cf (by
     rw [Bool.and_eq_false_iff]
     by_cases h:x.part=true
     ·exact .inr (decide_eq_false fun h'=>hp ⟨h,h'⟩)
     ·exact .inl (by simpa using h)),←c,←d,zi ⟨by omega,by omega,by omega⟩,zi ⟨e,by omega⟩,zi ⟨by omega,by omega,by omega⟩,zi ⟨e,by omega,by omega⟩,zi ⟨f,by omega⟩,zi ⟨by rw [hacc];simp;omega,by rw [hacc];simp;omega⟩,zm1 rfl (fun h h'=>hp ⟨h,h'⟩)]
  ·rw [zi (qi (by omega))];rfl
 ·subst hacc
  simp only [ku]
  rw [yj (by omega)];rfl
theorem zne{N:Nat}{x:MDat}(a:MDOk x)(b:200≤N):p8 N x=some (mOf x):=by
 have d:=a.st;have e:=a.ins;have f:=a.outs
 have c:x.n=1+x.states%6:=rfl
 unfold p8
 rw [zi ⟨by omega,by omega⟩,zi (qi (by omega)),zi (qi (by omega)),zi ⟨by omega,by omega⟩,zi (qi (by omega)),zi (qi (by omega)),zi ⟨by omega,by omega⟩,zi (qi (by omega)),zi (qi (by omega))]
 refine Eq.trans (q8 (x:=(List.range x.n.toNat).map (zc4 x)) ?_) rfl
 refine x9 (fun F s acc=>uk N x F (s:Int) acc) x.n.toNat (fun s acc=>acc=(List.range s).map (zc4 x)) _ (fun F s acc g hacc=> .inr ?_) (fun F acc hacc=>?_) N 0 [] (Nat.zero_le _) (by omega) rfl
 ·subst hacc
  refine⟨_,rfl,?_⟩
  simp only [uk]
  rw [xw (by omega),q8 (zn6 a b (by omega)),zi ⟨by simp;omega,by simp;omega⟩,zi (qi (by omega)),aa];rfl
 ·subst hacc
  simp only [uk]
  rw [yj (by omega)]
end GV
end Go.Proofs.YtkkcidhcfkmbjaaGreatDoor

namespace Go.Proofs.YtkkcidhcfkmbjaaGreatDoor
namespace GV
section names
variable {κ κ' : Type} [DecidableEq κ] [DecidableEq κ']
def fu(f:Nat→κ)(u:Nat):Bool:=(List.range u).all fun t=>decide (f t≠f u)
theorem bq{f:Nat→κ}{u:Nat}:fu f u=true↔ ∀ t,t<u→f t≠f u:=by
 unfold fu
 rw [List.all_eq_true]
 exact⟨fun h t a=>of_decide_eq_true (h t (List.mem_range.2 a)),fun h t a=>decide_eq_true (h t (List.mem_range.1 a))⟩
def cntF(f:Nat→κ):Nat→Nat
 |0=>0
 |u+1=>cntF f u+if fu f u=true then 1 else 0
theorem z8t(f:Nat→κ): ∀ u,cntF f u≤u
 |0=>Nat.le_refl _
 |u+1=>by have:=z8t f u;unfold cntF;split<;>omega
theorem cntF_step(f:Nat→κ)(u:Nat):cntF f u≤cntF f (u+1):=by show _≤cntF f u+_;omega
theorem zhp(f:Nat→κ){u v:Nat}(h:u≤v):cntF f u≤cntF f v:=by
 induction v with
 |zero=>rw [show u=0 by omega];exact Nat.le_refl _
 |succ v ih=>
  by_cases e:u=v+1
  ·rw [e];exact Nat.le_refl _
  ·exact Nat.le_trans (ih (by omega)) (cntF_step f v)
theorem z90(f:Nat→κ){u v:Nat}(h:u<v)(a:fu f u=true):cntF f u<cntF f v:=by
 have b:=zhp f (show u+1≤v by omega)
 have c:cntF f (u+1)=cntF f u+1:=by show cntF f u+_=_;rw [if_pos a]
 omega
theorem zj2{f:Nat→κ}{u v:Nat}(a:fu f u=true)(b:fu f v=true)(h:cntF f u=cntF f v):u=v:=by
 rcases Nat.lt_trichotomy u v with e|e|e
 ·have:=z90 f e a;omega
 ·exact e
 ·have:=z90 f e b;omega
def o7(f:Nat→κ)(s:Nat):Nat:=((List.range s).find? fun t=>decide (f t=f s)).getD s
theorem p9(f:Nat→κ)(s:Nat):o7 f s≤s∧f (o7 f s)=f s∧ ∀ t,t<o7 f s→f t≠f s:=by
 unfold o7
 cases h:(List.range s).find? fun t=>decide (f t=f s) with
 |none=>
  rw [List.find?_eq_none] at h
  exact⟨Nat.le_refl _,rfl,fun t a=>by simpa using h t (List.mem_range.2 a)⟩
 |some u=>
  obtain⟨c,i,d,b,e⟩:=List.find?_eq_some_iff_getElem.1 h
  rw [List.getElem_range] at b
  subst b
  rw [List.length_range] at d
  refine⟨by show i≤s;omega,by simpa using c,fun t a=>?_⟩
  have:=e t a
  rw [List.getElem_range] at this
  simpa using this
theorem z0w(f:Nat→κ)(s:Nat):fu f (o7 f s)=true:=by
 obtain⟨d,a,b⟩:=p9 f s
 exact bq.2 fun t c=>by rw [a];exact b t c
theorem z6f{f:Nat→κ}{u s:Nat}(a:fu f u=true)(h:f u=f s)(b:u≤s):o7 f s=u:=by
 obtain⟨g,c,d⟩:=p9 f s
 rcases Nat.lt_trichotomy (o7 f s) u with e|e|e
 ·exact absurd (c.trans h.symm) (bq.1 a _ e)
 ·exact e
 ·exact absurd h (d u e)
theorem z6e{f:Nat→κ}{u:Nat}(a:fu f u=true):o7 f u=u:=z6f a rfl (Nat.le_refl _)
theorem z9t{f:Nat→κ}{s t:Nat}(h:f s=f t):o7 f s=o7 f t:=by
 obtain⟨g,a,b⟩:=p9 f s
 obtain⟨i,c,d⟩:=p9 f t
 rcases Nat.lt_trichotomy (o7 f s) (o7 f t) with e|e|e
 ·exact absurd (a.trans h) (d _ e)
 ·exact e
 ·exact absurd (c.trans h.symm) (b _ e)
def name(f:Nat→κ)(s:Nat):Nat:=cntF f (o7 f s)
theorem ae{f:Nat→κ}{s t:Nat}:name f s=name f t↔f s=f t:=by
 constructor
 ·intro h
  have:=zj2 (z0w f s) (z0w f t) h
  rw [←(p9 f s).2.1,this,(p9 f t).2.1]
 ·intro h;unfold name;rw [z9t h]
theorem zbn{f:Nat→κ}{u:Nat}(h:fu f u=true):name f u=cntF f u:=by unfold name;rw [z6e h]
theorem zb3(f:Nat→κ):name f 0=0:=by
 unfold name
 rw [z6e (bq.2 fun t a=>by omega)];rfl
/-! Only which keys are equal counts. -/
theorem z9d{f:Nat→κ}{g:Nat→κ'}{n:Nat}(h: ∀ s t,s<n→t<n→(f s=f t↔g s=g t)){u:Nat}(b:u<n):fu f u=fu g u:=by
 rw [Bool.eq_iff_iff,bq,bq]
 exact⟨fun k t a e=>k t a ((h t u (by omega) b).2 e),fun k t a e=>k t a ((h t u (by omega) b).1 e)⟩
theorem z9z{f:Nat→κ}{g:Nat→κ'}{n:Nat}(h: ∀ s t,s<n→t<n→(f s=f t↔g s=g t)): ∀ {u:Nat},u≤n→cntF f u=cntF g u
 |0,_=>rfl
 |u+1,a=>by
  show cntF f u+_=cntF g u+_
  rw [z9z h (by omega),z9d h (show u<n by omega)]
theorem zhs{f:Nat→κ}{g:Nat→κ'}{n:Nat}(h: ∀ s t,s<n→t<n→(f s=f t↔g s=g t)){s:Nat}(a:s<n):o7 f s=o7 g s:=by
 obtain⟨b,c,d⟩:=p9 g s
 refine z6f ?_ ((h _ _ (by omega) a).2 c) b
 rw [z9d h (by omega)];exact z0w g s
theorem z2o{f:Nat→κ}{g:Nat→κ'}{n:Nat}(h: ∀ s t,s<n→t<n→(f s=f t↔g s=g t)){s:Nat}(a:s<n):name f s=name g s:=by
 have:=(p9 g s).1
 unfold name
 rw [zhs h a,z9z h (by omega)]
/-! A map from keys to names,as the first k things are named. -/
def nmM(f:Nat→κ):Nat→List (κ×Int)
 |0=>[]
 |k+1=>nmM f k++if fu f k=true then [(f k,(cntF f k:Int))] else []
theorem zgo(f:Nat→κ): ∀ k,(nmM f k).length=cntF f k
 |0=>rfl
 |k+1=>by
  show (nmM f k++_).length=cntF f k+_
  rw [List.length_append,zgo f k]
  split<;>rfl
theorem zed{β:Type}{M M':List (κ×β)}{x:κ}:mg (M++M') x=(mg M x||mg M' x):=by
 induction M with
 |nil=>rfl
 |cons p l ih=>
  show (if x=p.1 then true else mg (l++M') x)=((if x=p.1 then true else mg l x)||mg M' x)
  split
  ·rfl
  ·exact ih
theorem zes{β:Type}{z:β}{M M':List (κ×β)}{x:κ}:z02 z (M++M') x=if mg M x=true then z02 z M x else z02 z M' x:=by
 induction M with
 |nil=>rfl
 |cons p l ih=>
  show (if x=p.1 then p.2 else z02 z (l++M') x)=if(if x=p.1 then true else mg l x)=true then(if x=p.1 then p.2 else z02 z l x) else z02 z M' x
  by_cases h:x=p.1
  ·simp [h]
  ·simp only [if_neg h];exact ih
theorem zjw{β:Type}{M:List (κ×β)}{x:κ}{v:β}(h:mg M x=false):z3a M x v=M++[(x,v)]:=by
 induction M with
 |nil=>rfl
 |cons p l ih=>
  unfold mg at h
  by_cases e:x=p.1
  ·simp [e] at h
  ·rw [if_neg e] at h
   simp only [z3a,if_neg e,ih h,List.cons_append]
theorem z6i(f:Nat→κ)(x:κ): ∀ k,mg (nmM f k) x=true↔ ∃ t,t<k∧f t=x
 |0=>⟨fun h=>by simp [nmM,mg] at h,fun⟨t,c,_⟩=>by omega⟩
 |k+1=>by
  show mg (nmM f k++_) x=true↔_
  rw [zed,Bool.or_eq_true,z6i f x k]
  constructor
  ·rintro(⟨t,c,h⟩|h)
   ·exact⟨t,by omega,h⟩
   ·split at h
    ·by_cases e:x=f k
     ·exact⟨k,by omega,e.symm⟩
     ·simp [mg,e] at h
    ·simp [mg] at h
  ·rintro⟨t,c,h⟩
   by_cases e: ∃ u,u<k∧f u=x
   ·exact .inl e
   ·have a:t=k:=by
     rcases Nat.lt_or_ge t k with d|d
     ·exact absurd ⟨t,d,h⟩ e
     ·omega
    subst a
    right
    rw [if_pos (bq.2 fun u g b=>e ⟨u,g,b.trans h⟩)]
    simp [mg,h]
theorem z8s(f:Nat→κ){s:Nat}: ∀ k,s<k→z02 0 (nmM f k) (f s)=(name f s:Int)
 |0,h=>by omega
 |k+1,h=>by
  show z02 0 (nmM f k++_) (f s)=_
  rw [zes]
  by_cases e:mg (nmM f k) (f s)=true
  ·rw [if_pos e]
   obtain⟨t,i,a⟩:=(z6i f _ k).1 e
   rw [←a,z8s f k i,ae.2 a]
  ·rw [if_neg e]
   have d: ∀ u,u<k→f u≠f s:=fun u j c=>e ((z6i f _ k).2 ⟨u,j,c⟩)
   have l:s=k:=by
    rcases Nat.lt_or_ge s k with g|g
    ·exact absurd rfl (d s g)
    ·omega
   subst l
   have b:=bq.2 d
   rw [if_pos b,zbn b]
   simp [z02]
theorem zcu(f:Nat→κ){k:Nat}(h:mg (nmM f k) (f k)=false):z3a (nmM f k) (f k) ((nmM f k).length:Int)=nmM f (k+1):=by
 have a:fu f k=true:=bq.2 fun t c b=>by
  have:=(z6i f (f k) k).2 ⟨t,c,b⟩
  rw [h] at this;cases this
 rw [zjw h,zgo]
 show _=nmM f k++_
 rw [if_pos a]
theorem zc6(f:Nat→κ){k:Nat}(h:mg (nmM f k) (f k)=true):nmM f (k+1)=nmM f k:=by
 obtain⟨t,b,a⟩:=(z6i f _ k).1 h
 show nmM f k++_=_
 rw [if_neg (fun c=>bq.1 c t b a),List.append_nil]
def yt(f:Nat→κ)(n:Nat):List Int:=(List.range n).map fun s=>(name f s:Int)
theorem z6k(f:Nat→κ)(n:Nat):(yt f n).length=n:=by simp [yt]
theorem zjo(f:Nat→κ){n s:Nat}(h:s<n):(yt f n).getD s default=(name f s:Int):=by
 simp [yt,List.getD_eq_getElem?_getD,h]
theorem z0e{f:Nat→κ}{g:Nat→κ'}{n:Nat}(h: ∀ s t,s<n→t<n→(f s=f t↔g s=g t)):yt f n=yt g n:=by
 unfold yt
 refine List.map_congr_left fun s a=>?_
 rw [z2o h (List.mem_range.1 a)]
end names
def zo8{κ:Type}[DecidableEq κ](f:Nat→κ)(n:Nat):List Nat:=(List.range n).filter fun u=>fu f u
section zo8
variable {κ : Type} [DecidableEq κ] {f : Nat → κ}
end zo8
end GV
end Go.Proofs.YtkkcidhcfkmbjaaGreatDoor

namespace Go.Proofs.YtkkcidhcfkmbjaaGreatDoor
namespace GV
def ou(m:Mach)(s i:Nat):Int:=((m.rows.getD s default).getD i default).out
def z2p(m:Mach)(p:Nat→Nat)(s:Nat):List (Int×Int):=(List.range m.inputs.toNat).map fun i=>(ou m s i,if ed m s i= -1 then-1 else(p (ed m s i).toNat:Int))
def zc5(m:Mach)(p:Nat→Nat)(s:Nat):Nat×List (Int×Int):=(p s,z2p m p s)
def pkc(m:Mach):Nat→Nat→Nat
 |0=>fun _=>0
 |k+1=>fun s=>name (zc5 m (pkc m k)) s
def pL(m:Mach)(k:Nat):List Int:=(List.range m.rows.length).map fun s=>(pkc m k s:Int)
section
variable {m : Mach}
theorem zcy(k:Nat):(pL m k).length=m.rows.length:=by simp [pL]
theorem zkg{k s:Nat}(h:s<m.rows.length):(pL m k).getD s default=(pkc m k s:Int):=by simp [pL,List.getD_eq_getElem?_getD,h]
theorem zm2(k:Nat):pL m (k+1)=yt (zc5 m (pkc m k)) m.rows.length:=rfl
theorem zm6{p:Nat→Nat}{s t:Nat}:z2p m p s=z2p m p t↔ ∀ i,i<m.inputs.toNat→ou m s i=ou m t i∧(if ed m s i= -1 then-1 else(p (ed m s i).toNat:Int))=(if ed m t i= -1 then-1 else(p (ed m t i).toNat:Int)):=by
 unfold z2p
 rw [List.map_inj_left]
 constructor
 ·intro h i hi
  have:=h i (List.mem_range.2 hi)
  exact⟨congrArg Prod.fst this,congrArg Prod.snd this⟩
 ·intro h i hi
  obtain⟨a,b⟩:=h i (List.mem_range.1 hi)
  exact Prod.ext a b
theorem z5g(a:MOk m){s i:Nat}(b:s<m.rows.length)(hi:i<m.inputs.toNat):(ed m s i= -1↔ou m s i= -1)∧ -1≤ou m s i∧ou m s i<16:=by
 have c:=a.row s b
 have d:=a.o2
 rcases a.edge s i b (by omega) with h|h
 ·exact⟨⟨fun _=>h.2,fun _=>h.1⟩,by show-1≤((m.rows.getD s default).getD i default).out;omega,by show ((m.rows.getD s default).getD i default).out<16;omega⟩
 ·refine⟨⟨fun e=>?_,fun e=>?_⟩,?_,?_⟩
  ·have:((m.rows.getD s default).getD i default).to= -1:=e
   omega
  ·have:((m.rows.getD s default).getD i default).out= -1:=e
   omega
  ·show-1≤((m.rows.getD s default).getD i default).out;omega
  ·show ((m.rows.getD s default).getD i default).out<16;omega
theorem zdx{k s t:Nat}:pkc m (k+1) s=pkc m (k+1) t↔pkc m k s=pkc m k t∧z2p m (pkc m k) s=z2p m (pkc m k) t:=by
 show name _ s=name _ t↔_
 rw [ae]
 unfold zc5
 rw [Prod.mk.injEq]
theorem zjj(b:MOk m){k s t:Nat}(g:s<m.rows.length)(j:t<m.rows.length):pkc m (k+1) s=pkc m (k+1) t↔pkc m k s=pkc m k t∧ ∀ i,i<m.inputs.toNat→ou m s i=ou m t i∧(ed m s i≠ -1→ed m t i≠ -1→pkc m k (ed m s i).toNat=pkc m k (ed m t i).toNat):=by
 rw [zdx,zm6]
 refine and_congr_right fun _=>forall_congr' fun i=>forall_congr' fun hi=>?_
 refine and_congr_right fun c=>?_
 have d:=(z5g b g hi).1
 have f:=(z5g b j hi).1
 by_cases e:ed m s i= -1
 ·have a:ed m t i= -1:=f.2 (by rw [←c];exact d.1 e)
  rw [if_pos e,if_pos a]
  exact⟨fun _ h=>absurd e h,fun _=>rfl⟩
 ·have a:ed m t i≠ -1:=fun a=>e (d.2 (by rw [c];exact f.1 a))
  rw [if_neg e,if_neg a]
  exact⟨fun h _ _=>Int.ofNat.inj h,fun h=>congrArg Int.ofNat (h e a)⟩
theorem z4j{k s t:Nat}(h:pkc m (k+1) s=pkc m (k+1) t):pkc m k s=pkc m k t:=(zdx.1 h).1
theorem znm{k j s t:Nat}(a:k≤j)(h:pkc m j s=pkc m j t):pkc m k s=pkc m k t:=by
 induction j with
 |zero=>rw [show k=0 by omega];rfl
 |succ j ih=>
  by_cases e:k=j+1
  ·rw [e];exact h
  ·exact ih (by omega) (z4j h)
def z7u(m:Mach)(k:Nat):Prop:= ∀ s t,s<m.rows.length→t<m.rows.length→pkc m k s=pkc m k t→pkc m (k+1) s=pkc m (k+1) t
theorem za1{k s:Nat}:name (pkc m k) s=pkc m k s:=by
 cases k with
 |zero=>
  show name (fun _:Nat=>(0:Nat)) s=0
  rw [show name (fun _:Nat=>(0:Nat)) s=name (fun _:Nat=>(0:Nat)) 0 from ae.2 rfl,zb3]
 |succ k=>exact z2o (n:=s+1) (fun a b _ _=>by show name _ a=name _ b↔_;exact ae) (Nat.lt_succ_self s)
theorem zbs{k:Nat}(h:z7u m k){s:Nat}(c:s<m.rows.length):pkc m (k+1) s=pkc m k s:=by
 rw [←za1 (k:=k+1),←za1 (k:=k)]
 exact z2o (n:=m.rows.length) (fun a b d e=>⟨z4j,h a b d e⟩) c
theorem zej(k:Nat):pL m (k+1)=pL m k↔z7u m k:=by
 constructor
 ·intro h s t a c e
  have b: ∀ s,s<m.rows.length→pkc m (k+1) s=pkc m k s:=fun s a=>by
   have:=congrArg (fun l:List Int=>l.getD s default) h
   simp only [zkg a] at this
   omega
  rw [b s a,b t c,e]
 ·intro h
  unfold pL
  exact List.map_congr_left fun s a=>by rw [zbs h (List.mem_range.1 a)]
theorem zc0(b:MOk m){p q:Nat→Nat}(h: ∀ s,s<m.rows.length→p s=q s){s:Nat}(c:s<m.rows.length):z2p m p s=z2p m q s:=by
 unfold z2p
 refine List.map_congr_left fun i hi=>?_
 rcases z4q b c (List.mem_range.1 hi) with a|a
 ·rw [if_pos a,if_pos a]
 ·rw [h _ (by omega)]
theorem lc(c:MOk m){k:Nat}(h:z7u m k): ∀ j,k≤j→ ∀ s,s<m.rows.length→pkc m j s=pkc m k s
 |0,i,s,d=>by rw [show k=0 by omega]
 |j+1,i,s,d=>by
  by_cases e:k=j+1
  ·rw [e]
  ·have ih:=lc c h j (by omega)
   rw [←zbs h d]
   show name _ s=name _ s
   refine z2o (n:=m.rows.length) (fun a b f g=>?_) d
   unfold zc5
   rw [ih a f,ih b g,zc0 c ih f,zc0 c ih g]
theorem zme(a:MOk m){k j:Nat}(h:z7u m k)(b:k≤j):pL m j=pL m k:=by
 unfold pL
 exact List.map_congr_left fun s c=>by rw [lc a h j b s (List.mem_range.1 c)]
theorem ze7{κ κ':Type}[DecidableEq κ][DecidableEq κ']{f:Nat→κ}{g:Nat→κ'}: ∀ {n:Nat},(∀ u,u<n→fu f u=true→fu g u=true)→cntF f n≤cntF g n∧(cntF f n=cntF g n→ ∀ u,u<n→fu f u=fu g u)
 |0,_=>⟨Nat.le_refl _,fun _ u c=>by omega⟩
 |n+1,h=>by
  obtain⟨j,d⟩:=ze7 (n:=n) (f:=f) (g:=g) fun u c=>h u (by omega)
  have i:=h n (by omega)
  have a:cntF f (n+1)=cntF f n+if fu f n=true then 1 else 0:=rfl
  have b:cntF g (n+1)=cntF g n+if fu g n=true then 1 else 0:=rfl
  cases hf:fu f n<;>cases hg:fu g n
  ·rw [hf] at a;rw [hg] at b
   simp only [Bool.false_eq_true,if_false] at a b
   refine⟨by omega,fun e u c=>?_⟩
   by_cases hu':u=n
   ·subst hu';rw [hf,hg]
   ·exact d (by omega) u (by omega)
  ·rw [hf] at a;rw [hg] at b
   simp only [Bool.false_eq_true,if_false,if_true] at a b
   exact⟨by omega,fun e=>by omega⟩
  ·rw [hf,hg] at i;exact absurd (i rfl) (by decide)
  ·rw [hf] at a;rw [hg] at b
   simp only [if_true] at a b
   refine⟨by omega,fun e u c=>?_⟩
   by_cases hu':u=n
   ·subst hu';rw [hf,hg]
   ·exact d (by omega) u (by omega)
theorem zcq{k:Nat}(h: ¬z7u m k):cntF (pkc m k) m.rows.length<cntF (pkc m (k+1)) m.rows.length:=by
 obtain⟨v,l⟩:=ze7 (n:=m.rows.length) (f:=pkc m k) (g:=pkc m (k+1)) fun u w o=>bq.2 fun t a e=>bq.1 o t a (z4j e)
 rcases Nat.lt_or_ge (cntF (pkc m k) m.rows.length) (cntF (pkc m (k+1)) m.rows.length) with b|b
 ·exact b
 ·exfalso
  have p:=l (by omega)
  refine h fun s t x a e=>?_
  obtain⟨y,c,_⟩:=p9 (pkc m (k+1)) s
  obtain⟨z,d,_⟩:=p9 (pkc m (k+1)) t
  have i:=z0w (pkc m (k+1)) s
  have j:=z0w (pkc m (k+1)) t
  rw [←p _ (by omega)] at i j
  have q:pkc m k (o7 (pkc m (k+1)) s)=pkc m k (o7 (pkc m (k+1)) t):=by rw [z4j c,z4j d,e]
  have r:o7 (pkc m (k+1)) s=o7 (pkc m (k+1)) t:=by
   rw [←z6e i,←z6e j];exact z9t q
  rw [←c,r,d]
theorem z9y(a:1≤m.rows.length): ∀ k,(∀ j,j<k→ ¬z7u m j)→k+1≤cntF (pkc m k) m.rows.length
 |0,_=>by
  have:=z90 (pkc m 0) (show 0<m.rows.length by omega) (bq.2 fun t b=>by omega)
  omega
 |k+1,h=>by
  have c:=z9y a k fun j d=>h j (by omega)
  have e:=zcq (h k (by omega))
  omega
theorem zb6{p:Nat→Prop}: ∀ n,p n→ ∃ k,k≤n∧p k∧ ∀ j,j<k→ ¬p j
 |n,h=>by
  by_cases e: ∃ j,j<n∧p j
  ·obtain⟨j,b,a⟩:=e
   obtain⟨k,f,c,d⟩:=zb6 j a
   exact⟨k,by omega,c,d⟩
  ·exact⟨n,Nat.le_refl _,h,fun j b a=>e ⟨j,b,a⟩⟩
theorem zcg(c:MOk m): ∃ k,k<m.rows.length∧z7u m k∧ ∀ j,j<k→ ¬z7u m j:=by
 have d:=c.r1
 have e: ∃ k,k<m.rows.length∧z7u m k:=by
  refine Classical.byContradiction fun b=>?_
  have:=z9y d m.rows.length fun j f a=>b ⟨j,f,a⟩
  have:=z8t (pkc m m.rows.length) m.rows.length
  omega
 obtain⟨n,b,a⟩:=e
 obtain⟨k,i,g,h⟩:=zb6 n a
 exact⟨k,by omega,g,h⟩
def cls(m:Mach)(s:Nat):Nat:=pkc m m.rows.length s
def z4i(m:Mach):List Int:=pL m m.rows.length
theorem ze6(a:MOk m):z7u m m.rows.length:=by
 obtain⟨k,f,b,_⟩:=zcg a
 intro s t c d e
 rw [lc a b _ (by omega) s c,lc a b _ (by omega) t d] at*
 exact e
/-! ### Responses-/
theorem pu{s:Nat}(i:Nat)(w:List Int):vw m (s:Int) ((i:Int)::w)=ou m s i::vw m (ed m s i) w:=by
 show (l9 m (s:Int) (i:Int)).out::vw m (l9 m (s:Int) (i:Int)).to w=_
 unfold l9
 rw [if_neg (by omega)];rfl
theorem z4z(a:MOk m): ∀ (k:Nat) {s t:Nat},s<m.rows.length→t<m.rows.length→(pkc m k s=pkc m k t↔ ∀ w,WOk m.inputs w→w.length≤k→vw m (s:Int) w=vw m (t:Int) w)
 |0,s,t,f,g=>⟨fun _ w _ d=>by
  have:w=[]:=List.length_eq_zero_iff.1 (by omega)
  subst this;rfl,fun _=>rfl⟩
 |k+1,s,t,f,g=>by
  rw [zjj a f g]
  constructor
  ·rintro⟨C,v⟩ w b d
   match w,b,d with
   | [],_,_=>rfl
   |c::w,b,d=>
    have x:0≤c∧c<m.inputs:=b 0 (by simp)
    obtain⟨i,rfl⟩:=Int.eq_ofNat_of_zero_le x.1
    have hi:i<m.inputs.toNat:=by omega
    obtain⟨q,y⟩:=v i hi
    have r:=(z5g a f hi).1
    have u:=(z5g a g hi).1
    rw [pu,pu,q]
    congr 1
    rcases z4q a f hi with e|e
    ·rw [e,u.2 (by rw [←q];exact r.1 e)]
    ·have l:ed m t i≠ -1:=fun n=>by have:=r.2 (by rw [q];exact u.1 n);omega
     have n:=(z4q a g hi).resolve_left l
     have:=(z4z a k (s:=(ed m s i).toNat) (t:=(ed m t i).toNat) (by omega) (by omega)).1 (y (by omega) l) w (fun j o=>b (j+1) (by simpa using o)) (by simpa using d)
     rwa [Int.toNat_of_nonneg e.1,Int.toNat_of_nonneg n.1] at this
  ·intro h
   refine⟨(z4z a k f g).2 fun w b d=>h w b (by omega),fun i hi=>?_⟩
   have p: ∀ w,WOk m.inputs w→WOk m.inputs ((i:Int)::w):=fun w b j o=>by
    cases j with
    |zero=>exact⟨by show 0≤(i:Int);omega,by show (i:Int)<m.inputs;omega⟩
    |succ j=>exact b j (by simpa using o)
   refine⟨?_,fun z n=>?_⟩
   ·have:=h [(i:Int)] (p [] fun j o=>by simp at o) (by simp)
    rw [pu,pu] at this
    exact(List.cons.inj this).1
   ·have A:=(z4q a f hi).resolve_left z
    have B:=(z4q a g hi).resolve_left n
    refine(z4z a k (by omega) (by omega)).2 fun w b d=>?_
    have:=h ((i:Int)::w) (p w b) (by simpa using d)
    rw [pu,pu] at this
    rw [Int.toNat_of_nonneg A.1,Int.toNat_of_nonneg B.1]
    exact(List.cons.inj this).2
theorem z8w(a:MOk m){s t:Nat}(b:s<m.rows.length)(c:t<m.rows.length):cls m s=cls m t↔ ∀ w,WOk m.inputs w→vw m (s:Int) w=vw m (t:Int) w:=by
 constructor
 ·intro h w d
  have e:pkc m (m.rows.length+w.length) s=pkc m (m.rows.length+w.length) t:=by
   rw [lc a (ze6 a) _ (by omega) s b,lc a (ze6 a) _ (by omega) t c];exact h
  exact(z4z a _ b c).1 e w d (by omega)
 ·intro h
  exact(z4z a _ b c).2 fun w d _=>h w d
end
end GV
end Go.Proofs.YtkkcidhcfkmbjaaGreatDoor

namespace Go.Proofs.YtkkcidhcfkmbjaaGreatDoor
namespace GV
set_option maxRecDepth 100000
theorem zf9{α:Type}[Inhabited α](P:List α)(k:Nat)(h:k<P.length):P.take (k+1)=P.take k++[P.getD k default]:=by
 rw [List.take_add_one];simp [List.getD_eq_getElem?_getD,h]
theorem zlu{α:Type}{X:List α}{n k:Nat}{z y:α}(a:X.length=k)(b:k<n):(X++List.replicate (n-k) z).set k y=(X++[y])++List.replicate (n-(k+1)) z:=by
 rw [show n-k=(n-(k+1))+1 by omega,List.replicate_succ,List.set_append_right _ _ (by omega),a,Nat.sub_self]
 simp
theorem zf0{N:Nat}{m:Mach}(a:MOk m)(b:200≤N):xc N m=some 0:=by rw [zd5 a.small b,(z5y m).2 a]
end GV
end Go.Proofs.YtkkcidhcfkmbjaaGreatDoor

namespace Go.Proofs.YtkkcidhcfkmbjaaGreatDoor
namespace GV
set_option maxRecDepth 100000
/-! ### Signatures-/
def sgL(m:Mach)(p:Nat→Nat)(s:Nat):List (Int×Int):=z2p m p s++List.replicate (16-m.inputs.toNat) (0,0)
theorem z2h{m:Mach}{p:Nat→Nat}{s:Nat}:(z2p m p s).length=m.inputs.toNat:=by simp [z2p]
theorem zc8{m:Mach}(a:MOk m){p:Nat→Nat}{s:Nat}:(sgL m p s).length=16:=by
 have:=a.i2
 unfold sgL
 rw [List.length_append,z2h,List.length_replicate];omega
theorem zkn{m:Mach}{p:Nat→Nat}{s i:Nat}(hi:i<m.inputs.toNat):(z2p m p s).getD i default=(ou m s i,if ed m s i= -1 then-1 else(p (ed m s i).toNat:Int)):=by
 simp [z2p,List.getD_eq_getElem?_getD,hi]
structure PR (m:Mach) (p:List Int) (f:Nat→Nat):Prop where
 len:p.length=m.rows.length
 get: ∀ s,s<m.rows.length→p.getD s default=(f s:Int)
theorem zpj{m:Mach}(k:Nat):PR m (pL m k) (pkc m k):=⟨zcy k,fun s a=>zkg a⟩
theorem z0v{α:Type}{X:List α}{n k:Nat}{z y:α}(a:X.length=k)(b:k<n):(X++List.replicate (n-k) z).set k y=(X++[y])++List.replicate (n-(k+1)) z:=zlu a b
theorem zll{N:Nat}{m:Mach}(a:MOk m)(z:200≤N){p:List Int}{f:Nat→Nat}(j:PR m p f){s:Nat}(c:s<m.rows.length): ∃ X:Arr 16 (Int×Int),lm N m p (s:Int)=some X∧X.1=sgL m f s:=by
 have n:=a.i1;have o:=a.i2;have q:=a.r2
 have hrow:=a.row s c
 obtain⟨X,r,e⟩: ∃ X:Arr 16 (Int×Int),uy N m p (s:Int) N 0 (z1i 16 (List.replicate 16 (((0:Int),(0:Int)):(Int×Int))))=some X∧X.1=sgL m f s:=by
  refine z6g (σ:=Arr 16 (Int×Int)) (fun F k X=>uy N m p (s:Int) F (k:Int) X) m.inputs.toNat (fun k X=>X.1=(z2p m f s).take k++List.replicate (16-k) (0,0)) _ (fun F k X d hi=> .inr ?_) (fun F X hi=>?_) N 0 _ (Nat.zero_le _) (by omega) (by rw [z4v (by simp)];rfl)
  ·have g:X.1.length=16:=X.2
   have i:((z2p m f s).take k).length=k:=by rw [List.length_take,z2h];omega
   have hset: ∀ y,X.1.set k y=((z2p m f s).take k++[y])++List.replicate (16-(k+1)) (0,0):=fun y=>by rw [hi];exact z0v i (by omega)
   have hnext:(z2p m f s).take (k+1)=(z2p m f s).take k++[(ou m s k,if ed m s k= -1 then-1 else(f (ed m s k).toNat:Int))]:=by
    rw [zf9 _ k (by rw [z2h];exact d),zkn d]
   have t: ∀ Y:Arr 16 (Int×Int),Y=(if ed m s k= -1 then mh X (k:Int) (ou m s k,-1) else mh (mh X (k:Int) (ou m s k,-1)) (k:Int) (((ix (mh X (k:Int) (ou m s k,-1)).1 (k:Int)).1,(ix p (ed m s k)))))→
    uy N m p (s:Int) (F+1) (k:Int) X=uy N m p (s:Int) F ((k+1:Nat):Int) Y:=fun Y l=>by
    simp only [uy]
    rw [xw (show (k:Int)<((ix m.rows (s:Int)).length:Int) by rw [dx];omega)]
    refine(q8 (x:=Y) ?_).trans (by rw [zi (qi (by omega))];rfl)
    rw [zi (show okI (ix m.rows (s:Int)) (k:Int) from j5 (show k<(m.rows.getD s default).length by omega)),zi (j5 (show k<X.1.length by omega))]
    show (bif decide (ed m s k≠ -1) then _ else _)=_
    by_cases hc:ed m s k= -1
    ·rw [yj (fun h=>h hc),l,if_pos hc];rfl
    ·have b:=(z4q a c d).resolve_left hc
     have A:=j.len
     rw [xw hc,l,if_neg hc]
     refine(zi (show okI p (ed m s k) from⟨b.1,by omega⟩)).trans ?_
     refine(zi (show okI (mh X (k:Int) (ou m s k,-1)).1 (k:Int) from j5 (by rw [(mh X (k:Int) (ou m s k,-1)).2];omega))).trans ?_
     rfl
   refine⟨_,?_,t _ rfl⟩
   by_cases hc:ed m s k= -1
   ·rw [if_pos hc,hnext,if_pos hc]
    exact hset _
   ·have b:=(z4q a c d).resolve_left hc
    rw [if_neg hc,hnext,if_neg hc]
    have u:(mh X (k:Int) (ou m s k,-1)).1=X.1.set k (ou m s k,-1):=rfl
    have v:(ix (mh X (k:Int) (ou m s k,-1)).1 (k:Int)).1=ou m s k:=by
     rw [u,dx]
     simp [List.getD_eq_getElem?_getD,g,show k<16 by omega]
    have w:ix p (ed m s k)=(f (ed m s k).toNat:Int):=j.get _ (by omega)
    rw [v,w]
    show ((X.1.set k (ou m s k,-1)).set k (ou m s k,(f (ed m s k).toNat:Int)))=_
    rw [List.set_set]
    exact hset _
  ·simp only [uy]
   rw [yj (show¬((m.inputs.toNat:Nat):Int)<((ix m.rows (s:Int)).length:Int) by rw [dx];omega)]
   refine⟨X,rfl,?_⟩
   rw [hi,List.take_of_length_le (by rw [z2h];exact Nat.le_refl _)];rfl
 refine⟨X,?_,e⟩
 unfold lm
 rw [zi (j5 c),q8 r]
/-! ### A round-/
def z5p(m:Mach)(f:Nat→Nat)(s:Nat):Sb:=⟨(f s:Int),z1i 16 (sgL m f s)⟩
theorem zkr{m:Mach}(a:MOk m){f:Nat→Nat}{s t:Nat}:z5p m f s=z5p m f t↔zc5 m f s=zc5 m f t:=by
 unfold z5p zc5
 rw [Sb.mk.injEq,Prod.mk.injEq]
 refine and_congr (by omega) ?_
 constructor
 ·intro h
  have b:=congrArg Subtype.val h
  rw [z4v (zc8 a),z4v (zc8 a)] at b
  exact(List.append_inj b (by rw [z2h,z2h])).1
 ·intro h
  unfold sgL
  rw [h]
theorem zfl{N:Nat}{m:Mach}(d:MOk m)(o:200≤N){p:List Int}{f:Nat→Nat}(i:PR m p f):o8 N m p=some (yt (zc5 m f) m.rows.length):=by
 have q:=d.r2;have r:=i.len
 have u:ut N m p N 0 ([]:List (Sb×Int)) (mk (p.length:Int) (0:Int))=some (yt (z5p m f) m.rows.length):=by
  refine x9 (σ:=List (Sb×Int)×List Int) (fun F k st=>ut N m p F (k:Int) st.1 st.2) m.rows.length
   (fun k st=>st.1=nmM (z5p m f) k∧st.2=(List.range k).map (fun s=>(name (z5p m f) s:Int))++List.replicate (m.rows.length-k) 0) _ (fun F k st j hi=> .inr ?_) (fun F st hi=>?_) N 0 ([],mk (p.length:Int) (0:Int)) (Nat.zero_le _) (by omega) ⟨rfl,by rw [r,z15];simp⟩
  ·obtain⟨M,X⟩:=st
   obtain⟨e,a⟩:=hi
   dsimp only at e a⊢
   subst e;subst a
   obtain⟨A,v,l⟩:=zll (N:=N) d o i j
   have n:A=z1i 16 (sgL m f k):=Subtype.ext (by rw [l,z4v (zc8 d)])
   have hkey:(⟨ix p (k:Int),A⟩:Sb)=z5p m f k:=by unfold z5p;rw [n,dx,i.get k j]
   have c:((List.range k).map (fun s=>(name (z5p m f) s:Int))).length=k:=by simp
   refine⟨(nmM (z5p m f) (k+1),(List.range (k+1)).map (fun s=>(name (z5p m f) s:Int))++List.replicate (m.rows.length-(k+1)) 0),⟨rfl,rfl⟩,?_⟩
   simp only [ut]
   rw [xw (by omega),zi (j5 (by omega)),q8 v,hkey]
   refine(q8 (x:=nmM (z5p m f) (k+1)) ?_).trans ?_
   ·cases h:mg (nmM (z5p m f) k) (z5p m f k)
    ·exact(ct (b:= !false) rfl).trans (by rw [zcu _ h])
    ·exact(cf (b:= !true) rfl).trans (by rw [zc6 _ h])
   ·rw [zi (j5 (by rw [List.length_append,c,List.length_replicate];omega)),zi (qi (by omega)),z8s _ _ (Nat.lt_succ_self k),z3p,z0v c j,aa]
    rfl
  ·obtain⟨M,X⟩:=st
   obtain⟨e,a⟩:=hi
   dsimp only at e a⊢
   subst a
   simp only [ut]
   rw [yj (by omega),Nat.sub_self,List.replicate_zero,List.append_nil];rfl
 unfold o8
 rw [zi ⟨by omega,by omega,by omega⟩,q8 u,z0e (f:=z5p m f) (g:=zc5 m f) fun s t _ _=>zkr d]
theorem zaz{N:Nat}{a b:List Int}(f:a.length<N)(g:a.length≤4611686018427387904):slices_Equal_int N a b=some (decide (a=b)):=by
 unfold slices_Equal_int
 by_cases h:(a.length:Int)≠b.length
 ·rw [xw h,decide_eq_false (fun e=>h (by rw [e]))]
 ·rw [yj h]
  have hl':a.length=b.length:=by omega
  have c:ul N a b N 0=some (if a=b then Ex.go () else Ex.rt false):=by
   refine x9 (σ:=Unit) (fun F k _=>ul N a b F (k:Int)) a.length (fun k _=> ∀ j,j<k→a.getD j default=b.getD j default) _ (fun F k _ d hi=>?_) (fun F _ hi=>?_) N 0 () (Nat.zero_le _) (by omega) (fun j i=>by omega)
   ·simp only [ul]
    rw [xw (by omega),zi (j5 d),zi (j5 (by omega)),dx,dx]
    by_cases he:a.getD k default=b.getD k default
    ·right
     refine⟨(),ziq hi he,Eq.trans (yj (fun h=>h he)) ?_⟩
     rw [zi (qi (by omega))];rfl
    ·left
     refine Eq.trans (xw he) ?_
     rw [if_neg (fun e=>he (by rw [e]))]
   ·simp only [ul]
    rw [yj (by omega),if_pos (zjc hl' hi)]
  rw [q8 c]
  by_cases he:a=b
  ·rw [if_pos he,decide_eq_true he];rfl
  ·rw [if_neg he,decide_eq_false he];rfl
theorem z7z{N:Nat}{m:Mach}(f:MOk m)(n:200≤N){a:Nat}(b:z7u m a)(hmin: ∀ i,i<a→ ¬z7u m i)(g:a<m.rows.length): ∀ (d j F:Nat) (l:List Int),j+d=a→d<F→
 y8 N ((List Int)×Int) (fun k c=>gd (in64 (c.2+1))<|some (true,(k,c.2+1))) m F (l,(j:Int)-1) (pL m j)=some (pL m a,(a:Int))
 |d,j,0,l,_,p=>by omega
 |d,j,F+1,l,s,p=>by
  have q:=f.r2
  have r:(j:Int)-1+1=j:=by omega
  simp only [y8]
  rw [zi (qi (by omega)),zkf,r,ct rfl,q8 (zfl f n (zpj j)),←zm2,q8 (zaz (by rw [zcy];omega) (by rw [zcy];omega))]
  by_cases h:z7u m j
  ·have:j=a:=by
    rcases Nat.lt_or_ge j a with o|o
    ·exact absurd h (hmin j o)
    ·omega
   subst this
   rw [xw ((zej j).2 h).symm]
  ·have t:d≠0:=fun e=>by
    have:j=a:=by omega
    rw [this] at h;exact h b
   rw [yj (fun e=>h ((zej j).1 e.symm))]
   have:=z7z f n b hmin g (d-1) (j+1) F (pL m j) (by omega) (by omega)
   rw [show (((j+1:Nat):Int)-1)=(j:Int) by omega] at this
   exact this
theorem zg2{N:Nat}{m:Mach}(a:MOk m)(c:200≤N): ∃ j:Nat,pq N m=some (z4i m,(j:Int),0):=by
 have e:=a.r1;have f:=a.r2
 obtain⟨b,g,d,h⟩:=zcg a
 refine⟨b,?_⟩
 have key:=z7z (N:=N) a c d h g b 0 N [] (by omega) (by omega)
 have i:pL m 0=mk (m.rows.length:Int) (0:Int):=by
  unfold pL
  rw [z15]
  show (List.range m.rows.length).map (fun _=>((0:Nat):Int))=_
  rw [List.map_const',List.length_range];rfl
 unfold pq
 rw [q8 (zf0 a c),yj (by simp),q8 (show lv N m=some m from rfl)]
 refine(q8 (x:=(pL m b,(b:Int))) ?_).trans ?_
 ·unfold si
  rw [zi ⟨by omega,by omega,by omega⟩,←i]
  exact key
 ·rw [show z4i m=pL m b from zme a d (by omega)]
/-! ### The reference-/
section ref
variable {N : Nat} {m : Mach}
end ref
end GV
end Go.Proofs.YtkkcidhcfkmbjaaGreatDoor

namespace Go.Proofs.YtkkcidhcfkmbjaaGreatDoor
namespace GV
set_option maxRecDepth 100000
theorem zl8{N:Nat}{m:Mach}(a:Small m)(b:200≤N)(s:Int):ak N m s=some (z19 m s):=by
 unfold ak z19
 rw [q8 (zd5 a b)]
 by_cases h:lq m≠0
 ·rw [xw h,if_pos h]
 ·rw [yj h,if_neg h]
  by_cases h1:s<0∨(m.rows.length:Int)≤s
  ·rw [ct (by simpa using h1),if_pos h1]
  ·rw [cf (by simpa using h1),if_neg h1]
theorem zbt{N:Nat}{w:List Int}{n:Int}(b:w.length<N)(c:w.length≤4611686018427387904):eu N w n=some (l5 w n):=by
 unfold eu
 by_cases h:16<n∨256<w.length
 ·rw [ct (by simp;omega),zio h]
 ·rw [cf (by simp;omega)]
  rw [z9c (fun _=>zhd (p:=z2i n) (fun j d=>rfl) b c)]
  by_cases h1:n<1∨w.any (z2i n)=true
  ·rw [zj1 h h1]
   refine ct ?_
   by_cases a:n<1
   ·rw [decide_eq_true a];rfl
   ·rw [decide_eq_false a];exact h1.resolve_left a
  ·rw [zef h h1]
   refine cf ?_
   rw [decide_eq_false (fun a=>h1 (.inl a))]
   exact Bool.eq_false_iff.2 fun a=>h1 (.inr a)
theorem zns{N:Nat}{m:Mach}(e:MOk m){s:Int}{w:List Int}(g:SOk m s)(f:WOk m.inputs w)(j:w.length<N)(l:w.length≤1000000):z01 N m s w=some (vw m s w,aftL m s w):=by
 unfold z01
 rw [zi ⟨by omega,by omega,by omega⟩,z15]
 refine Eq.trans (q8 (x:=(aftL m s w,vw m s w)) ?_) rfl
 refine x9 (σ:=Int×List Int) (fun F k x=>xg N m w F x.1 (k:Int) x.2) w.length (fun k x=>x.1=aftL m s (w.take k)∧x.2=vw m s (w.take k)++List.replicate (w.length-k) (0:Int)) _ (fun F k x a hi=> .inr ?_) (fun F x hi=>?_) N 0 (s,List.replicate w.length 0) (Nat.zero_le _) (by omega) (by simp [aftL,vw])
 ·obtain⟨t,X⟩:=x
  obtain⟨rfl,rfl⟩:=hi
  have d:=zgp m e s (w.take k) g (zl0 f k)
  have b:=f k a
  refine⟨(aftL m s (w.take (k+1)),vw m s (w.take (k+1))++List.replicate (w.length-(k+1)) (0:Int)),⟨rfl,rfl⟩,?_⟩
  simp only [xg]
  rw [xw (by omega),zi (j5 a),show fe N=some ⟨-1,-1⟩ from rfl,zkf]
  have i:(bif decide (aftL m s (w.take k)≠ -1) then gd (okI m.rows (aftL m s (w.take k)))<|gd (okI (ix m.rows (aftL m s (w.take k))) (ix w (k:Int)))<|some ((ix (ix m.rows (aftL m s (w.take k))) (ix w (k:Int))).to,(ix (ix m.rows (aftL m s (w.take k))) (ix w (k:Int))).out) else some ((-1:Int),(-1:Int)))=
   some ((l9 m (aftL m s (w.take k)) (w.getD k default)).to,(l9 m (aftL m s (w.take k)) (w.getD k default)).out):=by
   rcases d with h|h
   ·rw [h];rfl
   ·have hrow:=e.row (aftL m s (w.take k)).toNat (by omega)
    rw [xw (by omega),zi h,zi (show okI (ix m.rows (aftL m s (w.take k))) (ix w (k:Int)) from⟨b.1,show w.getD k default<((m.rows.getD (aftL m s (w.take k)).toNat default).length:Int) from by rw [hrow];exact b.2⟩)]
    unfold l9
    rw [if_neg (by omega)];rfl
  refine Eq.trans (q8 i) ?_
  have c:=z1m m s (w.take k)
  rw [List.length_take] at c
  rw [zi (j5 (by rw [List.length_append,List.length_replicate,c];omega)),zi (qi (by omega)),z3p,zj8 _ _ _ _ (by omega) a,←zi5 m s w k a,←zha m s w k a];rfl
 ·obtain⟨t,X⟩:=x
  obtain⟨rfl,rfl⟩:=hi
  simp only [xg]
  rw [yj (by omega),List.take_length,Nat.sub_self,List.replicate_zero,List.append_nil]
theorem znd{N:Nat}{m:Mach}(c:Small m){s:Int}{w:List Int}(e:400≤N)(a:w.length<N)(hl':w.length≤1000000):iy N m s w=some (znb m s w,znt m s w):=by
 unfold iy znb znt
 rw [q8 (zl8 c (by omega) s)]
 by_cases h:z19 m s≠0
 ·rw [xw h,if_pos h,if_pos h]
 ·rw [yj h,if_neg h,if_neg h,q8 (zbt a (by omega))]
  by_cases h1:l5 w m.inputs≠0
  ·rw [xw h1,if_pos h1]
  ·have b:=zk4 (m:=m) (s:=s) (by simpa using h)
   have d:=ziz (w:=w) (n:=m.inputs) (by simpa using h1)
   rw [yj h1,if_neg h1,q8 (zns b.1 (.inr b.2) d.1 a hl'),show l5 w m.inputs=0 by simpa using h1]
end GV
end Go.Proofs.YtkkcidhcfkmbjaaGreatDoor
