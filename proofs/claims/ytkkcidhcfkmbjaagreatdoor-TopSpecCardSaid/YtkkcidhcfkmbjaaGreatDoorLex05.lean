
import Derived.Test.YtkkcidhcfkmbjaaGreatDoorShPlain
import Derived.Test.YtkkcidhcfkmbjaaGreatDoorShPl
set_option linter.unusedVariables false
set_option linter.unusedSimpArgs false
set_option linter.unusedSectionVars false
namespace Go.Proofs.YtkkcidhcfkmbjaaGreatDoor
namespace GV
def eOk(m:Mach)(e:Edge):Prop:=(e.to= -1∧e.out= -1)∨(0≤e.to∧e.to<m.rows.length∧0≤e.out∧e.out<m.outputs)
structure MOk (m:Mach):Prop where
 i1:1≤m.inputs
 i2:m.inputs≤16
 o1:1≤m.outputs
 o2:m.outputs≤16
 r1:1≤m.rows.length
 r2:m.rows.length≤64
 row: ∀ s,s<m.rows.length→((m.rows.getD s default).length:Int)=m.inputs
 edge: ∀ s i,s<m.rows.length→i<(m.rows.getD s default).length→eOk m ((m.rows.getD s default).getD i default)
def z4k(m:Mach)(s i:Int):Edge:=if s<0 then⟨-1,-1⟩ else(m.rows.getD s.toNat default).getD i.toNat default
def z1b(m:Mach):Int→List Int→List Int
 |_,[]=>[]
 |s,i::w=>(z4k m s i).out::z1b m (z4k m s i).to w
def aftL(m:Mach):Int→List Int→Int
 |s,[]=>s
 |s,i::w=>aftL m (z4k m s i).to w
def WOk(n:Int)(w:List Int):Prop:= ∀ k,k<w.length→0≤w.getD k default∧w.getD k default<n
def SOk(m:Mach)(s:Int):Prop:=s= -1∨(0≤s∧s<m.rows.length)
theorem zb4(m:Mach): ∀ (s:Int) (u v:List Int),aftL m s (u++v)=aftL m (aftL m s u) v
 |s,[],v=>rfl
 |s,i::u,v=>zb4 m _ u v
theorem zb6(m:Mach): ∀ (s:Int) (u v:List Int),z1b m s (u++v)=z1b m s u++z1b m (aftL m s u) v
 |s,[],v=>rfl
 |s,i::u,v=>by
  show _::z1b m _ (u++v)=_::(z1b m _ u++_)
  rw [zb6 m _ u v];rfl
theorem z5a(m:Mach): ∀ (s:Int) (w:List Int),(z1b m s w).length=w.length
 |s,[]=>rfl
 |s,i::w=>by simp [z1b,z5a m _ w]
theorem z5s(w:List Int)(k:Nat)(h:k<w.length):w.take (k+1)=w.take k++[w.getD k default]:=by
 rw [List.take_succ_eq_append_getElem h];simp [List.getD_eq_getElem?_getD,h]
theorem ze3(m:Mach)(s:Int)(w:List Int)(k:Nat)(h:k<w.length):z1b m s (w.take (k+1))=z1b m s (w.take k)++[(z4k m (aftL m s (w.take k)) (w.getD k default)).out]:=by
 rw [z5s w k h,zb6];rfl
theorem ze4(m:Mach)(s:Int)(w:List Int)(k:Nat)(h:k<w.length):aftL m s (w.take (k+1))=(z4k m (aftL m s (w.take k)) (w.getD k default)).to:=by
 rw [z5s w k h,zb4];rfl
theorem zg6(m:Mach)(a:MOk m)(s i:Int)(b:SOk m s)(hi:0≤i∧i<m.inputs):SOk m (z4k m s i).to∧ -1≤(z4k m s i).out∧(z4k m s i).out≤16:=by
 unfold z4k
 split
 ·exact⟨.inl rfl,by simp,by simp⟩
 ·have hs':0≤s∧s<m.rows.length:=by rcases b with h|h<;>omega
  have c:=a.row s.toNat (by omega)
  have d:=a.o2
  rcases a.edge s.toNat i.toNat (by omega) (by omega) with h|h
  ·exact⟨.inl h.1,by omega,by omega⟩
  ·exact⟨.inr ⟨h.1,h.2.1⟩,by omega,by omega⟩
theorem zft(m:Mach)(b:MOk m): ∀ (s:Int) (w:List Int),SOk m s→WOk m.inputs w→SOk m (aftL m s w)
 |s,[],a,_=>a
 |s,i::w,a,c=>zft m b _ w (zg6 m b s i a (by simpa using c 0 (by simp))).1 (fun k d=>by simpa using c (k+1) (by simpa using d))
theorem zgs{n:Int}{w:List Int}(h:WOk n w)(k:Nat):WOk n (w.take k):=fun j a=>by
 rw [List.length_take] at a
 have:=h j (by omega)
 rwa [show (w.take k).getD j default=w.getD j default from by simp only [List.getD_eq_getElem?_getD,List.getElem?_take];rw [if_pos (by omega)]]
theorem zn1(X:List Int)(n k:Nat)(z:Int)(a:X.length=k)(b:k<n):(X++List.replicate (n-k) (0:Int)).set k z=(X++[z])++List.replicate (n-(k+1)) (0:Int):=by
 subst a
 rw [List.set_append_right _ _ (Nat.le_refl _),Nat.sub_self,List.append_assoc]
 congr 1
 rw [show n-X.length=(n-(X.length+1))+1 from by omega,List.replicate_succ]
 rfl
def zgr(m:Mach)(x:Edge):Bool:=decide (x.to= -1∧x.out= -1)||(((decide (0≤x.to)&&decide (x.to<m.rows.length))&&decide (0≤x.out))&&decide (x.out<m.outputs))
theorem zlr(m:Mach)(x:Edge):zgr m x=true↔eOk m x:=by
 simp [zgr,eOk];omega
theorem zcy{α:Type}[Inhabited α](p:α→Bool)(X:List α)(k:Nat)(h:k<X.length):(X.take (k+1)).any p=((X.take k).any p||p (X.getD k default)):=by
 rw [List.take_succ_eq_append_getElem h,List.any_append]
 simp [List.getD_eq_getElem?_getD,h]
def zdi{α:Type}(p:α→Bool)(X:List α):Int:=match X.findIdx? p with|some i=>i|none=> -1
theorem zji{α:Type}(p:α→Bool)(X:List α):decide (0≤zdi p X)=X.any p:=by
 unfold zdi
 cases h:X.findIdx? p with
 |none=>
  have:=List.findIdx?_eq_none_iff.1 h
  simp only [Bool.eq_false_iff] at*
  rw [show decide ((0:Int)≤ -1)=false from rfl]
  symm
  rw [List.any_eq_false]
  intro x a
  simp [this x a]
 |some i=>
  obtain⟨hi,b,_⟩:=List.findIdx?_eq_some_iff_getElem.1 h
  rw [show decide ((0:Int)≤(i:Int))=true from by simp]
  symm
  rw [List.any_eq_true]
  exact⟨_,List.getElem_mem hi,b⟩
theorem zcj{α:Type}[Inhabited α](p:α→Bool)(X:List α)(k:Nat)(h:k<X.length)(a:(X.take k).any p=false)(b:p (X.getD k default)=true):zdi p X=k:=by
 have:X.findIdx? p=some k:=by
  rw [List.findIdx?_eq_some_iff_getElem]
  refine⟨h,by simpa [List.getD_eq_getElem?_getD,h] using b,fun j c=>?_⟩
  rw [List.any_eq_false] at a
  have:=a X[j] (by rw [List.mem_take_iff_getElem];exact⟨j,by omega,rfl⟩)
  simpa using this
 simp [zdi,this]
theorem zeb{α:Type}(p:α→Bool)(X:List α)(a:X.any p=false):zdi p X= -1:=by
 have:X.findIdx? p=none:=by
  rw [List.findIdx?_eq_none_iff]
  rw [List.any_eq_false] at a
  intro x b
  simpa using a x b
 simp [zdi,this]
def eqB{α:Type}(p:α→α→Bool):List α→List α→Bool
 | [],[]=>true
 |x::xs,y::ys=>p x y&&eqB p xs ys
 |_,_=>false
def z3m(m:Mach)(r:List Edge):Bool:=decide ((r.length:Int)≠m.inputs)||r.any fun x=> !zgr m x
def z2i(m:Mach):Int:=if(16<m.inputs∨16<m.outputs)∨64<m.rows.length then 3 else if(m.inputs<1∨m.outputs<1)∨m.rows.length<1 then 1 else if m.rows.any (z3m m)=true then 1 else 0
structure Small (m:Mach):Prop where
 r:m.rows.length≤100
 c: ∀ k,k<m.rows.length→(m.rows.getD k default).length≤100
theorem zmr{m:Mach}(h:(16<m.inputs∨16<m.outputs)∨64<m.rows.length):z2i m=3:=by unfold z2i;rw [if_pos h]
theorem znd{m:Mach}(h: ¬((16<m.inputs∨16<m.outputs)∨64<m.rows.length))(a:(m.inputs<1∨m.outputs<1)∨m.rows.length<1):z2i m=1:=by unfold z2i;rw [if_neg h,if_pos a]
theorem zmq{m:Mach}(h: ¬((16<m.inputs∨16<m.outputs)∨64<m.rows.length))(a: ¬((m.inputs<1∨m.outputs<1)∨m.rows.length<1))(b:m.rows.any (z3m m)=false):z2i m=0:=by
 unfold z2i;rw [if_neg h,if_neg a,if_neg (by rw [b];decide)]
theorem z7z{α:Type}[Inhabited α](p:α→Bool)(X:List α):X.any p=false↔ ∀ k,k<X.length→p (X.getD k default)=false:=by
 rw [List.any_eq_false]
 refine⟨fun h k a=>by simpa using h _ (za9 a),fun h x b=>?_⟩
 obtain⟨k,a,rfl⟩:=List.getElem_of_mem b
 have:=h k a
 simp only [List.getD_eq_getElem?_getD,List.getElem?_eq_getElem a,Option.getD_some] at this
 simp [this]
theorem z6k(m:Mach)(r:List Edge):z3m m r=false↔(r.length:Int)=m.inputs∧ ∀ i,i<r.length→eOk m (r.getD i default):=by
 unfold z3m
 rw [Bool.or_eq_false_iff,z7z]
 refine and_congr (by simp) (forall_congr' fun i=>forall_congr' fun hi=>?_)
 rw [←zlr];simp
theorem z9b(m:Mach):z2i m=0↔MOk m:=by
 unfold z2i
 by_cases h:(16<m.inputs∨16<m.outputs)∨64<m.rows.length
 ·rw [if_pos h];exact⟨fun h=>absurd h (by decide),fun a=>by have:=a.i2;have:=a.o2;have:=a.r2;omega⟩
 rw [if_neg h]
 by_cases h1:(m.inputs<1∨m.outputs<1)∨m.rows.length<1
 ·rw [if_pos h1];exact⟨fun h=>absurd h (by decide),fun a=>by have:=a.i1;have:=a.o1;have:=a.r1;omega⟩
 rw [if_neg h1]
 cases hr:m.rows.any (z3m m)
 ·rw [if_neg (by decide)]
  have:=(z7z _ _).1 hr
  exact⟨fun _=>⟨by omega,by omega,by omega,by omega,by omega,by omega,fun s b=>((z6k m _).1 (this s b)).1,fun s i b hi=>((z6k m _).1 (this s b)).2 i hi⟩,fun _=>rfl⟩
 ·rw [if_pos rfl]
  refine⟨fun h=>absurd h (by decide),fun a=>?_⟩
  have:m.rows.any (z3m m)=false:=(z7z _ _).2 fun k c=>(z6k m _).2 ⟨a.row k c,fun i hi=>a.edge k i c hi⟩
  rw [hr] at this;cases this
theorem MOk.small{m:Mach}(a:MOk m):Small m:=⟨by have:=a.r2;omega,fun k b=>by have:=a.row k b;have:=a.i2;omega⟩
def z5f(m:Mach)(s:Int):Int:=if z2i m≠0 then z2i m else if s<0∨(m.rows.length:Int)≤s then 1 else 0
theorem zml{m:Mach}{s:Int}(h:z5f m s=0):MOk m∧0≤s∧s<m.rows.length:=by
 unfold z5f at h
 by_cases h1:z2i m≠0
 ·rw [if_pos h1] at h;exact absurd h h1
 rw [if_neg h1] at h
 by_cases h2:s<0∨(m.rows.length:Int)≤s
 ·rw [if_pos h2] at h;cases h
 exact⟨(z9b m).1 (by omega),by omega,by omega⟩
def z7l(n c:Int):Bool:=decide (c<0)||decide (n≤c)
def z0y(w:List Int)(n:Int):Int:=if 16<n∨256<w.length then 3 else if n<1 then 1 else if w.any (z7l n)=true then 1 else 0
theorem zo4{w:List Int}{n:Int}(h:16<n∨256<w.length):z0y w n=3:=by unfold z0y;rw [if_pos h]
theorem zo0{w:List Int}{n:Int}(h: ¬(16<n∨256<w.length))(a:n<1∨w.any (z7l n)=true):z0y w n=1:=by
 unfold z0y;rw [if_neg h]
 by_cases h2:n<1
 ·rw [if_pos h2]
 ·rw [if_neg h2,if_pos (a.resolve_left h2)]
theorem zok{w:List Int}{n:Int}(h: ¬(16<n∨256<w.length))(a: ¬(n<1∨w.any (z7l n)=true)):z0y w n=0:=by
 unfold z0y;rw [if_neg h,if_neg (fun h=>a (.inl h)),if_neg (fun h=>a (.inr h))]
theorem zg5{w:List Int}{n:Int}(h:z0y w n=0):WOk n w∧w.length≤256:=by
 unfold z0y at h
 by_cases h1:16<n∨256<w.length
 ·rw [if_pos h1] at h;cases h
 rw [if_neg h1] at h
 by_cases h2:n<1
 ·rw [if_pos h2] at h;cases h
 rw [if_neg h2] at h
 cases h3:w.any (z7l n)
 ·refine⟨fun k a=>?_,by omega⟩
  have:=(z7z _ _).1 h3 k a
  simp [z7l] at this
  exact this
 ·rw [h3,if_pos rfl] at h;cases h
theorem zed{w:List Int}{n:Int}(c:1≤n)(d:n≤16)(a:WOk n w)(e:w.length≤256):z0y w n=0:=by
 unfold z0y
 rw [if_neg (by omega),if_neg (by omega),if_neg]
 rw [(z7z _ _).2 fun k b=>?_]
 ·decide
 ·have:=a k b
  unfold z7l;rw [Bool.or_eq_false_iff,decide_eq_false_iff_not,decide_eq_false_iff_not];omega
def zr1(m:Mach)(s:Int)(w:List Int):Int:=if z5f m s≠0 then z5f m s else z0y w m.inputs
def zr5(m:Mach)(s:Int)(w:List Int):List Int:=if z5f m s≠0 then [] else if z0y w m.inputs≠0 then [] else z1b m s w
theorem MOk.mul{m:Mach}(a:MOk m):m.rows.length*m.inputs.toNat≤1024∧(m.rows.length:Int)*m.inputs=((m.rows.length*m.inputs.toNat:Nat):Int):=by
 have b:=a.r2;have c:=a.i1;have d:=a.i2
 refine⟨Nat.le_trans (Nat.mul_le_mul b (show m.inputs.toNat≤16 by omega)) (by decide),?_⟩
 rw [Int.natCast_mul,Int.toNat_of_nonneg (by omega)]
inductive Reach (m:Mach) (s:Nat):Nat→Prop
 |refl:Reach m s s
 |step {t i:Nat}:Reach m s t→t<m.rows.length→i<(m.rows.getD t default).length→0≤((m.rows.getD t default).getD i default).to→Reach m s ((m.rows.getD t default).getD i default).to.toNat
theorem Reach.trans{m:Mach}{a b c:Nat}(h:Reach m a b)(k:Reach m b c):Reach m a c:=by
 induction k with
 |refl=>exact h
 |step _ e hi d ih=>exact .step ih e hi d
theorem Reach.lt{m:Mach}(c:MOk m){a b:Nat}(h:Reach m a b)(d:a<m.rows.length):b<m.rows.length:=by
 cases h with
 |refl=>exact d
 |step g e f i=>rcases c.edge _ _ e f with h|h<;>omega
def Closed(m:Mach)(Y:List Bool)(t:Nat):Prop:= ∀ i,i<(m.rows.getD t default).length→0≤((m.rows.getD t default).getD i default).to→Y.getD ((m.rows.getD t default).getD i default).to.toNat default=true
structure Vis (m:Mach) (X:List Bool) (s:Int) (Y:List Bool):Prop where
 len:Y.length=X.length
 cnt:Y.count false≤X.count false
 mono: ∀ t,X.getD t default=true→Y.getD t default=true
 here:0≤s→Y.getD s.toNat default=true
 reach: ∀ t,Y.getD t default=true→X.getD t default=true∨(0≤s∧Reach m s.toNat t)
 closed: ∀ t,t<m.rows.length→Y.getD t default=true→X.getD t default=true∨Closed m Y t
structure VisK (m:Mach) (X:List Bool) (s:Nat) (k:Nat) (Y:List Bool):Prop where
 len:Y.length=X.length
 cnt:Y.count false<X.count false
 mono: ∀ t,X.getD t default=true→Y.getD t default=true
 here:Y.getD s default=true
 reach: ∀ t,Y.getD t default=true→X.getD t default=true∨Reach m s t
 closed: ∀ t,t<m.rows.length→Y.getD t default=true→X.getD t default=true∨t=s∨Closed m Y t
 done: ∀ i,i<k→0≤((m.rows.getD s default).getD i default).to→Y.getD ((m.rows.getD s default).getD i default).to.toNat default=true
theorem Small.mem{m:Mach}(h:Small m){r:List Edge}(b:r∈m.rows):r.length≤100:=by
 obtain⟨k,a,rfl⟩:=List.getElem_of_mem b
 have:=h.c k a
 simpa [List.getD_eq_getElem?_getD,a] using this
def ztd(m:Mach)(Y:List Bool):Prop:= ∀ t,t<m.rows.length→Y.getD t default=true→Closed m Y t
structure RInv (m:Mach) (a:Nat) (r:Nat) (Y:List Bool):Prop where
 len:Y.length=m.rows.length
 sound: ∀ t,Y.getD t default=true→Reach m a t
 start:Y.getD a default=true
 prog:ztd m Y∨r<Y.count true
structure RPass (m:Mach) (a:Nat) (Y0:List Bool) (s i:Nat) (Y:List Bool):Prop where
 len:Y.length=m.rows.length
 sound: ∀ t,Y.getD t default=true→Reach m a t
 start:Y.getD a default=true
 fix:ztd m Y0→Y=Y0
 prog:Y0.count true<Y.count true∨(Y=Y0∧ ∀ t,t<m.rows.length→Y.getD t default=true→ ∀ j,(t<s∨(t=s∧j<i))→j<(m.rows.getD t default).length→0≤((m.rows.getD t default).getD j default).to→Y.getD ((m.rows.getD t default).getD j default).to.toNat default=true)
def MDat.n(x:MDat):Int:=1+x.states%6
def MDat.inp(x:MDat):Int:=1+x.ins%3
def MDat.out(x:MDat):Int:=1+x.outs%3
def MDat.num(x:MDat)(k:Nat):Int:=if k<x.edges.length then x.edges.getD k default else 0
def zh3(x:MDat)(v:Int):Edge:=if x.part=true∧v%4=3 then⟨-1,-1⟩ else⟨v/4%x.n,v/4/x.n%x.out⟩
def z9n(x:MDat)(s i:Nat):Edge:=zh3 x (x.num (s*x.inp.toNat+i))
def zdg(x:MDat)(s:Nat):List Edge:=(List.range x.inp.toNat).map (z9n x s)
def mOf(x:MDat):Mach:=⟨x.inp,x.out,(List.range x.n.toNat).map (zdg x)⟩
structure MDOk (x:MDat):Prop where
 st:0≤x.states∧x.states≤255
 ins:0≤x.ins∧x.ins≤255
 outs:0≤x.outs∧x.outs≤255
 ed: ∀ k,k<x.edges.length→0≤x.edges.getD k default∧x.edges.getD k default≤65535
theorem MDOk.num{x:MDat}(h:MDOk x)(k:Nat):0≤x.num k∧x.num k≤65535:=by
 unfold MDat.num
 split
 ·exact h.ed k (by assumption)
 ·omega
theorem z7o{α:Type}[Inhabited α](f:Nat→α){n k:Nat}(h:k<n):((List.range n).map f).getD k default=f k:=by
 simp [List.getD_eq_getElem?_getD,h]
theorem zn9{x:MDat}{v:Int}{m:Mach}(c:0≤v)(a:(m.rows.length:Int)=x.n)(b:m.outputs=x.out)(d:1≤x.n)(e:1≤x.out):eOk m (zh3 x v):=by
 unfold zh3 eOk
 split
 ·exact .inl ⟨rfl,rfl⟩
 ·refine .inr ⟨Int.emod_nonneg _ (by omega),?_,Int.emod_nonneg _ (by omega),?_⟩
  ·rw [a];exact Int.emod_lt_of_pos _ (by omega)
  ·rw [b];exact Int.emod_lt_of_pos _ (by omega)
theorem zod{x:MDat}(h:MDOk x):MOk (mOf x):=by
 have c:=h.st;have d:=h.ins;have e:=h.outs
 have b:1≤x.n∧x.n≤6:=by unfold MDat.n;omega
 have a2:1≤x.inp∧x.inp≤3:=by unfold MDat.inp;omega
 have a3:1≤x.out∧x.out≤3:=by unfold MDat.out;omega
 have f:(mOf x).rows.length=x.n.toNat:=by simp [mOf]
 have hrow: ∀ s,s<(mOf x).rows.length→(mOf x).rows.getD s default=zdg x s:=fun s a=>z7o _ (by omega)
 refine⟨a2.1,by show x.inp≤16;omega,a3.1,by show x.out≤16;omega,by omega,by omega,fun s a=>?_,fun s i a hi=>?_⟩
 ·rw [hrow s a];show ((zdg x s).length:Int)=x.inp;simp [zdg];omega
 ·rw [hrow s a] at hi⊢
  have hi':i<x.inp.toNat:=by simpa [zdg] using hi
  rw [show (zdg x s).getD i default=z9n x s i from z7o _ hi']
  exact zn9 (h.num _).1 (by omega) rfl b.1 a3.1
theorem zor{x:MDat}{s i:Nat}{v:Int}(a:x.num (s*x.inp.toNat+i)=v)(h:x.part=true∧v%4=3):z9n x s i=⟨-1,-1⟩:=by
 unfold z9n zh3;rw [a,if_pos h]
theorem zpu{x:MDat}{s i:Nat}{v:Int}(b:x.num (s*x.inp.toNat+i)=v)(h:x.part=true→ ¬v%4=3):z9n x s i=⟨v/4%x.n,v/4/x.n%x.out⟩:=by
 unfold z9n zh3;rw [b,if_neg (fun a=>h a.1 a.2)]
theorem zc7{α:Type}(f:Nat→α)(k:Nat):(List.range (k+1)).map f=(List.range k).map f++[f k]:=by rw [List.range_succ,List.map_append];rfl
theorem zl9{k:Nat}{a:Int}(b:k≤6)(c:1≤a∧a≤3):0≤(k:Int)*a∧(k:Int)*a≤18∧(k:Int)*a=((k*a.toNat:Nat):Int):=by
 have e:(k:Int)*a=((k*a.toNat:Nat):Int):=by rw [Int.natCast_mul,Int.toNat_of_nonneg (by omega)]
 have h:k*a.toNat≤6*3:=Nat.mul_le_mul b (by omega)
 exact⟨by omega,by omega,e⟩
def wOf(x:WDat)(n:Int):List Int:=(x.syms.take 12).map (· %n)
structure WDOk (x:WDat):Prop where
 sy: ∀ k,k<x.syms.length→0≤x.syms.getD k default∧x.syms.getD k default≤255
theorem zmv{x:WDat}{n:Int}{k:Nat}(a:k<x.syms.length):(x.syms.take (k+1)).map (· %n)=(x.syms.take k).map (· %n)++[x.syms.getD k default%n]:=by
 rw [z5s _ k a,List.map_append];rfl
theorem zph{x:WDat}{n:Int}{k:Nat}(a:k≤x.syms.length)(b:k≤12)(h:k<x.syms.length→12≤k):(x.syms.take k).map (· %n)=wOf x n:=by
 unfold wOf
 by_cases e:k<x.syms.length
 ·rw [show k=12 from by have:=h e;omega]
 ·rw [List.take_of_length_le (by omega),List.take_of_length_le (by omega)]
theorem zr7{x:WDat}{n:Int}(b:1≤n):WOk n (wOf x n)∧(wOf x n).length≤12:=by
 refine⟨fun k a=>?_,by unfold wOf;rw [List.length_map,List.length_take];omega⟩
 unfold wOf at a⊢
 rw [List.length_map] at a
 simp only [List.getD_eq_getElem?_getD,List.getElem?_map,List.getElem?_eq_getElem a,Option.map_some,Option.getD_some]
 exact⟨Int.emod_nonneg _ (by omega),Int.emod_lt_of_pos _ (by omega)⟩
end GV
end Go.Proofs.YtkkcidhcfkmbjaaGreatDoor

namespace Go.Proofs.YtkkcidhcfkmbjaaGreatDoor
namespace GV
set_option maxRecDepth 100000
theorem zrg{N:Nat}{s:List Edge}{f:Edge→Option Bool}{p:Edge→Bool}(b: ∀ k,k<s.length→f (s.getD k default)=some (p (s.getD k default)))(c:s.length<N)(d:s.length≤4611686018427387904):
 xx N s f=some (zdi p s):=by
 have h:jr N s f N 0=some (if s.any p=true then Ex.rt (zdi p s) else Ex.go ()):=by
  refine mi (σ:=Unit) (fun F k _=>jr N s f F (k:Int)) s.length (fun k _=>(s.take k).any p=false) _ (fun F k _ a hi=>?_) (fun F _ hi=>?_) N 0 () (Nat.zero_le _) (by omega) (by simp)
  ·simp only [jr]
   rw [aj (by omega),zu (uf a),sj,qa (b k a)]
   cases hp:p (s.getD k default)
   ·right
    refine⟨(),by rw [zcy p s k a,hi,hp];rfl,?_⟩
    rw [cf rfl,zu (je (by omega))];rfl
   ·left
    rw [ct rfl,if_pos (List.any_eq_true.2 ⟨_,za9 a,hp⟩),zcj p s k a hi hp]
  ·simp only [jr]
   rw [yn (by omega),if_neg (by rw [List.take_length] at hi;rw [hi];decide)]
 unfold xx
 rw [qa h]
 by_cases ha:s.any p=true
 ·rw [if_pos ha];rfl
 ·rw [if_neg ha,zeb p s (by simpa using ha)];rfl
theorem zlm{N:Nat}{s:List Edge}{f:Edge→Option Bool}{p:Edge→Bool}(a: ∀ k,k<s.length→f (s.getD k default)=some (p (s.getD k default)))(b:s.length<N)(c:s.length≤4611686018427387904):
 yt N s f=some (s.any p):=by
 unfold yt
 rw [qa (zrg a b c),zji]
theorem zeu{N:Nat}{m:Mach}(b:Small m)(f:200≤N):ow N m=some (z2i m):=by
 unfold ow
 by_cases h:(16<m.inputs∨16<m.outputs)∨64<m.rows.length
 ·rw [ct (by simp;omega),zmr h]
 ·rw [cf (by simp;omega)]
  by_cases h1:(m.inputs<1∨m.outputs<1)∨m.rows.length<1
  ·rw [ct (by simp;omega),znd h h1]
  ·rw [cf (by simp;omega)]
   have g:=b.r
   have d:xc N m N 0=some (if m.rows.any (z3m m)=true then Ex.rt 1 else Ex.go ()):=by
    refine mi (σ:=Unit) (fun F k _=>xc N m F (k:Int)) m.rows.length (fun k _=>(m.rows.take k).any (z3m m)=false) _ (fun F k _ a hi=>?_) (fun F _ hi=>?_) N 0 () (Nat.zero_le _) (by omega) (by simp)
    ·simp only [xc]
     have i:=b.c k a
     rw [aj (by omega),zu (uf a),sj,zoi (fun _=>zlm (p:=fun x=> !zgr m x) (fun j l=>rfl) (by omega) (by omega))]
     have e:(decide (((m.rows.getD k default).length:Int)≠m.inputs)||((bif (true&&(decide (((m.rows.getD k default).length:Int)≠m.inputs)==false)) then some ((m.rows.getD k default).any fun x=> !zgr m x) else none).getD default))=z3m m (m.rows.getD k default):=by
      unfold z3m
      cases decide (((m.rows.getD k default).length:Int)≠m.inputs)<;>rfl
     rw [e]
     cases hr:z3m m (m.rows.getD k default)
     ·right
      refine⟨(),by rw [zcy _ _ k a,hi,hr];rfl,?_⟩
      rw [cf rfl,zu (je (by omega))];rfl
     ·left
      rw [ct rfl,if_pos (List.any_eq_true.2 ⟨_,za9 a,hr⟩)]
    ·simp only [xc]
     rw [yn (by omega),if_neg (by rw [List.take_length] at hi;rw [hi];decide)]
   rw [qa d]
   by_cases ha:m.rows.any (z3m m)=true
   ·rw [if_pos ha];unfold z2i;rw [if_neg h,if_neg h1,if_pos ha];rfl
   ·rw [if_neg ha,zmq h h1 (by simpa using ha)];rfl
theorem zna{N:Nat}{m:Mach}(a:Small m)(b:200≤N)(s:Int):z0s N m s=some (z5f m s):=by
 unfold z0s z5f
 rw [qa (zeu a b)]
 by_cases h:z2i m≠0
 ·rw [aj h,if_pos h]
 ·rw [yn h,if_neg h]
  by_cases h1:s<0∨(m.rows.length:Int)≤s
  ·rw [ct (by simpa using h1),if_pos h1]
  ·rw [cf (by simpa using h1),if_neg h1]
theorem zr0{N:Nat}{s:List Int}{f:Int→Option Bool}{p:Int→Bool}(b: ∀ k,k<s.length→f (s.getD k default)=some (p (s.getD k default)))(c:s.length<N)(d:s.length≤4611686018427387904):
 oo N s f=some (zdi p s):=by
 have h:ug N s f N 0=some (if s.any p=true then Ex.rt (zdi p s) else Ex.go ()):=by
  refine mi (σ:=Unit) (fun F k _=>ug N s f F (k:Int)) s.length (fun k _=>(s.take k).any p=false) _ (fun F k _ a hi=>?_) (fun F _ hi=>?_) N 0 () (Nat.zero_le _) (by omega) (by simp)
  ·simp only [ug]
   rw [aj (by omega),zu (uf a),sj,qa (b k a)]
   cases hp:p (s.getD k default)
   ·right
    refine⟨(),by rw [zcy p s k a,hi,hp];rfl,?_⟩
    rw [cf rfl,zu (je (by omega))];rfl
   ·left
    rw [ct rfl,if_pos (List.any_eq_true.2 ⟨_,za9 a,hp⟩),zcj p s k a hi hp]
  ·simp only [ug]
   rw [yn (by omega),if_neg (by rw [List.take_length] at hi;rw [hi];decide)]
 unfold oo
 rw [qa h]
 by_cases ha:s.any p=true
 ·rw [if_pos ha];rfl
 ·rw [if_neg ha,zeb p s (by simpa using ha)];rfl
theorem zea{N:Nat}{s:List Int}{f:Int→Option Bool}{p:Int→Bool}(a: ∀ k,k<s.length→f (s.getD k default)=some (p (s.getD k default)))(b:s.length<N)(c:s.length≤4611686018427387904):
 yf N s f=some (s.any p):=by
 unfold yf
 rw [qa (zr0 a b c),zji]
theorem zek{N:Nat}{w:List Int}{n:Int}(b:w.length<N)(c:w.length≤4611686018427387904):z1x N w n=some (z0y w n):=by
 unfold z1x
 by_cases h:16<n∨256<w.length
 ·rw [ct (by simp;omega),zo4 h]
 ·rw [cf (by simp;omega)]
  rw [zoi (fun _=>zea (p:=z7l n) (fun j d=>rfl) b c)]
  by_cases h1:n<1∨w.any (z7l n)=true
  ·rw [zo0 h h1]
   refine ct ?_
   by_cases a:n<1
   ·rw [decide_eq_true a];rfl
   ·rw [decide_eq_false a];exact h1.resolve_left a
  ·rw [zok h h1]
   refine cf ?_
   rw [decide_eq_false (fun a=>h1 (.inl a))]
   exact Bool.eq_false_iff.2 fun a=>h1 (.inr a)
theorem zqu{N:Nat}{m:Mach}(e:MOk m){s:Int}{w:List Int}(g:SOk m s)(f:WOk m.inputs w)(j:w.length<N)(l:w.length≤1000000):z2c N m s w=some (z1b m s w,aftL m s w):=by
 unfold z2c
 rw [zu ⟨by omega,by omega,by omega⟩,z9g]
 refine Eq.trans (qa (x:=(aftL m s w,z1b m s w)) ?_) rfl
 refine mi (σ:=Int×List Int) (fun F k x=>dz N m w F x.1 (k:Int) x.2) w.length (fun k x=>x.1=aftL m s (w.take k)∧x.2=z1b m s (w.take k)++List.replicate (w.length-k) (0:Int)) _ (fun F k x a hi=> .inr ?_) (fun F x hi=>?_) N 0 (s,List.replicate w.length 0) (Nat.zero_le _) (by omega) (by simp [aftL,z1b])
 ·obtain⟨t,X⟩:=x
  obtain⟨rfl,rfl⟩:=hi
  have d:=zft m e s (w.take k) g (zgs f k)
  have b:=f k a
  refine⟨(aftL m s (w.take (k+1)),z1b m s (w.take (k+1))++List.replicate (w.length-(k+1)) (0:Int)),⟨rfl,rfl⟩,?_⟩
  simp only [dz]
  rw [aj (by omega),zu (uf a),show z1o N=some ⟨-1,-1⟩ from rfl,zfu]
  have i:(bif decide (aftL m s (w.take k)≠ -1) then gd (okI m.rows (aftL m s (w.take k)))<|gd (okI (ix m.rows (aftL m s (w.take k))) (ix w (k:Int)))<|some ((ix (ix m.rows (aftL m s (w.take k))) (ix w (k:Int))).to,(ix (ix m.rows (aftL m s (w.take k))) (ix w (k:Int))).out) else some ((-1:Int),(-1:Int)))=
   some ((z4k m (aftL m s (w.take k)) (w.getD k default)).to,(z4k m (aftL m s (w.take k)) (w.getD k default)).out):=by
   rcases d with h|h
   ·rw [h];rfl
   ·have hrow:=e.row (aftL m s (w.take k)).toNat (by omega)
    rw [aj (by omega),zu h,zu (show okI (ix m.rows (aftL m s (w.take k))) (ix w (k:Int)) from⟨b.1,show w.getD k default<((m.rows.getD (aftL m s (w.take k)).toNat default).length:Int) from by rw [hrow];exact b.2⟩)]
    unfold z4k
    rw [if_neg (by omega)];rfl
  refine Eq.trans (qa i) ?_
  have c:=z5a m s (w.take k)
  rw [List.length_take] at c
  rw [zu (uf (by rw [List.length_append,List.length_replicate,c];omega)),zu (je (by omega)),z5d,zn1 _ _ _ _ (by omega) a,←ze4 m s w k a,←ze3 m s w k a];rfl
 ·obtain⟨t,X⟩:=x
  obtain⟨rfl,rfl⟩:=hi
  simp only [dz]
  rw [yn (by omega),List.take_length,Nat.sub_self,List.replicate_zero,List.append_nil]
theorem zr9{N:Nat}{m:Mach}(c:Small m){s:Int}{w:List Int}(e:400≤N)(a:w.length<N)(hl':w.length≤1000000):ry N m s w=some (zr5 m s w,zr1 m s w):=by
 unfold ry zr5 zr1
 rw [qa (zna c (by omega) s)]
 by_cases h:z5f m s≠0
 ·rw [aj h,if_pos h,if_pos h]
 ·rw [yn h,if_neg h,if_neg h,qa (zek a (by omega))]
  by_cases h1:z0y w m.inputs≠0
  ·rw [aj h1,if_pos h1]
  ·have b:=zml (m:=m) (s:=s) (by simpa using h)
   have d:=zg5 (w:=w) (n:=m.inputs) (by simpa using h1)
   rw [yn h1,if_neg h1,qa (zqu b.1 (.inr b.2) d.1 a hl'),show z0y w m.inputs=0 by simpa using h1]
theorem zp8{N:Nat}{m:Mach}(a:MOk m){s i:Int}(b:SOk m s)(hi:0≤i∧i<m.inputs):ig N m s i=some (z4k m s i):=by
 unfold ig z4k
 rcases b with h|h
 ·rw [h];rfl
 ·have hrow:=a.row s.toNat (by omega)
  rw [yn (by omega),if_neg (by omega),zu h,zu (show okI (ix m.rows s) i from⟨hi.1,by rw [znm,hrow];exact hi.2⟩)];rfl
theorem zpv{N:Nat}{m:Mach}(d:MOk m){s:Int}{w:List Int}(f:SOk m s)(e:WOk m.inputs w)(g:w.length<N)(h:w.length≤1000000):pz N m s w=some (z1b m s w):=by
 unfold pz
 refine Eq.trans (qa (x:=z1b m s w) ?_) rfl
 refine mi (σ:=Int×List Int) (fun F k x=>yl N m w F x.1 x.2 (k:Int)) w.length (fun k x=>x.1=aftL m s (w.take k)∧x.2=z1b m s (w.take k)) _ (fun F k x a hi=> .inr ?_) (fun F x hi=>?_) N 0 (s,[]) (Nat.zero_le _) (by omega) (by simp [aftL,z1b])
 ·obtain⟨t,X⟩:=x
  obtain⟨rfl,rfl⟩:=hi
  have b:=zft m d s (w.take k) f (zgs e k)
  refine⟨(aftL m s (w.take (k+1)),z1b m s (w.take (k+1))),⟨rfl,rfl⟩,?_⟩
  simp only [yl]
  have c:=z5a m s (w.take k)
  rw [List.length_take] at c
  rw [aj (by omega),zu (uf a)]
  refine Eq.trans (qa (zp8 d b (show 0≤w.getD k default∧w.getD k default<m.inputs from e k a))) ?_
  rw [zu ⟨by simp;omega,by simp;omega⟩,zu (je (by omega)),ze4 m s w k a,ze3 m s w k a];rfl
 ·obtain⟨t,X⟩:=x
  obtain⟨rfl,rfl⟩:=hi
  simp only [yl]
  rw [yn (by omega),List.take_length]
theorem zqt{N:Nat}{x:MDat}(b:MDOk x)(o:200≤N){s:Nat}(p:s<6):wh N x (s:Int) N [] 0=some (zdg x s):=by
 have q:=b.st;have r:=b.ins;have t:=b.outs
 have hinp:x.inp=1+x.ins%3:=rfl
 refine mi (fun F i acc=>wh N x (s:Int) F acc (i:Int)) x.inp.toNat (fun i acc=>acc=(List.range i).map (z9n x s)) _ (fun F i acc hi hacc=> .inr ?_) (fun F acc hacc=>?_) N 0 [] (Nat.zero_le _) (by omega) rfl
 ·subst hacc
  refine⟨_,rfl,?_⟩
  have g:=zl9 (k:=s) (a:=x.inp) (by omega) (by omega)
  have j:(s:Int)*((1:Int)+x.ins%3)+(i:Int)=((s*x.inp.toNat+i:Nat):Int):=by
   rw [←hinp,g.2.2];rfl
  have hnum:=b.num (s*x.inp.toNat+i)
  simp only [wh]
  rw [aj (by omega)]
  have l:(gd (in64 ((s:Int)*((1:Int)+(x.ins%3))))<|gd (in64 (((s:Int)*((1:Int)+(x.ins%3)))+(i:Int)))<|bif decide (((s:Int)*((1:Int)+(x.ins%3)))+(i:Int)<(x.edges.length:Int)) then(gd (okI x.edges (((s:Int)*((1:Int)+(x.ins%3)))+(i:Int)))<|gd (in64 (ix x.edges (((s:Int)*((1:Int)+(x.ins%3)))+(i:Int))))<|some (ix x.edges (((s:Int)*((1:Int)+(x.ins%3)))+(i:Int)))) else(some (0:Int)))=some (x.num (s*x.inp.toNat+i)):=by
   rw [zu (je (by rw [←hinp];omega)),j,zu (je (by omega))]
   unfold MDat.num
   by_cases hk:s*x.inp.toNat+i<x.edges.length
   ·have m:=b.ed _ hk
    rw [aj (by omega),if_pos hk,zu (uf hk),zu (show in64 (ix x.edges ((s*x.inp.toNat+i:Nat):Int)) from je (show-4611686018427387904≤x.edges.getD (s*x.inp.toNat+i) default∧x.edges.getD (s*x.inp.toNat+i) default≤4611686018427387904 by omega))];rfl
   ·rw [yn (by omega),if_neg hk]
  have hacc:((List.range i).map (z9n x s)).length=i:=by simp
  refine Eq.trans (qa (x:=(List.range (i+1)).map (z9n x s)) (Eq.trans (qa l) ?_)) ?_
  ·rw [zu (fun _=>⟨hnum.1,by omega⟩),zc7]
   by_cases hp:x.part=true∧x.num (s*x.inp.toNat+i)%4=3
   ·rw [ct (by rw [hp.1,decide_eq_true hp.2];rfl),zu ⟨by rw [hacc];simp;omega,by rw [hacc];simp;omega⟩,zor rfl hp]
   ·have c:x.n=1+x.states%6:=rfl
    have d:x.out=1+x.outs%3:=rfl
    have e:0≤x.num (s*x.inp.toNat+i)/4:=by omega
    have f:0≤x.num (s*x.inp.toNat+i)/4/x.n:=Int.ediv_nonneg e (by omega)
    rw [cf (by
     rw [Bool.and_eq_false_iff]
     by_cases h:x.part=true
     ·exact .inr (decide_eq_false fun h'=>hp ⟨h,h'⟩)
     ·exact .inl (by simpa using h)),←c,←d,zu ⟨by omega,by omega,by omega⟩,zu ⟨e,by omega⟩,zu ⟨by omega,by omega,by omega⟩,zu ⟨e,by omega,by omega⟩,zu ⟨f,by omega⟩,zu ⟨by rw [hacc];simp;omega,by rw [hacc];simp;omega⟩,zpu rfl (fun h h'=>hp ⟨h,h'⟩)]
  ·rw [zu (je (by omega))];rfl
 ·subst hacc
  simp only [wh]
  rw [yn (by omega)];rfl
theorem zrc{N:Nat}{x:MDat}(a:MDOk x)(b:200≤N):ny N x=some (mOf x):=by
 have d:=a.st;have e:=a.ins;have f:=a.outs
 have c:x.n=1+x.states%6:=rfl
 unfold ny
 rw [zu ⟨by omega,by omega⟩,zu (je (by omega)),zu (je (by omega)),zu ⟨by omega,by omega⟩,zu (je (by omega)),zu (je (by omega)),zu ⟨by omega,by omega⟩,zu (je (by omega)),zu (je (by omega))]
 refine Eq.trans (qa (x:=(List.range x.n.toNat).map (zdg x)) ?_) rfl
 refine mi (fun F s acc=>wz N x F (s:Int) acc) x.n.toNat (fun s acc=>acc=(List.range s).map (zdg x)) _ (fun F s acc g hacc=> .inr ?_) (fun F acc hacc=>?_) N 0 [] (Nat.zero_le _) (by omega) rfl
 ·subst hacc
  refine⟨_,rfl,?_⟩
  simp only [wz]
  rw [aj (by omega),qa (zqt a b (by omega)),zu ⟨by simp;omega,by simp;omega⟩,zu (je (by omega)),zc7];rfl
 ·subst hacc
  simp only [wz]
  rw [yn (by omega)]
theorem zr2{N:Nat}{x:WDat}(b:WDOk x){n:Int}(c:1≤n)(d:200≤N):mf N x n=some (wOf x n):=by
 unfold mf
 refine Eq.trans (qa (x:=wOf x n) ?_) rfl
 refine mi (fun F k acc=>vg N x n F acc (k:Int)) (min x.syms.length 12) (fun k acc=>acc=(x.syms.take k).map (· %n)) _ (fun F k acc e hacc=> .inr ?_) (fun F acc hacc=>?_) N 0 [] (Nat.zero_le _) (by omega) (by simp)
 ·subst hacc
  have hk':k<x.syms.length:=by omega
  have a:=b.sy k hk'
  refine⟨_,rfl,?_⟩
  simp only [vg]
  rw [ct (by simp;omega),zu (uf hk'),zu (show in64 (ix x.syms (k:Int)) from je (show-4611686018427387904≤x.syms.getD k default∧x.syms.getD k default≤4611686018427387904 by omega)),zu (show okR (ix x.syms (k:Int)) n from⟨a.1,by omega⟩),zu ⟨by simp;omega,by simp;omega⟩,zu (je (by omega)),zmv hk'];rfl
 ·subst hacc
  simp only [vg]
  rw [cf (by simp;omega),zph (by omega) (by omega) (by omega)]
theorem zr4{N:Nat}{m:Mach}{w:List Int}(a:MOk m)(b:z0y w m.inputs=0)(d:5000≤N):ry N m 0 w=some (z1b m 0 w,0):=by
 have h:=zg5 b
 have e:=a.r1
 have c:z5f m 0=0:=by
  unfold z5f
  rw [if_neg (by rw [(z9b m).2 a];decide),if_neg (by omega)]
 rw [zr9 a.small (by omega) (by omega) (by omega)]
 unfold zr5 zr1
 rw [if_neg (by rw [c];decide),if_neg (by rw [b];decide),if_neg (by rw [c];decide),b]
end GV
end Go.Proofs.YtkkcidhcfkmbjaaGreatDoor

namespace Go.Proofs.YtkkcidhcfkmbjaaGreatDoor
namespace GV
def zgp(b:UInt8):Bool:=(decide (97≤b.toNat)&&decide (b.toNat≤122))||(decide (65≤b.toNat)&&decide (b.toNat≤90))
def zfz(b:UInt8):Bool:=zgp b||(decide (48≤b.toNat)&&decide (b.toNat≤57))||decide (b.toNat=95)
theorem letter_eq(N:Nat)(b:UInt8):lv N (b.toNat:Int)=some (zgp b):=by
 have a:decide ((97:Int)≤(b.toNat:Int))=decide (97≤b.toNat):=decide_eq_decide.2 (by omega)
 have c:decide ((b.toNat:Int)≤122)=decide (b.toNat≤122):=decide_eq_decide.2 (by omega)
 have d:decide ((65:Int)≤(b.toNat:Int))=decide (65≤b.toNat):=decide_eq_decide.2 (by omega)
 have e:decide ((b.toNat:Int)≤90)=decide (b.toNat≤90):=decide_eq_decide.2 (by omega)
 unfold lv zgp
 rw [a,c,d,e]
theorem zdv(N:Nat)(b:UInt8):z0v N (b.toNat:Int)=some (zfz b):=by
 have a:decide ((48:Int)≤(b.toNat:Int))=decide (48≤b.toNat):=decide_eq_decide.2 (by omega)
 have c:decide ((b.toNat:Int)≤57)=decide (b.toNat≤57):=decide_eq_decide.2 (by omega)
 have d:decide ((b.toNat:Int)=95)=decide (b.toNat=95):=decide_eq_decide.2 (by omega)
 unfold z0v
 rw [qa (letter_eq N b)]
 unfold z3a zfz
 rw [a,c,d]
 cases zgp b<;>rfl
theorem zbt(s:List UInt8)(k:Nat):at8 s (k:Int)=((s.getD k default).toNat:Int):=rfl
theorem zqc(c:UInt8)(s:List UInt8):at8 (c::s) 0=(c.toNat:Int):=rfl
theorem zhi(p q:List UInt8):su (p++q) 0 (p.length:Int)=p:=by simp [su]
theorem z5x(p q:List UInt8):su (p++q) (p.length:Int) ((p++q).length:Int)=q:=by
 unfold su
 rw [Int.toNat_natCast,Int.toNat_natCast,List.take_length,List.drop_left]
theorem zej{p q:List UInt8}{k:Nat}(h:k<p.length):(p++q).getD k default=p.getD k default:=by
 rw [List.getD_eq_getElem?_getD,List.getD_eq_getElem?_getD,List.getElem?_append_left h]
theorem zdy{p:List UInt8}{k:Nat}(h:k<p.length):p.getD k default∈p:=by
 rw [List.getD_eq_getElem?_getD,List.getElem?_eq_getElem h];exact List.getElem_mem h
theorem zc9{p q:List UInt8}{c:UInt8}:(p++c::q).getD p.length default=c:=by
 rw [List.getD_eq_getElem?_getD,List.getElem?_append_right (Nat.le_refl _)];simp
theorem zfk{N:Nat}{w rest:List UInt8}(d: ∀ b∈w,zfz b=true)(e: ∀ b r,rest=b::r→zfz b=false)(f:w.length<N)(g:w.length≤1000000):z08 N (w++rest)=some w:=by
 have h:bn N (w++rest) N 0=some (w.length:Int):=by
  refine mi (σ:=Unit) (fun F k _=>bn N (w++rest) F (k:Int)) w.length (fun _ _=>True) _ (fun F k _ a _=> .inr ⟨(),trivial,?_⟩) (fun F _ _=>?_) N 0 () (Nat.zero_le _) (by omega) trivial
  ·simp only [bn]
   rw [aj (by simp;omega),zu (uf (by simp;omega)),zbt,zej a,qa (zdv N _),d _ (zdy a),cf (b:= !true) rfl,zu (je (by omega))]
   rfl
  ·simp only [bn]
   cases rest with
   |nil=>rw [yn (by simp)]
   |cons c r=>rw [aj (by simp;omega),zu (uf (by simp)),zbt,zc9,qa (zdv N _),e c r rfl,ct (b:= !false) rfl]
 unfold z08
 rw [qa h,zu ⟨by omega,by omega,by simp;omega⟩,zhi]
structure Nm (w:List UInt8):Prop where
 ne: ∃ c t,w=c::t∧zgp c=true
 wrd: ∀ b∈w,zfz b=true
 len:w.length≤16
def NoW(rest:List UInt8):Prop:= ∀ b r,rest=b::r→zfz b=false
theorem zd9{N:Nat}{w rest:List UInt8}(a:Nm w)(b:NoW rest)(f:20≤N):xu N (w++rest)=some ((⟨1,w,0,0⟩:Sa),0):=by
 obtain⟨c,t,rfl,d⟩:=a.ne
 have g:=a.len
 unfold xu
 rw [qa (zfk a.wrd b (by omega) (by omega)),aj (by simp)]
 have e:z2e N (c::t)=some (1,0):=by
  unfold z2e
  rw [zu ⟨by omega,by simp⟩,zqc,qa (letter_eq N c),d,ct rfl,aj (by omega)]
 rw [qa e]
theorem zgz{N:Nat}{c d:UInt8}{s q:List UInt8}(h:c≠d):strings_HasPrefix N (c::s) (d::q)=some false:=by
 unfold strings_HasPrefix vw
 have a:decide (su (c::s) 0 ((d::q).length:Int)=d::q)=false:=by
  refine decide_eq_false ?_
  simp [su,h]
 rw [zu (fun b=>⟨by omega,by omega,by simpa using b⟩),a,Bool.and_false,zfu]
theorem zp2{N:Nat}{c:UInt8}{s:List UInt8}(j:20≤N)(h:c≠45∧c≠60∧c≠62∧c≠33∧c≠58):yu N (c::s) N 0=some (Ex.go ()):=by
 obtain⟨a,b,d,e,f⟩:=h
 refine mi (σ:=Unit) (fun F k _=>yu N (c::s) F (k:Int)) 5 (fun _ _=>True) _ (fun F k _ g _=> .inr ⟨(),trivial,?_⟩) (fun F _ _=>?_) N 0 () (by omega) (by omega) trivial
 ·simp only [yu]
  have i:strings_HasPrefix N (c::s) (ix zal.1 (k:Int))=some false:=by
   match k,g with
   |0,_=>exact zgz a
   |1,_=>exact zgz b
   |2,_=>exact zgz d
   |3,_=>exact zgz e
   |4,_=>exact zgz f
  rw [aj (by omega),zu (uf (by show k<5;omega)),qa i,cf rfl,zu (je (by omega))]
  rfl
 ·simp only [yu]
  rw [yn (by omega)]
def Mk1(c:UInt8):Prop:=c=59∨c=44∨c=47
theorem zid{N:Nat}{c:UInt8}{rest:List UInt8}(a:Mk1 c)(g:20≤N):xu N ([c]++rest)=some ((⟨3,[c],0,0⟩:Sa),0):=by
 have h:zfz c=false:=by rcases a with rfl|rfl|rfl<;>decide
 have d:c≠45∧c≠60∧c≠62∧c≠33∧c≠58:=by rcases a with rfl|rfl|rfl<;>decide
 have hi:0≤idxB ([33,36,37,38,40,41,42,43,44,45,46,47,58,59,60,61,62,63,64,91,93,94,123,124,125,126]:List UInt8) (c.toNat:Int):=by
  rcases a with rfl|rfl|rfl<;>decide+kernel
 have i:z08 N (c::rest)=some []:=zfk (w:=[]) (fun b j=>by cases j) (fun b r e=>by cases e;exact h) (by simp;omega) (by simp)
 unfold xu
 rw [show [c]++rest=c::rest from rfl,qa i,yn (by simp)]
 have k:z03 N (c::rest)=some [c]:=by
  unfold z03
  rw [qa (zp2 g d),zku,zu (fun _=>⟨by omega,by simp⟩),zqc]
  have f:strings_IndexByte N ([33,36,37,38,40,41,42,43,44,45,46,47,58,59,60,61,62,63,64,91,93,94,123,124,125,126]:List UInt8) (c.toNat:Int)=some (idxB _ (c.toNat:Int)):=rfl
  rw [f,zk9 (by simp),Option.map_some,zfu,ct (by simpa using hi),zu ⟨by omega,by omega,by simp;omega⟩]
  rfl
 rw [qa k,yn (by simp)]
theorem zgq{N:Nat}{rest:List UInt8}(j:20≤N):xu N ([45,62]++rest)=some ((⟨3,[45,62],0,0⟩:Sa),0):=by
 have a:z08 N (45::62::rest)=some []:=zfk (w:=[]) (fun b c=>by cases c) (fun b r e=>by cases e;decide) (by simp;omega) (by simp)
 unfold xu
 rw [show [45,62]++rest=45::62::rest from rfl,qa a,yn (by simp)]
 have d:strings_HasPrefix N (45::62::rest) (ix zal.1 0)=some true:=by
  show strings_HasPrefix N (45::62::rest) [45,62]=some true
  unfold strings_HasPrefix vw
  have f:decide (su (45::62::rest) 0 (([45,62]:List UInt8).length:Int)=[45,62])=true:=decide_eq_true (by simp [su])
  rw [zu (fun g=>⟨by omega,by omega,by simpa using g⟩),f,Bool.and_true,zfu]
  simp
  omega
 have h:z03 N (45::62::rest)=some [45,62]:=by
  unfold z03
  have i:yu N (45::62::rest) N 0=some (Ex.rt [45,62]):=by
   obtain⟨M,rfl⟩: ∃ M,N=M+1:=⟨N-1,by omega⟩
   simp only [yu]
   rw [aj (by omega),zu ⟨by omega,by decide⟩,qa d,ct rfl]
   rfl
  rw [qa i,zsh]
 rw [qa h,yn (by simp)]
def Bl(g:List UInt8):Prop:= ∀ b∈g,b=32∨b=10
def NoB(rest:List UInt8):Prop:= ∀ b r,rest=b::r→b≠32∧b≠9∧b≠13∧b≠10∧b≠35
theorem zhh(c:Int):(bif decide (c=32) then some (decide (c=32)) else bif decide (c=9) then some (decide (c=9)) else bif decide (c=13) then some (decide (c=13)) else some (decide (c=10)))=some (decide (c=32∨c=9∨c=13∨c=10)):=by
 by_cases h1:c=32
 ·subst h1;rfl
 ·rw [yn h1]
  by_cases h2:c=9
  ·subst h2;rfl
  ·rw [yn h2]
   by_cases h3:c=13
   ·subst h3;rfl
   ·rw [yn h3]
    simp [h1,h2,h3]
theorem zo1{N:Nat}{g rest:List UInt8}(d:Bl g)(f:NoB rest)(q:g.length<N)(s:g.length≤1000000):z3j N (g++rest)=some (g.length:Int):=by
 have h:gy N (g++rest) N 0=some (if rest=[] then Ex.go (g.length:Int) else Ex.rt (g.length:Int)):=by
  refine mi (σ:=Unit) (fun F k _=>gy N (g++rest) F (k:Int)) g.length (fun _ _=>True) _ (fun F k _ b _=> .inr ⟨(),trivial,?_⟩) (fun F _ _=>?_) N 0 () (Nat.zero_le _) (by omega) trivial
  ·simp only [gy]
   have i:=d _ (zdy b)
   rw [aj (by simp;omega),zu (uf (by simp;omega)),zbt,zej b,qa (zhh _),ct (by rcases i with e|e<;>rw [e]<;>rfl),zu (je (by omega))]
   rfl
  ·simp only [gy]
   cases rest with
   |nil=>rw [yn (by simp),if_pos rfl]
   |cons c r=>
    obtain⟨j,l,m,o,p⟩:=f c r rfl
    have a: ∀ n:UInt8,c≠n→(c.toNat:Int)≠(n.toNat:Int):=fun n h e=>h (UInt8.toNat_inj.1 (Int.ofNat.inj e))
    rw [aj (by simp;omega),zu (uf (by simp)),zbt,zc9,qa (zhh _),cf (decide_eq_false fun e=>by
     rcases e with e|e|e|e
     ·exact a 32 j e
     ·exact a 9 l e
     ·exact a 13 m e
     ·exact a 10 o e),yn (show¬((c.toNat:Int)=35) from fun e=>a 35 p e),if_neg (by simp)]
 unfold z3j
 rw [qa h]
 split<;>rfl
theorem lastB{N:Nat}{s:List UInt8}{c:Int}(f:s.length≤1000000): ∀ (F:Nat) (k:Int),-1≤k→k<s.length→(k+1).toNat<F→ ∃ r,jc N s c F k=some r∧(r=Ex.go ()∨ ∃ j,r=Ex.rt j∧0≤j∧j≤k)
 |0,k,_,_,h=>by omega
 |F+1,k,l,g,m=>by
  simp only [jc]
  by_cases h:0≤k
  ·rw [aj h,zu ⟨h,g⟩]
   by_cases hc:at8 s k=c
   ·rw [aj hc];exact⟨_,rfl,.inr ⟨k,rfl,h,Int.le_refl _⟩⟩
   ·rw [yn hc,zu (je (by omega))]
    obtain⟨r,e,i⟩:=lastB f F (k-1) (by omega) (by omega) (by omega)
    refine⟨r,e,i.imp id fun⟨j,a,b,d⟩=>⟨j,a,b,by omega⟩⟩
  ·rw [yn h];exact⟨_,rfl,.inl rfl⟩
theorem zfl{N:Nat}{t:List UInt8}{p0 p1:Int}(v:t.length+2≤N)(d:t.length≤1000000)(w:0≤p0∧p0≤1000000)(x:1≤p1∧p1≤1000000):
 ∃ q,z19 N t p0 p1=some q∧0≤q.1∧q.1≤p0+t.length∧1≤q.2∧q.2≤p1+t.length:=by
 unfold z19
 have e:strings_Count N t ([10]:List UInt8)=some (cntB t (at8 [10] 0)):=by
  unfold strings_Count
  rw [yn (by simp),aj (by simp),zu ⟨by omega,by simp⟩]
 have f:0≤cntB t (at8 [10] 0)∧cntB t (at8 [10] 0)≤t.length:=by
  unfold cntB Lib.countByte
  have:=List.count_le_length (a:=(at8 [10] 0).toNat.toUInt8) (l:=t)
  omega
 rw [qa e,zu (je (by omega))]
 obtain⟨r,g,hr'⟩:=lastB (N:=N) (c:=10) d N ((t.length:Int)-1) (by omega) (by omega) (by omega)
 have i: ∃ y,strings_LastIndexByte N t 10=some y∧ -1≤y∧y<t.length:=by
  unfold strings_LastIndexByte vo
  rw [zu (je (by omega)),qa g]
  rcases hr' with rfl|⟨j,rfl,z,A⟩
  ·exact⟨-1,rfl,by omega,by omega⟩
  ·exact⟨j,rfl,by omega,by omega⟩
 obtain⟨y,k,m,n⟩:=i
 have key: ∃ o:List UInt8×Int,(bd (strings_LastIndexByte N t 10) fun b=>bif decide (0≤b) then gd (in64 (b+1))<|gd (okS t (b+1) (t.length:Int))<|some ((su t (b+1) (t.length:Int)),1) else some (t,p1))=some o∧1≤o.2+o.1.length∧o.2+o.1.length≤p1+t.length:=by
  rw [qa k]
  by_cases h:0≤y
  ·rw [aj h,zu (je (by omega)),zu ⟨by omega,by omega,by omega⟩]
   refine⟨_,rfl,by simp only;omega,?_⟩
   simp only [su,List.length_drop,List.length_take]
   omega
  ·rw [yn h];exact⟨_,rfl,by simp only;omega,by simp only;omega⟩
 obtain⟨o,p,s,u⟩:=key
 rw [qa p,zu (je (by omega))]
 exact⟨_,rfl,by simp only;omega,by simp only;omega,by simp only;omega,by simp only;omega⟩
inductive Lex:List UInt8→List (Int×List UInt8)→Prop
 |nil (g:List UInt8) (hg:Bl g):Lex g []
 |nm (g t rest:List UInt8) (toks:List (Int×List UInt8)) (hg:Bl g) (ht:Nm t) (hr:NoW rest) (h:Lex rest toks):Lex (g++(t++rest)) ((1,t)::toks)
 |mk (g:List UInt8) (c:UInt8) (rest:List UInt8) (toks:List (Int×List UInt8)) (hg:Bl g) (hc:Mk1 c) (h:Lex rest toks):Lex (g++([c]++rest)) ((3,[c])::toks)
 |ar (g rest:List UInt8) (toks:List (Int×List UInt8)) (hg:Bl g) (h:Lex rest toks):Lex (g++([45,62]++rest)) ((3,[45,62])::toks)
def kt(t:Sa):Int×List UInt8:=(t.fI,t.fH)
theorem zp3{c:UInt8}(h:zgp c=true):c≠32∧c≠9∧c≠13∧c≠10∧c≠35:=by
 refine⟨?_,?_,?_,?_,?_⟩<;>(rintro rfl;revert h;decide)
theorem zp4{N:Nat}{s pre g t rest:List UInt8}{k:Int}{acc:List Sa}{p0 p1:Int}{F:Nat}(c:s=pre++(g++(t++rest)))(x:s.length≤65536)(y:65540≤N)(f:Bl g)(h:t≠[])(i:NoB (t++rest))
 (j:xu N (t++rest)=some ((⟨k,t,0,0⟩:Sa),0)) (z:acc.length≤pre.length) (A:0≤p0∧p0≤1+pre.length) (B:1≤p1∧p1≤1+pre.length):
 ∃ a b e d:Int,0≤e∧e≤1+(pre++(g++t)).length∧1≤d∧d≤1+(pre++(g++t)).length∧
  xq N s (F+1) acc (pre.length:Int) p0 p1=xq N s F (acc++[⟨k,t,a,b⟩]) ((pre++(g++t)).length:Int) e d:=by
 have hlen:s.length=pre.length+(g.length+(t.length+rest.length)):=by rw [c];simp
 have hpos:=List.length_pos_iff.2 h
 have l:su s (pre.length:Int) (s.length:Int)=g++(t++rest):=by rw [c];exact z5x _ _
 have m:su s (pre.length:Int) ((pre.length:Int)+(g.length:Int))=g:=by
  rw [c];simp only [su]
  rw [show ((pre.length:Int)+(g.length:Int)).toNat=(pre++g).length from by simp;omega,←List.append_assoc,List.take_left,Int.toNat_natCast,List.drop_left]
 have n:su s ((pre.length:Int)+(g.length:Int)) (s.length:Int)=t++rest:=by
  have:=z5x (pre++g) (t++rest)
  rw [List.append_assoc,←c] at this
  rw [←this]
  congr 1
  simp
 obtain⟨q,o,d,C,D,E⟩:=zfl (N:=N) (t:=g) (p0:=p0) (p1:=p1) (by omega) (by omega) (by omega) (by omega)
 obtain⟨u,p,r,G,v,H⟩:=zfl (N:=N) (t:=t) (p0:=q.1) (p1:=q.2) (by omega) (by omega) (by omega) (by omega)
 refine⟨q.1,q.2,u.1,u.2,r,by simp;omega,v,by simp;omega,?_⟩
 simp only [xq]
 rw [zu ⟨by omega,by omega,by omega⟩,l,qa (zo1 f i (by omega) (by omega)),zu (je (by omega)),zu ⟨by omega,by omega,by omega⟩,m,qa o,zu (je (by omega)),yn (by omega),
  zu ⟨by omega,by omega,by omega⟩,n,qa j,yn (by simp),zu ⟨by simp;omega,by simp;omega⟩,qa p,zu (je (by simp only;omega))]
 have w:(pre.length:Int)+(g.length:Int)+(t.length:Int)=((pre++(g++t)).length:Int):=by simp;omega
 simp only [w]
theorem zou{N:Nat}(x:65540≤N){suf:List UInt8}{toks:List (Int×List UInt8)}(y:Lex suf toks): ∀ (s pre:List UInt8) (acc:List Sa) (p0 p1:Int) (F:Nat),s=pre++suf→s.length≤65536→acc.length≤pre.length→
 (0≤p0∧p0≤1+pre.length)→(1≤p1∧p1≤1+pre.length)→toks.length<F→ ∃ L,xq N s F acc (pre.length:Int) p0 p1=some (acc++L,0,0,0)∧L.map kt=toks:=by
 have fin: ∀ {g t rest:List UInt8} {k:Int} {toks:List (Int×List UInt8)} (d:Bl g) (f:t≠[]) (n:NoB (t++rest)) (o:xu N (t++rest)=some ((⟨k,t,0,0⟩:Sa),0))
  (ih: ∀ (s pre:List UInt8) (acc:List Sa) (p0 p1:Int) (F:Nat),s=pre++rest→s.length≤65536→acc.length≤pre.length→(0≤p0∧p0≤1+pre.length)→(1≤p1∧p1≤1+pre.length)→toks.length<F→ ∃ L,xq N s F acc (pre.length:Int) p0 p1=some (acc++L,0,0,0)∧L.map kt=toks)
  (s pre:List UInt8) (acc:List Sa) (p0 p1:Int) (F:Nat),s=pre++(g++(t++rest))→s.length≤65536→acc.length≤pre.length→(0≤p0∧p0≤1+pre.length)→(1≤p1∧p1≤1+pre.length)→((k,t)::toks).length<F→
  ∃ L,xq N s F acc (pre.length:Int) p0 p1=some (acc++L,0,0,0)∧L.map kt=(k,t)::toks:=by
  intro g t rest k toks d f n o ih s pre acc p0 p1 F i m p u v j
  rcases F with _|F
  ·simp at j
  obtain⟨a,b,z,w,A,B,C,D,E⟩:=zp4 (F:=F) i m x d f n o p u v
  have hpos:=List.length_pos_iff.2 f
  obtain⟨L,G,H⟩:=ih s (pre++(g++t)) (acc++[⟨k,t,a,b⟩]) z w F (by rw [i];simp) m (by simp;omega) ⟨A,B⟩ ⟨C,D⟩ (by simp at j;omega)
  exact⟨⟨k,t,a,b⟩::L,by rw [E,G];simp,by rw [List.map_cons,H];rfl⟩
 induction y with
 |nil g d=>
  intro s pre acc p0 p1 F i m p u v j
  rcases F with _|F
  ·simp at j
  have hlen:s.length=pre.length+g.length:=by rw [i];simp
  have I:su s (pre.length:Int) (s.length:Int)=g++[]:=by rw [i,List.append_nil];exact z5x _ _
  have J:su s (pre.length:Int) ((pre.length:Int)+(g.length:Int))=g:=by
   rw [i,←Int.natCast_add,←List.length_append];exact z5x _ _
  obtain⟨q,K,w,O,P,Q⟩:=zfl (N:=N) (t:=g) (p0:=p0) (p1:=p1) (by omega) (by omega) (by omega) (by omega)
  refine⟨[],?_,rfl⟩
  simp only [xq]
  rw [zu ⟨by omega,by omega,by omega⟩,I,qa (zo1 d (fun b r e=>by cases e) (by omega) (by omega)),zu (je (by omega)),zu ⟨by omega,by omega,by omega⟩,J,qa K,zu (je (by omega)),aj (by omega)]
  unfold nk
  rw [zu (zkd _),zf8,zfu,List.append_nil]
 |nm g t rest toks d f M h ih=>
  obtain⟨c,t',rfl,l⟩:=f.ne
  exact fin d (by simp) (fun b r e=>by cases e;exact zp3 l) (zd9 f M (by omega)) ih
 |mk g c rest toks d l h ih=>exact fin d (by simp) (fun b r e=>by cases e;rcases l with rfl|rfl|rfl<;>decide) (zid l (by omega)) ih
 |ar g rest toks d h ih=>exact fin d (by simp) (fun b r e=>by cases e;decide) (zgq (by omega)) ih
theorem Lex.len{s:List UInt8}{toks:List (Int×List UInt8)}(h:Lex s toks):toks.length≤s.length:=by
 induction h with
 |nil g a=>simp
 |nm g t rest toks a b d h ih=>obtain⟨c,t',rfl,_⟩:=b.ne;simp;omega
 |mk g c rest toks a e h ih=>simp;omega
 |ar g rest toks a h ih=>simp;omega
theorem zqo{N:Nat}{s:List UInt8}{toks:List (Int×List UInt8)}(a:Lex s toks)(b:s.length≤65536)(c:65540≤N): ∃ L,z4l N s=some (L,0,0,0)∧L.map kt=toks:=by
 have:=a.len
 obtain⟨L,h,d⟩:=zou c a s [] [] 1 1 N rfl b (by simp) (by simp) (by simp) (by omega)
 refine⟨L,?_,d⟩
 unfold z4l
 rw [yn (by omega)]
 exact h
end GV
end Go.Proofs.YtkkcidhcfkmbjaaGreatDoor
