
import Derived.Test.YtkkcidhcfkmbjaaGreatDoorShPlain
import Derived.Test.YtkkcidhcfkmbjaaGreatDoorShPl
import Derived.Test.YtkkcidhcfkmbjaaGreatDoorShMap
set_option linter.unusedVariables false
set_option linter.unusedSimpArgs false
set_option linter.unusedSectionVars false
namespace Go.Proofs.YtkkcidhcfkmbjaaGreatDoor
namespace GV
def eOk(m:Mach)(e:Edge):Prop:=(e.to= -1∧e.out= -1)∨(0≤e.to∧e.to<m.rows.length∧0≤e.out∧e.out<m.outputs)
structure MOk (m:Mach):Prop where
 i1:1≤m.inputs
 i2:m.inputs≤16
 o1:1≤m.outputs
 o2:m.outputs≤16
 r1:1≤m.rows.length
 r2:m.rows.length≤64
 row: ∀ s,s<m.rows.length→((m.rows.getD s default).length:Int)=m.inputs
 edge: ∀ s i,s<m.rows.length→i<(m.rows.getD s default).length→eOk m ((m.rows.getD s default).getD i default)
def vk(m:Mach)(s i:Int):Edge:=if s<0 then⟨-1,-1⟩ else(m.rows.getD s.toNat default).getD i.toNat default
def z0f(m:Mach):Int→List Int→List Int
 |_,[]=>[]
 |s,i::w=>(vk m s i).out::z0f m (vk m s i).to w
def aftL(m:Mach):Int→List Int→Int
 |s,[]=>s
 |s,i::w=>aftL m (vk m s i).to w
def WOk(n:Int)(w:List Int):Prop:= ∀ k,k<w.length→0≤w.getD k default∧w.getD k default<n
def SOk(m:Mach)(s:Int):Prop:=s= -1∨(0≤s∧s<m.rows.length)
theorem z2v(m:Mach): ∀ (s:Int) (u v:List Int),aftL m s (u++v)=aftL m (aftL m s u) v
 |s,[],v=>rfl
 |s,i::u,v=>z2v m _ u v
theorem r9(m:Mach): ∀ (s:Int) (u v:List Int),z0f m s (u++v)=z0f m s u++z0f m (aftL m s u) v
 |s,[],v=>rfl
 |s,i::u,v=>by
  show _::z0f m _ (u++v)=_::(z0f m _ u++_)
  rw [r9 m _ u v];rfl
theorem z00(m:Mach): ∀ (s:Int) (w:List Int),(z0f m s w).length=w.length
 |s,[]=>rfl
 |s,i::w=>by simp [z0f,z00 m _ w]
theorem zqi(w:List Int)(k:Nat)(h:k<w.length):w.take (k+1)=w.take k++[w.getD k default]:=by
 rw [List.take_succ_eq_append_getElem h];simp [List.getD_eq_getElem?_getD,h]
theorem zcv(m:Mach)(a:MOk m)(s i:Int)(b:SOk m s)(hi:0≤i∧i<m.inputs):SOk m (vk m s i).to∧ -1≤(vk m s i).out∧(vk m s i).out≤16:=by
 unfold vk
 split
 ·exact⟨.inl rfl,by simp,by simp⟩
 ·have hs':0≤s∧s<m.rows.length:=by rcases b with h|h<;>omega
  have c:=a.row s.toNat (by omega)
  have d:=a.o2
  rcases a.edge s.toNat i.toNat (by omega) (by omega) with h|h
  ·exact⟨.inl h.1,by omega,by omega⟩
  ·exact⟨.inr ⟨h.1,h.2.1⟩,by omega,by omega⟩
theorem z3d(m:Mach)(b:MOk m): ∀ (s:Int) (w:List Int),SOk m s→WOk m.inputs w→SOk m (aftL m s w)
 |s,[],a,_=>a
 |s,i::w,a,c=>z3d m b _ w (zcv m b s i a (by simpa using c 0 (by simp))).1 (fun k d=>by simpa using c (k+1) (by simpa using d))
def zd4(m:Mach)(x:Edge):Bool:=decide (x.to= -1∧x.out= -1)||(((decide (0≤x.to)&&decide (x.to<m.rows.length))&&decide (0≤x.out))&&decide (x.out<m.outputs))
theorem zdd(m:Mach)(x:Edge):zd4 m x=true↔eOk m x:=by
 simp [zd4,eOk];omega
theorem z7v{α:Type}[Inhabited α](p:α→Bool)(X:List α)(k:Nat)(h:k<X.length):(X.take (k+1)).any p=((X.take k).any p||p (X.getD k default)):=by
 rw [List.take_succ_eq_append_getElem h,List.any_append]
 simp [List.getD_eq_getElem?_getD,h]
def zh3{α:Type}(p:α→Bool)(X:List α):Int:=match X.findIdx? p with|some i=>i|none=> -1
theorem zpm{α:Type}(p:α→Bool)(X:List α):decide (0≤zh3 p X)=X.any p:=by
 unfold zh3
 cases h:X.findIdx? p with
 |none=>
  have:=List.findIdx?_eq_none_iff.1 h
  simp only [Bool.eq_false_iff] at*
  rw [show decide ((0:Int)≤ -1)=false from rfl]
  symm
  rw [List.any_eq_false]
  intro x a
  simp [this x a]
 |some i=>
  obtain⟨hi,b,_⟩:=List.findIdx?_eq_some_iff_getElem.1 h
  rw [show decide ((0:Int)≤(i:Int))=true from by simp]
  symm
  rw [List.any_eq_true]
  exact⟨_,List.getElem_mem hi,b⟩
theorem zfp{α:Type}[Inhabited α](p:α→Bool)(X:List α)(k:Nat)(h:k<X.length)(a:(X.take k).any p=false)(b:p (X.getD k default)=true):zh3 p X=k:=by
 have:X.findIdx? p=some k:=by
  rw [List.findIdx?_eq_some_iff_getElem]
  refine⟨h,by simpa [List.getD_eq_getElem?_getD,h] using b,fun j c=>?_⟩
  rw [List.any_eq_false] at a
  have:=a X[j] (by rw [List.mem_take_iff_getElem];exact⟨j,by omega,rfl⟩)
  simpa using this
 simp [zh3,this]
theorem zqt{α:Type}(p:α→Bool)(X:List α)(a:X.any p=false):zh3 p X= -1:=by
 have:X.findIdx? p=none:=by
  rw [List.findIdx?_eq_none_iff]
  rw [List.any_eq_false] at a
  intro x b
  simpa using a x b
 simp [zh3,this]
def eqB{α:Type}(p:α→α→Bool):List α→List α→Bool
 | [],[]=>true
 |x::xs,y::ys=>p x y&&eqB p xs ys
 |_,_=>false
def rz(m:Mach)(r:List Edge):Bool:=decide ((r.length:Int)≠m.inputs)||r.any fun x=> !zd4 m x
def z1j(m:Mach):Int:=if(16<m.inputs∨16<m.outputs)∨64<m.rows.length then 3 else if(m.inputs<1∨m.outputs<1)∨m.rows.length<1 then 1 else if m.rows.any (rz m)=true then 1 else 0
structure Small (m:Mach):Prop where
 r:m.rows.length≤100
 c: ∀ k,k<m.rows.length→(m.rows.getD k default).length≤100
theorem zlw{m:Mach}(h:(16<m.inputs∨16<m.outputs)∨64<m.rows.length):z1j m=3:=by unfold z1j;rw [if_pos h]
theorem zmd{m:Mach}(h: ¬((16<m.inputs∨16<m.outputs)∨64<m.rows.length))(a:(m.inputs<1∨m.outputs<1)∨m.rows.length<1):z1j m=1:=by unfold z1j;rw [if_neg h,if_pos a]
theorem zky{m:Mach}(h: ¬((16<m.inputs∨16<m.outputs)∨64<m.rows.length))(a: ¬((m.inputs<1∨m.outputs<1)∨m.rows.length<1))(b:m.rows.any (rz m)=false):z1j m=0:=by
 unfold z1j;rw [if_neg h,if_neg a,if_neg (by rw [b];decide)]
theorem zfh{α:Type}[Inhabited α](p:α→Bool)(X:List α):X.any p=false↔ ∀ k,k<X.length→p (X.getD k default)=false:=by
 rw [List.any_eq_false]
 refine⟨fun h k a=>by simpa using h _ (z0i a),fun h x b=>?_⟩
 obtain⟨k,a,rfl⟩:=List.getElem_of_mem b
 have:=h k a
 simp only [List.getD_eq_getElem?_getD,List.getElem?_eq_getElem a,Option.getD_some] at this
 simp [this]
theorem z8t(m:Mach)(r:List Edge):rz m r=false↔(r.length:Int)=m.inputs∧ ∀ i,i<r.length→eOk m (r.getD i default):=by
 unfold rz
 rw [Bool.or_eq_false_iff,zfh]
 refine and_congr (by simp) (forall_congr' fun i=>forall_congr' fun hi=>?_)
 rw [←zdd];simp
theorem zb1(m:Mach):z1j m=0↔MOk m:=by
 unfold z1j
 by_cases h:(16<m.inputs∨16<m.outputs)∨64<m.rows.length
 ·rw [if_pos h];exact⟨fun h=>absurd h (by decide),fun a=>by have:=a.i2;have:=a.o2;have:=a.r2;omega⟩
 rw [if_neg h]
 by_cases h1:(m.inputs<1∨m.outputs<1)∨m.rows.length<1
 ·rw [if_pos h1];exact⟨fun h=>absurd h (by decide),fun a=>by have:=a.i1;have:=a.o1;have:=a.r1;omega⟩
 rw [if_neg h1]
 cases hr:m.rows.any (rz m)
 ·rw [if_neg (by decide)]
  have:=(zfh _ _).1 hr
  exact⟨fun _=>⟨by omega,by omega,by omega,by omega,by omega,by omega,fun s b=>((z8t m _).1 (this s b)).1,fun s i b hi=>((z8t m _).1 (this s b)).2 i hi⟩,fun _=>rfl⟩
 ·rw [if_pos rfl]
  refine⟨fun h=>absurd h (by decide),fun a=>?_⟩
  have:m.rows.any (rz m)=false:=(zfh _ _).2 fun k c=>(z8t m _).2 ⟨a.row k c,fun i hi=>a.edge k i c hi⟩
  rw [hr] at this;cases this
theorem MOk.small{m:Mach}(a:MOk m):Small m:=⟨by have:=a.r2;omega,fun k b=>by have:=a.row k b;have:=a.i2;omega⟩
theorem zdy{α:Type}[Inhabited α](X:List α)(k:Nat)(h:k<X.length):X.drop k=X.getD k default::X.drop (k+1):=by
 rw [List.drop_eq_getElem_cons h];simp [List.getD_eq_getElem?_getD,h]
theorem z15{α:Type}[Inhabited α]{X Y:List α}(b:X.length=Y.length)(h: ∀ k,k<X.length→X.getD k default=Y.getD k default):X=Y:=by
 refine List.ext_getElem b fun k a c=>?_
 have:=h k a
 simpa only [List.getD_eq_getElem?_getD,List.getElem?_eq_getElem a,List.getElem?_eq_getElem c,Option.getD_some] using this
theorem zj2{a b:Mach}:a=b↔a.inputs=b.inputs∧a.outputs=b.outputs∧a.rows=b.rows:=by
 cases a;cases b;simp
theorem MOk.mul{m:Mach}(a:MOk m):m.rows.length*m.inputs.toNat≤1024∧(m.rows.length:Int)*m.inputs=((m.rows.length*m.inputs.toNat:Nat):Int):=by
 have b:=a.r2;have c:=a.i1;have d:=a.i2
 refine⟨Nat.le_trans (Nat.mul_le_mul b (show m.inputs.toNat≤16 by omega)) (by decide),?_⟩
 rw [Int.natCast_mul,Int.toNat_of_nonneg (by omega)]
inductive Reach (m:Mach) (s:Nat):Nat→Prop
 |refl:Reach m s s
 |step {t i:Nat}:Reach m s t→t<m.rows.length→i<(m.rows.getD t default).length→0≤((m.rows.getD t default).getD i default).to→Reach m s ((m.rows.getD t default).getD i default).to.toNat
theorem Reach.trans{m:Mach}{a b c:Nat}(h:Reach m a b)(k:Reach m b c):Reach m a c:=by
 induction k with
 |refl=>exact h
 |step _ e hi d ih=>exact .step ih e hi d
theorem Reach.lt{m:Mach}(c:MOk m){a b:Nat}(h:Reach m a b)(d:a<m.rows.length):b<m.rows.length:=by
 cases h with
 |refl=>exact d
 |step g e f i=>rcases c.edge _ _ e f with h|h<;>omega
def Closed(m:Mach)(Y:List Bool)(t:Nat):Prop:= ∀ i,i<(m.rows.getD t default).length→0≤((m.rows.getD t default).getD i default).to→Y.getD ((m.rows.getD t default).getD i default).to.toNat default=true
structure Vis (m:Mach) (X:List Bool) (s:Int) (Y:List Bool):Prop where
 len:Y.length=X.length
 cnt:Y.count false≤X.count false
 mono: ∀ t,X.getD t default=true→Y.getD t default=true
 here:0≤s→Y.getD s.toNat default=true
 reach: ∀ t,Y.getD t default=true→X.getD t default=true∨(0≤s∧Reach m s.toNat t)
 closed: ∀ t,t<m.rows.length→Y.getD t default=true→X.getD t default=true∨Closed m Y t
structure VisK (m:Mach) (X:List Bool) (s:Nat) (k:Nat) (Y:List Bool):Prop where
 len:Y.length=X.length
 cnt:Y.count false<X.count false
 mono: ∀ t,X.getD t default=true→Y.getD t default=true
 here:Y.getD s default=true
 reach: ∀ t,Y.getD t default=true→X.getD t default=true∨Reach m s t
 closed: ∀ t,t<m.rows.length→Y.getD t default=true→X.getD t default=true∨t=s∨Closed m Y t
 done: ∀ i,i<k→0≤((m.rows.getD s default).getD i default).to→Y.getD ((m.rows.getD s default).getD i default).to.toNat default=true
theorem zty{x y:Edge}(h:x.to=y.to∧x.out=y.out):x=y:=by cases x;cases y;simp at h;simp [h]
theorem zgo{P:Nat→Prop}{k:Nat}(h: ∀ j,j<k→P j)(a:P k): ∀ j,j<k+1→P j:=fun j b=>by
 rcases Nat.lt_succ_iff_lt_or_eq.1 b with c|rfl
 ·exact h j c
 ·exact a
def zeg(a b:Mach):Bool:=(((decide (z1j a=0)&&decide (z1j b=0))&&decide (a.inputs=b.inputs))&&decide (a.outputs=b.outputs))&&decide (a.rows=b.rows)
theorem zdt(a b:Mach):zeg a b=true↔MOk a∧a=b:=by
 unfold zeg
 simp only [Bool.and_eq_true,decide_eq_true_eq,zb1]
 rw [zj2]
 refine⟨fun⟨⟨⟨⟨f,g⟩,c⟩,d⟩,e⟩=>⟨f,c,d,e⟩,fun⟨f,c,d,e⟩=>⟨⟨⟨⟨f,?_⟩,c⟩,d⟩,e⟩⟩
 rwa [←(zj2.2 ⟨c,d,e⟩:a=b)]
theorem Small.mem{m:Mach}(h:Small m){r:List Edge}(b:r∈m.rows):r.length≤100:=by
 obtain⟨k,a,rfl⟩:=List.getElem_of_mem b
 have:=h.c k a
 simpa [List.getD_eq_getElem?_getD,a] using this
theorem zrv{m:Mach}{x:Edge}(h:(x.to= -1∧x.out= -1)∨(0≤x.to∧x.to<m.rows.length∧0≤x.out∧x.out<m.outputs)):(!zd4 m x)=false:=by rw [(zdd m x).2 h];rfl
theorem zyi{m:Mach}{x:Edge}(h: ¬((x.to= -1∧x.out= -1)∨(0≤x.to∧x.to<m.rows.length∧0≤x.out∧x.out<m.outputs))):(!zd4 m x)=true:=by
 cases hf:zd4 m x
 ·rfl
 ·exact absurd ((zdd m x).1 hf) h
def zzb(m:Mach)(Y:List Bool):Prop:= ∀ t,t<m.rows.length→Y.getD t default=true→Closed m Y t
structure RInv (m:Mach) (a:Nat) (r:Nat) (Y:List Bool):Prop where
 len:Y.length=m.rows.length
 sound: ∀ t,Y.getD t default=true→Reach m a t
 start:Y.getD a default=true
 prog:zzb m Y∨r<Y.count true
structure RPass (m:Mach) (a:Nat) (Y0:List Bool) (s i:Nat) (Y:List Bool):Prop where
 len:Y.length=m.rows.length
 sound: ∀ t,Y.getD t default=true→Reach m a t
 start:Y.getD a default=true
 fix:zzb m Y0→Y=Y0
 prog:Y0.count true<Y.count true∨(Y=Y0∧ ∀ t,t<m.rows.length→Y.getD t default=true→ ∀ j,(t<s∨(t=s∧j<i))→j<(m.rows.getD t default).length→0≤((m.rows.getD t default).getD j default).to→Y.getD ((m.rows.getD t default).getD j default).to.toNat default=true)
def MDat.n(x:MDat):Int:=1+x.states%6
def MDat.inp(x:MDat):Int:=1+x.ins%3
def MDat.out(x:MDat):Int:=1+x.outs%3
def MDat.num(x:MDat)(k:Nat):Int:=if k<x.edges.length then x.edges.getD k default else 0
def zld(x:MDat)(v:Int):Edge:=if x.part=true∧v%4=3 then⟨-1,-1⟩ else⟨v/4%x.n,v/4/x.n%x.out⟩
def zce(x:MDat)(s i:Nat):Edge:=zld x (x.num (s*x.inp.toNat+i))
def zjf(x:MDat)(s:Nat):List Edge:=(List.range x.inp.toNat).map (zce x s)
def mOf(x:MDat):Mach:=⟨x.inp,x.out,(List.range x.n.toNat).map (zjf x)⟩
structure MDOk (x:MDat):Prop where
 st:0≤x.states∧x.states≤255
 ins:0≤x.ins∧x.ins≤255
 outs:0≤x.outs∧x.outs≤255
 ed: ∀ k,k<x.edges.length→0≤x.edges.getD k default∧x.edges.getD k default≤65535
theorem MDOk.num{x:MDat}(h:MDOk x)(k:Nat):0≤x.num k∧x.num k≤65535:=by
 unfold MDat.num
 split
 ·exact h.ed k (by assumption)
 ·omega
theorem nk{α:Type}[Inhabited α](f:Nat→α){n k:Nat}(h:k<n):((List.range n).map f).getD k default=f k:=by
 simp [List.getD_eq_getElem?_getD,h]
theorem zti{x:MDat}{v:Int}{m:Mach}(c:0≤v)(a:(m.rows.length:Int)=x.n)(b:m.outputs=x.out)(d:1≤x.n)(e:1≤x.out):eOk m (zld x v):=by
 unfold zld eOk
 split
 ·exact .inl ⟨rfl,rfl⟩
 ·refine .inr ⟨Int.emod_nonneg _ (by omega),?_,Int.emod_nonneg _ (by omega),?_⟩
  ·rw [a];exact Int.emod_lt_of_pos _ (by omega)
  ·rw [b];exact Int.emod_lt_of_pos _ (by omega)
theorem zun{x:MDat}(h:MDOk x):MOk (mOf x):=by
 have e:=h.st;have f:=h.ins;have g:=h.outs
 have c:1≤x.n∧x.n≤6:=by unfold MDat.n;omega
 have d:1≤x.inp∧x.inp≤3:=by unfold MDat.inp;omega
 have b:1≤x.out∧x.out≤3:=by unfold MDat.out;omega
 have j:(mOf x).rows.length=x.n.toNat:=by simp [mOf]
 have hrow: ∀ s,s<(mOf x).rows.length→(mOf x).rows.getD s default=zjf x s:=fun s a=>nk _ (by omega)
 refine⟨d.1,by show x.inp≤16;omega,b.1,by show x.out≤16;omega,by omega,by omega,fun s a=>?_,fun s i a hi=>?_⟩
 ·rw [hrow s a];show ((zjf x s).length:Int)=x.inp;simp [zjf];omega
 ·rw [hrow s a] at hi⊢
  have hi':i<x.inp.toNat:=by simpa [zjf] using hi
  rw [show (zjf x s).getD i default=zce x s i from nk _ hi']
  exact zti (h.num _).1 (by omega) rfl c.1 b.1
theorem zus{x:MDat}{s i:Nat}{v:Int}(a:x.num (s*x.inp.toNat+i)=v)(h:x.part=true∧v%4=3):zce x s i=⟨-1,-1⟩:=by
 unfold zce zld;rw [a,if_pos h]
theorem zux{x:MDat}{s i:Nat}{v:Int}(b:x.num (s*x.inp.toNat+i)=v)(h:x.part=true→ ¬v%4=3):zce x s i=⟨v/4%x.n,v/4/x.n%x.out⟩:=by
 unfold zce zld;rw [b,if_neg (fun a=>h a.1 a.2)]
theorem z7x{α:Type}(f:Nat→α)(k:Nat):(List.range (k+1)).map f=(List.range k).map f++[f k]:=by rw [List.range_succ,List.map_append];rfl
theorem zq7{k:Nat}{a:Int}(b:k≤6)(c:1≤a∧a≤3):0≤(k:Int)*a∧(k:Int)*a≤18∧(k:Int)*a=((k*a.toNat:Nat):Int):=by
 have e:(k:Int)*a=((k*a.toNat:Nat):Int):=by rw [Int.natCast_mul,Int.toNat_of_nonneg (by omega)]
 have h:k*a.toNat≤6*3:=Nat.mul_le_mul b (by omega)
 exact⟨by omega,by omega,e⟩
end GV
end Go.Proofs.YtkkcidhcfkmbjaaGreatDoor

namespace Go.Proofs.YtkkcidhcfkmbjaaGreatDoor
namespace GV
/-! ### The order of words-/
def zc5:List Int→List Int→Prop
 |a::x,b::y=>a<b∨(a=b∧zc5 x y)
 |_,_=>False
def llt(a b:List Int):Prop:=a.length<b.length∨(a.length=b.length∧zc5 a b)
def lle(a b:List Int):Prop:=a=b∨llt a b
theorem zbx: ∀ a,¬zc5 a a
 | [],h=>h
 |x::a,h=>by
  rcases h with h|⟨_,h⟩
  ·omega
  ·exact zbx a h
theorem zea: ∀ {a b c},zc5 a b→zc5 b c→zc5 a c
 | [],_,_,h,_=>h.elim
 |_::_,[],_,h,_=>h.elim
 |_::_,_::_,[],_,h=>h.elim
 |x::a,y::b,z::c,h,k=>by
  rcases h with h|⟨rfl,h⟩
  ·rcases k with k|⟨rfl,k⟩
   ·exact .inl (by omega)
   ·exact .inl h
  ·rcases k with k|⟨rfl,k⟩
   ·exact .inl k
   ·exact .inr ⟨rfl,zea h k⟩
theorem zfc: ∀ {a b:List Int} (i j:Int),zc5 a b→a.length=b.length→zc5 (a++[i]) (b++[j])
 | [],_,_,_,h,_=>h.elim
 |_::_,[],_,_,h,_=>h.elim
 |x::a,y::b,i,j,h,c=>by
  rcases h with h|⟨rfl,h⟩
  ·exact .inl h
  ·exact .inr ⟨rfl,zfc i j h (by simpa using c)⟩
theorem zf7: ∀ (a:List Int) {i j:Int},i<j→zc5 (a++[i]) (a++[j])
 | [],_,_,h=> .inl h
 |_::a,_,_,h=> .inr ⟨rfl,zf7 a h⟩
theorem z5p(a:List Int): ¬llt a a:=by
 rintro(h|⟨_,h⟩)
 ·omega
 ·exact zbx a h
theorem z5h{a b c:List Int}(h:llt a b)(k:llt b c):llt a c:=by
 rcases h with h|⟨h,h'⟩
 ·rcases k with k|⟨k,_⟩
  ·exact .inl (by omega)
  ·exact .inl (by omega)
 ·rcases k with k|⟨k,k'⟩
  ·exact .inl (by omega)
  ·exact .inr ⟨by omega,zea h' k'⟩
theorem zd6{a b:List Int}(i j:Int)(h:llt a b):llt (a++[i]) (b++[j]):=by
 rcases h with h|⟨h,h'⟩
 ·exact .inl (by simp;omega)
 ·exact .inr ⟨by simp [h],zfc i j h' h⟩
theorem zll(a:List Int){i j:Int}(h:i<j):llt (a++[i]) (a++[j]):= .inr ⟨by simp,zf7 a h⟩
theorem za7{a b c:List Int}(h:lle a b)(k:lle b c):lle a c:=by
 rcases h with rfl|h
 ·exact k
 ·rcases k with rfl|k
  ·exact .inr h
  ·exact .inr (z5h h k)
theorem zlt{a b:List Int}(i:Int)(h:lle a b):lle (a++[i]) (b++[i]):=by
 rcases h with rfl|h
 ·exact .inl rfl
 ·exact .inr (zd6 i i h)
theorem zor{a b c:List Int}(h:lle a b)(k:llt b c):llt a c:=by
 rcases h with rfl|h
 ·exact k
 ·exact z5h h k
theorem zp4{a b:List Int}(h:lle a b): ¬llt b a:=fun k=>z5p _ (zor h k)
/-! ### Entries-/
structure BE where
 st:Nat
 par:Int
 inp:Int
 wd:List Int
 deriving DecidableEq,Inhabited
def ed(m:Mach)(s i:Nat):Int:=((m.rows.getD s default).getD i default).to
def occ(All:List BE)(t:Nat):Bool:=All.any fun e=>decide (e.st=t)
theorem z4f{All:List BE}{t:Nat}:occ All t=true↔ ∃ j,j<All.length∧(All.getD j default).st=t:=by
 unfold occ
 rw [List.any_eq_true]
 constructor
 ·rintro⟨e,c,b⟩
  obtain⟨j,a,rfl⟩:=List.mem_iff_getElem.1 c
  exact⟨j,a,by simpa [List.getD_eq_getElem?_getD,a] using b⟩
 ·rintro⟨j,a,b⟩
  exact⟨_,z0i a,by simpa using b⟩
def push(m:Mach)(x:BE)(All:List BE)(i:Nat):List BE:=
 if ed m x.st i= -1 then All else if occ All (ed m x.st i).toNat=true then All else All++[⟨(ed m x.st i).toNat,x.st,i,x.wd++[(i:Int)]⟩]
def jo(m:Mach)(x:BE)(All:List BE):Nat→List BE
 |0=>All
 |k+1=>push m x (jo m x All k) k
def bfs(m:Mach):Nat→Nat→List BE→List BE
 |0,_,All=>All
 |g+1,p,All=>if p<All.length then bfs m g (p+1) (jo m (All.getD p default) All m.inputs.toNat) else All
theorem z2a{m:Mach}(a:MOk m){s i:Nat}(b:s<m.rows.length)(hi:i<m.inputs.toNat):ed m s i= -1∨(0≤ed m s i∧ed m s i<m.rows.length):=by
 have:=zcv m a (s:Int) (i:Int) (.inr ⟨by omega,by omega⟩) ⟨by omega,by have:=a.i1;omega⟩
 have h:=this.1
 unfold vk at h
 rw [if_neg (by omega)] at h
 exact h
theorem zlu(m:Mach)(x:BE)(All:List BE)(i:Nat):All<+:push m x All i:=by
 unfold push
 split
 ·exact List.prefix_refl _
 ·split
  ·exact List.prefix_refl _
  ·exact List.prefix_append _ _
theorem ah(m:Mach)(x:BE)(All:List BE): ∀ k,All<+:jo m x All k
 |0=>List.prefix_refl _
 |k+1=>(ah m x All k).trans (zlu m x _ k)
theorem zf4(m:Mach): ∀ g p All,All<+:bfs m g p All
 |0,_,All=>List.prefix_refl _
 |g+1,p,All=>by
  unfold bfs
  split
  ·exact(ah m _ All _).trans (zf4 m g (p+1) _)
  ·exact List.prefix_refl _
theorem z9t{X Y:List BE}(h:X<+:Y){j:Nat}(a:j<X.length):Y.getD j default=X.getD j default:=by
 obtain⟨t,rfl⟩:=h
 simp [List.getD_eq_getElem?_getD,List.getElem?_append_left a]
structure Inv (m:Mach) (s0 p k:Nat) (All:List BE):Prop where
 pos:0<All.length
 root:All.getD 0 default=⟨s0,-1,-1,[]⟩
 rng: ∀ j,j<All.length→(All.getD j default).st<m.rows.length
 dis: ∀ i j,i<All.length→j<All.length→(All.getD i default).st=(All.getD j default).st→i=j
 aft: ∀ j,j<All.length→aftL m s0 (All.getD j default).wd=((All.getD j default).st:Int)
 par: ∀ j,0<j→j<All.length→ ∃ q i,q<j∧i<m.inputs.toNat∧(All.getD j default).par=((All.getD q default).st:Int)∧(All.getD j default).inp=(i:Int)∧(All.getD j default).wd=(All.getD q default).wd++[(i:Int)]∧ed m (All.getD q default).st i=((All.getD j default).st:Int)
 inc: ∀ i j,i<j→j<All.length→llt (All.getD i default).wd (All.getD j default).wd
 bnd:p<All.length→ ∀ j,j<All.length→llt (All.getD j default).wd ((All.getD p default).wd++[(k:Int)])
 cls: ∀ q i,q<All.length→i<m.inputs.toNat→(q<p∨(q=p∧i<k))→ed m (All.getD q default).st i≠ -1→ ∃ j,j<All.length∧((All.getD j default).st:Int)=ed m (All.getD q default).st i∧lle (All.getD j default).wd ((All.getD q default).wd++[(i:Int)])
theorem ziy{X:List BE}{e:BE}{j:Nat}(h:j<X.length):(X++[e]).getD j default=X.getD j default:=by
 simp [List.getD_eq_getElem?_getD,List.getElem?_append_left h]
theorem zha{X:List BE}{e:BE}:(X++[e]).getD X.length default=e:=by
 simp [List.getD_eq_getElem?_getD]
theorem zu3{m:Mach}(z:MOk m){s0 p k:Nat}{All:List BE}(h:Inv m s0 p k All)(g:p<All.length)(y:k<m.inputs.toNat):Inv m s0 p (k+1) (push m (All.getD p default) All k):=by
 have r:=h.bnd g
 have hlast:llt ((All.getD p default).wd++[(k:Int)]) ((All.getD p default).wd++[((k+1:Nat):Int)]):=zll _ (by omega)
 have hsame:(∀ q i,q=p→i=k→ed m (All.getD q default).st i≠ -1→ ∃ j,j<All.length∧((All.getD j default).st:Int)=ed m (All.getD q default).st i∧lle (All.getD j default).wd ((All.getD q default).wd++[(i:Int)]))→Inv m s0 p (k+1) All:=fun s=>
  {h with
   bnd:=fun _ j a=>z5h (r j a) hlast
   cls:=fun q i f hi d c=>by
    rcases d with l|⟨rfl,l⟩
    ·exact h.cls q i f hi (.inl l) c
    ·by_cases e:i=k
     ·exact s q i rfl e c
     ·exact h.cls q i f hi (.inr ⟨rfl,by omega⟩) c}
 unfold push
 by_cases h1:ed m (All.getD p default).st k= -1
 ·rw [if_pos h1]
  exact hsame fun q i f hi c=>by subst f;subst hi;exact absurd h1 c
 ·rw [if_neg h1]
  have t:=z2a z (h.rng p g) y
  obtain⟨C,D⟩:=t.resolve_left h1
  by_cases h4:occ All (ed m (All.getD p default).st k).toNat=true
  ·rw [if_pos h4]
   refine hsame fun q i f hi c=>?_
   subst f;subst hi
   obtain⟨j,a,u⟩:=z4f.1 h4
   exact⟨j,a,by rw [u];omega,.inr (r j a)⟩
  ·rw [if_neg h4]
   have hnew: ∀ j,j<All.length→(All.getD j default).st≠(ed m (All.getD p default).st k).toNat:=fun j a e=>h4 (z4f.2 ⟨j,a,e⟩)
   have hlen:(All++[(⟨(ed m (All.getD p default).st k).toNat,((All.getD p default).st:Int),(k:Int),(All.getD p default).wd++[(k:Int)]⟩:BE)]).length=All.length+1:=by simp
   generalize hE:(⟨(ed m (All.getD p default).st k).toNat,((All.getD p default).st:Int),(k:Int),(All.getD p default).wd++[(k:Int)]⟩:BE)=e at hlen⊢
   have n:e.st=(ed m (All.getD p default).st k).toNat:=by rw [←hE]
   have A:e.par=((All.getD p default).st:Int):=by rw [←hE]
   have B:e.inp=(k:Int):=by rw [←hE]
   have o:e.wd=(All.getD p default).wd++[(k:Int)]:=by rw [←hE]
   have cs: ∀ j,j<(All++[e]).length→j<All.length∨j=All.length:=fun j a=>by rw [hlen] at a;omega
   have lt:=fun {j:Nat} (a:j<All.length)=>ziy (e:=e) a
   have le:=zha (X:=All) (e:=e)
   refine⟨by rw [hlen];omega,by rw [lt h.pos];exact h.root,fun j a=>?_,fun i j hi a b=>?_,fun j a=>?_,fun j v a=>?_,fun i j b a=>?_,fun _ j a=>?_,fun q i f hi d c=>?_⟩
   ·rcases cs j a with a|rfl
    ·rw [lt a];exact h.rng j a
    ·rw [le,n];omega
   ·rcases cs i hi with hi|rfl<;>rcases cs j a with a|rfl
    ·rw [lt hi,lt a] at b;exact h.dis i j hi a b
    ·rw [lt hi,le,n] at b;exact absurd b (hnew i hi)
    ·rw [le,lt a,n] at b;exact absurd b.symm (hnew j a)
    ·rfl
   ·rcases cs j a with a|rfl
    ·rw [lt a];exact h.aft j a
    ·rw [le,o,n,z2v,h.aft p g]
     show (vk m ((All.getD p default).st:Int) (k:Int)).to=_
     unfold vk
     rw [if_neg (by omega)]
     show ed m (All.getD p default).st k=_
     omega
   ·rcases cs j a with a|rfl
    ·obtain⟨q,i,w,x⟩:=h.par j v a
     exact⟨q,i,w,by rw [lt a,lt (by omega)];exact x⟩
    ·refine⟨p,k,g,y,?_⟩
     rw [le,lt g,n,A,B,o]
     exact⟨rfl,rfl,rfl,by omega⟩
   ·rcases cs j a with a|rfl
    ·rw [lt a,lt (by omega)];exact h.inc i j b a
    ·rw [le,lt b,o];exact r i b
   ·rw [lt g]
    rcases cs j a with a|rfl
    ·rw [lt a];exact z5h (r j a) hlast
    ·rw [le,o];exact hlast
   ·have hq':q<All.length:=by rcases d with l|⟨rfl,_⟩<;>omega
    rw [lt hq'] at c⊢
    by_cases s:q=p∧i=k
    ·obtain⟨rfl,rfl⟩:=s
     exact⟨All.length,by rw [hlen];omega,by rw [le,n];omega,by rw [le,o];exact .inl rfl⟩
    ·obtain⟨j,a,w,x⟩:=h.cls q i hq' hi (by rcases d with l|⟨rfl,l⟩;exact .inl l;exact .inr ⟨rfl,by omega⟩) c
     exact⟨j,by rw [hlen];omega,by rw [lt a];exact w,by rw [lt a];exact x⟩
theorem z8j{m:Mach}(a:MOk m){s0 p:Nat}{All:List BE}(h:Inv m s0 p 0 All)(b:p<All.length): ∀ k,k≤m.inputs.toNat→Inv m s0 p k (jo m (All.getD p default) All k)
 |0,_=>h
 |k+1,c=>by
  have ih:=z8j a h b k (by omega)
  have hpre:=ah m (All.getD p default) All k
  have e:(jo m (All.getD p default) All k).getD p default=All.getD p default:=z9t hpre b
  have:=zu3 a ih (by have:=hpre.length_le;omega) (by omega)
  rw [e] at this
  exact this
theorem zbo{m:Mach}{s0 p:Nat}{All:List BE}(h:Inv m s0 p m.inputs.toNat All)(c:p<All.length):Inv m s0 (p+1) 0 All:=
 {h with
  bnd:=fun hp' j d=>z5h (h.bnd c j d) (zd6 _ _ (h.inc p (p+1) (by omega) hp'))
  cls:=fun q i e hi a b=>h.cls q i e hi (by rcases a with f|⟨_,f⟩;exact(Nat.lt_or_ge q p).imp id fun _=>⟨by omega,hi⟩;omega) b}
theorem z4v{m:Mach}{s0 p k:Nat}{All:List BE}(h:Inv m s0 p k All):All.length≤m.rows.length:=by
 have b:(All.map (·.st)).Nodup:=by
  rw [List.nodup_iff_pairwise_ne,List.pairwise_iff_getElem]
  intro i j hi a c e
  rw [List.length_map] at hi a
  rw [List.getElem_map,List.getElem_map] at e
  have:=h.dis i j hi a (by simpa [List.getD_eq_getElem?_getD,a,hi] using e)
  omega
 have hsub:(All.map (·.st))⊆List.range m.rows.length:=by
  intro x d
  obtain⟨e,f,rfl⟩:=List.mem_map.1 d
  obtain⟨j,a,rfl⟩:=List.mem_iff_getElem.1 f
  have:=h.rng j a
  rw [List.mem_range]
  simpa [List.getD_eq_getElem?_getD,a] using this
 have:=List.Nodup.length_le_of_subset b hsub
 simpa using this
theorem zoj{m:Mach}(a:MOk m){s0:Nat}: ∀ (g p:Nat) (All:List BE),p+g=m.rows.length→p≤All.length→Inv m s0 p 0 All→ ∃ q,(bfs m g p All).length≤q∧Inv m s0 q 0 (bfs m g p All)
 |0,p,All,b,c,h=>⟨p,by have:=z4v h;show All.length≤p;omega,h⟩
 |g+1,p,All,b,c,h=>by
  unfold bfs
  by_cases hlt:p<All.length
  ·rw [if_pos hlt]
   have d:=z8j a h hlt _ (Nat.le_refl _)
   have hpre:=(ah m (All.getD p default) All m.inputs.toNat).length_le
   exact zoj a g (p+1) _ (by omega) (by omega) (zbo d (by omega))
  ·rw [if_neg hlt]
   exact⟨p,by omega,h⟩
def rch(m:Mach)(s0:Nat):List BE:=bfs m m.rows.length 0 [⟨s0,-1,-1,[]⟩]
structure Rch (m:Mach) (s0:Nat) (P:List BE):Prop where
 pos:0<P.length
 le:P.length≤m.rows.length
 root:P.getD 0 default=⟨s0,-1,-1,[]⟩
 rng: ∀ j,j<P.length→(P.getD j default).st<m.rows.length
 dis: ∀ i j,i<P.length→j<P.length→(P.getD i default).st=(P.getD j default).st→i=j
 aft: ∀ j,j<P.length→aftL m s0 (P.getD j default).wd=((P.getD j default).st:Int)
 par: ∀ j,0<j→j<P.length→ ∃ q i,q<j∧i<m.inputs.toNat∧(P.getD j default).par=((P.getD q default).st:Int)∧(P.getD j default).inp=(i:Int)∧(P.getD j default).wd=(P.getD q default).wd++[(i:Int)]∧ed m (P.getD q default).st i=((P.getD j default).st:Int)
 inc: ∀ i j,i<j→j<P.length→llt (P.getD i default).wd (P.getD j default).wd
 cls: ∀ q i,q<P.length→i<m.inputs.toNat→ed m (P.getD q default).st i≠ -1→ ∃ j,j<P.length∧((P.getD j default).st:Int)=ed m (P.getD q default).st i∧lle (P.getD j default).wd ((P.getD q default).wd++[(i:Int)])
theorem zcu{m:Mach}{s0:Nat}(b:s0<m.rows.length):Inv m s0 0 0 [⟨s0,-1,-1,[]⟩]:=by
 have c: ∀ j,j<[(⟨s0,-1,-1,[]⟩:BE)].length→j=0:=fun j a=>by simpa using a
 refine⟨by simp,rfl,fun j a=>?_,fun i j hi a _=>?_,fun j a=>?_,fun j h a=>?_,fun i j d a=>?_,fun _ j a=>?_,fun q i e hi f g=>?_⟩
 ·rw [c j a];exact b
 ·rw [c i hi,c j a]
 ·rw [c j a];rfl
 ·have:=c j a;omega
 ·have:=c j a;omega
 ·rw [c j a];exact .inl (by simp)
 ·have:=c q e;omega
theorem z8i{m:Mach}(b:MOk m){s0:Nat}(c:s0<m.rows.length):Rch m s0 (rch m s0):=by
 obtain⟨q,d,h⟩:=zoj b m.rows.length 0 _ (by omega) (by simp) (zcu c)
 exact⟨h.pos,z4v h,h.root,h.rng,h.dis,h.aft,h.par,h.inc,fun q' i hq' hi a=>h.cls q' i hq' hi (.inl (Nat.lt_of_lt_of_le hq' d)) a⟩
section rch
variable {m : Mach} {s0 : Nat} {P : List BE}
theorem Rch.wok(h:Rch m s0 P): ∀ j,j<P.length→WOk m.inputs (P.getD j default).wd∧(P.getD j default).wd.length≤j
 |j,b=>by
  by_cases h0:j=0
  ·subst h0;rw [h.root];exact⟨fun k a=>by simp at a,by simp⟩
  ·obtain⟨q,i,d,hi,_,_,c,_⟩:=h.par j (by omega) b
   obtain⟨ih,ihl⟩:=Rch.wok h q (by omega)
   rw [c]
   refine⟨fun k a=>?_,by rw [List.length_append,List.length_singleton];omega⟩
   rw [List.length_append,List.length_singleton] at a
   by_cases hk':k<(P.getD q default).wd.length
   ·rw [List.getD_eq_getElem?_getD,List.getElem?_append_left hk',←List.getD_eq_getElem?_getD];exact ih k hk'
   ·have:k=(P.getD q default).wd.length:=by omega
    subst this
    rw [List.getD_eq_getElem?_getD,List.getElem?_concat_length]
    exact⟨by simp,by simp only [Option.getD_some];omega⟩
theorem zkp{n c:Int}{u:List Int}(h:WOk n (u++[c])):WOk n u∧0≤c∧c<n:=by
 refine⟨fun k a=>?_,?_⟩
 ·have:=h k (by simp;omega)
  rwa [List.getD_eq_getElem?_getD,List.getElem?_append_left a,←List.getD_eq_getElem?_getD] at this
 ·have:=h u.length (by simp)
  rwa [List.getD_eq_getElem?_getD,List.getElem?_concat_length] at this
theorem zc1(m:Mach): ∀ (w:List Int),aftL m (-1) w= -1
 | []=>rfl
 |c::w=>by
  show aftL m (vk m (-1) c).to w= -1
  rw [show vk m (-1) c=⟨-1,-1⟩ from rfl]
  exact zc1 m w
theorem Rch.least(i:MOk m)(h:Rch m s0 P): ∀ (n:Nat) (w:List Int),w.length=n→WOk m.inputs w→aftL m s0 w≠ -1→ ∃ j,j<P.length∧((P.getD j default).st:Int)=aftL m s0 w∧lle (P.getD j default).wd w
 |0,w,b,g,a=>by
  have:w=[]:=List.length_eq_zero_iff.1 b
  subst this
  exact⟨0,h.pos,by rw [h.root];rfl,by rw [h.root];exact .inl rfl⟩
 |n+1,w,b,g,a=>by
  obtain⟨u,c,rfl⟩: ∃ u c,w=u++[c]:=⟨w.dropLast,w.getLast (by intro e;rw [e] at b;simp at b),(List.dropLast_concat_getLast _).symm⟩
  obtain⟨k,l,o⟩:=zkp g
  rw [z2v] at a⊢
  have hune:aftL m s0 u≠ -1:=fun e=>by rw [e,zc1] at a;exact a rfl
  obtain⟨q,p,d,f⟩:=Rch.least i h n u (by simpa using b) k hune
  rw [←d] at a⊢
  have hstep:aftL m ((P.getD q default).st:Int) [c]=ed m (P.getD q default).st c.toNat:=by
   show (vk m ((P.getD q default).st:Int) c).to=_
   unfold vk
   rw [if_neg (by omega)]
   rfl
  rw [hstep] at a⊢
  obtain⟨j,r,s,t⟩:=h.cls q c.toNat p (by omega) a
  refine⟨j,r,s,za7 t ?_⟩
  rw [show ((c.toNat:Nat):Int)=c by omega]
  exact zlt c f
theorem Rch.min(b:MOk m)(h:Rch m s0 P){j:Nat}(c:j<P.length){w:List Int}(d:WOk m.inputs w)(a:aftL m s0 w=((P.getD j default).st:Int)):lle (P.getD j default).wd w:=by
 obtain⟨i,hi,e,f⟩:=h.least b _ w rfl d (by rw [a];omega)
 rw [a] at e
 have:=h.dis i j hi c (by omega)
 subst this
 exact f
end rch
end GV
end Go.Proofs.YtkkcidhcfkmbjaaGreatDoor

namespace Go.Proofs.YtkkcidhcfkmbjaaGreatDoor
namespace GV
set_option maxRecDepth 100000
theorem zy7{N:Nat}{s:List Edge}{f:Edge→Option Bool}{p:Edge→Bool}(b: ∀ k,k<s.length→f (s.getD k default)=some (p (s.getD k default)))(c:s.length<N)(d:s.length≤4611686018427387904):
 pz N s f=some (zh3 p s):=by
 have h:kg N s f N 0=some (if s.any p=true then Ex.rt (zh3 p s) else Ex.go ()):=by
  refine mq (σ:=Unit) (fun F k _=>kg N s f F (k:Int)) s.length (fun k _=>(s.take k).any p=false) _ (fun F k _ a hi=>?_) (fun F _ hi=>?_) N 0 () (Nat.zero_le _) (by omega) (by simp)
  ·simp only [kg]
   rw [bq (by omega),zi (j3 a),pg,zu (b k a)]
   cases hp:p (s.getD k default)
   ·right
    refine⟨(),by rw [z7v p s k a,hi,hp];rfl,?_⟩
    rw [cf rfl,zi (ja (by omega))];rfl
   ·left
    rw [ct rfl,if_pos (List.any_eq_true.2 ⟨_,z0i a,hp⟩),zfp p s k a hi hp]
  ·simp only [kg]
   rw [yz (by omega),if_neg (by rw [List.take_length] at hi;rw [hi];decide)]
 unfold pz
 rw [zu h]
 by_cases ha:s.any p=true
 ·rw [if_pos ha];rfl
 ·rw [if_neg ha,zqt p s (by simpa using ha)];rfl
theorem zqb{N:Nat}{s:List Edge}{f:Edge→Option Bool}{p:Edge→Bool}(a: ∀ k,k<s.length→f (s.getD k default)=some (p (s.getD k default)))(b:s.length<N)(c:s.length≤4611686018427387904):
 xx N s f=some (s.any p):=by
 unfold xx
 rw [zu (zy7 a b c),zpm]
theorem zfm{N:Nat}{m:Mach}(b:Small m)(f:200≤N):yg N m=some (z1j m):=by
 unfold yg
 by_cases h:(16<m.inputs∨16<m.outputs)∨64<m.rows.length
 ·rw [ct (by simp;omega),zlw h]
 ·rw [cf (by simp;omega)]
  by_cases h1:(m.inputs<1∨m.outputs<1)∨m.rows.length<1
  ·rw [ct (by simp;omega),zmd h h1]
  ·rw [cf (by simp;omega)]
   have g:=b.r
   have d:gz N m N 0=some (if m.rows.any (rz m)=true then Ex.rt 1 else Ex.go ()):=by
    refine mq (σ:=Unit) (fun F k _=>gz N m F (k:Int)) m.rows.length (fun k _=>(m.rows.take k).any (rz m)=false) _ (fun F k _ a hi=>?_) (fun F _ hi=>?_) N 0 () (Nat.zero_le _) (by omega) (by simp)
    ·simp only [gz]
     have i:=b.c k a
     rw [bq (by omega),zi (j3 a),pg,z9n (fun _=>zqb (p:=fun x=> !zd4 m x) (fun j l=>rfl) (by omega) (by omega))]
     have e:(decide (((m.rows.getD k default).length:Int)≠m.inputs)||((bif (true&&(decide (((m.rows.getD k default).length:Int)≠m.inputs)==false)) then some ((m.rows.getD k default).any fun x=> !zd4 m x) else none).getD default))=rz m (m.rows.getD k default):=by
      unfold rz
      cases decide (((m.rows.getD k default).length:Int)≠m.inputs)<;>rfl
     rw [e]
     cases hr:rz m (m.rows.getD k default)
     ·right
      refine⟨(),by rw [z7v _ _ k a,hi,hr];rfl,?_⟩
      rw [cf rfl,zi (ja (by omega))];rfl
     ·left
      rw [ct rfl,if_pos (List.any_eq_true.2 ⟨_,z0i a,hr⟩)]
    ·simp only [gz]
     rw [yz (by omega),if_neg (by rw [List.take_length] at hi;rw [hi];decide)]
   rw [zu d]
   by_cases ha:m.rows.any (rz m)=true
   ·rw [if_pos ha];unfold z1j;rw [if_neg h,if_neg h1,if_pos ha];rfl
   ·rw [if_neg ha,zky h h1 (by simpa using ha)];rfl
/-! ### Words-/
theorem zq9{N:Nat}{m:Mach}(p:Small m)(u:200≤N):iw N m=some (z1j m):=by
 have v:=p.r
 unfold iw
 by_cases h:(16<m.inputs∨16<m.outputs)∨64<m.rows.length
 ·rw [ct (by simp;omega),zlw h]
 ·rw [cf (by simp;omega)]
  by_cases h1:(m.inputs<1∨m.outputs<1)∨m.rows.length<1
  ·rw [ct (by simp only [Bool.or_eq_true,decide_eq_true_eq];omega),zmd h h1]
  ·rw [cf (by
    have:(m.rows.length:Int)≠0:=by omega
    simp only [Bool.or_eq_false_iff,decide_eq_false_iff_not];omega)]
   have q:u6 N m N 0=some (if m.rows.any (rz m)=true then Ex.rt 1 else Ex.go ()):=by
    refine mq (σ:=Unit) (fun F k _=>u6 N m F (k:Int)) m.rows.length (fun k _=>(m.rows.take k).any (rz m)=false) _ (fun F k _ d hi=>?_) (fun F _ hi=>?_) N 0 () (Nat.zero_le _) (by omega) (by simp)
    ·have w:=p.c k d
     have j:(bd (gd (okI m.rows (k:Int))<|bif decide (((ix m.rows (k:Int)).length:Int)≠m.inputs) then(some (Ex.rt (Ex.rt 1))) else uj N m (k:Int) N 0) fun l=>Ex.on l (fun s=>gd (in64 ((k:Int)+1))<|u6 N m F ((k:Int)+1)) some)=
      if rz m (m.rows.getD k default)=true then some (Ex.rt 1) else u6 N m F ((k+1:Nat):Int):=by
      rw [zi (j3 d)]
      by_cases g:((m.rows.getD k default).length:Int)≠m.inputs
      ·have b:rz m (m.rows.getD k default)=true:=by unfold rz;rw [decide_eq_true g];rfl
       rw [if_pos b]
       refine Eq.trans (zu (x:=Ex.rt (Ex.rt 1)) (bq g)) rfl
      ·have h2':((ix m.rows (k:Int)).length:Int)=m.inputs:=Decidable.of_not_not g
       have n:uj N m (k:Int) N 0=some (if rz m (m.rows.getD k default)=true then Ex.rt (Ex.rt 1) else Ex.go ()):=by
        refine mq (σ:=Unit) (fun G i _=>uj N m (k:Int) G (i:Int)) m.inputs.toNat (fun i _=>(((m.rows.getD k default).take i).any fun x=> !zd4 m x)=false) _ (fun G i _ hi' e=>?_) (fun G _ e=>?_) N 0 () (Nat.zero_le _) (by have:((m.rows.getD k default).length:Int)=m.inputs:=h2';omega) (by simp)
        ·have a:i<(m.rows.getD k default).length:=by have:((m.rows.getD k default).length:Int)=m.inputs:=h2';omega
         simp only [uj]
         rw [bq (by omega),zi (j3 d),zi (show okI (ix m.rows (k:Int)) (i:Int) from j3 a)]
         have t:ix (ix m.rows (k:Int)) (i:Int)=(m.rows.getD k default).getD i default:=rfl
         rw [t]
         generalize hxe:(m.rows.getD k default).getD i default=x at*
         by_cases h3:x.to= -1∧x.out= -1
         ·right
          have f:=zrv (m:=m) (x:=x) (.inl h3)
          refine⟨(),by rw [z7v _ _ i a,e,hxe,f];rfl,?_⟩
          rw [ct (by rw [decide_eq_true h3.1,decide_eq_true h3.2];rfl),zkt,zh0,zi (ja (by omega))];rfl
         ·rw [cf (by rw [←Bool.decide_and];exact decide_eq_false h3)]
          by_cases h4:0≤x.to∧x.to<m.rows.length∧0≤x.out∧x.out<m.outputs
          ·right
           have f:=zrv (m:=m) (x:=x) (.inr h4)
           refine⟨(),by rw [z7v _ _ i a,e,hxe,f];rfl,?_⟩
           rw [cf (by simp;omega),zkt,zh0,zi (ja (by omega))];rfl
          ·left
           have f:=zyi (m:=m) (x:=x) (fun h=>h.elim h3 h4)
           rw [ct (by simp;omega),zkt,zyw,if_pos]
           unfold rz
           rw [Bool.or_eq_true]
           exact .inr (List.any_eq_true.2 ⟨_,z0i a,by rw [hxe];exact f⟩)
        ·simp only [uj]
         rw [yz (by omega),if_neg]
         have o:(m.rows.getD k default).length=m.inputs.toNat:=by have:((m.rows.getD k default).length:Int)=m.inputs:=h2';omega
         rw [←o,List.take_length] at e
         unfold rz
         rw [e,decide_eq_false g];decide
       refine Eq.trans (zu (Eq.trans (yz (fun h=>h h2')) n)) ?_
       by_cases b:rz m (m.rows.getD k default)=true
       ·rw [if_pos b,if_pos b];rfl
       ·rw [if_neg b,if_neg b,zh0,zi (ja (by omega))];rfl
     simp only [u6]
     rw [bq (by omega),j]
     cases hr:rz m (m.rows.getD k default)
     ·right
      exact⟨(),by rw [z7v _ _ k d,hi,hr];rfl,if_neg (by decide)⟩
     ·left
      rw [if_pos rfl,if_pos (List.any_eq_true.2 ⟨_,z0i d,hr⟩)]
    ·simp only [u6]
     rw [yz (by omega),if_neg (by rw [List.take_length] at hi;rw [hi];decide)]
   rw [zu q]
   by_cases ha:m.rows.any (rz m)=true
   ·rw [if_pos ha];unfold z1j;rw [if_neg h,if_neg h1,if_pos ha];rfl
   ·rw [if_neg ha,zky h h1 (by simpa using ha)];rfl
theorem zqv{N:Nat}{a b:List Edge}(f:a.length<N)(g:a.length≤4611686018427387904):o7 N a b=some (decide (a=b)):=by
 unfold o7
 by_cases h:(a.length:Int)≠b.length
 ·rw [bq h,decide_eq_false (fun e=>h (by rw [e]))]
 ·rw [yz h]
  have hl':a.length=b.length:=by omega
  have c:ui N a b N 0=some (if a=b then Ex.go () else Ex.rt false):=by
   refine mq (σ:=Unit) (fun F k _=>ui N a b F (k:Int)) a.length (fun k _=> ∀ j,j<k→a.getD j default=b.getD j default) _ (fun F k _ d hi=>?_) (fun F _ hi=>?_) N 0 () (Nat.zero_le _) (by omega) (fun j i=>by omega)
   ·simp only [ui]
    rw [bq (by omega),zi (j3 d),zi (j3 (by omega))]
    by_cases he:a.getD k default=b.getD k default
    ·right
     refine⟨(),zgo hi he,Eq.trans (yz (show¬ ¬((a.getD k default).to=(b.getD k default).to∧(a.getD k default).out=(b.getD k default).out) from fun h=>h (by rw [he];exact⟨rfl,rfl⟩))) ?_⟩
     rw [zi (ja (by omega))];rfl
    ·left
     refine Eq.trans (bq (show¬((a.getD k default).to=(b.getD k default).to∧(a.getD k default).out=(b.getD k default).out) from fun h=>he (zty h))) ?_
     rw [if_neg (fun e=>he (by rw [e]))]
   ·simp only [ui]
    rw [yz (by omega),if_pos (z15 hl' hi)]
  rw [zu c]
  by_cases he:a=b
  ·rw [if_pos he,decide_eq_true he];rfl
  ·rw [if_neg he,decide_eq_false he];rfl
theorem zpt{N:Nat}{a b:List (List Edge)}{f:List Edge→List Edge→Option Bool}(d: ∀ k,k<a.length→f (a.getD k default) (b.getD k default)=some (decide (a.getD k default=b.getD k default)))(i:a.length<N)(l:a.length≤4611686018427387904):
 bv N a b f=some (decide (a=b)):=by
 unfold bv
 by_cases h:(a.length:Int)≠b.length
 ·rw [bq h,decide_eq_false (fun e=>h (by rw [e]))]
 ·rw [yz h]
  have hl':a.length=b.length:=by omega
  have g:jv N a b f N 0=some (if a=b then Ex.go () else Ex.rt false):=by
   refine mq (σ:=Unit) (fun F k _=>jv N a b f F (k:Int)) a.length (fun k _=> ∀ j,j<k→a.getD j default=b.getD j default) _ (fun F k _ c hi=>?_) (fun F _ hi=>?_) N 0 () (Nat.zero_le _) (by omega) (fun j m=>by omega)
   ·simp only [jv]
    rw [bq (by omega),zi (j3 c),zi (j3 (by omega))]
    refine(show _∨_ from ?_)
    have hk':=d k c
    by_cases he:a.getD k default=b.getD k default
    ·rw [decide_eq_true he] at hk'
     right
     refine⟨(),zgo hi he,Eq.trans (zu hk') (Eq.trans (cf rfl) ?_)⟩
     rw [zi (ja (by omega))];rfl
    ·rw [decide_eq_false he] at hk'
     left
     refine Eq.trans (zu hk') (Eq.trans (ct rfl) ?_)
     rw [if_neg (fun e=>he (by rw [e]))]
   ·simp only [jv]
    rw [yz (by omega),if_pos (z15 hl' hi)]
  rw [zu g]
  by_cases he:a=b
  ·rw [if_pos he,decide_eq_true he];rfl
  ·rw [if_neg he,decide_eq_false he];rfl
theorem zmb{N:Nat}{a b:Mach}(d:Small a)(g:Small b)(e:200≤N):z07 N a b=some (zeg a b):=by
 unfold z07 zeg
 have h:=d.r
 rw [zu (zfm d e),z9n (fun _=>zfm g e),z9n (fun _=>zpt (fun k f=>zqv (by have:=d.c k f;omega) (by have:=d.c k f;omega)) (by omega) (by omega))]
 cases decide (z1j a=0)
 ·rfl
 ·simp only [Bool.true_and,beq_true,cond_true,Option.getD_some]
  cases decide (z1j b=0)<;>cases decide (a.inputs=b.inputs)<;>cases decide (a.outputs=b.outputs)<;>rfl
/-! ### Data-/
theorem zyb{N:Nat}{x:MDat}(b:MDOk x)(o:200≤N){s:Nat}(p:s<6):wy N x (s:Int) N [] 0=some (zjf x s):=by
 have q:=b.st;have r:=b.ins;have t:=b.outs
 have hinp:x.inp=1+x.ins%3:=rfl
 refine mq (fun F i acc=>wy N x (s:Int) F acc (i:Int)) x.inp.toNat (fun i acc=>acc=(List.range i).map (zce x s)) _ (fun F i acc hi hacc=> .inr ?_) (fun F acc hacc=>?_) N 0 [] (Nat.zero_le _) (by omega) rfl
 ·subst hacc
  refine⟨_,rfl,?_⟩
  have g:=zq7 (k:=s) (a:=x.inp) (by omega) (by omega)
  have j:(s:Int)*((1:Int)+x.ins%3)+(i:Int)=((s*x.inp.toNat+i:Nat):Int):=by
   rw [←hinp,g.2.2];rfl
  have hnum:=b.num (s*x.inp.toNat+i)
  simp only [wy]
  rw [bq (by omega)]
  have l:(gd (in64 ((s:Int)*((1:Int)+(x.ins%3))))<|gd (in64 (((s:Int)*((1:Int)+(x.ins%3)))+(i:Int)))<|bif decide (((s:Int)*((1:Int)+(x.ins%3)))+(i:Int)<(x.edges.length:Int)) then(gd (okI x.edges (((s:Int)*((1:Int)+(x.ins%3)))+(i:Int)))<|gd (in64 (ix x.edges (((s:Int)*((1:Int)+(x.ins%3)))+(i:Int))))<|some (ix x.edges (((s:Int)*((1:Int)+(x.ins%3)))+(i:Int)))) else(some (0:Int)))=some (x.num (s*x.inp.toNat+i)):=by
   rw [zi (ja (by rw [←hinp];omega)),j,zi (ja (by omega))]
   unfold MDat.num
   by_cases hk:s*x.inp.toNat+i<x.edges.length
   ·have m:=b.ed _ hk
    rw [bq (by omega),if_pos hk,zi (j3 hk),zi (show in64 (ix x.edges ((s*x.inp.toNat+i:Nat):Int)) from ja (show-4611686018427387904≤x.edges.getD (s*x.inp.toNat+i) default∧x.edges.getD (s*x.inp.toNat+i) default≤4611686018427387904 by omega))];rfl
   ·rw [yz (by omega),if_neg hk]
  have hacc:((List.range i).map (zce x s)).length=i:=by simp
  refine Eq.trans (zu (x:=(List.range (i+1)).map (zce x s)) (Eq.trans (zu l) ?_)) ?_
  ·rw [zi (fun _=>⟨hnum.1,by omega⟩),z7x]
   by_cases hp:x.part=true∧x.num (s*x.inp.toNat+i)%4=3
   ·rw [ct (by rw [hp.1,decide_eq_true hp.2];rfl),zi ⟨by rw [hacc];simp;omega,by rw [hacc];simp;omega⟩,zus rfl hp]
   ·have c:x.n=1+x.states%6:=rfl
    have d:x.out=1+x.outs%3:=rfl
    have e:0≤x.num (s*x.inp.toNat+i)/4:=by omega
    have f:0≤x.num (s*x.inp.toNat+i)/4/x.n:=Int.ediv_nonneg e (by omega)
    rw [cf (by
     rw [Bool.and_eq_false_iff]
     by_cases h:x.part=true
     ·exact .inr (decide_eq_false fun h'=>hp ⟨h,h'⟩)
     ·exact .inl (by simpa using h)),←c,←d,zi ⟨by omega,by omega,by omega⟩,zi ⟨e,by omega⟩,zi ⟨by omega,by omega,by omega⟩,zi ⟨e,by omega,by omega⟩,zi ⟨f,by omega⟩,zi ⟨by rw [hacc];simp;omega,by rw [hacc];simp;omega⟩,zux rfl (fun h h'=>hp ⟨h,h'⟩)]
  ·rw [zi (ja (by omega))];rfl
 ·subst hacc
  simp only [wy]
  rw [yz (by omega)];rfl
theorem zs7{N:Nat}{x:MDat}(a:MDOk x)(b:200≤N):dx N x=some (mOf x):=by
 have d:=a.st;have e:=a.ins;have f:=a.outs
 have c:x.n=1+x.states%6:=rfl
 unfold dx
 rw [zi ⟨by omega,by omega⟩,zi (ja (by omega)),zi (ja (by omega)),zi ⟨by omega,by omega⟩,zi (ja (by omega)),zi (ja (by omega)),zi ⟨by omega,by omega⟩,zi (ja (by omega)),zi (ja (by omega))]
 refine Eq.trans (zu (x:=(List.range x.n.toNat).map (zjf x)) ?_) rfl
 refine mq (fun F s acc=>ym N x F (s:Int) acc) x.n.toNat (fun s acc=>acc=(List.range s).map (zjf x)) _ (fun F s acc g hacc=> .inr ?_) (fun F acc hacc=>?_) N 0 [] (Nat.zero_le _) (by omega) rfl
 ·subst hacc
  refine⟨_,rfl,?_⟩
  simp only [ym]
  rw [bq (by omega),zu (zyb a b (by omega)),zi ⟨by simp;omega,by simp;omega⟩,zi (ja (by omega)),z7x];rfl
 ·subst hacc
  simp only [ym]
  rw [yz (by omega)]
end GV
end Go.Proofs.YtkkcidhcfkmbjaaGreatDoor

namespace Go.Proofs.YtkkcidhcfkmbjaaGreatDoor
namespace GV
set_option maxRecDepth 100000
def toA(e:BE):Sb:=⟨(e.st:Int),e.par,e.inp⟩
def z6d(n:Nat)(All:List BE):List Bool:=(List.range n).map fun s=>occ All s
theorem z3y(n:Nat)(All:List BE):(z6d n All).length=n:=by simp [z6d]
theorem za8{n:Nat}{All:List BE}{t:Nat}(h:t<n):(z6d n All).getD t default=occ All t:=by
 simp [z6d,List.getD_eq_getElem?_getD,h]
theorem zkz(All:List BE)(e:BE)(t:Nat):occ (All++[e]) t=(occ All t||decide (e.st=t)):=by simp [occ]
theorem zi6{n:Nat}{All:List BE}{e:BE}(h:e.st<n):(z6d n All).set e.st true=z6d n (All++[e]):=by
 refine z15 (by rw [List.length_set,z3y,z3y]) fun k a=>?_
 rw [List.length_set,z3y] at a
 rw [za8 a,zkz,List.getD_eq_getElem?_getD,List.getElem?_set]
 by_cases hek:e.st=k
 ·subst hek
  rw [if_pos rfl,z3y,if_pos h];simp
 ·rw [if_neg hek,←List.getD_eq_getElem?_getD,za8 a];simp [hek]
theorem zv1{n:Nat}{All:List BE}{t:Int}(a:0≤t)(h:t<n):ix (z6d n All) t=occ All t.toNat:=by
 rw [zxm,za8 (by omega)]
theorem zdv{All:List BE}{p:Nat}(a:p<All.length):ix ((All.drop p).map toA) 0=toA (All.getD p default):=by
 rw [zdy All p a];rfl
theorem zpw{All:List BE}{p:Nat}:cut ((All.drop p).map toA) 1 (((All.drop p).map toA).length:Int)=(All.drop (p+1)).map toA:=by
 unfold cut
 rw [Int.toNat_natCast,show (1:Int).toNat=1 from rfl,←List.map_drop,List.drop_drop,List.take_of_length_le (by simp only [List.length_map,List.length_drop];omega)]
theorem zw4{N:Nat}{m:Mach}(a:MOk m)(t:200≤N){σ:Type}{s0 p:Nat}{All:List BE}(h:Inv m s0 p 0 All)(b:p<All.length)(s:σ):
 yu N σ m ((All.drop p).map toA) N s 0 (z6d m.rows.length All) ((All.drop (p+1)).map toA)=some (.go (s,z6d m.rows.length (jo m (All.getD p default) All m.inputs.toNat),((jo m (All.getD p default) All m.inputs.toNat).drop (p+1)).map toA)):=by
 have hi1:=a.i1
 have hi2:=a.i2
 have l:=h.rng p b
 have hrow:=a.row _ l
 refine mq (σ:=List Bool×List Sb) (fun F k st=>yu N σ m ((All.drop p).map toA) F s (k:Int) st.1 st.2) m.inputs.toNat
  (fun k st=>st=(z6d m.rows.length (jo m (All.getD p default) All k),((jo m (All.getD p default) All k).drop (p+1)).map toA)) _ (fun F k st n hi=>?_) (fun F st hi=>?_) N 0 _ (Nat.zero_le _) (by omega) rfl
 ·subst hi
  right
  refine⟨_,rfl,?_⟩
  have hinv:=z8j a h b k (by omega)
  have hpre:=ah m (All.getD p default) All k
  have o:p<(jo m (All.getD p default) All k).length:=by have:=hpre.length_le;omega
  have hlen:=z4v hinv
  have q:=a.r2
  simp only [yu,zdv b]
  simp only [show ∀ e:BE,(toA e).fF=(e.st:Int) from fun _=>rfl,pg]
  rw [bq (by omega)]
  refine(zu (x:=(s,z6d m.rows.length (jo m (All.getD p default) All (k+1)),((jo m (All.getD p default) All (k+1)).drop (p+1)).map toA)) ?_).trans ?_
  ·rw [zi (j3 (by omega))]
   have f:((m.rows.getD (All.getD p default).st default).getD k default).to=ed m (All.getD p default).st k:=rfl
   rw [f]
   have g:=z2a a l n
   have i:jo m (All.getD p default) All (k+1)=push m (All.getD p default) (jo m (All.getD p default) All k) k:=rfl
   rw [i]
   unfold push
   by_cases h1:ed m (All.getD p default).st k= -1
   ·rw [if_pos h1,zi (by rw [h1];simp),h1];rfl
   ·obtain⟨c,j⟩:=g.resolve_left h1
    rw [if_neg h1,zi (fun _=>⟨c,by rw [z3y];exact j⟩),zv1 c j]
    by_cases d:occ (jo m (All.getD p default) All k) (ed m (All.getD p default).st k).toNat=true
    ·rw [if_pos d,d]
     rw [cf (by simp)]
    ·have h4':=Bool.eq_false_iff.2 d
     have hfit:fits 24 (((jo m (All.getD p default) All k).drop (p+1)).map toA) ([⟨ed m (All.getD p default).st k,((All.getD p default).st:Int),(k:Int)⟩]:List Sb):=by
      have:(((jo m (All.getD p default) All k).drop (p+1)).map toA).length≤64:=by rw [List.length_map,List.length_drop];omega
      exact⟨by simp only [List.length_singleton];omega,by simp only [List.length_singleton];omega⟩
     have r:((jo m (All.getD p default) All k).drop (p+1)).map toA++[(⟨ed m (All.getD p default).st k,((All.getD p default).st:Int),(k:Int)⟩:Sb)]=((jo m (All.getD p default) All k++[(⟨(ed m (All.getD p default).st k).toNat,((All.getD p default).st:Int),(k:Int),(All.getD p default).wd++[(k:Int)]⟩:BE)]).drop (p+1)).map toA:=by
      rw [List.drop_append_of_le_length (by omega),List.map_append]
      congr 1
      show [_]=[_]
      simp only [toA,Int.toNat_of_nonneg c]
     rw [if_neg d,ct (by rw [decide_eq_true h1,h4'];rfl),zi ⟨c,by rw [z3y];exact j⟩,zi hfit]
     exact congrArg some (Prod.ext rfl (Prod.ext (zi6 (e:=⟨(ed m (All.getD p default).st k).toNat,((All.getD p default).st:Int),(k:Int),(All.getD p default).wd++[(k:Int)]⟩) (by show (ed m _ _).toNat<_;omega)) r))
  ·rw [zi (ja (by omega))];rfl
 ·subst hi
  simp only [yu,zdv b]
  simp only [show ∀ e:BE,(toA e).fF=(e.st:Int) from fun _=>rfl,pg]
  rw [yz (by omega)]
theorem z9w{m:Mach}{g p:Nat}{All:List BE}(h: ¬p<All.length):bfs m g p All=All:=by
 cases g with
 |zero=>rfl
 |succ g=>unfold bfs;rw [if_neg h]
theorem zov{N:Nat}{m:Mach}(a:MOk m)(c:200≤N){σ:Type}{s0:Nat}(B:Sb→σ→Option (Bool×σ))(f:Nat→σ): ∀ (g p F:Nat) (All:List BE),p+g=m.rows.length→p≤All.length→Inv m s0 p 0 All→g<F→
 (∀ k,p≤k→k<(bfs m g p All).length→B (toA ((bfs m g p All).getD k default)) (f k)=some (true,f (k+1)))→
 dh N σ B m F (f p) (z6d m.rows.length All) ((All.drop p).map toA)=some (f (bfs m g p All).length)
 |g,p,0,All,_,_,_,i,_=>by omega
 |g,p,F+1,All,o,j,h,i,b=>by
  simp only [dh]
  by_cases hp:p<All.length
  ·have hlen:=z4v h
   obtain⟨g',rfl⟩: ∃ g',g=g'+1:=⟨g-1,by omega⟩
   have hbfs:bfs m (g'+1) p All=bfs m g' (p+1) (jo m (All.getD p default) All m.inputs.toNat):=by
    show (if p<All.length then _ else _)=_
    rw [if_pos hp]
   have l:((All.drop p).map toA).length=All.length-p:=by simp
   have hget:(bfs m (g'+1) p All).getD p default=All.getD p default:=z9t (zf4 m _ p All) hp
   have d:=(zf4 m (g'+1) p All).length_le
   have e:=b p (Nat.le_refl _) (by omega)
   rw [hget] at e
   refine(zu (x:=(Ex.go (f (p+1),z6d m.rows.length (jo m (All.getD p default) All m.inputs.toNat),((jo m (All.getD p default) All m.inputs.toNat).drop (p+1)).map toA):Ex (σ×List Bool×List Sb) σ)) ?_).trans ?_
   ·rw [bq (by omega),zi ⟨by omega,by omega⟩,zi ⟨by omega,by omega,by omega⟩,zdv hp,zu (show B ⟨(toA (All.getD p default)).fF,(toA (All.getD p default)).fQ,(toA (All.getD p default)).fG⟩ (f p)=some (true,f (p+1)) from e)]
    simp only [Bool.not_true,cond_false]
    rw [zi (show okI m.rows (toA (All.getD p default)).fF from j3 (h.rng p hp)),zpw]
    exact zw4 a c h hp _
   ·rw [zh0]
    have hpre:=(ah m (All.getD p default) All m.inputs.toNat).length_le
    rw [hbfs] at b⊢
    exact zov a c B f g' (p+1) F _ (by omega) (by omega) (zbo (z8j a h hp _ (Nat.le_refl _)) (by omega)) (by omega) fun k q hk'=>b k (by omega) hk'
  ·have n:p=All.length:=by omega
   have l:((All.drop p).map toA).length=0:=by simp;omega
   rw [yz (by omega),zkt,zyw,z9w hp,←n]
theorem zyk{N:Nat}{m:Mach}(b:MOk m)(d:200≤N){σ:Type}{s0:Nat}(c:s0<m.rows.length)(B:Sb→σ→Option (Bool×σ))(f:Nat→σ)
 (g: ∀ k,k<(rch m s0).length→B (toA ((rch m s0).getD k default)) (f k)=some (true,f (k+1))):rq N m (s0:Int) σ B (f 0)=some (f (rch m s0).length):=by
 have h:=b.r2
 have i:=b.r1
 unfold rq
 rw [zi ⟨by omega,by omega,by omega⟩,zb5,zi (j3 (by rw [List.length_replicate];exact c)),z1p]
 have:=zov (N:=N) b d B f m.rows.length 0 N [⟨s0,-1,-1,[]⟩] (by omega) (Nat.zero_le _) (zcu c) (by omega) (fun k _ a=>g k a)
 have e:(List.replicate m.rows.length false).set s0 true=z6d m.rows.length [⟨s0,-1,-1,[]⟩]:=by
  have:=zi6 (n:=m.rows.length) (All:=[]) (e:=⟨s0,-1,-1,[]⟩) c
  rw [List.nil_append] at this
  rw [←this]
  congr 1
  refine z15 (by rw [List.length_replicate,z3y]) fun k a=>?_
  rw [List.length_replicate] at a
  rw [za8 a]
  simp [List.getD_eq_getElem?_getD,a,occ]
 rw [e]
 exact this
end GV
end Go.Proofs.YtkkcidhcfkmbjaaGreatDoor

namespace Go.Proofs.YtkkcidhcfkmbjaaGreatDoor
namespace GV
set_option maxRecDepth 100000
def wdOf(P:List BE)(t:Nat):List Int:=((P.find? fun e=>decide (e.st=t)).map (·.wd)).getD []
theorem zqh(P:List BE)(e:BE)(t:Nat):wdOf (P++[e]) t=if occ P t=true then wdOf P t else if e.st=t then e.wd else []:=by
 unfold wdOf occ
 rw [List.find?_append]
 by_cases h:(P.any fun e=>decide (e.st=t))=true
 ·rw [if_pos h]
  obtain⟨x,a,b⟩:=List.any_eq_true.1 h
  cases hf:P.find? (fun e=>decide (e.st=t)) with
  |none=>exact absurd b (by simpa using List.find?_eq_none.1 hf x a)
  |some y=>rfl
 ·rw [if_neg h]
  have c:P.find? (fun e=>decide (e.st=t))=none:=List.find?_eq_none.2 fun x a b=>h (List.any_eq_true.2 ⟨x,a,b⟩)
  rw [c]
  by_cases he:e.st=t
  ·simp [he]
  ·simp [he]
theorem zbd(P:List BE)(k:Nat)(h:k<P.length):P.take (k+1)=P.take k++[P.getD k default]:=by
 rw [List.take_add_one];simp [List.getD_eq_getElem?_getD,h]
section rch
variable {m : Mach} {s0 : Nat} {P : List BE}
theorem Rch.find(h:Rch m s0 P){j:Nat}: ∀ k,k≤P.length→j<k→wdOf (P.take k) (P.getD j default).st=(P.getD j default).wd
 |0,_,c=>by omega
 |k+1,f,c=>by
  rw [zbd P k (by omega),zqh]
  by_cases e:j=k
  ·subst e
   have a:occ (P.take j) (P.getD j default).st=false:=by
    cases hc:occ (P.take j) (P.getD j default).st with
    |false=>rfl
    |true=>
     obtain⟨i,hi,b⟩:=z4f.1 hc
     rw [List.length_take] at hi
     have d:(P.take j).getD i default=P.getD i default:=by simp only [List.getD_eq_getElem?_getD,List.getElem?_take,if_pos (show i<j by omega)]
     rw [d] at b
     have:=h.dis i j (by omega) (by omega) b
     omega
   rw [a,if_neg (by decide),if_pos rfl]
  ·have ih:=Rch.find h k (by omega) (show j<k by omega)
   have a:occ (P.take k) (P.getD j default).st=true:=z4f.2 ⟨j,by rw [List.length_take];omega,by simp only [List.getD_eq_getElem?_getD,List.getElem?_take,if_pos (show j<k by omega)]⟩
   rw [if_pos a,ih]
theorem Rch.fresh(h:Rch m s0 P){k:Nat}(b:k<P.length):occ (P.take k) (P.getD k default).st=false:=by
 cases hc:occ (P.take k) (P.getD k default).st with
 |false=>rfl
 |true=>
  obtain⟨i,hi,a⟩:=z4f.1 hc
  rw [List.length_take] at hi
  have c:(P.take k).getD i default=P.getD i default:=by simp only [List.getD_eq_getElem?_getD,List.getElem?_take,if_pos (show i<k by omega)]
  rw [c] at a
  have:=h.dis i k (by omega) b a
  omega
theorem Rch.wdOf(h:Rch m s0 P){j:Nat}(a:j<P.length):wdOf P (P.getD j default).st=(P.getD j default).wd:=by
 have:=h.find P.length (Nat.le_refl _) a
 rwa [List.take_length] at this
end rch
theorem zix{N:Nat}{s:List Int}:il N s=some s:=by
 unfold il
 rw [zi (zf2 s),zew]
end GV
end Go.Proofs.YtkkcidhcfkmbjaaGreatDoor

namespace Go.Proofs.YtkkcidhcfkmbjaaGreatDoor
namespace GV
set_option maxRecDepth 100000
end GV
end Go.Proofs.YtkkcidhcfkmbjaaGreatDoor

namespace Go.Proofs.YtkkcidhcfkmbjaaGreatDoor
namespace GV
set_option maxRecDepth 100000
theorem zb7{N:Nat}{m:Mach}(a:MOk m)(b:200≤N):yg N m=some 0:=by rw [zfm a.small b,(zb1 m).2 a]
def z4o(P:List BE):List Int:=P.map fun e=>(e.st:Int)
theorem z6g{N:Nat}{m:Mach}(c:MOk m)(f:200≤N):su N m=some (z4o (rch m 0)):=by
 have g:=c.r1
 have h:=c.r2
 have d:=z8i c (s0:=0) (by omega)
 generalize hPe:rch m 0=P at d⊢
 have hple:=d.le
 unfold su
 rw [zu (show z3f N m 0=some (m,0) from rfl)]
 have key:=zyk (N:=N) c f (s0:=0) (by omega) (σ:=List Int) (fun a b=>
  gd (fits 8 b ([a.fF]:List Int))<|
  some (true,(b++([a.fF]:List Int)))) (fun k=>z4o (P.take k)) (fun k e=>?_)
 ·rw [zu (show rq N m 0 (List Int) _ ([]:List Int)=_ from key),hPe,List.take_length]
 ·rw [hPe] at e⊢
  have hfit:fits 8 (z4o (P.take k)) ([((P.getD k default).st:Int)]:List Int):=by
   have:(z4o (P.take k)).length≤64:=by unfold z4o;rw [List.length_map,List.length_take];omega
   exact⟨by simp only [List.length_singleton];omega,by simp only [List.length_singleton];omega⟩
  show gd (fits 8 (z4o (P.take k)) ([((P.getD k default).st:Int)]:List Int)) (some (true,(z4o (P.take k)++([((P.getD k default).st:Int)]:List Int))))=_
  rw [zi hfit,zbd P k e]
  unfold z4o
  rw [List.map_append];rfl
theorem zqf{N:Nat}{l:List Int}(d:l.length<N)(e:l.length≤1000000){σ:Type}(B:Int→σ→Option (Bool×σ))(f:Nat→σ)(c: ∀ k,k<l.length→B (l.getD k default) (f k)=some (true,f (k+1))):iq N l σ B (f 0)=some (f l.length):=by
 unfold iq
 refine mq (σ:=σ) (fun F k s=>yf N σ B l F s (k:Int)) l.length (fun k s=>s=f k) _ (fun F k s a hi=>?_) (fun F s hi=>?_) N 0 (f 0) (Nat.zero_le _) (by omega) rfl
 ·subst hi
  right
  refine⟨_,rfl,?_⟩
  simp only [yf]
  rw [bq (by omega),zi (j3 a),pg]
  refine(zu (c k a)).trans ?_
  refine(cf (b:= !(true,f (k+1)).1) rfl).trans ?_
  exact zi (ja (by omega))
 ·subst hi
  simp only [yf]
  rw [yz (by omega)]
theorem zr8{N:Nat}{s l:List Int}(c:l.length<N)(e:s.length+l.length≤1000000):p9 N s l=some (s++l):=by
 unfold p9
 have key:=zqf (N:=N) c (by omega) (fun a b=>
  gd (fits 8 b ([a]:List Int))<|
  some (true,(b++([a]:List Int)))) (fun k=>s++l.take k) (fun k d=>?_)
 ·rw [List.take_zero,List.append_nil,List.take_length] at key
  rw [zu key]
 ·have hfit:fits 8 (s++l.take k) ([l.getD k default]:List Int):=by
   have:(s++l.take k).length≤1000000:=by rw [List.length_append,List.length_take];omega
   exact⟨by simp only [List.length_singleton];omega,by simp only [List.length_singleton];omega⟩
  rw [zi hfit,zqi l k d,List.append_assoc]
theorem zqs{N:Nat}{l:List Int}(a:l.length<N)(b:0<l.length)(d:l.length≤1000000):z03 N l=some (z2c l):=by
 unfold z03 z05
 rw [zu (show (bd (p9 N [] l) fun c=>some c)=some l from by rw [zu (zr8 a (by simp;omega))];rfl)]
 unfold slices_Sort_int
 rw [zi ⟨b,by omega⟩];rfl
theorem zsh{N:Nat}{m:Mach}(a:MOk m)(b:200≤N):z2u N m=some (z2c (z4o (rch m 0)),0):=by
 have d:=a.r1
 have e:=a.r2
 have c:=z8i a (s0:=0) (by omega)
 have g:(z4o (rch m 0)).length=(rch m 0).length:=by simp [z4o]
 have f:=c.le
 have hpos:=c.pos
 unfold z2u
 rw [zu (zb7 a b),yz (by simp),zu (z6g a b),zu (show z1g N _=some _ from rfl),zu (zqs (by omega) (by omega) (by omega)),zu zix]
def zvl(n:Nat)(P:List BE):List Int:=((List.range n).filter fun s=>occ P s).map fun s=>((s:Nat):Int)
theorem znm(n:Nat)(P:List BE):(zvl n P).Pairwise (· ≤ ·):=by
 unfold zvl
 rw [List.pairwise_map]
 exact((List.pairwise_lt_range (n:=n)).filter _).imp fun h=>by omega
theorem zua{m:Mach}{s0:Nat}{P:List BE}(h:Rch m s0 P):z2c (z4o P)=zvl m.rows.length P:=by
 refine z5l ((zbj _).trans ?_) (zcn _) (znm _ _)
 unfold z4o zvl
 have e:(P.map fun e=>(e.st:Int))=(P.map (·.st)).map fun s=>((s:Nat):Int):=by rw [List.map_map];rfl
 rw [e]
 refine List.Perm.map _ ?_
 have d:(P.map (·.st)).Nodup:=by
  rw [List.nodup_iff_pairwise_ne,List.pairwise_iff_getElem]
  intro i j hi b g e
  rw [List.length_map] at hi b
  rw [List.getElem_map,List.getElem_map] at e
  have:=h.dis i j hi b (by simpa [List.getD_eq_getElem?_getD,b,hi] using e)
  omega
 have c:((List.range m.rows.length).filter fun s=>occ P s).Nodup:=List.Pairwise.filter _ List.nodup_range
 rw [List.perm_ext_iff_of_nodup d c]
 intro a
 rw [List.mem_map,List.mem_filter,List.mem_range,z4f]
 constructor
 ·rintro⟨x,k,rfl⟩
  obtain⟨j,b,rfl⟩:=List.mem_iff_getElem.1 k
  have f:P.getD j default=P[j]:=by simp [List.getD_eq_getElem?_getD,b]
  exact⟨by rw [←f];exact h.rng j b,j,b,by rw [f]⟩
 ·rintro⟨_,j,b,rfl⟩
  exact⟨_,z0i b,rfl⟩
end GV
end Go.Proofs.YtkkcidhcfkmbjaaGreatDoor

namespace Go.Proofs.YtkkcidhcfkmbjaaGreatDoor
namespace GV
set_option maxRecDepth 1000000
end GV
end Go.Proofs.YtkkcidhcfkmbjaaGreatDoor

namespace Go.Proofs.YtkkcidhcfkmbjaaGreatDoor
namespace GV
set_option maxRecDepth 100000
end GV
end Go.Proofs.YtkkcidhcfkmbjaaGreatDoor

namespace Go.Proofs.YtkkcidhcfkmbjaaGreatDoor
namespace GV
set_option maxRecDepth 100000
def pos(L:List Nat)(t:Int):Int:=if t= -1 then-1 else(L.idxOf t.toNat:Int)
def rowP(m:Mach)(L:List Nat)(s:Nat):List Edge:=(m.rows.getD s default).map fun e=>⟨pos L e.to,e.out⟩
def ng(m:Mach)(L:List Nat):Mach:=⟨m.inputs,m.outputs,L.map (rowP m L)⟩
structure ClosedP (m:Mach) (L:List Nat):Prop where
 rng: ∀ s∈L,s<m.rows.length
 nd:L.Nodup
 cl: ∀ s∈L,∀ i,i<m.inputs.toNat→ed m s i≠ -1→(ed m s i).toNat∈L
 ne:L≠[]
theorem z4g{L:List Nat}{k:Nat}(a:L.Nodup)(b:k<L.length):L.idxOf (L.getD k 0)=k:=by
 have:L.getD k 0=L[k]:=by simp [List.getD_eq_getElem?_getD,b]
 rw [this]
 exact a.idxOf_getElem k b
theorem z4d{L:List Nat}{t:Nat}(h:t∈L):L.idxOf t<L.length∧L.getD (L.idxOf t) 0=t:=by
 have a:=List.idxOf_lt_length_iff.2 h
 refine⟨a,?_⟩
 simp [List.getD_eq_getElem?_getD,a]
section
variable {m : Mach} {L : List Nat}
theorem ClosedP.len(a:ClosedP m L):L.length≤m.rows.length:=by
 have:=List.Nodup.length_le_of_subset a.nd (l₂:=List.range m.rows.length) (fun x b=>List.mem_range.2 (a.rng x b))
 simpa using this
theorem z7n{k:Nat}(a:k<L.length):(ng m L).rows.getD k default=rowP m L (L.getD k 0):=by
 unfold ng
 simp [List.getD_eq_getElem?_getD,a]
theorem z7s(a:MOk m){s:Nat}(b:s<m.rows.length):(rowP m L s).length=m.inputs.toNat:=by
 unfold rowP
 have:=a.row s b
 rw [List.length_map];omega
theorem z7u(a:MOk m){s i:Nat}(b:s<m.rows.length)(hi:i<m.inputs.toNat):(rowP m L s).getD i default=⟨pos L (ed m s i),((m.rows.getD s default).getD i default).out⟩:=by
 have:=a.row s b
 unfold rowP ed
 simp only [List.getD_eq_getElem?_getD,List.getElem?_map]
 rw [←List.getD_eq_getElem?_getD,List.getElem?_eq_getElem (show i<(m.rows.getD s default).length by omega)]
 rfl
theorem zxu(d:MOk m)(b:ClosedP m L){s i:Nat}(c:s∈L)(hi:i<m.inputs.toNat):pos L (ed m s i)= -1∧ed m s i= -1∨(0≤pos L (ed m s i)∧pos L (ed m s i)<L.length∧0≤ed m s i∧L.getD (pos L (ed m s i)).toNat 0=(ed m s i).toNat):=by
 unfold pos
 rcases z2a d (b.rng s c) hi with h|⟨e,g⟩
 ·left;rw [if_pos h];exact⟨rfl,h⟩
 ·right
  have a:ed m s i≠ -1:=by omega
  obtain⟨j,f⟩:=z4d (b.cl s c i hi a)
  rw [if_neg a]
  exact⟨by omega,by omega,e,by rw [Int.toNat_natCast];exact f⟩
theorem zkf(a:MOk m)(c:ClosedP m L):MOk (ng m L):=by
 have hlen:=c.len
 have l:=a.r2
 have e:(ng m L).rows.length=L.length:=by simp [ng]
 have hpos:0<L.length:=List.length_pos_iff.2 c.ne
 have hmem: ∀ k,k<L.length→L.getD k 0∈L:=fun k n=>by simp [List.getD_eq_getElem?_getD,n]
 refine⟨a.i1,a.i2,a.o1,a.o2,by omega,by omega,fun s b=>?_,fun s i b hi=>?_⟩
 ·rw [e] at b
  rw [z7n b,z7s a (c.rng _ (hmem s b))]
  have:=a.i1
  show _=m.inputs
  omega
 ·rw [e] at b
  rw [z7n b] at hi⊢
  have d:=c.rng _ (hmem s b)
  rw [z7s a d] at hi
  rw [z7u a d hi]
  have h:=a.edge _ i d (by have:=a.row _ d;omega)
  rcases zxu a c (hmem s b) hi with⟨f,j⟩|⟨f,j,q,_⟩
  ·rcases h with⟨_,g⟩|⟨o,_⟩
   ·left;exact⟨f,g⟩
   ·exfalso
    have:ed m (L.getD s 0) i=((m.rows.getD (L.getD s 0) default).getD i default).to:=rfl
    omega
  ·rcases h with⟨o,_⟩|⟨_,_,g,p⟩
   ·exfalso
    have:ed m (L.getD s 0) i=((m.rows.getD (L.getD s 0) default).getD i default).to:=rfl
    omega
   ·right
    exact⟨f,by rw [e];exact j,g,p⟩
theorem zql(b:MOk m)(c:ClosedP m L){s:Int}(a:s= -1∨(0≤s∧s.toNat∈L)){i:Int}(hi:0≤i∧i<m.inputs):
 vk (ng m L) (pos L s) i=⟨pos L (vk m s i).to,(vk m s i).out⟩∧((vk m s i).to= -1∨(0≤(vk m s i).to∧(vk m s i).to.toNat∈L)):=by
 rcases a with rfl|⟨k,a⟩
 ·exact⟨rfl,.inl rfl⟩
 ·obtain⟨e,f⟩:=z4d a
  have g:pos L s=(L.idxOf s.toNat:Int):=by unfold pos;rw [if_neg (by omega)]
  have hi':i.toNat<m.inputs.toNat:=by omega
  have d:=c.rng _ a
  unfold vk
  rw [g,if_neg (by omega),if_neg (by omega),Int.toNat_natCast,z7n e,f,z7u b d hi']
  refine⟨rfl,?_⟩
  show ed m s.toNat i.toNat= -1∨(0≤ed m s.toNat i.toNat∧(ed m s.toNat i.toNat).toNat∈L)
  rcases z2a b d hi' with h|⟨j,_⟩
  ·exact .inl h
  ·exact .inr ⟨j,c.cl _ a _ hi' (by omega)⟩
theorem zbw(a:MOk m)(b:ClosedP m L): ∀ (w:List Int) {s:Int},(s= -1∨(0≤s∧s.toNat∈L))→WOk m.inputs w→z0f (ng m L) (pos L s) w=z0f m s w∧aftL (ng m L) (pos L s) w=pos L (aftL m s w)
 | [],s,c,_=>⟨rfl,rfl⟩
 |i::w,s,c,d=>by
  have hi:=d 0 (by simp)
  obtain⟨e,f⟩:=zql a b c (i:=i) hi
  have hw':WOk m.inputs w:=fun k g=>d (k+1) (by simpa using g)
  obtain⟨h,j⟩:=zbw a b w f hw'
  refine⟨?_,?_⟩
  ·show (vk (ng m L) (pos L s) i).out::z0f (ng m L) (vk (ng m L) (pos L s) i).to w=_
   rw [e,h];rfl
  ·show aftL (ng m L) (vk (ng m L) (pos L s) i).to w=_
   rw [e,j];rfl
end
/-! ### The program's part-/
theorem zdq{M:List (Int×Int)}{k v z t:Int}:ai z (z1q M k v) t=if t=k then v else ai z M t:=by
 induction M with
 |nil=>simp [z1q,ai]
 |cons p l ih=>
  unfold z1q
  by_cases h:k=p.1
  ·rw [if_pos h]
   simp only [ai]
   by_cases ht:t=k
   ·rw [if_pos ht,if_pos ht]
   ·rw [if_neg ht,if_neg ht,if_neg (by rw [←h];exact ht)]
  ·rw [if_neg h]
   simp only [ai]
   by_cases ht:t=p.1
   ·rw [if_pos ht,if_neg (by rw [ht];exact fun e=>h e.symm),if_pos ht]
   ·rw [if_neg ht,ih,if_neg ht]
def z02(L:List Nat):List Int:=L.map fun s=>((s:Nat):Int)
theorem lw(L:List Nat):(z02 L).length=L.length:=by simp [z02]
theorem z5f{L:List Nat}{k:Nat}(a:k<L.length):ix (z02 L) (k:Int)=((L.getD k 0:Nat):Int):=by
 rw [pg]
 simp [z02,List.getD_eq_getElem?_getD,a]
theorem z5x{α:Type}[Inhabited α](P:List α)(k:Nat)(h:k<P.length):P.take (k+1)=P.take k++[P.getD k default]:=by
 rw [List.take_add_one];simp [List.getD_eq_getElem?_getD,h]
theorem zir{α:Type}{X:List α}{n k:Nat}{z y:α}(a:X.length=k)(b:k<n):(X++List.replicate (n-k) z).set k y=(X++[y])++List.replicate (n-(k+1)) z:=by
 rw [show n-k=(n-(k+1))+1 by omega,List.replicate_succ,List.set_append_right _ _ (by omega),a,Nat.sub_self]
 simp
theorem zje{N:Nat}{m:Mach}{L:List Nat}(d:MOk m)(f:ClosedP m L)(I:200≤N):z09 N m (z02 L)=some (ng m L):=by
 have hlen:=f.len
 have A:=d.r2
 have hi1:=d.i1
 have hi2:=d.i2
 have hmem: ∀ k,k<L.length→L.getD k 0∈L:=fun k a=>by simp [List.getD_eq_getElem?_getD,a]
 unfold z09
 obtain⟨M,B,l⟩: ∃ M,oo N (z02 L) N 0 (z1q ([]:List (Int×Int)) (-1) (-1))=some M∧(ai 0 M (-1)= -1∧ ∀ j,j<L.length→ai 0 M ((L.getD j 0:Nat):Int)=(j:Int)):=by
  refine z9q (σ:=List (Int×Int)) (fun F k st=>oo N (z02 L) F (k:Int) st) L.length (fun k st=>ai 0 st (-1)= -1∧ ∀ j,j<k→ai 0 st ((L.getD j 0:Nat):Int)=(j:Int)) _ (fun F k st a hi=>?_) (fun F st hi=>?_) N 0 _ (Nat.zero_le _) (by omega) ⟨by rw [zdq,if_pos rfl],fun j C=>by omega⟩
  ·right
   refine⟨z1q st ((L.getD k 0:Nat):Int) (k:Int),⟨by rw [zdq,if_neg (by omega)];exact hi.1,fun j C=>?_⟩,?_⟩
   ·rw [zdq]
    by_cases e:j=k
    ·subst e;rw [if_pos rfl]
    ·rw [if_neg,hi.2 j (by omega)]
     intro J
     have p:=z4g f.nd (show j<L.length by omega)
     have y:=z4g f.nd a
     rw [show L.getD j 0=L.getD k 0 by omega,y] at p
     omega
   ·simp only [oo,z5f a]
    rw [bq (by rw [lw];omega),zi (j3 (by rw [lw];exact a)),zi (ja (by omega))];rfl
  ·refine⟨st,?_,hi⟩
   simp only [oo]
   rw [yz (by rw [lw];omega)]
 rw [zu B,lw,zi ⟨by omega,by omega,by omega⟩]
 have q: ∀ s∈L,∀ i,i<m.inputs.toNat→ai 0 M (ed m s i)=pos L (ed m s i):=fun s z i hi=>by
  unfold pos
  rcases z2a d (f.rng s z) hi with h|⟨p,y⟩
  ·rw [if_pos h,h];exact l.1
  ·have n:ed m s i≠ -1:=by omega
   obtain⟨D,E⟩:=z4d (f.cl s z i hi n)
   have:=l.2 _ D
   rw [E,Int.toNat_of_nonneg p] at this
   rw [if_neg n,this]
 have hrow: ∀ (k:Nat) (X:List (List Edge)),k<L.length→X.length=L.length→ow N m (z02 L) M (k:Int) N 0 (up X (k:Int) (mk m.inputs (⟨0,0⟩:Edge)))=some (X.set k (rowP m L (L.getD k 0))):=fun k X a r=>by
  have o:=f.rng _ (hmem k a)
  have G:=d.row _ o
  have t:=z7s (L:=L) d o
  refine mq (σ:=List (List Edge)) (fun F i st=>ow N m (z02 L) M (k:Int) F (i:Int) st) m.inputs.toNat (fun i st=>st=X.set k ((rowP m L (L.getD k 0)).take i++List.replicate (m.inputs.toNat-i) ⟨0,0⟩)) _ (fun F i st hi b=>?_) (fun F st b=>?_) N 0 _ (Nat.zero_le _) (by omega) (by rw [z1p];simp [mk])
  ·subst b
   right
   refine⟨_,rfl,?_⟩
   have H:(X.set k ((rowP m L (L.getD k 0)).take i++List.replicate (m.inputs.toNat-i) (⟨0,0⟩:Edge))).length=L.length:=by rw [List.length_set,r]
   have hget:ix (X.set k ((rowP m L (L.getD k 0)).take i++List.replicate (m.inputs.toNat-i) (⟨0,0⟩:Edge))) (k:Int)=(rowP m L (L.getD k 0)).take i++List.replicate (m.inputs.toNat-i) (⟨0,0⟩:Edge):=by
    rw [pg,List.getD_eq_getElem?_getD,List.getElem?_set,if_pos rfl,if_pos (by omega)];rfl
   have g:ix m.rows ((L.getD k 0:Nat):Int)=m.rows.getD (L.getD k 0) default:=pg _ _
   have u:(ix (m.rows.getD (L.getD k 0) default) (i:Int)).to=ed m (L.getD k 0) i:=by rw [pg];rfl
   simp only [ow,z5f a,g,u,hget]
   rw [bq (by omega),zi (j3 (by omega)),zi (j3 (by omega)),zu (show z5c N ⟨ed m (L.getD k 0) i,(ix (m.rows.getD (L.getD k 0) default) (i:Int)).out⟩ M=some ⟨ai 0 M (ed m (L.getD k 0) i),(ix (m.rows.getD (L.getD k 0) default) (i:Int)).out⟩ from rfl)]
   rw [zi (j3 (by rw [List.length_append,List.length_take,List.length_replicate];omega)),zi (ja (by omega)),q _ (hmem k a) i hi]
   have c:((rowP m L (L.getD k 0)).take i).length=i:=by rw [List.length_take];omega
   have v:up (X.set k ((rowP m L (L.getD k 0)).take i++List.replicate (m.inputs.toNat-i) (⟨0,0⟩:Edge))) (k:Int) (up ((rowP m L (L.getD k 0)).take i++List.replicate (m.inputs.toNat-i) (⟨0,0⟩:Edge)) (i:Int) ⟨pos L (ed m (L.getD k 0) i),(ix (m.rows.getD (L.getD k 0) default) (i:Int)).out⟩)=X.set k ((rowP m L (L.getD k 0)).take (i+1)++List.replicate (m.inputs.toNat-(i+1)) ⟨0,0⟩):=by
    rw [z1p,z1p,List.set_set,zir c hi]
    rw [z5x _ _ (show i<(rowP m L (L.getD k 0)).length by omega),z7u d o hi,pg]
   rw [v];rfl
  ·subst b
   have g:ix m.rows ((L.getD k 0:Nat):Int)=m.rows.getD (L.getD k 0) default:=pg _ _
   simp only [ow,z5f a,g]
   rw [yz (by omega),Nat.sub_self,List.replicate_zero,List.append_nil,←t,List.take_length]
 have w:om N m (z02 L) M N 0 (mk (L.length:Int) ([]:List Edge))=some (L.map (rowP m L)):=by
  refine mq (σ:=List (List Edge)) (fun F k st=>om N m (z02 L) M F (k:Int) st) L.length (fun k st=>st=(L.map (rowP m L)).take k++List.replicate (L.length-k) []) _ (fun F k st a b=>?_) (fun F st b=>?_) N 0 _ (Nat.zero_le _) (by omega) (by rw [zb5];simp)
  ·subst b
   right
   refine⟨_,rfl,?_⟩
   have o:=f.rng _ (hmem k a)
   have c:((L.map (rowP m L)).take k).length=k:=by rw [List.length_take,List.length_map];omega
   have r:((L.map (rowP m L)).take k++List.replicate (L.length-k) ([]:List Edge)).length=L.length:=by rw [List.length_append,c,List.length_replicate];omega
   simp only [om,z5f a]
   rw [bq (by rw [lw];omega)]
   refine(zu (x:=(L.map (rowP m L)).take (k+1)++List.replicate (L.length-(k+1)) []) ?_).trans ?_
   ·rw [zi (j3 (by rw [lw];exact a)),zi ⟨by omega,by omega,by omega⟩,zi (j3 (by omega)),zi (j3 o),hrow k _ a r,zir c a]
    congr 2
    rw [List.take_add_one];simp [List.getD_eq_getElem?_getD,a]
   ·exact zi (ja (by omega))
  ·subst b
   simp only [om]
   rw [yz (by rw [lw];omega),Nat.sub_self,List.replicate_zero,List.append_nil,←(show (L.map (rowP m L)).length=L.length by simp),List.take_length]
 rw [zu w];rfl
end GV
end Go.Proofs.YtkkcidhcfkmbjaaGreatDoor

namespace Go.Proofs.YtkkcidhcfkmbjaaGreatDoor
namespace GV
set_option maxRecDepth 100000
end GV
end Go.Proofs.YtkkcidhcfkmbjaaGreatDoor

namespace Go.Proofs.YtkkcidhcfkmbjaaGreatDoor
namespace GV
set_option maxRecDepth 100000
theorem zkv{m:Mach}(a:MOk m){s0:Nat}: ∀ (g h p:Nat) (All:List BE),Inv m s0 p 0 All→m.rows.length≤p+g→m.rows.length≤p+h→bfs m g p All=bfs m h p All
 |0,h,p,All,hi,b,_=>by
  have:=z4v hi
  rw [z9w (g:=0) (by omega),z9w (g:=h) (by omega)]
 |g+1,0,p,All,hi,_,c=>by
  have:=z4v hi
  rw [z9w (g:=g+1) (by omega),z9w (g:=0) (by omega)]
 |g+1,h+1,p,All,hi,b,c=>by
  show (if p<All.length then _ else _)=(if p<All.length then _ else _)
  by_cases hp:p<All.length
  ·rw [if_pos hp,if_pos hp]
   have hpre:=(ah m (All.getD p default) All m.inputs.toNat).length_le
   exact zkv a g h (p+1) _ (zbo (z8j a hi hp _ (Nat.le_refl _)) (by omega)) (by omega) (by omega)
  ·rw [if_neg hp,if_neg hp]
def ren(L:List Nat)(e:BE):BE:=⟨L.idxOf e.st,pos L e.par,e.inp,e.wd⟩
theorem zop{L:List Nat}{a b:Nat}(c:a∈L)(d:b∈L)(h:L.idxOf a=L.idxOf b):a=b:=by
 have e:=(z4d c).2
 have f:=(z4d d).2
 rw [←e,h,f]
theorem z4b(L:List Nat)(t:Nat):pos L (t:Int)=(L.idxOf t:Int):=by
 unfold pos;rw [if_neg (by omega),Int.toNat_natCast]
theorem zec{f:Nat→Nat}: ∀ {K:List Nat} {a:Nat},(∀ b∈K,f b=f a→b=a)→(K.map f).idxOf (f a)=K.idxOf a
 | [],a,_=>rfl
 |b::K,a,h=>by
  rw [List.map_cons,List.idxOf_cons,List.idxOf_cons]
  by_cases e:b=a
  ·subst e;simp
  ·have:f b≠f a:=fun d=>e (h b (by simp) d)
   rw [beq_false_of_ne this,beq_false_of_ne e,zec (K:=K) (a:=a) (fun c g=>h c (by simp [g]))]
section
variable {m : Mach} {L : List Nat}
theorem zwl(b:MOk m)(c:ClosedP m L){s i:Nat}(a:s∈L)(hi:i<m.inputs.toNat):ed (ng m L) (L.idxOf s) i=pos L (ed m s i):=by
 obtain⟨d,e⟩:=z4d a
 show (((ng m L).rows.getD (L.idxOf s) default).getD i default).to=_
 rw [z7n d,e,z7u b (c.rng s a) hi]
theorem zvx{All:List BE}(c: ∀ e∈All,e.st∈L){t:Nat}(d:t∈L):occ (All.map (ren L)) (L.idxOf t)=occ All t:=by
 unfold occ
 rw [Bool.eq_iff_iff,List.any_eq_true,List.any_eq_true]
 constructor
 ·rintro⟨e,a,h⟩
  obtain⟨x,b,rfl⟩:=List.mem_map.1 a
  exact⟨x,b,decide_eq_true (zop (c x b) d (of_decide_eq_true h))⟩
 ·rintro⟨e,a,h⟩
  exact⟨ren L e,List.mem_map.2 ⟨e,a,rfl⟩,decide_eq_true (congrArg L.idxOf (of_decide_eq_true h))⟩
theorem ztt(j:MOk m)(f:ClosedP m L){x:BE}{All:List BE}(d: ∀ e∈All,e.st∈L)(g:x.st∈L){i:Nat}(hi:i<m.inputs.toNat):
 push (ng m L) (ren L x) (All.map (ren L)) i=(push m x All i).map (ren L)∧ ∀ e∈push m x All i,e.st∈L:=by
 have a:ed (ng m L) (ren L x).st i=pos L (ed m x.st i):=zwl j f g hi
 unfold push
 rw [a]
 rcases z2a j (f.rng _ g) hi with h|⟨l,n⟩
 ·rw [h,if_pos (show pos L (-1)= -1 from rfl),if_pos (show (-1:Int)= -1 from rfl)]
  exact⟨rfl,d⟩
 ·have b:ed m x.st i≠ -1:=by omega
  have c:=f.cl _ g i hi b
  have k:pos L (ed m x.st i)=((L.idxOf (ed m x.st i).toNat:Nat):Int):=by unfold pos;rw [if_neg b]
  rw [k,if_neg (show¬((L.idxOf (ed m x.st i).toNat:Nat):Int)= -1 by omega),if_neg b,Int.toNat_natCast,zvx d c]
  by_cases ho:occ All (ed m x.st i).toNat=true
  ·rw [if_pos ho,if_pos ho];exact⟨rfl,d⟩
  ·rw [if_neg ho,if_neg ho]
   refine⟨?_,fun e a=>?_⟩
   ·rw [List.map_append]
    congr 1
   ·rcases List.mem_append.1 a with a|a
    ·exact d e a
    ·rw [List.mem_singleton.1 a];exact c
theorem zef(a:MOk m)(b:ClosedP m L){x:BE}{All:List BE}(c: ∀ e∈All,e.st∈L)(d:x.st∈L): ∀ k,k≤m.inputs.toNat→
 jo (ng m L) (ren L x) (All.map (ren L)) k=(jo m x All k).map (ren L)∧ ∀ e∈jo m x All k,e.st∈L
 |0,_=>⟨rfl,c⟩
 |k+1,h=>by
  obtain⟨f,g⟩:=zef a b c d k (by omega)
  show push (ng m L) (ren L x) (jo (ng m L) (ren L x) (All.map (ren L)) k) k=(push m x (jo m x All k) k).map (ren L)∧ ∀ e∈push m x (jo m x All k) k,e.st∈L
  rw [f]
  exact ztt a b g d (by omega)
theorem zoa(a:MOk m)(b:ClosedP m L): ∀ (g p:Nat) (All:List BE),(∀ e∈All,e.st∈L)→bfs (ng m L) g p (All.map (ren L))=(bfs m g p All).map (ren L)
 |0,p,All,_=>rfl
 |g+1,p,All,c=>by
  show (if p<(All.map (ren L)).length then bfs (ng m L) g (p+1) (jo (ng m L) ((All.map (ren L)).getD p default) (All.map (ren L)) (ng m L).inputs.toNat) else All.map (ren L))=(if p<All.length then bfs m g (p+1) (jo m (All.getD p default) All m.inputs.toNat) else All).map (ren L)
  rw [List.length_map]
  by_cases hp:p<All.length
  ·rw [if_pos hp,if_pos hp]
   have e:(All.map (ren L)).getD p default=ren L (All.getD p default):=by simp [List.getD_eq_getElem?_getD,hp]
   have d:=c _ (z0i hp)
   obtain⟨f,h⟩:=zef a b c d m.inputs.toNat (Nat.le_refl _)
   rw [e,show (ng m L).inputs.toNat=m.inputs.toNat from rfl,f]
   exact zoa a b g (p+1) _ h
  ·rw [if_neg hp,if_neg hp]
theorem zde:(ng m L).rows.length=L.length:=by simp [ng]
theorem zp1(b:MOk m)(a:ClosedP m L){s0:Nat}(c:s0∈L):rch (ng m L) (L.idxOf s0)=(rch m s0).map (ren L):=by
 have d:=zde (m:=m) (L:=L)
 obtain⟨f,h⟩:=z4d c
 have hlen:=a.len
 have hroot:=zcu (m:=ng m L) (s0:=L.idxOf s0) (by rw [d];exact f)
 unfold rch
 rw [zkv (zkf b a) (ng m L).rows.length m.rows.length 0 _ hroot (by omega) (by omega)]
 exact zoa b a m.rows.length 0 [⟨s0,-1,-1,[]⟩] (fun e g=>by rw [List.mem_singleton.1 g];exact c)
theorem zln(k:MOk m){K:List Nat}(g:ClosedP m K)(a: ∀ s∈K,s∈L):ng (ng m L) (K.map fun s=>L.idxOf s)=ng m K:=by
 show Mach.mk m.inputs m.outputs ((K.map fun s=>L.idxOf s).map (rowP (ng m L) (K.map fun s=>L.idxOf s)))=Mach.mk m.inputs m.outputs (K.map (rowP m K))
 congr 1
 rw [List.map_map]
 refine List.map_congr_left fun s d=>?_
 show rowP (ng m L) (K.map fun s=>L.idxOf s) (L.idxOf s)=rowP m K s
 obtain⟨n,o⟩:=z4d (a s d)
 show ((ng m L).rows.getD (L.idxOf s) default).map (fun e=>(⟨pos (K.map fun s=>L.idxOf s) e.to,e.out⟩:Edge))=_
 rw [z7n n,o]
 unfold rowP
 rw [List.map_map]
 refine List.map_congr_left fun e p=>?_
 show Edge.mk (pos (K.map fun s=>L.idxOf s) (pos L e.to)) e.out=Edge.mk (pos K e.to) e.out
 congr 1
 obtain⟨i,hi,rfl⟩:=List.mem_iff_getElem.1 p
 have hrow:=k.row s (g.rng s d)
 have j:((m.rows.getD s default)[i]).to=ed m s i:=by
  unfold ed
  rw [List.getD_eq_getElem?_getD (l:=m.rows.getD s default),List.getElem?_eq_getElem hi];rfl
 rw [j]
 rcases z2a k (g.rng s d) (show i<m.inputs.toNat by omega) with h|⟨q,u⟩
 ·rw [h];rfl
 ·have c:=g.cl s d i (by omega) (by omega)
  generalize ed m s i=t at*
  obtain⟨t,rfl⟩:=Int.eq_ofNat_of_zero_le q
  rw [Int.toNat_natCast] at c
  rw [z4b,z4b,z4b,zec (f:=fun s=>L.idxOf s) (fun b r h=>zop (a b r) (a _ c) h)]
end
/-! ### The states in their order-/
def z0d(P:List BE):List Nat:=P.map (·.st)
theorem zgg(P:List BE):z02 (z0d P)=z4o P:=by unfold z02 z0d z4o;rw [List.map_map];rfl
theorem z3n(P:List BE):(z0d P).length=P.length:=by simp [z0d]
theorem z5q(P:List BE){k:Nat}(a:k<P.length):(z0d P).getD k 0=(P.getD k default).st:=by
 simp [z0d,List.getD_eq_getElem?_getD,a]
theorem za4{P:List BE}{s:Nat}:s∈z0d P↔ ∃ j,j<P.length∧(P.getD j default).st=s:=by
 unfold z0d;rw [List.mem_map]
 constructor
 ·rintro⟨e,b,rfl⟩
  obtain⟨j,a,rfl⟩:=List.mem_iff_getElem.1 b
  exact⟨j,a,by simp [List.getD_eq_getElem?_getD,a]⟩
 ·rintro⟨j,a,rfl⟩;exact⟨_,z0i a,rfl⟩
section
variable {m : Mach} {s0 : Nat} {P : List BE}
theorem ziv(b:Rch m s0 P):(z0d P).Nodup:=by
 unfold z0d
 rw [List.nodup_iff_pairwise_ne,List.pairwise_iff_getElem]
 intro i j hi a c e
 rw [List.length_map] at hi a
 rw [List.getElem_map,List.getElem_map] at e
 have:=b.dis i j hi a (by simpa [List.getD_eq_getElem?_getD,a,hi] using e)
 omega
theorem ig(a:Rch m s0 P):ClosedP m (z0d P):=by
 refine⟨fun s b=>?_,ziv a,fun s b i hi c=>?_,fun e=>?_⟩
 ·obtain⟨j,d,rfl⟩:=za4.1 b
  exact a.rng j d
 ·obtain⟨q,g,rfl⟩:=za4.1 b
  obtain⟨j,d,h,_⟩:=a.cls q i g hi c
  exact za4.2 ⟨j,d,by omega⟩
 ·have f:=z3n P
  rw [e] at f
  have:=a.pos
  simp at f;omega
theorem zcy(a:Rch m s0 P):s0∈z0d P∧(z0d P).idxOf s0=0:=by
 have b:(z0d P).getD 0 0=s0:=by rw [z5q P a.pos,a.root]
 have:=z4g (ziv a) (show 0<(z0d P).length by rw [z3n];exact a.pos)
 rw [b] at this
 exact⟨za4.2 ⟨0,a.pos,by rw [a.root]⟩,this⟩
end
def z3v(m:Mach):Mach:=ng m (z0d (rch m 0))
section
variable {m : Mach} {L : List Nat}
theorem z6v(a:MOk m):Rch m 0 (rch m 0):=z8i a (by have:=a.r1;omega)
theorem zf1(a:MOk m):MOk (z3v m):=zkf a (ig (z6v a))
theorem zqx(a:MOk m)(b:ClosedP m L)(c:0∈L)(d:L.idxOf 0=0)(hsub: ∀ s∈z0d (rch m 0),s∈L):z3v (ng m L)=z3v m:=by
 have:=zp1 a b c
 rw [d] at this
 unfold z3v
 rw [this]
 have e:z0d ((rch m 0).map (ren L))=(z0d (rch m 0)).map fun s=>L.idxOf s:=by unfold z0d;rw [List.map_map,List.map_map];rfl
 rw [e]
 exact zln a (ig (z6v a)) hsub
theorem zrc(a:MOk m):z3v (z3v m)=z3v m:=by
 obtain⟨b,c⟩:=zcy (z6v a)
 exact zqx a (ig (z6v a)) b c fun s d=>d
theorem zro(a:MOk m){w:List Int}(b:WOk m.inputs w):z0f (z3v m) 0 w=z0f m 0 w:=by
 obtain⟨c,d⟩:=zcy (z6v a)
 have:=(zbw a (ig (z6v a)) w (s:=0) (.inr ⟨by decide,c⟩) b).1
 rw [show (0:Int)=((0:Nat):Int) from rfl,z4b,d] at this
 exact this
theorem zlo(a:MOk m){w:List Int}(b:WOk m.inputs w):aftL (z3v m) 0 w=pos (z0d (rch m 0)) (aftL m 0 w):=by
 obtain⟨c,d⟩:=zcy (z6v a)
 have:=(zbw a (ig (z6v a)) w (s:=0) (.inr ⟨by decide,c⟩) b).2
 rw [show (0:Int)=((0:Nat):Int) from rfl,z4b,d] at this
 exact this
theorem zsm{N:Nat}(a:MOk m)(b:200≤N):lu N m=some (z3v m,0):=by
 unfold lu
 rw [zu (zb7 a b),yz (by simp),zu (z6g a b),zu (show z09 N m (z4o (rch m 0))=some (z3v m) from by rw [←zgg];exact zje a (ig (z6v a)) b)]
theorem zs1{a b:Mach}(c:MOk a):zeg a b=decide (a=b):=by
 rw [Bool.eq_iff_iff,zdt,decide_eq_true_eq]
 exact⟨fun h=>h.2,fun h=>⟨c,h⟩⟩
end
end GV
end Go.Proofs.YtkkcidhcfkmbjaaGreatDoor

namespace Go.Proofs.YtkkcidhcfkmbjaaGreatDoor
namespace GV
set_option maxRecDepth 100000
end GV
end Go.Proofs.YtkkcidhcfkmbjaaGreatDoor

namespace Go.Proofs.YtkkcidhcfkmbjaaGreatDoor
namespace GV
set_option maxRecDepth 100000
structure Num (n:Nat) (L:List Nat):Prop where
 len:L.length=n
 rng: ∀ k,k<n→L.getD k 0<n
 inj: ∀ i j,i<n→j<n→L.getD i 0=L.getD j 0→i=j
 sur: ∀ s,s<n→ ∃ k,k<n∧L.getD k 0=s
 zero:L.getD 0 0=0
def tr(a b k:Nat):Nat:=if k=b then a else if k=a then b else k
section
variable {m : Mach} {L : List Nat}
end
end GV
end Go.Proofs.YtkkcidhcfkmbjaaGreatDoor

namespace Go.Proofs.YtkkcidhcfkmbjaaGreatDoor
namespace GV
set_option maxRecDepth 100000
theorem ztg{N:Nat}(a:200≤N)(e:Int):dz N [0,e]=some e:=by
 unfold dz
 obtain⟨M,rfl⟩: ∃ M,N=M+3:=⟨N-3,by omega⟩
 by_cases h:e=0
 ·subst h
  have:ut (M+3) [0,0] (M+3) 0=some (Ex.go ()):=by
   simp only [ut]
   rw [bq (by simp),zi ⟨by simp,by simp⟩,yz (by simp [ix]),zi (ja (by simp)),bq (by simp),zi ⟨by simp,by simp⟩,yz (by simp [ix]),zi (ja (by simp)),yz (by simp)]
  rw [zu this];rfl
 ·have:ut (M+3) [0,e] (M+3) 0=some (Ex.rt e):=by
   simp only [ut]
   rw [bq (by simp),zi ⟨by simp,by simp⟩,yz (by simp [ix]),zi (ja (by simp)),bq (by simp),zi ⟨by simp,by simp⟩,bq (by simpa [ix] using h)]
   simp [ix]
  rw [zu this];rfl
theorem wrap_u64{n:Int}(a:0≤n)(h:n<18446744073709551616):IntKind.u64.wrap n=n:=by
 simp only [IntKind.wrap,IntKind.signed,IntKind.bits,Bool.false_and]
 exact Int.emod_eq_of_lt a h
def zfk(n k:Nat):List Int:=List.replicate k (-1)++List.replicate (n-k) 0
theorem zsd{n k j:Nat}(b:k≤n)(c:j≤k)(a:j≤n-k):z3p (zfk n k) k (List.replicate j (-1))=zfk n (k+j):=by
 unfold z3p zfk
 rw [List.length_replicate,List.take_left' (by simp),←List.drop_drop,List.drop_left' (by simp),List.drop_replicate,List.replicate_append_replicate,Nat.sub_sub]
theorem zuo{n k j:Nat}(a:j≤k):(zfk n k).take j=List.replicate j (-1):=by
 unfold zfk
 rw [List.take_append_of_le_length (by simpa using a),List.take_replicate,Nat.min_eq_left a]
theorem zjm{n k:Nat}(a:k≤n):(zfk n k).length=n:=by unfold zfk;simp;omega
theorem zs5{N:Nat}{n:Nat}(b:n≤1000): ∀ (F k:Nat),1≤k→k≤n→n-k<F→yc N F (k:Int) (zfk n k)=some (List.replicate n (-1))
 |0,k,_,_,h=>by omega
 |F+1,k,c,a,h=>by
  simp only [yc,zjm a]
  by_cases hk:k<n
  ·rw [bq (by omega),zi ⟨by omega,by omega,by rw [zjm a];omega⟩,zi ⟨by omega,by omega,by rw [zjm a];omega⟩]
   simp only [Int.toNat_natCast,Nat.sub_zero,List.drop_zero]
   rw [zi (ja (by omega)),zuo (Nat.min_le_left _ _),zsd a (Nat.min_le_left _ _) (Nat.min_le_right _ _)]
   have:(k:Int)+((min k (n-k):Nat):Int)=((k+min k (n-k):Nat):Int):=by omega
   rw [this]
   exact zs5 b F _ (by omega) (by omega) (by omega)
  ·rw [yz (by omega)]
   have:k=n:=by omega
   subst this
   unfold zfk
   rw [Nat.sub_self,List.replicate_zero,List.append_nil]
theorem zhi{N:Nat}(f:200≤N){n:Nat}(b:1≤n)(g:n≤100):mg N [-1] (n:Int)=some (List.replicate n (-1)):=by
 unfold mg
 have c:z2g N (IntKind.u64.wrap (([-1]:List Int).length:Int)) (IntKind.u64.wrap (n:Int))=some (0,(n:Int)):=by
  rw [wrap_u64 (by simp) (by simp),wrap_u64 (by omega) (by omega)]
  unfold z2g
  rw [zi ⟨⟨by simp,by simp⟩,by omega,by omega⟩]
  congr 1
  have:(([-1]:List Int).length:Int)=1:=rfl
  rw [this,Int.one_mul,Int.ediv_eq_zero_of_lt (by omega) (by omega),Int.emod_eq_of_lt (by omega) (by omega)]
 rw [yz (by omega),zu c]
 refine(cf ?_).trans ?_
 ·show (decide ((0:Int)<0)||decide ((9223372036854775807:Int)<(n:Int)))=false
  rw [decide_eq_false (show¬(9223372036854775807:Int)<(n:Int) by omega)];rfl
 have d:(mk (n:Int) (0:Int)).length=n:=by rw [zb5,List.length_replicate]
 have hmin:min ([-1]:List Int).length (mk (n:Int) (0:Int)).length=1:=by rw [d];simp;omega
 show gd (in64 (n:Int)) (gd (okM 8 (n:Int)) (bd (yc N N _ _) fun a=>some a))=_
 rw [zi (ja (by omega)),zi ⟨by omega,by omega,by omega⟩,hmin]
 have e:z3p (mk (n:Int) (0:Int)) 0 (([-1]:List Int).take 1)=zfk n 1:=by
  unfold z3p zfk
  rw [zb5,List.take_zero,List.nil_append]
  simp [List.drop_replicate]
 rw [e,zu (zs5 (by omega) N 1 (by omega) b (by omega))]
def zwm(P Q:List BE)(s:Nat):Int:=if occ P s=true then((Q.getD ((z0d P).idxOf s) default).st:Int) else-1
def zh1(n:Nat)(P Q:List BE):List Int:=(List.range n).map (zwm P Q)
theorem zsr(n:Nat)(P Q:List BE):(zh1 n P Q).length=n:=by simp [zh1]
theorem zst{n s:Nat}{P Q:List BE}(h:s<n):(zh1 n P Q).getD s default=zwm P Q s:=by simp [zh1,List.getD_eq_getElem?_getD,h]
theorem zkq{P:List BE}{k:Nat}(a:k<P.length):ix (z4o P) (k:Int)=((P.getD k default).st:Int):=by
 rw [pg];unfold z4o
 rw [List.getD_eq_getElem?_getD,List.getElem?_map,List.getD_eq_getElem?_getD,List.getElem?_eq_getElem a];rfl
theorem zch(P:List BE):(z4o P).length=P.length:=by simp [z4o]
theorem zio{m:Mach}{s0:Nat}{P:List BE}(b:Rch m s0 P){j:Nat}(a:j<P.length):(z0d P).idxOf (P.getD j default).st=j:=by
 have:=z4g (ziv b) (show j<(z0d P).length by rw [z3n];exact a)
 rwa [z5q P a] at this
theorem zxg{N:Nat}{a b:Mach}(i:200≤N){P Q:List BE}(g:Rch a 0 P)(j:Rch b 0 Q)(l:a.rows.length≤64)(m:P.length=Q.length):
 yo N (z4o P) (z4o Q) N 0 (List.replicate a.rows.length (-1))=some (zh1 a.rows.length P Q):=by
 have h:=g.le
 refine mq (σ:=List Int) (fun F k st=>yo N (z4o P) (z4o Q) F (k:Int) st) P.length
  (fun k st=>st=(List.range a.rows.length).map fun s=>if occ (P.take k) s=true then((Q.getD ((z0d P).idxOf s) default).st:Int) else-1) _ (fun F k st f d=>?_) (fun F st d=>?_) N 0 _ (Nat.zero_le _) (by omega) ?_
 ·subst d
  right
  refine⟨_,rfl,?_⟩
  have hrng:=g.rng k f
  simp only [yo,zkq f,zkq (show k<Q.length by omega)]
  rw [bq (by rw [zch];omega),zi (j3 (by rw [zch];omega)),zi (j3 (by rw [zch];omega)),zi (j3 (by simpa using hrng)),zi (ja (by omega))]
  rw [z1p]
  congr 1
  refine z15 (by simp) fun s c=>?_
  rw [List.length_set,List.length_map,List.length_range] at c
  rw [nk _ c,List.getD_eq_getElem?_getD,List.getElem?_set]
  rw [zbd P k f,zkz]
  by_cases e:(P.getD k default).st=s
  ·subst e
   rw [if_pos rfl,if_pos (by simpa using c),decide_eq_true (rfl),Bool.or_true,if_pos rfl,zio g f];rfl
  ·rw [if_neg e,←List.getD_eq_getElem?_getD,nk _ c,decide_eq_false e,Bool.or_false]
 ·subst d
  simp only [yo]
  rw [yz (by rw [zch];omega),List.take_length];rfl
 ·refine z15 (by simp) fun s c=>?_
  rw [List.length_replicate] at c
  rw [nk _ c]
  simp [List.getD_eq_getElem?_getD,c,occ]
theorem zh6{a b:Mach}(o:MOk a)(f:MOk b)(h:z3v a=z3v b):a.inputs=b.inputs∧(rch a 0).length=(rch b 0).length∧ ∀ j,j<(rch a 0).length→aftL b 0 ((rch a 0).getD j default).wd=(((rch b 0).getD j default).st:Int):=by
 have hi:a.inputs=b.inputs:=(zj2.1 h).1
 have g:=z6v o
 have p:=z6v f
 have r:(rch a 0).length=(rch b 0).length:=by
  have:=congrArg (fun m:Mach=>m.rows.length) h
  simp only [z3v,zde,z3n] at this
  exact this
 refine⟨hi,r,fun j k=>?_⟩
 have q:=(g.wok j k).1
 have d:WOk b.inputs ((rch a 0).getD j default).wd:=hi▸q
 have l:=zlo o q
 have haft:aftL a 0 ((rch a 0).getD j default).wd=(((rch a 0).getD j default).st:Int):=g.aft j k
 rw [haft,z4b,zio g k,h,zlo f d] at l
 have n:aftL b 0 ((rch a 0).getD j default).wd≠ -1:=fun e=>by
  rw [e] at l
  have:pos (z0d (rch b 0)) (-1)= -1:=rfl
  omega
 obtain⟨i,hi',c,_⟩:=p.least f _ _ rfl d n
 rw [show ((0:Nat):Int)=0 from rfl] at c
 rw [←c,z4b,zio p hi'] at l
 have:i=j:=by omega
 subst this
 exact c.symm
theorem zy9{N:Nat}{a b:Mach}(d:MOk a)(e:MOk b)(c:200≤N):ru N a b=some (if z3v a=z3v b then(zh1 a.rows.length (rch a 0) (rch b 0),true,0) else([],false,0)):=by
 have f:=d.r1
 have g:=d.r2
 have i:=z6v d
 have j:=z6v e
 unfold ru
 rw [zu (zb7 d c),zu (zb7 e c),zu (ztg c 0),yz (by simp),zu (z6g d c),zu (z6g e c)]
 rw [zu (show z09 N a (z4o (rch a 0))=some (z3v a) from by rw [←zgg];exact zje d (ig i) c)]
 rw [zu (show z09 N b (z4o (rch b 0))=some (z3v b) from by rw [←zgg];exact zje e (ig j) c)]
 rw [zu (zmb (zf1 d).small (zf1 e).small c),zs1 (zf1 d)]
 by_cases h:z3v a=z3v b
 ·rw [if_pos h]
  obtain⟨_,k,_⟩:=zh6 d e h
  refine(cf (by rw [decide_eq_true h];rfl)).trans ?_
  rw [zu (zhi c f (by omega)),zu (zxg c i j g k),zu zix]
 ·rw [if_neg h]
  exact ct (by rw [decide_eq_false h];rfl)
end GV
end Go.Proofs.YtkkcidhcfkmbjaaGreatDoor

namespace Go.Proofs.YtkkcidhcfkmbjaaGreatDoor
namespace GV
set_option maxRecDepth 100000
end GV
end Go.Proofs.YtkkcidhcfkmbjaaGreatDoor

namespace Go.Proofs.YtkkcidhcfkmbjaaGreatDoor
namespace GV
set_option maxRecDepth 100000
section
variable {N : Nat} {m : Mach}
end
end GV
end Go.Proofs.YtkkcidhcfkmbjaaGreatDoor

namespace Go.Proofs.YtkkcidhcfkmbjaaGreatDoor
namespace GV
section names
variable {κ κ' : Type} [DecidableEq κ] [DecidableEq κ']
def z0z(f:Nat→κ)(u:Nat):Bool:=(List.range u).all fun t=>decide (f t≠f u)
theorem ae{f:Nat→κ}{u:Nat}:z0z f u=true↔ ∀ t,t<u→f t≠f u:=by
 unfold z0z
 rw [List.all_eq_true]
 exact⟨fun h t a=>of_decide_eq_true (h t (List.mem_range.2 a)),fun h t a=>decide_eq_true (h t (List.mem_range.1 a))⟩
def cntF(f:Nat→κ):Nat→Nat
 |0=>0
 |u+1=>cntF f u+if z0z f u=true then 1 else 0
theorem zah(f:Nat→κ): ∀ u,cntF f u≤u
 |0=>Nat.le_refl _
 |u+1=>by have:=zah f u;unfold cntF;split<;>omega
theorem cntF_step(f:Nat→κ)(u:Nat):cntF f u≤cntF f (u+1):=by show _≤cntF f u+_;omega
theorem zhr(f:Nat→κ){u v:Nat}(h:u≤v):cntF f u≤cntF f v:=by
 induction v with
 |zero=>rw [show u=0 by omega];exact Nat.le_refl _
 |succ v ih=>
  by_cases e:u=v+1
  ·rw [e];exact Nat.le_refl _
  ·exact Nat.le_trans (ih (by omega)) (cntF_step f v)
theorem z6h(f:Nat→κ){u v:Nat}(h:u<v)(a:z0z f u=true):cntF f u<cntF f v:=by
 have b:=zhr f (show u+1≤v by omega)
 have c:cntF f (u+1)=cntF f u+1:=by show cntF f u+_=_;rw [if_pos a]
 omega
theorem zu0{f:Nat→κ}{u v:Nat}(a:z0z f u=true)(b:z0z f v=true)(h:cntF f u=cntF f v):u=v:=by
 rcases Nat.lt_trichotomy u v with e|e|e
 ·have:=z6h f e a;omega
 ·exact e
 ·have:=z6h f e b;omega
theorem zi9(f:Nat→κ): ∀ {n c:Nat},c<cntF f n→ ∃ u,u<n∧z0z f u=true∧cntF f u=c
 |0,c,h=>by simp [cntF] at h
 |n+1,c,h=>by
  by_cases h1:c<cntF f n
  ·obtain⟨u,b,a⟩:=zi9 f h1
   exact⟨u,by omega,a⟩
  ·have a:c<cntF f n+if z0z f n=true then 1 else 0:=h
   by_cases h3:z0z f n=true
   ·rw [if_pos h3] at a
    exact⟨n,by omega,h3,by omega⟩
   ·rw [if_neg h3] at a;omega
def z4a(f:Nat→κ)(s:Nat):Nat:=((List.range s).find? fun t=>decide (f t=f s)).getD s
theorem z0o(f:Nat→κ)(s:Nat):z4a f s≤s∧f (z4a f s)=f s∧ ∀ t,t<z4a f s→f t≠f s:=by
 unfold z4a
 cases h:(List.range s).find? fun t=>decide (f t=f s) with
 |none=>
  rw [List.find?_eq_none] at h
  exact⟨Nat.le_refl _,rfl,fun t a=>by simpa using h t (List.mem_range.2 a)⟩
 |some u=>
  obtain⟨c,i,d,b,e⟩:=List.find?_eq_some_iff_getElem.1 h
  rw [List.getElem_range] at b
  subst b
  rw [List.length_range] at d
  refine⟨by show i≤s;omega,by simpa using c,fun t a=>?_⟩
  have:=e t a
  rw [List.getElem_range] at this
  simpa using this
theorem z4j(f:Nat→κ)(s:Nat):z0z f (z4a f s)=true:=by
 obtain⟨d,a,b⟩:=z0o f s
 exact ae.2 fun t c=>by rw [a];exact b t c
theorem zmm{f:Nat→κ}{u s:Nat}(a:z0z f u=true)(h:f u=f s)(b:u≤s):z4a f s=u:=by
 obtain⟨g,c,d⟩:=z0o f s
 rcases Nat.lt_trichotomy (z4a f s) u with e|e|e
 ·exact absurd (c.trans h.symm) (ae.1 a _ e)
 ·exact e
 ·exact absurd h (d u e)
theorem z7f{f:Nat→κ}{u:Nat}(a:z0z f u=true):z4a f u=u:=zmm a rfl (Nat.le_refl _)
theorem zgt{f:Nat→κ}{s t:Nat}(h:f s=f t):z4a f s=z4a f t:=by
 obtain⟨g,a,b⟩:=z0o f s
 obtain⟨i,c,d⟩:=z0o f t
 rcases Nat.lt_trichotomy (z4a f s) (z4a f t) with e|e|e
 ·exact absurd (a.trans h) (d _ e)
 ·exact e
 ·exact absurd (c.trans h.symm) (b _ e)
def name(f:Nat→κ)(s:Nat):Nat:=cntF f (z4a f s)
theorem zbz{f:Nat→κ}{s t:Nat}:name f s=name f t↔f s=f t:=by
 constructor
 ·intro h
  have:=zu0 (z4j f s) (z4j f t) h
  rw [←(z0o f s).2.1,this,(z0o f t).2.1]
 ·intro h;unfold name;rw [zgt h]
theorem zve{f:Nat→κ}{s n:Nat}(h:s<n):name f s<cntF f n:=z6h f (Nat.lt_of_le_of_lt (z0o f s).1 h) (z4j f s)
theorem za9{f:Nat→κ}{u:Nat}(h:z0z f u=true):name f u=cntF f u:=by unfold name;rw [z7f h]
theorem zht(f:Nat→κ):name f 0=0:=by
 unfold name
 rw [z7f (ae.2 fun t a=>by omega)];rfl
/-! Only which keys are equal counts. -/
theorem zbf{f:Nat→κ}{g:Nat→κ'}{n:Nat}(h: ∀ s t,s<n→t<n→(f s=f t↔g s=g t)){u:Nat}(b:u<n):z0z f u=z0z g u:=by
 rw [Bool.eq_iff_iff,ae,ae]
 exact⟨fun k t a e=>k t a ((h t u (by omega) b).2 e),fun k t a e=>k t a ((h t u (by omega) b).1 e)⟩
theorem zbc{f:Nat→κ}{g:Nat→κ'}{n:Nat}(h: ∀ s t,s<n→t<n→(f s=f t↔g s=g t)): ∀ {u:Nat},u≤n→cntF f u=cntF g u
 |0,_=>rfl
 |u+1,a=>by
  show cntF f u+_=cntF g u+_
  rw [zbc h (by omega),zbf h (show u<n by omega)]
theorem zqe{f:Nat→κ}{g:Nat→κ'}{n:Nat}(h: ∀ s t,s<n→t<n→(f s=f t↔g s=g t)){s:Nat}(a:s<n):z4a f s=z4a g s:=by
 obtain⟨b,c,d⟩:=z0o g s
 refine zmm ?_ ((h _ _ (by omega) a).2 c) b
 rw [zbf h (by omega)];exact z4j g s
theorem z5v{f:Nat→κ}{g:Nat→κ'}{n:Nat}(h: ∀ s t,s<n→t<n→(f s=f t↔g s=g t)){s:Nat}(a:s<n):name f s=name g s:=by
 have:=(z0o g s).1
 unfold name
 rw [zqe h a,zbc h (by omega)]
/-! A map from keys to names,as the first k things are named. -/
def nmM(f:Nat→κ):Nat→List (κ×Int)
 |0=>[]
 |k+1=>nmM f k++if z0z f k=true then [(f k,(cntF f k:Int))] else []
theorem zju(f:Nat→κ): ∀ k,(nmM f k).length=cntF f k
 |0=>rfl
 |k+1=>by
  show (nmM f k++_).length=cntF f k+_
  rw [List.length_append,zju f k]
  split<;>rfl
theorem zl2{β:Type}{M M':List (κ×β)}{x:κ}:z1x (M++M') x=(z1x M x||z1x M' x):=by
 induction M with
 |nil=>rfl
 |cons p l ih=>
  show (if x=p.1 then true else z1x (l++M') x)=((if x=p.1 then true else z1x l x)||z1x M' x)
  split
  ·rfl
  ·exact ih
theorem zkx{β:Type}{z:β}{M M':List (κ×β)}{x:κ}:ai z (M++M') x=if z1x M x=true then ai z M x else ai z M' x:=by
 induction M with
 |nil=>rfl
 |cons p l ih=>
  show (if x=p.1 then p.2 else ai z (l++M') x)=if(if x=p.1 then true else z1x l x)=true then(if x=p.1 then p.2 else ai z l x) else ai z M' x
  by_cases h:x=p.1
  ·simp [h]
  ·simp only [if_neg h];exact ih
theorem zs3{β:Type}{M:List (κ×β)}{x:κ}{v:β}(h:z1x M x=false):z1q M x v=M++[(x,v)]:=by
 induction M with
 |nil=>rfl
 |cons p l ih=>
  unfold z1x at h
  by_cases e:x=p.1
  ·simp [e] at h
  ·rw [if_neg e] at h
   simp only [z1q,if_neg e,ih h,List.cons_append]
theorem z81(f:Nat→κ)(x:κ): ∀ k,z1x (nmM f k) x=true↔ ∃ t,t<k∧f t=x
 |0=>⟨fun h=>by simp [nmM,z1x] at h,fun⟨t,c,_⟩=>by omega⟩
 |k+1=>by
  show z1x (nmM f k++_) x=true↔_
  rw [zl2,Bool.or_eq_true,z81 f x k]
  constructor
  ·rintro(⟨t,c,h⟩|h)
   ·exact⟨t,by omega,h⟩
   ·split at h
    ·by_cases e:x=f k
     ·exact⟨k,by omega,e.symm⟩
     ·simp [z1x,e] at h
    ·simp [z1x] at h
  ·rintro⟨t,c,h⟩
   by_cases e: ∃ u,u<k∧f u=x
   ·exact .inl e
   ·have a:t=k:=by
     rcases Nat.lt_or_ge t k with d|d
     ·exact absurd ⟨t,d,h⟩ e
     ·omega
    subst a
    right
    rw [if_pos (ae.2 fun u g b=>e ⟨u,g,b.trans h⟩)]
    simp [z1x,h]
theorem ziz(f:Nat→κ){s:Nat}: ∀ k,s<k→ai 0 (nmM f k) (f s)=(name f s:Int)
 |0,h=>by omega
 |k+1,h=>by
  show ai 0 (nmM f k++_) (f s)=_
  rw [zkx]
  by_cases e:z1x (nmM f k) (f s)=true
  ·rw [if_pos e]
   obtain⟨t,i,a⟩:=(z81 f _ k).1 e
   rw [←a,ziz f k i,zbz.2 a]
  ·rw [if_neg e]
   have d: ∀ u,u<k→f u≠f s:=fun u j c=>e ((z81 f _ k).2 ⟨u,j,c⟩)
   have l:s=k:=by
    rcases Nat.lt_or_ge s k with g|g
    ·exact absurd rfl (d s g)
    ·omega
   subst l
   have b:=ae.2 d
   rw [if_pos b,za9 b]
   simp [ai]
theorem zpe(f:Nat→κ){k:Nat}(h:z1x (nmM f k) (f k)=false):z1q (nmM f k) (f k) ((nmM f k).length:Int)=nmM f (k+1):=by
 have a:z0z f k=true:=ae.2 fun t c b=>by
  have:=(z81 f (f k) k).2 ⟨t,c,b⟩
  rw [h] at this;cases this
 rw [zs3 h,zju]
 show _=nmM f k++_
 rw [if_pos a]
theorem zog(f:Nat→κ){k:Nat}(h:z1x (nmM f k) (f k)=true):nmM f (k+1)=nmM f k:=by
 obtain⟨t,b,a⟩:=(z81 f _ k).1 h
 show nmM f k++_=_
 rw [if_neg (fun c=>ae.1 c t b a),List.append_nil]
def zra(f:Nat→κ)(n:Nat):List Int:=(List.range n).map fun s=>(name f s:Int)
theorem zn5{f:Nat→κ}{g:Nat→κ'}{n:Nat}(h: ∀ s t,s<n→t<n→(f s=f t↔g s=g t)):zra f n=zra g n:=by
 unfold zra
 refine List.map_congr_left fun s a=>?_
 rw [z5v h (List.mem_range.1 a)]
end names
def lc{κ:Type}[DecidableEq κ](f:Nat→κ)(n:Nat):List Nat:=(List.range n).filter fun u=>z0z f u
section lc
variable {κ : Type} [DecidableEq κ] {f : Nat → κ}
theorem zab(n:Nat):lc f (n+1)=lc f n++if z0z f n=true then [n] else []:=by
 unfold lc
 rw [List.range_succ,List.filter_append]
 congr 1
 by_cases h:z0z f n=true
 ·rw [if_pos h,List.filter_cons_of_pos h];rfl
 ·rw [if_neg h,List.filter_cons_of_neg h];rfl
theorem z1n: ∀ n,(lc f n).length=cntF f n
 |0=>rfl
 |n+1=>by
  rw [zab,List.length_append,z1n n]
  show _=cntF f n+_
  split<;>rfl
theorem zg6: ∀ {n u:Nat},u<n→z0z f u=true→(lc f n).getD (cntF f u) 0=u
 |0,u,h,_=>by omega
 |n+1,u,h,a=>by
  rw [zab]
  by_cases e:u=n
  ·subst e
   rw [if_pos a,List.getD_eq_getElem?_getD,←z1n u,List.getElem?_concat_length];rfl
  ·have b:=z6h f (show u<n by omega) a
   rw [List.getD_eq_getElem?_getD,List.getElem?_append_left (by rw [z1n];exact b),←List.getD_eq_getElem?_getD]
   exact zg6 (by omega) a
theorem z2t{n c:Nat}(h:c<cntF f n):(lc f n).getD c 0<n∧z0z f ((lc f n).getD c 0)=true∧cntF f ((lc f n).getD c 0)=c:=by
 obtain⟨u,a,b,rfl⟩:=zi9 f h
 rw [zg6 a b]
 exact⟨a,b,rfl⟩
end lc
end GV
end Go.Proofs.YtkkcidhcfkmbjaaGreatDoor

namespace Go.Proofs.YtkkcidhcfkmbjaaGreatDoor
namespace GV
def ou(m:Mach)(s i:Nat):Int:=((m.rows.getD s default).getD i default).out
def z8l(m:Mach)(p:Nat→Nat)(s:Nat):List (Int×Int):=(List.range m.inputs.toNat).map fun i=>(ou m s i,if ed m s i= -1 then-1 else(p (ed m s i).toNat:Int))
def ziu(m:Mach)(p:Nat→Nat)(s:Nat):Nat×List (Int×Int):=(p s,z8l m p s)
def pkc(m:Mach):Nat→Nat→Nat
 |0=>fun _=>0
 |k+1=>fun s=>name (ziu m (pkc m k)) s
def pL(m:Mach)(k:Nat):List Int:=(List.range m.rows.length).map fun s=>(pkc m k s:Int)
section
variable {m : Mach}
theorem zjj(k:Nat):(pL m k).length=m.rows.length:=by simp [pL]
theorem zny{k s:Nat}(h:s<m.rows.length):(pL m k).getD s default=(pkc m k s:Int):=by simp [pL,List.getD_eq_getElem?_getD,h]
theorem zw6(k:Nat):pL m (k+1)=zra (ziu m (pkc m k)) m.rows.length:=rfl
theorem zw1{p:Nat→Nat}{s t:Nat}:z8l m p s=z8l m p t↔ ∀ i,i<m.inputs.toNat→ou m s i=ou m t i∧(if ed m s i= -1 then-1 else(p (ed m s i).toNat:Int))=(if ed m t i= -1 then-1 else(p (ed m t i).toNat:Int)):=by
 unfold z8l
 rw [List.map_inj_left]
 constructor
 ·intro h i hi
  have:=h i (List.mem_range.2 hi)
  exact⟨congrArg Prod.fst this,congrArg Prod.snd this⟩
 ·intro h i hi
  obtain⟨a,b⟩:=h i (List.mem_range.1 hi)
  exact Prod.ext a b
theorem z9k(a:MOk m){s i:Nat}(b:s<m.rows.length)(hi:i<m.inputs.toNat):(ed m s i= -1↔ou m s i= -1)∧ -1≤ou m s i∧ou m s i<16:=by
 have c:=a.row s b
 have d:=a.o2
 rcases a.edge s i b (by omega) with h|h
 ·exact⟨⟨fun _=>h.2,fun _=>h.1⟩,by show-1≤((m.rows.getD s default).getD i default).out;omega,by show ((m.rows.getD s default).getD i default).out<16;omega⟩
 ·refine⟨⟨fun e=>?_,fun e=>?_⟩,?_,?_⟩
  ·have:((m.rows.getD s default).getD i default).to= -1:=e
   omega
  ·have:((m.rows.getD s default).getD i default).out= -1:=e
   omega
  ·show-1≤((m.rows.getD s default).getD i default).out;omega
  ·show ((m.rows.getD s default).getD i default).out<16;omega
theorem zmc{k s t:Nat}:pkc m (k+1) s=pkc m (k+1) t↔pkc m k s=pkc m k t∧z8l m (pkc m k) s=z8l m (pkc m k) t:=by
 show name _ s=name _ t↔_
 rw [zbz]
 unfold ziu
 rw [Prod.mk.injEq]
theorem zkd(b:MOk m){k s t:Nat}(g:s<m.rows.length)(j:t<m.rows.length):pkc m (k+1) s=pkc m (k+1) t↔pkc m k s=pkc m k t∧ ∀ i,i<m.inputs.toNat→ou m s i=ou m t i∧(ed m s i≠ -1→ed m t i≠ -1→pkc m k (ed m s i).toNat=pkc m k (ed m t i).toNat):=by
 rw [zmc,zw1]
 refine and_congr_right fun _=>forall_congr' fun i=>forall_congr' fun hi=>?_
 refine and_congr_right fun c=>?_
 have d:=(z9k b g hi).1
 have f:=(z9k b j hi).1
 by_cases e:ed m s i= -1
 ·have a:ed m t i= -1:=f.2 (by rw [←c];exact d.1 e)
  rw [if_pos e,if_pos a]
  exact⟨fun _ h=>absurd e h,fun _=>rfl⟩
 ·have a:ed m t i≠ -1:=fun a=>e (d.2 (by rw [c];exact f.1 a))
  rw [if_neg e,if_neg a]
  exact⟨fun h _ _=>Int.ofNat.inj h,fun h=>congrArg Int.ofNat (h e a)⟩
theorem zc3{k s t:Nat}(h:pkc m (k+1) s=pkc m (k+1) t):pkc m k s=pkc m k t:=(zmc.1 h).1
def zds(m:Mach)(k:Nat):Prop:= ∀ s t,s<m.rows.length→t<m.rows.length→pkc m k s=pkc m k t→pkc m (k+1) s=pkc m (k+1) t
theorem zfa{k s:Nat}:name (pkc m k) s=pkc m k s:=by
 cases k with
 |zero=>
  show name (fun _:Nat=>(0:Nat)) s=0
  rw [show name (fun _:Nat=>(0:Nat)) s=name (fun _:Nat=>(0:Nat)) 0 from zbz.2 rfl,zht]
 |succ k=>exact z5v (n:=s+1) (fun a b _ _=>by show name _ a=name _ b↔_;exact zbz) (Nat.lt_succ_self s)
theorem zih{k:Nat}(h:zds m k){s:Nat}(c:s<m.rows.length):pkc m (k+1) s=pkc m k s:=by
 rw [←zfa (k:=k+1),←zfa (k:=k)]
 exact z5v (n:=m.rows.length) (fun a b d e=>⟨zc3,h a b d e⟩) c
theorem zlf(k:Nat):pL m (k+1)=pL m k↔zds m k:=by
 constructor
 ·intro h s t a c e
  have b: ∀ s,s<m.rows.length→pkc m (k+1) s=pkc m k s:=fun s a=>by
   have:=congrArg (fun l:List Int=>l.getD s default) h
   simp only [zny a] at this
   omega
  rw [b s a,b t c,e]
 ·intro h
  unfold pL
  exact List.map_congr_left fun s a=>by rw [zih h (List.mem_range.1 a)]
theorem zhy(b:MOk m){p q:Nat→Nat}(h: ∀ s,s<m.rows.length→p s=q s){s:Nat}(c:s<m.rows.length):z8l m p s=z8l m q s:=by
 unfold z8l
 refine List.map_congr_left fun i hi=>?_
 rcases z2a b c (List.mem_range.1 hi) with a|a
 ·rw [if_pos a,if_pos a]
 ·rw [h _ (by omega)]
theorem z5e(c:MOk m){k:Nat}(h:zds m k): ∀ j,k≤j→ ∀ s,s<m.rows.length→pkc m j s=pkc m k s
 |0,i,s,d=>by rw [show k=0 by omega]
 |j+1,i,s,d=>by
  by_cases e:k=j+1
  ·rw [e]
  ·have ih:=z5e c h j (by omega)
   rw [←zih h d]
   show name _ s=name _ s
   refine z5v (n:=m.rows.length) (fun a b f g=>?_) d
   unfold ziu
   rw [ih a f,ih b g,zhy c ih f,zhy c ih g]
theorem zv0(a:MOk m){k j:Nat}(h:zds m k)(b:k≤j):pL m j=pL m k:=by
 unfold pL
 exact List.map_congr_left fun s c=>by rw [z5e a h j b s (List.mem_range.1 c)]
theorem zkh{κ κ':Type}[DecidableEq κ][DecidableEq κ']{f:Nat→κ}{g:Nat→κ'}: ∀ {n:Nat},(∀ u,u<n→z0z f u=true→z0z g u=true)→cntF f n≤cntF g n∧(cntF f n=cntF g n→ ∀ u,u<n→z0z f u=z0z g u)
 |0,_=>⟨Nat.le_refl _,fun _ u c=>by omega⟩
 |n+1,h=>by
  obtain⟨j,d⟩:=zkh (n:=n) (f:=f) (g:=g) fun u c=>h u (by omega)
  have i:=h n (by omega)
  have a:cntF f (n+1)=cntF f n+if z0z f n=true then 1 else 0:=rfl
  have b:cntF g (n+1)=cntF g n+if z0z g n=true then 1 else 0:=rfl
  cases hf:z0z f n<;>cases hg:z0z g n
  ·rw [hf] at a;rw [hg] at b
   simp only [Bool.false_eq_true,if_false] at a b
   refine⟨by omega,fun e u c=>?_⟩
   by_cases hu':u=n
   ·subst hu';rw [hf,hg]
   ·exact d (by omega) u (by omega)
  ·rw [hf] at a;rw [hg] at b
   simp only [Bool.false_eq_true,if_false,if_true] at a b
   exact⟨by omega,fun e=>by omega⟩
  ·rw [hf,hg] at i;exact absurd (i rfl) (by decide)
  ·rw [hf] at a;rw [hg] at b
   simp only [if_true] at a b
   refine⟨by omega,fun e u c=>?_⟩
   by_cases hu':u=n
   ·subst hu';rw [hf,hg]
   ·exact d (by omega) u (by omega)
theorem zk6{k:Nat}(h: ¬zds m k):cntF (pkc m k) m.rows.length<cntF (pkc m (k+1)) m.rows.length:=by
 obtain⟨v,l⟩:=zkh (n:=m.rows.length) (f:=pkc m k) (g:=pkc m (k+1)) fun u w o=>ae.2 fun t a e=>ae.1 o t a (zc3 e)
 rcases Nat.lt_or_ge (cntF (pkc m k) m.rows.length) (cntF (pkc m (k+1)) m.rows.length) with b|b
 ·exact b
 ·exfalso
  have p:=l (by omega)
  refine h fun s t x a e=>?_
  obtain⟨y,c,_⟩:=z0o (pkc m (k+1)) s
  obtain⟨z,d,_⟩:=z0o (pkc m (k+1)) t
  have i:=z4j (pkc m (k+1)) s
  have j:=z4j (pkc m (k+1)) t
  rw [←p _ (by omega)] at i j
  have q:pkc m k (z4a (pkc m (k+1)) s)=pkc m k (z4a (pkc m (k+1)) t):=by rw [zc3 c,zc3 d,e]
  have r:z4a (pkc m (k+1)) s=z4a (pkc m (k+1)) t:=by
   rw [←z7f i,←z7f j];exact zgt q
  rw [←c,r,d]
theorem zfn(a:1≤m.rows.length): ∀ k,(∀ j,j<k→ ¬zds m j)→k+1≤cntF (pkc m k) m.rows.length
 |0,_=>by
  have:=z6h (pkc m 0) (show 0<m.rows.length by omega) (ae.2 fun t b=>by omega)
  omega
 |k+1,h=>by
  have c:=zfn a k fun j d=>h j (by omega)
  have e:=zk6 (h k (by omega))
  omega
theorem zi5{p:Nat→Prop}: ∀ n,p n→ ∃ k,k≤n∧p k∧ ∀ j,j<k→ ¬p j
 |n,h=>by
  by_cases e: ∃ j,j<n∧p j
  ·obtain⟨j,b,a⟩:=e
   obtain⟨k,f,c,d⟩:=zi5 j a
   exact⟨k,by omega,c,d⟩
  ·exact⟨n,Nat.le_refl _,h,fun j b a=>e ⟨j,b,a⟩⟩
theorem zpj(c:MOk m): ∃ k,k<m.rows.length∧zds m k∧ ∀ j,j<k→ ¬zds m j:=by
 have d:=c.r1
 have e: ∃ k,k<m.rows.length∧zds m k:=by
  refine Classical.byContradiction fun b=>?_
  have:=zfn d m.rows.length fun j f a=>b ⟨j,f,a⟩
  have:=zah (pkc m m.rows.length) m.rows.length
  omega
 obtain⟨n,b,a⟩:=e
 obtain⟨k,i,g,h⟩:=zi5 n a
 exact⟨k,by omega,g,h⟩
def cls(m:Mach)(s:Nat):Nat:=pkc m m.rows.length s
def z6a(m:Mach):List Int:=pL m m.rows.length
theorem zfy(a:MOk m):zds m m.rows.length:=by
 obtain⟨k,f,b,_⟩:=zpj a
 intro s t c d e
 rw [z5e a b _ (by omega) s c,z5e a b _ (by omega) t d] at*
 exact e
theorem zm1(b:MOk m){s t:Nat}(c:s<m.rows.length)(d:t<m.rows.length)(h:cls m s=cls m t){i:Nat}(hi:i<m.inputs.toNat):ou m s i=ou m t i∧(ed m s i= -1↔ed m t i= -1)∧(ed m s i≠ -1→cls m (ed m s i).toNat=cls m (ed m t i).toNat):=by
 have j:=(zkd b c d).1 (zfy b s t c d h)
 obtain⟨f,k⟩:=j.2 i hi
 have l:=(z9k b c hi).1
 have n:=(z9k b d hi).1
 have g:ed m s i= -1↔ed m t i= -1:=by rw [l,n,f]
 exact⟨f,g,fun a=>k a fun e=>a (g.2 e)⟩
/-! ### Responses-/
theorem z9h(m:Mach): ∀ w:List Int,z0f m (-1) w=List.replicate w.length (-1)
 | []=>rfl
 |c::w=>by
  show (vk m (-1) c).out::z0f m (vk m (-1) c).to w=_
  rw [show vk m (-1) c=⟨-1,-1⟩ from rfl,z9h m w];rfl
theorem lv{s:Nat}(i:Nat)(w:List Int):z0f m (s:Int) ((i:Int)::w)=ou m s i::z0f m (ed m s i) w:=by
 show (vk m (s:Int) (i:Int)).out::z0f m (vk m (s:Int) (i:Int)).to w=_
 unfold vk
 rw [if_neg (by omega)];rfl
theorem z5k{s:Nat}(i:Nat)(w:List Int):aftL m (s:Int) ((i:Int)::w)=aftL m (ed m s i) w:=by
 show aftL m (vk m (s:Int) (i:Int)).to w=_
 unfold vk
 rw [if_neg (by omega)];rfl
theorem zbq(a:MOk m): ∀ (k:Nat) {s t:Nat},s<m.rows.length→t<m.rows.length→(pkc m k s=pkc m k t↔ ∀ w,WOk m.inputs w→w.length≤k→z0f m (s:Int) w=z0f m (t:Int) w)
 |0,s,t,f,g=>⟨fun _ w _ d=>by
  have:w=[]:=List.length_eq_zero_iff.1 (by omega)
  subst this;rfl,fun _=>rfl⟩
 |k+1,s,t,f,g=>by
  rw [zkd a f g]
  constructor
  ·rintro⟨C,v⟩ w b d
   match w,b,d with
   | [],_,_=>rfl
   |c::w,b,d=>
    have x:0≤c∧c<m.inputs:=b 0 (by simp)
    obtain⟨i,rfl⟩:=Int.eq_ofNat_of_zero_le x.1
    have hi:i<m.inputs.toNat:=by omega
    obtain⟨q,y⟩:=v i hi
    have r:=(z9k a f hi).1
    have u:=(z9k a g hi).1
    rw [lv,lv,q]
    congr 1
    rcases z2a a f hi with e|e
    ·rw [e,u.2 (by rw [←q];exact r.1 e)]
    ·have l:ed m t i≠ -1:=fun n=>by have:=r.2 (by rw [q];exact u.1 n);omega
     have n:=(z2a a g hi).resolve_left l
     have:=(zbq a k (s:=(ed m s i).toNat) (t:=(ed m t i).toNat) (by omega) (by omega)).1 (y (by omega) l) w (fun j o=>b (j+1) (by simpa using o)) (by simpa using d)
     rwa [Int.toNat_of_nonneg e.1,Int.toNat_of_nonneg n.1] at this
  ·intro h
   refine⟨(zbq a k f g).2 fun w b d=>h w b (by omega),fun i hi=>?_⟩
   have p: ∀ w,WOk m.inputs w→WOk m.inputs ((i:Int)::w):=fun w b j o=>by
    cases j with
    |zero=>exact⟨by show 0≤(i:Int);omega,by show (i:Int)<m.inputs;omega⟩
    |succ j=>exact b j (by simpa using o)
   refine⟨?_,fun z n=>?_⟩
   ·have:=h [(i:Int)] (p [] fun j o=>by simp at o) (by simp)
    rw [lv,lv] at this
    exact(List.cons.inj this).1
   ·have A:=(z2a a f hi).resolve_left z
    have B:=(z2a a g hi).resolve_left n
    refine(zbq a k (by omega) (by omega)).2 fun w b d=>?_
    have:=h ((i:Int)::w) (p w b) (by simpa using d)
    rw [lv,lv] at this
    rw [Int.toNat_of_nonneg A.1,Int.toNat_of_nonneg B.1]
    exact(List.cons.inj this).2
theorem zw5(a:MOk m){s t:Nat}(b:s<m.rows.length)(c:t<m.rows.length):cls m s=cls m t↔ ∀ w,WOk m.inputs w→z0f m (s:Int) w=z0f m (t:Int) w:=by
 constructor
 ·intro h w d
  have e:pkc m (m.rows.length+w.length) s=pkc m (m.rows.length+w.length) t:=by
   rw [z5e a (zfy a) _ (by omega) s b,z5e a (zfy a) _ (by omega) t c];exact h
  exact(zbq a _ b c).1 e w d (by omega)
 ·intro h
  exact(zbq a _ b c).2 fun w d _=>h w d
end
end GV
end Go.Proofs.YtkkcidhcfkmbjaaGreatDoor

namespace Go.Proofs.YtkkcidhcfkmbjaaGreatDoor
namespace GV
theorem z8a{α:Type}{r:α→α→Prop}(hi: ∀ a,¬r a a)(d: ∀ a b,r a b→ ¬r b a): ∀ {X Y:List α},X.Pairwise r→Y.Pairwise r→(∀ a,a∈X↔a∈Y)→X=Y
 | [],[],_,_,_=>rfl
 | [],y::Y,_,_,h=>by have:=(h y).2 (by simp);simp at this
 |x::X,[],_,_,h=>by have:=(h x).1 (by simp);simp at this
 |x::X,y::Y,i,j,h=>by
  obtain⟨f,k⟩:=List.pairwise_cons.1 i
  obtain⟨g,l⟩:=List.pairwise_cons.1 j
  have e:x=y:=by
   rcases List.mem_cons.1 ((h x).1 (by simp)) with e|m
   ·exact e
   ·rcases List.mem_cons.1 ((h y).2 (by simp)) with e|n
    ·exact e.symm
    ·exact absurd (g x m) (d _ _ (f y n))
  subst e
  rw [z8a hi d k l fun a=>?_]
  constructor
  ·intro c
   rcases List.mem_cons.1 ((h a).1 (List.mem_cons_of_mem _ c)) with e|h'
   ·subst e;exact absurd (f _ c) (hi _)
   ·exact h'
  ·intro c
   rcases List.mem_cons.1 ((h a).2 (List.mem_cons_of_mem _ c)) with e|h'
   ·subst e;exact absurd (g _ c) (hi _)
   ·exact h'
theorem zhn{a b:List Int}(h:llt a b): ¬llt b a:=fun k=>z5p _ (z5h h k)
def zdx(P:List BE):List (List Int):=P.map (·.wd)
section
variable {m : Mach} {s0 : Nat} {P : List BE}
theorem getD_map{α β:Type}[Inhabited α][Inhabited β]{X:List α}{f:α→β}{k:Nat}(h:k<X.length):(X.map f).getD k default=f (X.getD k default):=by
 simp [List.getD_eq_getElem?_getD,h]
theorem z7y(h:Rch m s0 P):(zdx P).Pairwise llt:=by
 unfold zdx
 rw [List.pairwise_iff_getElem]
 intro i j hi a b
 rw [List.length_map] at hi a
 have:=h.inc i j b a
 rw [List.getElem_map,List.getElem_map]
 simpa [List.getD_eq_getElem?_getD,hi,a] using this
theorem zw0{w:List Int}:w∈zdx P↔ ∃ j,j<P.length∧(P.getD j default).wd=w:=by
 unfold zdx;rw [List.mem_map]
 constructor
 ·rintro⟨e,b,rfl⟩
  obtain⟨j,a,rfl⟩:=List.mem_iff_getElem.1 b
  exact⟨j,a,by simp [List.getD_eq_getElem?_getD,a]⟩
 ·rintro⟨j,a,rfl⟩;exact⟨_,z0i a,rfl⟩
def znq(m:Mach)(s0:Nat)(w:List Int):Prop:=WOk m.inputs w∧aftL m s0 w≠ -1∧ ∀ v,WOk m.inputs v→aftL m s0 v=aftL m s0 w→lle w v
theorem zac(b:MOk m)(h:Rch m s0 P){w:List Int}:w∈zdx P↔znq m s0 w:=by
 rw [zw0]
 constructor
 ·rintro⟨j,a,rfl⟩
  refine⟨(h.wok j a).1,by rw [h.aft j a];omega,fun v c e=>h.min b a c (by rw [e,h.aft j a])⟩
 ·rintro⟨d,f,g⟩
  obtain⟨j,a,i,k⟩:=h.least b _ w rfl d f
  have l:=g _ (h.wok j a).1 (by rw [h.aft j a,i])
  refine⟨j,a,?_⟩
  rcases k with e|e
  ·exact e
  ·exact absurd e (zp4 l)
theorem zu5(o:MOk m){P':List BE}(h:Rch m s0 P)(h':Rch m s0 P'):P=P':=by
 have p:zdx P=zdx P':=z8a z5p (fun _ _=>zhn) (z7y h) (z7y h') fun w=>by rw [zac o h,zac o h']
 have s:P.length=P'.length:=by have:=congrArg List.length p;simpa [zdx] using this
 have d: ∀ j,j<P.length→(P.getD j default).wd=(P'.getD j default).wd:=fun j c=>by
  have:=congrArg (fun l:List (List Int)=>l.getD j default) p
  simp only [zdx] at this
  rw [getD_map (X:=P) c,getD_map (X:=P') (by omega)] at this
  exact this
 have k: ∀ j,j<P.length→(P.getD j default).st=(P'.getD j default).st:=fun j c=>by
  have e:=h.aft j c
  have n:=h'.aft j (by omega)
  rw [d j c,n] at e
  omega
 refine z15 s fun j c=>?_
 by_cases h0:j=0
 ·subst h0;rw [h.root,h'.root]
 ·obtain⟨q,i,D,hi,e,n,t,_⟩:=h.par j (by omega) c
  obtain⟨q',i',hq',hi',h1',h2',h3',_⟩:=h'.par j (by omega) (by omega)
  have r:=d j c
  rw [t,h3'] at r
  obtain⟨u,v⟩:=List.append_inj' r rfl
  have z:i=i':=by
   have:(i:Int)=(i':Int):=by simpa using v
   omega
  subst z
  have A:(P.getD q default).st=(P'.getD q' default).st:=by
   have B:=h.aft q (by omega)
   have C:=h'.aft q' (by omega)
   rw [u,C] at B
   omega
  have a:=d j c
  have b:=k j c
  rw [A] at e
  have f:(P.getD j default).par=(P'.getD j default).par:=by rw [e,h1']
  have g:(P.getD j default).inp=(P'.getD j default).inp:=by rw [n,h2']
  generalize P.getD j default=x at a b f g⊢
  generalize P'.getD j default=y at a b f g⊢
  cases x;cases y
  simp only at a b f g
  rw [a,b,f,g]
end
/-! ### Homomorphisms-/
def hI(h:Nat→Nat)(z:Int):Int:=if z= -1 then-1 else(h z.toNat:Int)
theorem zk4(h:Nat→Nat):hI h (-1)= -1:=rfl
theorem z8o(h:Nat→Nat)(s:Nat):hI h (s:Int)=(h s:Int):=by unfold hI;rw [if_neg (by omega),Int.toNat_natCast]
structure Hom (m q:Mach) (h:Nat→Nat):Prop where
 ok:MOk m
 ok':MOk q
 inp:q.inputs=m.inputs
 rng: ∀ s,s<m.rows.length→h s<q.rows.length
 out: ∀ s i,s<m.rows.length→i<m.inputs.toNat→ou q (h s) i=ou m s i
 to: ∀ s i,s<m.rows.length→i<m.inputs.toNat→ed q (h s) i=hI h (ed m s i)
section
variable {m q : Mach} {h : Nat → Nat}
theorem Hom.run(H:Hom m q h): ∀ (w:List Int) {s:Nat},s<m.rows.length→WOk m.inputs w→z0f q (h s:Int) w=z0f m (s:Int) w∧aftL q (h s:Int) w=hI h (aftL m (s:Int) w)
 | [],s,a,_=>⟨rfl,(z8o h s).symm⟩
 |c::w,s,a,b=>by
  have d:0≤c∧c<m.inputs:=b 0 (by simp)
  obtain⟨i,rfl⟩:=Int.eq_ofNat_of_zero_le d.1
  have hi:i<m.inputs.toNat:=by omega
  have hw':WOk m.inputs w:=fun j f=>b (j+1) (by simpa using f)
  rw [lv,lv,z5k,z5k,H.out s i a hi,H.to s i a hi]
  rcases z2a H.ok a hi with e|⟨g,o⟩
  ·rw [e,zk4,z9h,z9h,zc1,zc1,zk4];exact⟨rfl,rfl⟩
  ·obtain⟨t,k⟩:=Int.eq_ofNat_of_zero_le g
   rw [k,z8o]
   obtain⟨l,n⟩:=H.run w (s:=t) (by omega) hw'
   rw [l,n];exact⟨rfl,rfl⟩
def zto(h:Nat→Nat)(e:BE):BE:=⟨h e.st,hI h e.par,e.inp,e.wd⟩
def z3k(h:Nat→Nat)(P:List BE)(j:Nat):Nat:=h (P.getD j default).st
def z8m(h:Nat→Nat)(P:List BE):List BE:=(lc (z3k h P) P.length).map fun j=>zto h (P.getD j default)
theorem zmg{P:List BE}:(z8m h P).length=cntF (z3k h P) P.length:=by unfold z8m;rw [List.length_map,z1n]
theorem zme{P:List BE}{c:Nat}(a:c<cntF (z3k h P) P.length):(z8m h P).getD c default=zto h (P.getD ((lc (z3k h P) P.length).getD c 0) default):=by
 unfold z8m
 rw [List.getD_eq_getElem?_getD,List.getElem?_map]
 have:=(z1n (f:=z3k h P) P.length).symm▸a
 rw [List.getD_eq_getElem?_getD (l:=lc _ _),List.getElem?_eq_getElem this]
 rfl
theorem zey{P:List BE}{u:Nat}(a:u<P.length)(b:z0z (z3k h P) u=true):cntF (z3k h P) u<cntF (z3k h P) P.length∧(z8m h P).getD (cntF (z3k h P) u) default=zto h (P.getD u default):=by
 have c:=z6h (z3k h P) a b
 rw [zme c,zg6 a b]
 exact⟨c,rfl⟩
theorem zvd(H:Hom m q h){s0:Nat}(O:s0<m.rows.length){P:List BE}(a:Rch m s0 P):Rch q (h s0) (z8m h P):=by
 have hm:=H.ok
 have hlen:=zmg (h:=h) (P:=P)
 have cs: ∀ c,c<(z8m h P).length→ ∃ u,u<P.length∧z0z (z3k h P) u=true∧cntF (z3k h P) u=c∧(z8m h P).getD c default=zto h (P.getD u default):=fun c k=>by
  rw [hlen] at k
  obtain⟨f,Q,R⟩:=z2t k
  exact⟨_,f,Q,R,zme k⟩
 have hmono: ∀ u v,u<P.length→v<P.length→lle (P.getD u default).wd (P.getD v default).wd→u≤v:=fun u v b n g=>by
  rcases Nat.lt_or_ge v u with f|f
  ·exact absurd (a.inc v u f b) (zp4 g)
  ·exact f
 have f0:z0z (z3k h P) 0=true:=ae.2 fun t K=>by omega
 have rng: ∀ c,c<(z8m h P).length→((z8m h P).getD c default).st<q.rows.length:=fun c k=>by
  obtain⟨u,b,_,_,e⟩:=cs c k
  rw [e];exact H.rng _ (a.rng u b)
 have dis: ∀ i j,i<(z8m h P).length→j<(z8m h P).length→((z8m h P).getD i default).st=((z8m h P).getD j default).st→i=j:=fun i j hi d e=>by
  obtain⟨u,b,fu,rfl,eu⟩:=cs i hi
  obtain⟨v,n,fv,rfl,ev⟩:=cs j d
  rw [eu,ev] at e
  have:z4a (z3k h P) u=z4a (z3k h P) v:=zgt e
  rw [z7f fu,z7f fv] at this
  rw [this]
 refine⟨?_,?_,?_,rng,dis,fun j d=>?_,fun j S d=>?_,fun i j z d=>?_,fun c i k hi l=>?_⟩
 ·rw [hlen];have:=z6h (z3k h P) a.pos f0;omega
 ·have A:((z8m h P).map (·.st)).Nodup:=by
   rw [List.nodup_iff_pairwise_ne,List.pairwise_iff_getElem]
   intro i j hi d z e
   rw [List.length_map] at hi d
   rw [List.getElem_map,List.getElem_map] at e
   have:=dis i j hi d (by simpa [List.getD_eq_getElem?_getD,d,hi] using e)
   omega
  have hsub:((z8m h P).map (·.st))⊆List.range q.rows.length:=by
   intro x T
   obtain⟨e,U,rfl⟩:=List.mem_map.1 T
   obtain⟨j,d,rfl⟩:=List.mem_iff_getElem.1 U
   have:=rng j d
   rw [List.mem_range]
   simpa [List.getD_eq_getElem?_getD,d] using this
  have:=List.Nodup.length_le_of_subset A hsub
  simpa using this
 ·obtain⟨_,e⟩:=zey a.pos f0
  have V:(z8m h P).getD 0 default=zto h (P.getD 0 default):=e
  rw [V,a.root];rfl
 ·obtain⟨u,b,_,_,e⟩:=cs j d
  rw [e]
  show aftL q (h s0) (P.getD u default).wd=((h (P.getD u default).st:Nat):Int)
  rw [(H.run _ O (a.wok u b).1).2,a.aft u b,z8o]
 ·obtain⟨u,b,fu,k,e⟩:=cs j d
  have B:0<u:=by
   rcases Nat.eq_zero_or_pos u with o|o
   ·subst o;have:cntF (z3k h P) 0=0:=rfl;omega
   ·exact o
  obtain⟨r,i,W,hi,X,Y,L,M⟩:=a.par u B b
  have fr:z0z (z3k h P) r=true:=ae.2 fun t K C=>by
   have heq':h (P.getD t default).st=h (P.getD r default).st:=C
   have D:=a.inc t r K (by omega)
   have E:=a.rng t (by omega)
   have F:=a.rng r (by omega)
   have w:hI h (ed m (P.getD t default).st i)=((h (P.getD u default).st:Nat):Int):=by
    rw [←H.to _ _ E hi,heq',H.to _ _ F hi,M,z8o]
   have l:ed m (P.getD t default).st i≠ -1:=fun o=>by rw [o,zk4] at w;omega
   obtain⟨v,n,p,g⟩:=a.cls t i (by omega) hi l
   have y:llt (P.getD v default).wd (P.getD u default).wd:=by rw [L];exact zor g (zd6 _ _ D)
   have G:v<u:=by
    have:=hmono v u n b (.inr y)
    rcases Nat.lt_or_ge v u with f|f
    ·exact f
    ·have:v=u:=by omega
     subst this;exact absurd y (z5p _)
   refine ae.1 fu v G ?_
   show h (P.getD v default).st=h (P.getD u default).st
   rw [←p,z8o] at w
   omega
  obtain⟨N,s⟩:=zey (by omega) fr
  refine⟨cntF (z3k h P) r,i,by rw [←k];exact z6h _ W fr,by rw [H.inp];exact hi,?_,?_,?_,?_⟩
  ·rw [e,s];show hI h (P.getD u default).par=_;rw [X,z8o];rfl
  ·rw [e];exact Y
  ·rw [e,s];exact L
  ·rw [e,s]
   show ed q (h (P.getD r default).st) i=((h (P.getD u default).st:Nat):Int)
   rw [H.to _ _ (a.rng r (by omega)) hi,M,z8o]
 ·obtain⟨u,b,fu,I,eu⟩:=cs i (by omega)
  obtain⟨v,n,fv,Z,ev⟩:=cs j d
  rw [eu,ev]
  refine a.inc u v ?_ n
  rcases Nat.lt_or_ge u v with f|f
  ·exact f
  ·have:=zhr (z3k h P) f;omega
 ·obtain⟨u,b,fu,I,eu⟩:=cs c k
  rw [H.inp] at hi
  rw [eu] at l⊢
  have J:=a.rng u b
  have w:ed q (h (P.getD u default).st) i=hI h (ed m (P.getD u default).st i):=H.to _ _ J hi
  have hne':ed m (P.getD u default).st i≠ -1:=fun o=>l (by show ed q (h (P.getD u default).st) i= -1;rw [w,o];rfl)
  obtain⟨v,n,p,g⟩:=a.cls u i b hi hne'
  obtain⟨r1,r2,r3⟩:=z0o (z3k h P) v
  have fr:=z4j (z3k h P) v
  obtain⟨N,s⟩:=zey (h:=h) (u:=z4a (z3k h P) v) (by omega) fr
  refine⟨_,by rw [hlen];exact N,?_,?_⟩
  ·rw [s]
   show ((h (P.getD (z4a (z3k h P) v) default).st:Nat):Int)=ed q (h (P.getD u default).st) i
   have r2':h (P.getD (z4a (z3k h P) v) default).st=h (P.getD v default).st:=r2
   rw [w,←p,z8o,r2']
  ·rw [s]
   show lle (P.getD (z4a (z3k h P) v) default).wd ((P.getD u default).wd++[(i:Int)])
   refine za7 ?_ g
   by_cases e:z4a (z3k h P) v=v
   ·rw [e];exact .inl rfl
   ·exact .inr (a.inc _ _ (by omega) n)
theorem zxz(H:Hom m q h){s0:Nat}(a:s0<m.rows.length):rch q (h s0)=z8m h (rch m s0):=
 zu5 H.ok' (z8i H.ok' (H.rng _ a)) (zvd H a (z8i H.ok a))
end
/-! ### Machines with the same responses-/
def Red(m:Mach):Prop:= ∀ s t,s<m.rows.length→t<m.rows.length→(∀ w,WOk m.inputs w→z0f m (s:Int) w=z0f m (t:Int) w)→s=t
def SameR(a b:Mach):Prop:=a.inputs=b.inputs∧a.outputs=b.outputs∧ ∀ w,WOk a.inputs w→z0f a 0 w=z0f b 0 w
theorem SameR.symm{a b:Mach}(h:SameR a b):SameR b a:=⟨h.1.symm,h.2.1.symm,fun w c=>(h.2.2 w (by rw [h.1];exact c)).symm⟩
theorem SameR.trans{a b c:Mach}(h:SameR a b)(k:SameR b c):SameR a c:=⟨h.1.trans k.1,h.2.1.trans k.2.1,fun w d=>(h.2.2 w d).trans (k.2.2 w (by rw [←h.1];exact d))⟩
theorem z5t{n:Int}{u v:List Int}(a:WOk n u)(b:WOk n v):WOk n (u++v):=fun k c=>by
 rw [List.length_append] at c
 by_cases h:k<u.length
 ·rw [List.getD_eq_getElem?_getD,List.getElem?_append_left h,←List.getD_eq_getElem?_getD];exact a k h
 ·rw [List.getD_eq_getElem?_getD,List.getElem?_append_right (by omega),←List.getD_eq_getElem?_getD];exact b _ (by omega)
theorem zoh{n:Int}{i:Nat}(h:i<n.toNat):WOk n [(i:Int)]:=fun k a=>by
 have:k=0:=by simpa using a
 subst this
 exact⟨by show 0≤(i:Int);omega,by show (i:Int)<n;omega⟩
theorem z7l(m:Mach)(s i:Nat):vk m (s:Int) (i:Int)=⟨ed m s i,ou m s i⟩:=by
 unfold vk;rw [if_neg (by omega)];rfl
section
variable {a b : Mach}
theorem zoe{m:Mach}(a:MOk m){s:Int}(b:SOk m s){u:List Int}{i:Nat}(c:WOk m.inputs u)(hi:i<m.inputs.toNat):(aftL m s (u++[(i:Int)])= -1↔(vk m (aftL m s u) (i:Int)).out= -1):=by
 rw [z2v]
 show (vk m (aftL m s u) (i:Int)).to= -1↔_
 rcases z3d m a s u b c with h|⟨d,f⟩
 ·rw [h];exact⟨fun _=>rfl,fun _=>rfl⟩
 ·obtain⟨t,e⟩:=Int.eq_ofNat_of_zero_le d
  rw [e,z7l]
  exact(z9k a (by omega) hi).1
theorem zla{m:Mach}{s:Int}{u:List Int}{i:Int}:z0f m s (u++[i])=z0f m s u++[(vk m (aftL m s u) i).out]:=by rw [r9];rfl
theorem zkw(h:SameR a b){u:List Int}{i:Nat}(d:WOk a.inputs u)(hi:i<a.inputs.toNat):(vk a (aftL a 0 u) (i:Int)).out=(vk b (aftL b 0 u) (i:Int)).out:=by
 have c:=h.2.2 (u++[(i:Int)]) (z5t d (zoh hi))
 rw [zla,zla] at c
 have:=List.append_inj_right' c rfl
 simpa using this
theorem zj6(b:MOk a):SOk a 0:= .inr ⟨by omega,by have:=b.r1;omega⟩
theorem z5w(g:MOk a)(j:MOk b)(h:SameR a b){w:List Int}(k:WOk a.inputs w):aftL a 0 w= -1↔aftL b 0 w= -1:=by
 by_cases e:w=[]
 ·subst e;exact⟨fun h=>by simp [aftL] at h,fun h=>by simp [aftL] at h⟩
 ·obtain⟨u,c,rfl⟩: ∃ u c,w=u++[c]:=⟨w.dropLast,w.getLast e,(List.dropLast_concat_getLast _).symm⟩
  obtain⟨d,f,l⟩:=zkp k
  obtain⟨i,rfl⟩:=Int.eq_ofNat_of_zero_le f
  have hi:i<a.inputs.toNat:=by omega
  rw [zoe g (zj6 g) d hi,zoe j (zj6 j) (by rw [←h.1];exact d) (by rw [←h.1];exact hi),zkw h d hi]
theorem zm8(g:MOk a)(c:MOk b)(rb:Red b)(h:SameR a b){u v:List Int}(i:WOk a.inputs u)(j:WOk a.inputs v)(e:aftL a 0 u=aftL a 0 v):aftL b 0 u=aftL b 0 v:=by
 have k:WOk b.inputs u:=by rw [←h.1];exact i
 have l:WOk b.inputs v:=by rw [←h.1];exact j
 by_cases hn:aftL a 0 u= -1
 ·rw [(z5w g c h i).1 hn,(z5w g c h j).1 (by rw [←e];exact hn)]
 ·have m:=(z3d b c 0 u (zj6 c) k).resolve_left fun d=>hn ((z5w g c h i).2 d)
  have n:=(z3d b c 0 v (zj6 c) l).resolve_left fun d=>hn (by rw [e];exact(z5w g c h j).2 d)
  obtain⟨s,o⟩:=Int.eq_ofNat_of_zero_le m.1
  obtain⟨t,p⟩:=Int.eq_ofNat_of_zero_le n.1
  rw [o] at m⊢
  rw [p] at n⊢
  rw [rb s t (by omega) (by omega) fun x r=>?_]
  have f:WOk a.inputs x:=by rw [h.1];exact r
  have q:=h.2.2 (u++x) (z5t i f)
  have d:=h.2.2 (v++x) (z5t j f)
  rw [r9,r9,o] at q
  rw [r9,r9,p] at d
  have w:=(List.append_inj q (by rw [z00,z00])).2
  have y:=(List.append_inj d (by rw [z00,z00])).2
  rw [←w,←y,e]
theorem zg3(d:MOk a)(f:MOk b)(ra:Red a)(rb:Red b)(h:SameR a b){w:List Int}:znq a 0 w→znq b 0 w:=by
 rintro⟨c,i,j⟩
 refine⟨by rw [←h.1];exact c,fun e=>i ((z5w d f h c).2 e),fun v g e=>j v (by rw [h.1];exact g) ?_⟩
 exact zm8 f d ra h.symm g (by rw [←h.1];exact c) e
theorem znu(c:MOk a)(d:MOk b)(ra:Red a)(rb:Red b)(h:SameR a b):zdx (rch a 0)=zdx (rch b 0):=
 z8a z5p (fun _ _=>zhn) (z7y (z6v c)) (z7y (z6v d)) fun w=>by
  rw [zac c (z6v c),zac d (z6v d)]
  exact⟨zg3 c d ra rb h,zg3 d c rb ra h.symm⟩
theorem znx(c:MOk a)(f:MOk b)(ra:Red a)(rb:Red b)(h:SameR a b):z3v a=z3v b:=by
 have d:=z6v c
 have m:=z6v f
 have q:=znu c f ra rb h
 have cP:=ig d
 have cQ:=ig m
 unfold z3v
 generalize rch a 0=P at d q cP⊢
 generalize rch b 0=Q at m q cQ⊢
 have H:P.length=Q.length:=by have:=congrArg List.length q;simpa [zdx] using this
 have n: ∀ j,j<P.length→(P.getD j default).wd=(Q.getD j default).wd:=fun j g=>by
  have:=congrArg (fun l:List (List Int)=>l.getD j default) q
  simp only [zdx] at this
  rw [getD_map (X:=P) g,getD_map (X:=Q) (by omega)] at this
  exact this
 have hrow: ∀ j,j<P.length→rowP a (z0d P) (P.getD j default).st=rowP b (z0d Q) (Q.getD j default).st:=fun j g=>by
  have r:=d.rng j g
  have s:=m.rng j (by omega)
  have w:=c.row _ r
  have x:=f.row _ s
  refine z15 ?_ fun i hi=>?_
  ·rw [z7s c r,z7s f s,h.1]
  ·rw [z7s c r] at hi
   rw [z7u c r hi,z7u f s (by rw [←h.1];exact hi)]
   have t:=(d.wok j g).1
   have I:WOk b.inputs (P.getD j default).wd:=by rw [←h.1];exact t
   have y:aftL a 0 (P.getD j default).wd=_:=d.aft j g
   have u:aftL b 0 (Q.getD j default).wd=_:=m.aft j (by omega)
   rw [←n j g] at u
   have E:=zkw h t hi
   rw [y,u,z7l,z7l] at E
   have z:aftL a 0 ((P.getD j default).wd++[(i:Int)])=ed a (P.getD j default).st i:=by
    rw [z2v,y];show (vk a _ _).to=_;rw [z7l]
   have A:aftL b 0 ((P.getD j default).wd++[(i:Int)])=ed b (Q.getD j default).st i:=by
    rw [z2v,u];show (vk b _ _).to=_;rw [z7l]
   have wi:=z5t t (zoh hi)
   have v:pos (z0d P) (ed a (P.getD j default).st i)=pos (z0d Q) (ed b (Q.getD j default).st i):=by
    by_cases e:ed a (P.getD j default).st i= -1
    ·have:=(z5w c f h wi).1 (by rw [z];exact e)
     rw [A] at this
     rw [e,this];rfl
    ·obtain⟨k,o,p,_⟩:=d.cls j i g hi e
     have B:aftL b 0 ((P.getD j default).wd++[(i:Int)])=aftL b 0 (P.getD k default).wd:=zm8 c f rb h wi (d.wok k o).1 (by rw [z,show aftL a 0 (P.getD k default).wd=_ from d.aft k o,p])
     have F:aftL b 0 (Q.getD k default).wd=_:=m.aft k (by omega)
     rw [A,n k o,F] at B
     rw [←p,B,z4b,z4b]
     have G:(z0d P).idxOf (P.getD k default).st=k:=by rw [←z5q P o];exact z4g cP.nd (by rw [z3n];exact o)
     have i2:(z0d Q).idxOf (Q.getD k default).st=k:=by rw [←z5q Q (by omega)];exact z4g cQ.nd (by rw [z3n];omega)
     rw [G,i2]
   rw [v]
   congr 1
 have hrows:(z0d P).map (rowP a (z0d P))=(z0d Q).map (rowP b (z0d Q)):=by
  have J:(z0d P).length=P.length:=z3n P
  have K:(z0d Q).length=Q.length:=z3n Q
  refine List.ext_getElem (by rw [List.length_map,List.length_map];omega) fun j C D=>?_
  rw [List.length_map] at C D
  have:=hrow j (by omega)
  rw [List.getElem_map,List.getElem_map]
  have w:(z0d P)[j]=(P.getD j default).st:=by rw [←z5q P (by omega)];simp [List.getD_eq_getElem?_getD,C]
  have x:(z0d Q)[j]=(Q.getD j default).st:=by rw [←z5q Q (by omega)];simp [List.getD_eq_getElem?_getD,D]
  rw [w,x];exact this
 unfold ng
 rw [hrows,h.1,h.2.1]
end
/-! ### The quotient-/
def z0e(m:Mach):Mach:=⟨m.inputs,m.outputs,(lc (cls m) m.rows.length).map fun u=>(m.rows.getD u default).map fun e=>⟨hI (cls m) e.to,e.out⟩⟩
def uq(m:Mach):Mach:=z3v (z0e m)
section
variable {m : Mach}
theorem zad:(z0e m).rows.length=cntF (cls m) m.rows.length:=by unfold z0e;rw [List.length_map,z1n]
theorem z7j(s:Nat):name (cls m) s=cls m s:=zfa
theorem zbe{s:Nat}(a:s<m.rows.length):cls m s<cntF (cls m) m.rows.length:=by rw [←z7j];exact zve a
theorem zin{c:Nat}(a:c<cntF (cls m) m.rows.length):(z0e m).rows.getD c default=(m.rows.getD ((lc (cls m) m.rows.length).getD c 0) default).map fun e=>⟨hI (cls m) e.to,e.out⟩:=by
 unfold z0e
 dsimp only
 have:=(z1n (f:=cls m) m.rows.length).symm▸a
 rw [List.getD_eq_getElem?_getD,List.getElem?_map,List.getD_eq_getElem?_getD (l:=lc _ _),List.getElem?_eq_getElem this]
 rfl
theorem zox(b:MOk m){c i:Nat}(a:c<cntF (cls m) m.rows.length)(hi:i<m.inputs.toNat):ed (z0e m) c i=hI (cls m) (ed m ((lc (cls m) m.rows.length).getD c 0) i)∧ou (z0e m) c i=ou m ((lc (cls m) m.rows.length).getD c 0) i:=by
 obtain⟨d,_,_⟩:=z2t a
 have e:=b.row _ d
 unfold ed ou
 rw [zin a,getD_map (by omega)]
 exact⟨rfl,rfl⟩
theorem zot(e:MOk m){s:Nat}(a:s<m.rows.length):(lc (cls m) m.rows.length).getD (cls m s) 0<m.rows.length∧cls m ((lc (cls m) m.rows.length).getD (cls m s) 0)=cls m s:=by
 obtain⟨b,c,d⟩:=z2t (zbe a)
 refine⟨b,?_⟩
 rw [←z7j,za9 c,d]
theorem z6u(a:MOk m):MOk (z0e m):=by
 have e:=zad (m:=m)
 have k:=a.r1;have l:=a.r2;have n:=zah (cls m) m.rows.length
 have o:=zbe (m:=m) (s:=0) (by omega)
 refine⟨a.i1,a.i2,a.o1,a.o2,by omega,by omega,fun s b=>?_,fun s i b hi=>?_⟩
 ·rw [e] at b
  obtain⟨c,_,_⟩:=z2t b
  rw [zin b,List.length_map]
  exact a.row _ c
 ·rw [e] at b
  obtain⟨c,_,_⟩:=z2t b
  rw [zin b] at hi⊢
  rw [List.length_map] at hi
  rw [getD_map hi]
  have p:=a.row _ c
  rcases a.edge _ i c hi with⟨d,f⟩|⟨d,f,g,h⟩
  ·left;rw [d,f];exact⟨rfl,rfl⟩
  ·right
   obtain⟨t,j⟩:=Int.eq_ofNat_of_zero_le d
   rw [j,z8o]
   have:=zbe (m:=m) (s:=t) (by omega)
   exact⟨by show (0:Int)≤(cls m t:Int);omega,by show ((cls m t:Nat):Int)<((z0e m).rows.length:Int);omega,g,h⟩
theorem zd5(b:MOk m):Hom m (z0e m) (cls m):=by
 refine⟨b,z6u b,rfl,fun s a=>by rw [zad];exact zbe a,fun s i a hi=>?_,fun s i a hi=>?_⟩
 ·obtain⟨c,d⟩:=zot b a
  rw [(zox b (zbe a) hi).2]
  exact(zm1 b c a d hi).1
 ·obtain⟨c,d⟩:=zot b a
  obtain⟨j,f,h⟩:=zm1 b c a d hi
  rw [(zox b (zbe a) hi).1]
  unfold hI
  by_cases e:ed m s i= -1
  ·rw [if_pos e,if_pos (f.2 e)]
  ·have g:ed m ((lc (cls m) m.rows.length).getD (cls m s) 0) i≠ -1:=fun k=>e (f.1 k)
   rw [if_neg e,if_neg g,h g]
theorem zjl(a:MOk m):Red (z0e m):=by
 intro c d g i h
 rw [zad] at g i
 obtain⟨b,j,k⟩:=z2t g
 obtain⟨e,l,n⟩:=z2t i
 generalize (lc (cls m) m.rows.length).getD c 0=u at b j k
 generalize (lc (cls m) m.rows.length).getD d 0=v at e l n
 have eu:cls m u=c:=by rw [←z7j,za9 j,k]
 have ev:cls m v=d:=by rw [←z7j,za9 l,n]
 rw [←eu,←ev]
 refine(zw5 a b e).2 fun w f=>?_
 rw [←((zd5 a).run w b f).1,←((zd5 a).run w e f).1,eu,ev]
 exact h w f
theorem zl1:cls m 0=0:=by rw [←z7j,zht]
theorem zg4(a:MOk m):SameR (z0e m) m:=⟨rfl,rfl,fun w b=>by
 have:=((zd5 a).run w (s:=0) (by have:=a.r1;omega) b).1
 rw [zl1] at this;exact this⟩
theorem zq1(a:MOk m):SameR (z3v m) m:=⟨rfl,rfl,fun w b=>zro a b⟩
theorem zb2(a:MOk m):MOk (uq m):=zf1 (z6u a)
theorem zcf(a:MOk m):SameR (uq m) m:=(zq1 (z6u a)).trans (zg4 a)
theorem zu1{a b:Mach}(c:MOk a)(d:MOk b)(h:SameR a b):uq a=uq b:=
 znx (z6u c) (z6u d) (zjl c) (zjl d) (((zg4 c).trans h).trans (zg4 d).symm)
end
end GV
end Go.Proofs.YtkkcidhcfkmbjaaGreatDoor

namespace Go.Proofs.YtkkcidhcfkmbjaaGreatDoor
namespace GV
set_option maxRecDepth 100000
/-! ### Signatures-/
def sgL(m:Mach)(p:Nat→Nat)(s:Nat):List (Int×Int):=z8l m p s++List.replicate (16-m.inputs.toNat) (0,0)
theorem z7t{m:Mach}{p:Nat→Nat}{s:Nat}:(z8l m p s).length=m.inputs.toNat:=by simp [z8l]
theorem zjq{m:Mach}(a:MOk m){p:Nat→Nat}{s:Nat}:(sgL m p s).length=16:=by
 have:=a.i2
 unfold sgL
 rw [List.length_append,z7t,List.length_replicate];omega
theorem zue{m:Mach}{p:Nat→Nat}{s i:Nat}(hi:i<m.inputs.toNat):(z8l m p s).getD i default=(ou m s i,if ed m s i= -1 then-1 else(p (ed m s i).toNat:Int)):=by
 simp [z8l,List.getD_eq_getElem?_getD,hi]
structure PR (m:Mach) (p:List Int) (f:Nat→Nat):Prop where
 len:p.length=m.rows.length
 get: ∀ s,s<m.rows.length→p.getD s default=(f s:Int)
theorem zym{m:Mach}(k:Nat):PR m (pL m k) (pkc m k):=⟨zjj k,fun s a=>zny a⟩
theorem zff{α:Type}{X:List α}{n k:Nat}{z y:α}(a:X.length=k)(b:k<n):(X++List.replicate (n-k) z).set k y=(X++[y])++List.replicate (n-(k+1)) z:=zir a b
theorem zuy{N:Nat}{m:Mach}(a:MOk m)(v:200≤N){p:List Int}{f:Nat→Nat}(j:PR m p f){s:Nat}(c:s<m.rows.length): ∃ X:Arr 16 (Int×Int),z3g N m p (s:Int)=some X∧X.1=sgL m f s:=by
 have hi1:=a.i1;have hi2:=a.i2;have n:=a.r2
 have hrow:=a.row s c
 obtain⟨X,o,e⟩: ∃ X:Arr 16 (Int×Int),xy N m p (s:Int) N 0 (z6p 16 (List.replicate 16 (((0:Int),(0:Int)):(Int×Int))))=some X∧X.1=sgL m f s:=by
  refine z9q (σ:=Arr 16 (Int×Int)) (fun F k X=>xy N m p (s:Int) F (k:Int) X) m.inputs.toNat (fun k X=>X.1=(z8l m f s).take k++List.replicate (16-k) (0,0)) _ (fun F k X d hi=> .inr ?_) (fun F X hi=>?_) N 0 _ (Nat.zero_le _) (by omega) (by rw [zai (by simp)];rfl)
  ·have g:X.1.length=16:=X.2
   have i:((z8l m f s).take k).length=k:=by rw [List.length_take,z7t];omega
   have hset: ∀ y,X.1.set k y=((z8l m f s).take k++[y])++List.replicate (16-(k+1)) (0,0):=fun y=>by rw [hi];exact zff i (by omega)
   have hnext:(z8l m f s).take (k+1)=(z8l m f s).take k++[(ou m s k,if ed m s k= -1 then-1 else(f (ed m s k).toNat:Int))]:=by
    rw [z5x _ k (by rw [z7t];exact d),zue d]
   have q: ∀ Y:Arr 16 (Int×Int),Y=(if ed m s k= -1 then z0t X (k:Int) (ou m s k,-1) else z0t (z0t X (k:Int) (ou m s k,-1)) (k:Int) (((ix (z0t X (k:Int) (ou m s k,-1)).1 (k:Int)).1,(ix p (ed m s k)))))→
    xy N m p (s:Int) (F+1) (k:Int) X=xy N m p (s:Int) F ((k+1:Nat):Int) Y:=fun Y l=>by
    simp only [xy]
    rw [bq (show (k:Int)<((ix m.rows (s:Int)).length:Int) by rw [pg];omega)]
    refine(zu (x:=Y) ?_).trans (by rw [zi (ja (by omega))];rfl)
    rw [zi (show okI (ix m.rows (s:Int)) (k:Int) from j3 (show k<(m.rows.getD s default).length by omega)),zi (j3 (show k<X.1.length by omega))]
    show (bif decide (ed m s k≠ -1) then _ else _)=_
    by_cases hc:ed m s k= -1
    ·rw [yz (fun h=>h hc),l,if_pos hc];rfl
    ·have b:=(z2a a c d).resolve_left hc
     have w:=j.len
     rw [bq hc,l,if_neg hc]
     refine(zi (show okI p (ed m s k) from⟨b.1,by omega⟩)).trans ?_
     refine(zi (show okI (z0t X (k:Int) (ou m s k,-1)).1 (k:Int) from j3 (by rw [(z0t X (k:Int) (ou m s k,-1)).2];omega))).trans ?_
     rfl
   refine⟨_,?_,q _ rfl⟩
   by_cases hc:ed m s k= -1
   ·rw [if_pos hc,hnext,if_pos hc]
    exact hset _
   ·have b:=(z2a a c d).resolve_left hc
    rw [if_neg hc,hnext,if_neg hc]
    have r:(z0t X (k:Int) (ou m s k,-1)).1=X.1.set k (ou m s k,-1):=rfl
    have t:(ix (z0t X (k:Int) (ou m s k,-1)).1 (k:Int)).1=ou m s k:=by
     rw [r,pg]
     simp [List.getD_eq_getElem?_getD,g,show k<16 by omega]
    have u:ix p (ed m s k)=(f (ed m s k).toNat:Int):=j.get _ (by omega)
    rw [t,u]
    show ((X.1.set k (ou m s k,-1)).set k (ou m s k,(f (ed m s k).toNat:Int)))=_
    rw [List.set_set]
    exact hset _
  ·simp only [xy]
   rw [yz (show¬((m.inputs.toNat:Nat):Int)<((ix m.rows (s:Int)).length:Int) by rw [pg];omega)]
   refine⟨X,rfl,?_⟩
   rw [hi,List.take_of_length_le (by rw [z7t];exact Nat.le_refl _)];rfl
 refine⟨X,?_,e⟩
 unfold z3g
 rw [zi (j3 c),zu o]
/-! ### A round-/
def zba(m:Mach)(f:Nat→Nat)(s:Nat):Sc:=⟨(f s:Int),z6p 16 (sgL m f s)⟩
theorem zsl{m:Mach}(a:MOk m){f:Nat→Nat}{s t:Nat}:zba m f s=zba m f t↔ziu m f s=ziu m f t:=by
 unfold zba ziu
 rw [Sc.mk.injEq,Prod.mk.injEq]
 refine and_congr (by omega) ?_
 constructor
 ·intro h
  have b:=congrArg Subtype.val h
  rw [zai (zjq a),zai (zjq a)] at b
  exact(List.append_inj b (by rw [z7t,z7t])).1
 ·intro h
  unfold sgL
  rw [h]
theorem zn4{N:Nat}{m:Mach}(d:MOk m)(o:200≤N){p:List Int}{f:Nat→Nat}(i:PR m p f):z13 N m p=some (zra (ziu m f) m.rows.length):=by
 have q:=d.r2;have r:=i.len
 have u:xq N m p N 0 ([]:List (Sc×Int)) (mk (p.length:Int) (0:Int))=some (zra (zba m f) m.rows.length):=by
  refine mq (σ:=List (Sc×Int)×List Int) (fun F k st=>xq N m p F (k:Int) st.1 st.2) m.rows.length
   (fun k st=>st.1=nmM (zba m f) k∧st.2=(List.range k).map (fun s=>(name (zba m f) s:Int))++List.replicate (m.rows.length-k) 0) _ (fun F k st j hi=> .inr ?_) (fun F st hi=>?_) N 0 ([],mk (p.length:Int) (0:Int)) (Nat.zero_le _) (by omega) ⟨rfl,by rw [r,zb5];simp⟩
  ·obtain⟨M,X⟩:=st
   obtain⟨e,a⟩:=hi
   dsimp only at e a⊢
   subst e;subst a
   obtain⟨A,v,l⟩:=zuy (N:=N) d o i j
   have n:A=z6p 16 (sgL m f k):=Subtype.ext (by rw [l,zai (zjq d)])
   have hkey:(⟨ix p (k:Int),A⟩:Sc)=zba m f k:=by unfold zba;rw [n,pg,i.get k j]
   have c:((List.range k).map (fun s=>(name (zba m f) s:Int))).length=k:=by simp
   refine⟨(nmM (zba m f) (k+1),(List.range (k+1)).map (fun s=>(name (zba m f) s:Int))++List.replicate (m.rows.length-(k+1)) 0),⟨rfl,rfl⟩,?_⟩
   simp only [xq]
   rw [bq (by omega),zi (j3 (by omega)),zu v,hkey]
   refine(zu (x:=nmM (zba m f) (k+1)) ?_).trans ?_
   ·cases h:z1x (nmM (zba m f) k) (zba m f k)
    ·exact(ct (b:= !false) rfl).trans (by rw [zpe _ h])
    ·exact(cf (b:= !true) rfl).trans (by rw [zog _ h])
   ·rw [zi (j3 (by rw [List.length_append,c,List.length_replicate];omega)),zi (ja (by omega)),ziz _ _ (Nat.lt_succ_self k),z1p,zff c j,z7x]
    rfl
  ·obtain⟨M,X⟩:=st
   obtain⟨e,a⟩:=hi
   dsimp only at e a⊢
   subst a
   simp only [xq]
   rw [yz (by omega),Nat.sub_self,List.replicate_zero,List.append_nil];rfl
 unfold z13
 rw [zi ⟨by omega,by omega,by omega⟩,zu u,zn5 (f:=zba m f) (g:=ziu m f) fun s t _ _=>zsl d]
theorem zrf{N:Nat}{a b:List Int}(f:a.length<N)(g:a.length≤4611686018427387904):slices_Equal_int N a b=some (decide (a=b)):=by
 unfold slices_Equal_int
 by_cases h:(a.length:Int)≠b.length
 ·rw [bq h,decide_eq_false (fun e=>h (by rw [e]))]
 ·rw [yz h]
  have hl':a.length=b.length:=by omega
  have c:yx N a b N 0=some (if a=b then Ex.go () else Ex.rt false):=by
   refine mq (σ:=Unit) (fun F k _=>yx N a b F (k:Int)) a.length (fun k _=> ∀ j,j<k→a.getD j default=b.getD j default) _ (fun F k _ d hi=>?_) (fun F _ hi=>?_) N 0 () (Nat.zero_le _) (by omega) (fun j i=>by omega)
   ·simp only [yx]
    rw [bq (by omega),zi (j3 d),zi (j3 (by omega)),pg,pg]
    by_cases he:a.getD k default=b.getD k default
    ·right
     refine⟨(),zgo hi he,Eq.trans (yz (fun h=>h he)) ?_⟩
     rw [zi (ja (by omega))];rfl
    ·left
     refine Eq.trans (bq he) ?_
     rw [if_neg (fun e=>he (by rw [e]))]
   ·simp only [yx]
    rw [yz (by omega),if_pos (z15 hl' hi)]
  rw [zu c]
  by_cases he:a=b
  ·rw [if_pos he,decide_eq_true he];rfl
  ·rw [if_neg he,decide_eq_false he];rfl
theorem ze3{N:Nat}{m:Mach}(f:MOk m)(n:200≤N){a:Nat}(b:zds m a)(hmin: ∀ i,i<a→ ¬zds m i)(g:a<m.rows.length): ∀ (d j F:Nat) (l:List Int),j+d=a→d<F→
 di N ((List Int)×Int) (fun k c=>gd (in64 (c.2+1))<|some (true,(k,c.2+1))) m F (l,(j:Int)-1) (pL m j)=some (pL m a,(a:Int))
 |d,j,0,l,_,p=>by omega
 |d,j,F+1,l,s,p=>by
  have q:=f.r2
  have r:(j:Int)-1+1=j:=by omega
  simp only [di]
  rw [zi (ja (by omega)),zkt,r,ct rfl,zu (zn4 f n (zym j)),←zw6,zu (zrf (by rw [zjj];omega) (by rw [zjj];omega))]
  by_cases h:zds m j
  ·have:j=a:=by
    rcases Nat.lt_or_ge j a with o|o
    ·exact absurd h (hmin j o)
    ·omega
   subst this
   rw [bq ((zlf j).2 h).symm]
  ·have t:d≠0:=fun e=>by
    have:j=a:=by omega
    rw [this] at h;exact h b
   rw [yz (fun e=>h ((zlf j).1 e.symm))]
   have:=ze3 f n b hmin g (d-1) (j+1) F (pL m j) (by omega) (by omega)
   rw [show (((j+1:Nat):Int)-1)=(j:Int) by omega] at this
   exact this
theorem zmv{N:Nat}{m:Mach}(a:MOk m)(c:200≤N): ∃ j:Nat,z14 N m=some (z6a m,(j:Int),0):=by
 have e:=a.r1;have f:=a.r2
 obtain⟨b,g,d,h⟩:=zpj a
 refine⟨b,?_⟩
 have key:=ze3 (N:=N) a c d h g b 0 N [] (by omega) (by omega)
 have i:pL m 0=mk (m.rows.length:Int) (0:Int):=by
  unfold pL
  rw [zb5]
  show (List.range m.rows.length).map (fun _=>((0:Nat):Int))=_
  rw [List.map_const',List.length_range];rfl
 unfold z14
 rw [zu (zb7 a c),yz (by simp),zu (show z3o N m=some m from rfl)]
 refine(zu (x:=(pL m b,(b:Int))) ?_).trans ?_
 ·unfold z1t
  rw [zi ⟨by omega,by omega,by omega⟩,←i]
  exact key
 ·rw [show z6a m=pL m b from zv0 a d (by omega)]
/-! ### The reference-/
section ref
variable {N : Nat} {m : Mach}
end ref
end GV
end Go.Proofs.YtkkcidhcfkmbjaaGreatDoor

namespace Go.Proofs.YtkkcidhcfkmbjaaGreatDoor
namespace GV
set_option maxRecDepth 100000
/-! ### First ones,merged-/
def fcI(m:Mach)(s:Nat):Int:=(cls m s:Int)
theorem zjo{m:Mach}(s t:Nat):fcI m s=fcI m t↔cls m s=cls m t:=by unfold fcI;omega
theorem ztk{m:Mach}{s:Nat}:name (fcI m) s=cls m s:=by
 rw [z5v (g:=cls m) (n:=s+1) (fun a b _ _=>zjo a b) (Nat.lt_succ_self s),z7j]
theorem zmi{m:Mach}{s:Nat}:z0z (fcI m) s=z0z (cls m) s:=zbf (n:=s+1) (fun a b _ _=>zjo a b) (Nat.lt_succ_self s)
theorem zwi{m:Mach}{s:Nat}:cntF (fcI m) s=cntF (cls m) s:=zbc (n:=s) (fun a b _ _=>zjo a b) (Nat.le_refl s)
theorem zgn{m:Mach}:(z6a m).length=m.rows.length:=zjj _
theorem zgs{m:Mach}{s:Nat}(a:s<m.rows.length):(z6a m).getD s default=(cls m s:Int):=zny a
section
variable {N : Nat} {m : Mach}
theorem zt4(n:MOk m)(u:200≤N):iy N (z6a m)=some (z02 (lc (cls m) m.rows.length),z6a m):=by
 have o:=n.r2;have p:=zgn (m:=m)
 have q:uz N (z6a m) N ([]:List Int) 0 ([]:List (Int×Int)) (mk ((z6a m).length:Int) (0:Int))=some (z02 (lc (cls m) m.rows.length),z6a m):=by
  refine mq (σ:=List Int×List (Int×Int)×List Int) (fun F k st=>uz N (z6a m) F st.1 (k:Int) st.2.1 st.2.2) m.rows.length
   (fun k st=>st.1=z02 (lc (cls m) k)∧st.2.1=nmM (fcI m) k∧st.2.2=(List.range k).map (fun s=>(cls m s:Int))++List.replicate (m.rows.length-k) 0) _ (fun F k st l hi=> .inr ?_) (fun F st hi=>?_) N 0 ([],[],mk ((z6a m).length:Int) (0:Int)) (Nat.zero_le _) (by omega) ⟨rfl,rfl,by rw [p,zb5];simp⟩
  ·obtain⟨A,M,X⟩:=st
   obtain⟨d,i,f⟩:=hi
   dsimp only at d i f⊢
   subst d;subst i;subst f
   have g:((List.range k).map (fun s=>(cls m s:Int))).length=k:=by simp
   have a:(z02 (lc (cls m) k)).length=cntF (cls m) k:=by rw [lw,z1n]
   have hcle:=zah (cls m) k
   have hkey:ix (z6a m) (k:Int)=fcI m k:=zgs l
   refine⟨(z02 (lc (cls m) (k+1)),nmM (fcI m) (k+1),(List.range (k+1)).map (fun s=>(cls m s:Int))++List.replicate (m.rows.length-(k+1)) 0),⟨rfl,rfl,rfl⟩,?_⟩
   simp only [uz]
   rw [bq (by omega),zi (j3 (by omega)),hkey]
   refine(zu (x:=(z02 (lc (cls m) (k+1)),nmM (fcI m) (k+1))) ?_).trans ?_
   ·cases h:z1x (nmM (fcI m) k) (fcI m k)
    ·refine(ct (b:= !false) rfl).trans ?_
     have c:z0z (cls m) k=true:=by
      rw [←zmi]
      exact ae.2 fun t j e=>by
       have:=(z81 (fcI m) (fcI m k) k).2 ⟨t,j,e⟩
       rw [h] at this;cases this
     rw [zi ⟨by rw [a];simp only [List.length_singleton];omega,by rw [a];simp only [List.length_singleton];omega⟩]
     have r:((z02 (lc (cls m) k)).length:Int)=((nmM (fcI m) k).length:Int):=by rw [a,zju,zwi]
     rw [r,zpe _ h,zab,if_pos c]
     unfold z02
     rw [List.map_append];rfl
    ·refine(cf (b:= !true) rfl).trans ?_
     have c: ¬z0z (cls m) k=true:=fun c=>by
      rw [←zmi] at c
      obtain⟨t,j,e⟩:=(z81 (fcI m) (fcI m k) k).1 h
      exact ae.1 c t j e
     rw [zog _ h,zab,if_neg c,List.append_nil]
   ·have hget:ai (0:Int) (nmM (fcI m) (k+1)) (fcI m k)=(cls m k:Int):=by rw [ziz _ _ (Nat.lt_succ_self k),ztk]
    rw [zi (j3 (by rw [List.length_append,g,List.length_replicate];omega)),zi (ja (by omega)),hget,z1p,zff g l,z7x]
    rfl
  ·obtain⟨A,M,X⟩:=st
   obtain⟨d,i,f⟩:=hi
   dsimp only at d i f⊢
   subst d;subst f
   simp only [uz]
   rw [yz (by omega),Nat.sub_self,List.replicate_zero,List.append_nil];rfl
 unfold iy
 rw [zi ⟨by omega,by omega,by omega⟩,zu q]
def gE(m:Mach)(e:Edge):Edge:=⟨hI (cls m) e.to,e.out⟩
theorem zwa(f:MOk m)(o:200≤N){u:Nat}(k:u<m.rows.length)(A:List Int):yw N (A,z6a m) (m.rows.getD u default) N 0 (m.rows.getD u default)=some ((m.rows.getD u default).map (gE m)):=by
 have hi2:=f.i2;have l:=f.r2
 have hrow:=f.row u k
 generalize hR:m.rows.getD u default=R at*
 refine mq (σ:=List Edge) (fun F i st=>yw N (A,z6a m) R F (i:Int) st) R.length (fun i st=>st=(R.take i).map (gE m)++R.drop i) _ (fun F i st hi g=> .inr ?_) (fun F st g=>?_) N 0 R (Nat.zero_le _) (by omega) (by simp)
 ·subst g
  have a:((R.take i).map (gE m)).length=i:=by rw [List.length_map,List.length_take];omega
  have hlen:((R.take i).map (gE m)++R.drop i).length=R.length:=by rw [List.length_append,a,List.length_drop];omega
  have hget:ix ((R.take i).map (gE m)++R.drop i) (i:Int)=R.getD i default:=by
   rw [pg,zdy R i hi,List.getD_eq_getElem?_getD,List.getElem?_append_right (by omega),a,Nat.sub_self]
   rfl
  have c:=f.edge u i k (by rw [hR];exact hi)
  rw [hR] at c
  have hset: ∀ z,((R.take i).map (gE m)++R.drop i).set i z=((R.take i).map (gE m)++[z])++R.drop (i+1):=fun z=>by
   rw [zdy R i hi,List.set_append_right _ _ (by omega),a,Nat.sub_self];simp
  have hnext:(R.take (i+1)).map (gE m)=(R.take i).map (gE m)++[gE m (R.getD i default)]:=by
   rw [z5x R i hi,List.map_append];rfl
  refine⟨_,rfl,?_⟩
  simp only [yw]
  rw [bq (by omega),hnext]
  refine(zu (x:=((R.take i).map (gE m)++[gE m (R.getD i default)])++R.drop (i+1)) ?_).trans ?_
  ·rw [zi (j3 (by rw [hlen];exact hi)),hget]
   rcases c with⟨b,n⟩|⟨b,n,_,_⟩
   ·rw [yz (fun h=>h b),←hset]
    have:gE m (R.getD i default)=R.getD i default:=by
     unfold gE;rw [b,zk4]
     generalize R.getD i default=e at*
     cases e;simp only at b;rw [b]
    rw [this]
    refine congrArg some (z15 (by rw [List.length_set]) fun j p=>?_)
    simp only [List.getD_eq_getElem?_getD,List.getElem?_set]
    by_cases e:i=j
    ·subst e
     rw [if_pos rfl,if_pos (by rw [hlen];exact hi),←List.getD_eq_getElem?_getD]
     exact hget
    ·rw [if_neg e]
   ·have d: ¬(R.getD i default).to= -1:=by omega
    rw [bq d,zi ⟨b,by rw [zgn];omega⟩,zi (j3 (by rw [hlen];exact hi)),z1p,hset]
    have:ix (z6a m) (R.getD i default).to=hI (cls m) (R.getD i default).to:=by
     unfold hI
     rw [if_neg d]
     exact zgs (by omega)
    rw [this];rfl
  ·rw [zi (ja (by omega))];rfl
 ·subst g
  simp only [yw]
  rw [yz (by omega),List.drop_length,List.take_length,List.append_nil]
theorem merged_eq(b:MOk m)(j:200≤N):z0j N m (z6a m)=some (z0e m,z6a m):=by
 have k:=b.r2;have hi2:=b.i2
 have l:=zah (cls m) m.rows.length
 have a:(z02 (lc (cls m) m.rows.length)).length=cntF (cls m) m.rows.length:=by rw [lw,z1n]
 have n:yt N m (z02 (lc (cls m) m.rows.length),z6a m) N 0 ([]:List (List Edge))=some (z0e m).rows:=by
  refine mq (σ:=List (List Edge)) (fun F c st=>yt N m (z02 (lc (cls m) m.rows.length),z6a m) F (c:Int) st) (cntF (cls m) m.rows.length)
   (fun c st=>st=((lc (cls m) m.rows.length).take c).map fun u=>(m.rows.getD u default).map (gE m)) _ (fun F c st f g=> .inr ?_) (fun F st g=>?_) N 0 [] (Nat.zero_le _) (by omega) rfl
  ·subst g
   obtain⟨h,p,q⟩:=z2t f
   have d:c<(lc (cls m) m.rows.length).length:=by rw [z1n];exact f
   have o:ix (z02 (lc (cls m) m.rows.length)) (c:Int)=(((lc (cls m) m.rows.length).getD c 0:Nat):Int):=z5f d
   have hrow:=b.row _ h
   refine⟨_,rfl,?_⟩
   simp only [yt]
   have i:ix m.rows (((lc (cls m) m.rows.length).getD c 0:Nat):Int)=m.rows.getD ((lc (cls m) m.rows.length).getD c 0) default:=rfl
   rw [bq (by rw [a];omega),zi (j3 (by rw [a];exact f)),o,zi (j3 h),i]
   refine(zu (x:=m.rows.getD ((lc (cls m) m.rows.length).getD c 0) default) ?_).trans ?_
   ·unfold au
    rw [zi ⟨by simp only [List.length_nil];omega,by simp only [List.length_nil];omega⟩,List.nil_append]
   refine(zu (zwa b j h _)).trans ?_
   refine(zu (x:=(m.rows.getD ((lc (cls m) m.rows.length).getD c 0) default).map (gE m)) ?_).trans ?_
   ·unfold z01
    rw [zi (zf2 _),zew]
   have e:(((lc (cls m) m.rows.length).take c).map fun u=>(m.rows.getD u default).map (gE m)).length=c:=by rw [List.length_map,List.length_take];omega
   rw [zi ⟨by rw [e];simp only [List.length_singleton];omega,by rw [e];simp only [List.length_singleton];omega⟩,zi (ja (by omega))]
   have:(lc (cls m) m.rows.length).take (c+1)=(lc (cls m) m.rows.length).take c++[(lc (cls m) m.rows.length).getD c 0]:=z5x _ c d
   rw [this,List.map_append];rfl
  ·subst g
   simp only [yt]
   rw [yz (by rw [a];omega),List.take_of_length_le (by rw [z1n];exact Nat.le_refl _)];rfl
 unfold z0j
 rw [zu (zt4 b j),zu n]
 rfl
/-! ### The map-/
def z4z(m:Mach):List Nat:=z0d (rch (z0e m) 0)
def z8p(m:Mach)(s:Nat):Int:=if occ (rch m 0) s=true then(((z4z m).idxOf (cls m s):Nat):Int) else-1
def zhe(m:Mach):List Int:=(List.range m.rows.length).map (z8p m)
theorem zu7:(zhe m).length=m.rows.length:=by simp [zhe]
theorem zt6{s:Nat}(a:s<m.rows.length):(zhe m).getD s default=z8p m s:=nk _ a
theorem q0u(a:MOk m):rch (z0e m) 0=z8m (cls m) (rch m 0):=by
 have:=zxz (zd5 a) (s0:=0) (by have:=a.r1;omega)
 rwa [zl1] at this
theorem zy5(a:MOk m):Rch (z0e m) 0 (rch (z0e m) 0):=z6v (z6u a)
theorem zk0(a:MOk m){s:Nat}(h:occ (rch m 0) s=true):cls m s∈z4z m:=by
 obtain⟨j,e,rfl⟩:=z4f.1 h
 unfold z4z
 rw [q0u a,za4]
 obtain⟨f,b,g⟩:=z0o (z3k (cls m) (rch m 0)) j
 obtain⟨c,d⟩:=zey (h:=cls m) (P:=rch m 0) (u:=z4a (z3k (cls m) (rch m 0)) j) (by omega) (z4j _ _)
 exact⟨_,by rw [zmg];exact c,by rw [d];exact b⟩
theorem zsx(b:MOk m){c:Nat}(d:c∈z4z m):zwm (rch (z0e m) 0) (rch (uq m) 0) c=(((z4z m).idxOf c:Nat):Int):=by
 have f:=z6u b
 have e:=zy5 b
 obtain⟨g,h⟩:=zcy e
 have hren:=zp1 f (ig e) g
 rw [h] at hren
 have hmin:uq m=ng (z0e m) (z0d (rch (z0e m) 0)):=rfl
 have hocc:occ (rch (z0e m) 0) c=true:=z4f.2 (za4.1 d)
 unfold zwm
 rw [if_pos hocc,hmin,hren]
 obtain⟨i,j⟩:=z4d d
 have a:(z4z m).idxOf c<(rch (z0e m) 0).length:=by rw [←z3n];exact i
 show ((((rch (z0e m) 0).map (ren (z0d (rch (z0e m) 0)))).getD ((z4z m).idxOf c) default).st:Int)=_
 rw [getD_map a]
 show (((z4z m).idxOf (((rch (z0e m) 0).getD ((z4z m).idxOf c) default).st):Nat):Int)=_
 rw [←z5q _ a]
 show (((z4z m).idxOf ((z4z m).getD ((z4z m).idxOf c) 0):Nat):Int)=_
 rw [j]
theorem zur{n:Nat}{g:Nat→Int}{A:List Nat}{k:Nat}(c:k<A.length)(a:A.getD k 0<n):((List.range n).map fun s=>if s∈A.take k then g s else-1).set (A.getD k 0) (g (A.getD k 0))=(List.range n).map fun s=>if s∈A.take (k+1) then g s else-1:=by
 refine z15 (by simp) fun s b=>?_
 rw [List.length_set,List.length_map,List.length_range] at b
 have d:A.take (k+1)=A.take k++[A.getD k 0]:=z5x A k c
 rw [nk _ b,List.getD_eq_getElem?_getD,List.getElem?_set,d]
 by_cases e:A.getD k 0=s
 ·rw [if_pos e,if_pos (by simpa using a),if_pos (List.mem_append.2 (.inr (List.mem_singleton.2 e.symm))),e];rfl
 ·rw [if_neg e,←List.getD_eq_getElem?_getD,nk _ b]
  by_cases h:s∈A.take k
  ·rw [if_pos h,if_pos (List.mem_append.2 (.inl h))]
  ·rw [if_neg h,if_neg (fun h'=>by rcases List.mem_append.1 h' with h'|h';exact h h';exact e (List.mem_singleton.1 h').symm)]
theorem zou(a:MOk m)(c:200≤N):z0k N m=some (uq m,zhe m,0):=by
 have l:=a.r1;have q:=a.r2
 have n:=z6u a
 obtain⟨j,r⟩:=zmv (N:=N) a c
 have t:=z6v a
 have hreach:z2u N m=some (z02 ((List.range m.rows.length).filter fun s=>occ (rch m 0) s),0):=by
  rw [zsh a c,zua t];rfl
 generalize hA:(List.range m.rows.length).filter (fun s=>occ (rch m 0) s)=A at hreach
 have o: ∀ k,k<A.length→A.getD k 0<m.rows.length∧occ (rch m 0) (A.getD k 0)=true:=fun k d=>by
  have hmem:A.getD k 0∈A:=by simp [List.getD_eq_getElem?_getD,d]
  have hmem':A.getD k 0∈(List.range m.rows.length).filter (fun s=>occ (rch m 0) s):=by rw [hA];exact hmem
  rw [List.mem_filter,List.mem_range] at hmem'
  exact hmem'
 have u:A.length≤m.rows.length:=by
  rw [←hA];exact Nat.le_trans (List.length_filter_le _ _) (by simp)
 have hiso:ru N (z0e m) (uq m)=some (zh1 (z0e m).rows.length (rch (z0e m) 0) (rch (uq m) 0),true,0):=by
  rw [zy9 n (zb2 a) c,if_pos (show z3v (z0e m)=z3v (uq m) from(zrc n).symm)]
 have v:bf N (z0e m,z6a m) (zh1 (z0e m).rows.length (rch (z0e m) 0) (rch (uq m) 0),true,0) (z02 A,0) N 0 (List.replicate m.rows.length (-1))=some (zhe m):=by
  refine mq (σ:=List Int) (fun F k st=>bf N (z0e m,z6a m) (zh1 (z0e m).rows.length (rch (z0e m) 0) (rch (uq m) 0),true,0) (z02 A,0) F (k:Int) st) A.length
   (fun k st=>st=(List.range m.rows.length).map fun s=>if s∈A.take k then(((z4z m).idxOf (cls m s):Nat):Int) else-1) _ (fun F k st d b=> .inr ?_) (fun F st b=>?_) N 0 _ (Nat.zero_le _) (by omega) ?_
  ·subst b
   obtain⟨f,w⟩:=o k d
   have p:=zk0 a w
   have i:=zbe (m:=m) f
   have x:ix (z02 A) (k:Int)=((A.getD k 0:Nat):Int):=z5f d
   have y:ix (z6a m) ((A.getD k 0:Nat):Int)=((cls m (A.getD k 0):Nat):Int):=zgs f
   have hi:ix (zh1 (z0e m).rows.length (rch (z0e m) 0) (rch (uq m) 0)) ((cls m (A.getD k 0):Nat):Int)=(((z4z m).idxOf (cls m (A.getD k 0)):Nat):Int):=by
    rw [pg,zst (by rw [zad];exact i),zsx a p]
   refine⟨_,rfl,?_⟩
   simp only [bf]
   rw [bq (by rw [lw];omega),zi (j3 (by rw [lw];exact d)),x,zi (j3 (by rw [zgn];exact f)),y,zi (j3 (by rw [zsr,zad];exact i)),hi,zi (j3 (by simpa using f)),zi (ja (by omega)),z1p,zur (g:=fun s=>(((z4z m).idxOf (cls m s):Nat):Int)) d f]
   rfl
  ·subst b
   simp only [bf]
   rw [yz (by rw [lw];omega),List.take_length]
   refine congrArg some (List.map_congr_left fun s e=>?_)
   have hs':=List.mem_range.1 e
   unfold z8p
   by_cases h:occ (rch m 0) s=true
   ·rw [if_pos h,if_pos (by rw [←hA,List.mem_filter];exact⟨e,h⟩)]
   ·rw [if_neg h,if_neg (by rw [←hA,List.mem_filter];exact fun h'=>h h'.2)]
  ·refine z15 (by simp) fun s e=>?_
   rw [List.length_replicate] at e
   rw [nk _ e]
   simp [List.getD_eq_getElem?_getD,e]
 unfold z0k
 rw [zu r,yz (by simp),zu (merged_eq a c)]
 refine(zu (show lu N (z0e m)=some (uq m,0) from zsm n c)).trans ?_
 rw [yz (by simp)]
 refine(zu hiso).trans ?_
 rw [yz (by simp),zu (zhi c l (by omega)),zu hreach]
 refine(zu v).trans ?_
 rw [zu zix]
theorem zbl(a:MOk m)(b:200≤N):dm N m=some (uq m,0):=by
 unfold dm
 rw [zu (zou a b)]
theorem zvz(a:MOk m)(b:200≤N):z1c N m=some (zhe m,0):=by
 unfold z1c
 rw [zu (zou a b)]
end
end GV
end Go.Proofs.YtkkcidhcfkmbjaaGreatDoor

