
import Derived.Test.YtkkcidhcfkmbjaaGreatDoorShPlain
import Derived.Test.YtkkcidhcfkmbjaaGreatDoorShPl
import Derived.Test.YtkkcidhcfkmbjaaGreatDoorShMap
set_option linter.unusedVariables false
set_option linter.unusedSimpArgs false
set_option linter.unusedSectionVars false
namespace Go.Proofs.YtkkcidhcfkmbjaaGreatDoor
namespace GV
def eOk(m:Mach)(e:Edge):Prop:=(e.to= -1∧e.out= -1)∨(0≤e.to∧e.to<m.rows.length∧0≤e.out∧e.out<m.outputs)
structure MOk (m:Mach):Prop where
 i1:1≤m.inputs
 i2:m.inputs≤16
 o1:1≤m.outputs
 o2:m.outputs≤16
 r1:1≤m.rows.length
 r2:m.rows.length≤64
 row: ∀ s,s<m.rows.length→((m.rows.getD s default).length:Int)=m.inputs
 edge: ∀ s i,s<m.rows.length→i<(m.rows.getD s default).length→eOk m ((m.rows.getD s default).getD i default)
def ut(m:Mach)(s i:Int):Edge:=if s<0 then⟨-1,-1⟩ else(m.rows.getD s.toNat default).getD i.toNat default
def bq(m:Mach):Int→List Int→List Int
 |_,[]=>[]
 |s,i::w=>(ut m s i).out::bq m (ut m s i).to w
def aftL(m:Mach):Int→List Int→Int
 |s,[]=>s
 |s,i::w=>aftL m (ut m s i).to w
def WOk(n:Int)(w:List Int):Prop:= ∀ k,k<w.length→0≤w.getD k default∧w.getD k default<n
def SOk(m:Mach)(s:Int):Prop:=s= -1∨(0≤s∧s<m.rows.length)
theorem z3h(m:Mach): ∀ (s:Int) (u v:List Int),aftL m s (u++v)=aftL m (aftL m s u) v
 |s,[],v=>rfl
 |s,i::u,v=>z3h m _ u v
theorem z1q(m:Mach): ∀ (s:Int) (u v:List Int),bq m s (u++v)=bq m s u++bq m (aftL m s u) v
 |s,[],v=>rfl
 |s,i::u,v=>by
  show _::bq m _ (u++v)=_::(bq m _ u++_)
  rw [z1q m _ u v];rfl
theorem lm(m:Mach): ∀ (s:Int) (w:List Int),(bq m s w).length=w.length
 |s,[]=>rfl
 |s,i::w=>by simp [bq,lm m _ w]
theorem z4e(w:List Int)(k:Nat)(h:k<w.length):w.take (k+1)=w.take k++[w.getD k default]:=by
 rw [List.take_succ_eq_append_getElem h];simp [List.getD_eq_getElem?_getD,h]
theorem ze8(m:Mach)(s:Int)(w:List Int)(k:Nat)(h:k<w.length):bq m s (w.take (k+1))=bq m s (w.take k)++[(ut m (aftL m s (w.take k)) (w.getD k default)).out]:=by
 rw [z4e w k h,z1q];rfl
theorem zkn(m:Mach)(s:Int)(w:List Int)(k:Nat)(h:k<w.length):aftL m s (w.take (k+1))=(ut m (aftL m s (w.take k)) (w.getD k default)).to:=by
 rw [z4e w k h,z3h];rfl
theorem z99(m:Mach)(a:MOk m)(s i:Int)(b:SOk m s)(hi:0≤i∧i<m.inputs):SOk m (ut m s i).to∧ -1≤(ut m s i).out∧(ut m s i).out≤16:=by
 unfold ut
 split
 ·exact⟨.inl rfl,by simp,by simp⟩
 ·have hs':0≤s∧s<m.rows.length:=by rcases b with h|h<;>omega
  have c:=a.row s.toNat (by omega)
  have d:=a.o2
  rcases a.edge s.toNat i.toNat (by omega) (by omega) with h|h
  ·exact⟨.inl h.1,by omega,by omega⟩
  ·exact⟨.inr ⟨h.1,h.2.1⟩,by omega,by omega⟩
theorem z6u(m:Mach)(b:MOk m): ∀ (s:Int) (w:List Int),SOk m s→WOk m.inputs w→SOk m (aftL m s w)
 |s,[],a,_=>a
 |s,i::w,a,c=>z6u m b _ w (z99 m b s i a (by simpa using c 0 (by simp))).1 (fun k d=>by simpa using c (k+1) (by simpa using d))
theorem zh1{n:Int}{w:List Int}(h:WOk n w)(k:Nat):WOk n (w.take k):=fun j a=>by
 rw [List.length_take] at a
 have:=h j (by omega)
 rwa [show (w.take k).getD j default=w.getD j default from by simp only [List.getD_eq_getElem?_getD,List.getElem?_take];rw [if_pos (by omega)]]
theorem zno(X:List Int)(n k:Nat)(z:Int)(a:X.length=k)(b:k<n):(X++List.replicate (n-k) (0:Int)).set k z=(X++[z])++List.replicate (n-(k+1)) (0:Int):=by
 subst a
 rw [List.set_append_right _ _ (Nat.le_refl _),Nat.sub_self,List.append_assoc]
 congr 1
 rw [show n-X.length=(n-(X.length+1))+1 from by omega,List.replicate_succ]
 rfl
def zgv(m:Mach)(x:Edge):Bool:=decide (x.to= -1∧x.out= -1)||(((decide (0≤x.to)&&decide (x.to<m.rows.length))&&decide (0≤x.out))&&decide (x.out<m.outputs))
theorem zl0(m:Mach)(x:Edge):zgv m x=true↔eOk m x:=by
 simp [zgv,eOk];omega
theorem z8n{α:Type}[Inhabited α](p:α→Bool)(X:List α)(k:Nat)(h:k<X.length):(X.take (k+1)).any p=((X.take k).any p||p (X.getD k default)):=by
 rw [List.take_succ_eq_append_getElem h,List.any_append]
 simp [List.getD_eq_getElem?_getD,h]
def zbg{α:Type}(p:α→Bool)(X:List α):Int:=match X.findIdx? p with|some i=>i|none=> -1
theorem zet{α:Type}(p:α→Bool)(X:List α):decide (0≤zbg p X)=X.any p:=by
 unfold zbg
 cases h:X.findIdx? p with
 |none=>
  have:=List.findIdx?_eq_none_iff.1 h
  simp only [Bool.eq_false_iff] at*
  rw [show decide ((0:Int)≤ -1)=false from rfl]
  symm
  rw [List.any_eq_false]
  intro x a
  simp [this x a]
 |some i=>
  obtain⟨hi,b,_⟩:=List.findIdx?_eq_some_iff_getElem.1 h
  rw [show decide ((0:Int)≤(i:Int))=true from by simp]
  symm
  rw [List.any_eq_true]
  exact⟨_,List.getElem_mem hi,b⟩
theorem z7v{α:Type}[Inhabited α](p:α→Bool)(X:List α)(k:Nat)(h:k<X.length)(a:(X.take k).any p=false)(b:p (X.getD k default)=true):zbg p X=k:=by
 have:X.findIdx? p=some k:=by
  rw [List.findIdx?_eq_some_iff_getElem]
  refine⟨h,by simpa [List.getD_eq_getElem?_getD,h] using b,fun j c=>?_⟩
  rw [List.any_eq_false] at a
  have:=a X[j] (by rw [List.mem_take_iff_getElem];exact⟨j,by omega,rfl⟩)
  simpa using this
 simp [zbg,this]
theorem ze9{α:Type}(p:α→Bool)(X:List α)(a:X.any p=false):zbg p X= -1:=by
 have:X.findIdx? p=none:=by
  rw [List.findIdx?_eq_none_iff]
  rw [List.any_eq_false] at a
  intro x b
  simpa using a x b
 simp [zbg,this]
def eqB{α:Type}(p:α→α→Bool):List α→List α→Bool
 | [],[]=>true
 |x::xs,y::ys=>p x y&&eqB p xs ys
 |_,_=>false
def z1w(m:Mach)(r:List Edge):Bool:=decide ((r.length:Int)≠m.inputs)||r.any fun x=> !zgv m x
def fu(m:Mach):Int:=if(16<m.inputs∨16<m.outputs)∨64<m.rows.length then 3 else if(m.inputs<1∨m.outputs<1)∨m.rows.length<1 then 1 else if m.rows.any (z1w m)=true then 1 else 0
structure Small (m:Mach):Prop where
 r:m.rows.length≤100
 c: ∀ k,k<m.rows.length→(m.rows.getD k default).length≤100
theorem znh{m:Mach}(h:(16<m.inputs∨16<m.outputs)∨64<m.rows.length):fu m=3:=by unfold fu;rw [if_pos h]
theorem zlx{m:Mach}(h: ¬((16<m.inputs∨16<m.outputs)∨64<m.rows.length))(a:(m.inputs<1∨m.outputs<1)∨m.rows.length<1):fu m=1:=by unfold fu;rw [if_neg h,if_pos a]
theorem zmd{m:Mach}(h: ¬((16<m.inputs∨16<m.outputs)∨64<m.rows.length))(a: ¬((m.inputs<1∨m.outputs<1)∨m.rows.length<1))(b:m.rows.any (z1w m)=false):fu m=0:=by
 unfold fu;rw [if_neg h,if_neg a,if_neg (by rw [b];decide)]
theorem z5u{α:Type}[Inhabited α](p:α→Bool)(X:List α):X.any p=false↔ ∀ k,k<X.length→p (X.getD k default)=false:=by
 rw [List.any_eq_false]
 refine⟨fun h k a=>by simpa using h _ (z0x a),fun h x b=>?_⟩
 obtain⟨k,a,rfl⟩:=List.getElem_of_mem b
 have:=h k a
 simp only [List.getD_eq_getElem?_getD,List.getElem?_eq_getElem a,Option.getD_some] at this
 simp [this]
theorem z5i(m:Mach)(r:List Edge):z1w m r=false↔(r.length:Int)=m.inputs∧ ∀ i,i<r.length→eOk m (r.getD i default):=by
 unfold z1w
 rw [Bool.or_eq_false_iff,z5u]
 refine and_congr (by simp) (forall_congr' fun i=>forall_congr' fun hi=>?_)
 rw [←zl0];simp
theorem lc(m:Mach):fu m=0↔MOk m:=by
 unfold fu
 by_cases h:(16<m.inputs∨16<m.outputs)∨64<m.rows.length
 ·rw [if_pos h];exact⟨fun h=>absurd h (by decide),fun a=>by have:=a.i2;have:=a.o2;have:=a.r2;omega⟩
 rw [if_neg h]
 by_cases h1:(m.inputs<1∨m.outputs<1)∨m.rows.length<1
 ·rw [if_pos h1];exact⟨fun h=>absurd h (by decide),fun a=>by have:=a.i1;have:=a.o1;have:=a.r1;omega⟩
 rw [if_neg h1]
 cases hr:m.rows.any (z1w m)
 ·rw [if_neg (by decide)]
  have:=(z5u _ _).1 hr
  exact⟨fun _=>⟨by omega,by omega,by omega,by omega,by omega,by omega,fun s b=>((z5i m _).1 (this s b)).1,fun s i b hi=>((z5i m _).1 (this s b)).2 i hi⟩,fun _=>rfl⟩
 ·rw [if_pos rfl]
  refine⟨fun h=>absurd h (by decide),fun a=>?_⟩
  have:m.rows.any (z1w m)=false:=(z5u _ _).2 fun k c=>(z5i m _).2 ⟨a.row k c,fun i hi=>a.edge k i c hi⟩
  rw [hr] at this;cases this
theorem MOk.small{m:Mach}(a:MOk m):Small m:=⟨by have:=a.r2;omega,fun k b=>by have:=a.row k b;have:=a.i2;omega⟩
def z2s(m:Mach)(s:Int):Int:=if fu m≠0 then fu m else if s<0∨(m.rows.length:Int)≤s then 1 else 0
theorem zne{m:Mach}{s:Int}(h:z2s m s=0):MOk m∧0≤s∧s<m.rows.length:=by
 unfold z2s at h
 by_cases h1:fu m≠0
 ·rw [if_pos h1] at h;exact absurd h h1
 rw [if_neg h1] at h
 by_cases h2:s<0∨(m.rows.length:Int)≤s
 ·rw [if_pos h2] at h;cases h
 exact⟨(lc m).1 (by omega),by omega,by omega⟩
theorem zkl{m:Mach}{s:Int}(a:MOk m)(h:0≤s∧s<m.rows.length):z2s m s=0:=by
 unfold z2s;rw [if_neg (by rw [(lc m).2 a];simp),if_neg (by omega)]
def z5d(n c:Int):Bool:=decide (c<0)||decide (n≤c)
def z0n(w:List Int)(n:Int):Int:=if 16<n∨256<w.length then 3 else if n<1 then 1 else if w.any (z5d n)=true then 1 else 0
theorem zmj{w:List Int}{n:Int}(h:16<n∨256<w.length):z0n w n=3:=by unfold z0n;rw [if_pos h]
theorem zn7{w:List Int}{n:Int}(h: ¬(16<n∨256<w.length))(a:n<1∨w.any (z5d n)=true):z0n w n=1:=by
 unfold z0n;rw [if_neg h]
 by_cases h2:n<1
 ·rw [if_pos h2]
 ·rw [if_neg h2,if_pos (a.resolve_left h2)]
theorem zh6{w:List Int}{n:Int}(h: ¬(16<n∨256<w.length))(a: ¬(n<1∨w.any (z5d n)=true)):z0n w n=0:=by
 unfold z0n;rw [if_neg h,if_neg (fun h=>a (.inl h)),if_neg (fun h=>a (.inr h))]
theorem zn8{w:List Int}{n:Int}(h:z0n w n=0):WOk n w∧w.length≤256:=by
 unfold z0n at h
 by_cases h1:16<n∨256<w.length
 ·rw [if_pos h1] at h;cases h
 rw [if_neg h1] at h
 by_cases h2:n<1
 ·rw [if_pos h2] at h;cases h
 rw [if_neg h2] at h
 cases h3:w.any (z5d n)
 ·refine⟨fun k a=>?_,by omega⟩
  have:=(z5u _ _).1 h3 k a
  simp [z5d] at this
  exact this
 ·rw [h3,if_pos rfl] at h;cases h
def zqr(m:Mach)(s:Int)(w:List Int):Int:=if z2s m s≠0 then z2s m s else z0n w m.inputs
def zqu(m:Mach)(s:Int)(w:List Int):List Int:=if z2s m s≠0 then [] else if z0n w m.inputs≠0 then [] else bq m s w
theorem zky{α:Type}[Inhabited α](X:List α)(k:Nat)(h:k<X.length):X.drop k=X.getD k default::X.drop (k+1):=by
 rw [List.drop_eq_getElem_cons h];simp [List.getD_eq_getElem?_getD,h]
theorem z0r{α:Type}[Inhabited α]{X Y:List α}(b:X.length=Y.length)(h: ∀ k,k<X.length→X.getD k default=Y.getD k default):X=Y:=by
 refine List.ext_getElem b fun k a c=>?_
 have:=h k a
 simpa only [List.getD_eq_getElem?_getD,List.getElem?_eq_getElem a,List.getElem?_eq_getElem c,Option.getD_some] using this
def z2t(m:Mach)(k:Nat):Edge:=(m.rows.getD (k/m.inputs.toNat) default).getD (k%m.inputs.toNat) default
def z5c(m:Mach)(k:Nat):List (Int×Int):=((List.range k).filter fun k=>decide ((z2t m k).to= -1∧(z2t m k).out= -1)).map fun k=>(((k/m.inputs.toNat:Nat):Int),((k%m.inputs.toNat:Nat):Int))
def zcy(m:Mach):List (Int×Int):=z5c m (m.rows.length*m.inputs.toNat)
theorem zg9(m:Mach):z5c m 0=[]:=rfl
theorem zg2(m:Mach)(k:Nat):z5c m (k+1)=z5c m k++if(z2t m k).to= -1∧(z2t m k).out= -1 then [(((k/m.inputs.toNat:Nat):Int),((k%m.inputs.toNat:Nat):Int))] else []:=by
 unfold z5c
 rw [List.range_succ,List.filter_append,List.map_append]
 congr 1
 by_cases h:(z2t m k).to= -1∧(z2t m k).out= -1
 ·rw [if_pos h];simp [h]
 ·rw [if_neg h];simp only [List.filter_cons,List.filter_nil,decide_eq_false h];rfl
theorem zlu(m:Mach)(k:Nat):(z5c m k).length≤k:=by
 unfold z5c;rw [List.length_map];exact Nat.le_trans (List.length_filter_le _ _) (by simp)
theorem zal{n k i:Nat}(h:i<n):(k*n+i)/n=k:=by
 rw [Nat.mul_comm,Nat.mul_add_div (by omega),Nat.div_eq_of_lt h];rfl
theorem zam{n k i:Nat}(h:i<n):(k*n+i)%n=i:=by
 rw [Nat.mul_comm,Nat.mul_add_mod,Nat.mod_eq_of_lt h]
theorem MOk.mul{m:Mach}(a:MOk m):m.rows.length*m.inputs.toNat≤1024∧(m.rows.length:Int)*m.inputs=((m.rows.length*m.inputs.toNat:Nat):Int):=by
 have b:=a.r2;have c:=a.i1;have d:=a.i2
 refine⟨Nat.le_trans (Nat.mul_le_mul b (show m.inputs.toNat≤16 by omega)) (by decide),?_⟩
 rw [Int.natCast_mul,Int.toNat_of_nonneg (by omega)]
theorem zdi{n k i N:Nat}(a:k<N)(hi:i<n):k*n+i<N*n:=by
 have:(k+1)*n≤N*n:=Nat.mul_le_mul_right n a
 rw [Nat.succ_mul] at this;omega
def z2w(m:Mach):Bool:=if fu m≠0 then false else decide (((zcy m).length:Int)=0)
inductive Reach (m:Mach) (s:Nat):Nat→Prop
 |refl:Reach m s s
 |step {t i:Nat}:Reach m s t→t<m.rows.length→i<(m.rows.getD t default).length→0≤((m.rows.getD t default).getD i default).to→Reach m s ((m.rows.getD t default).getD i default).to.toNat
theorem Reach.trans{m:Mach}{a b c:Nat}(h:Reach m a b)(k:Reach m b c):Reach m a c:=by
 induction k with
 |refl=>exact h
 |step _ e hi d ih=>exact .step ih e hi d
theorem Reach.lt{m:Mach}(c:MOk m){a b:Nat}(h:Reach m a b)(d:a<m.rows.length):b<m.rows.length:=by
 cases h with
 |refl=>exact d
 |step g e f i=>rcases c.edge _ _ e f with h|h<;>omega
def Closed(m:Mach)(Y:List Bool)(t:Nat):Prop:= ∀ i,i<(m.rows.getD t default).length→0≤((m.rows.getD t default).getD i default).to→Y.getD ((m.rows.getD t default).getD i default).to.toNat default=true
structure Vis (m:Mach) (X:List Bool) (s:Int) (Y:List Bool):Prop where
 len:Y.length=X.length
 cnt:Y.count false≤X.count false
 mono: ∀ t,X.getD t default=true→Y.getD t default=true
 here:0≤s→Y.getD s.toNat default=true
 reach: ∀ t,Y.getD t default=true→X.getD t default=true∨(0≤s∧Reach m s.toNat t)
 closed: ∀ t,t<m.rows.length→Y.getD t default=true→X.getD t default=true∨Closed m Y t
structure VisK (m:Mach) (X:List Bool) (s:Nat) (k:Nat) (Y:List Bool):Prop where
 len:Y.length=X.length
 cnt:Y.count false<X.count false
 mono: ∀ t,X.getD t default=true→Y.getD t default=true
 here:Y.getD s default=true
 reach: ∀ t,Y.getD t default=true→X.getD t default=true∨Reach m s t
 closed: ∀ t,t<m.rows.length→Y.getD t default=true→X.getD t default=true∨t=s∨Closed m Y t
 done: ∀ i,i<k→0≤((m.rows.getD s default).getD i default).to→Y.getD ((m.rows.getD s default).getD i default).to.toNat default=true
theorem Small.mem{m:Mach}(h:Small m){r:List Edge}(b:r∈m.rows):r.length≤100:=by
 obtain⟨k,a,rfl⟩:=List.getElem_of_mem b
 have:=h.c k a
 simpa [List.getD_eq_getElem?_getD,a] using this
def zsu(m:Mach)(Y:List Bool):Prop:= ∀ t,t<m.rows.length→Y.getD t default=true→Closed m Y t
structure RInv (m:Mach) (a:Nat) (r:Nat) (Y:List Bool):Prop where
 len:Y.length=m.rows.length
 sound: ∀ t,Y.getD t default=true→Reach m a t
 start:Y.getD a default=true
 prog:zsu m Y∨r<Y.count true
structure RPass (m:Mach) (a:Nat) (Y0:List Bool) (s i:Nat) (Y:List Bool):Prop where
 len:Y.length=m.rows.length
 sound: ∀ t,Y.getD t default=true→Reach m a t
 start:Y.getD a default=true
 fix:zsu m Y0→Y=Y0
 prog:Y0.count true<Y.count true∨(Y=Y0∧ ∀ t,t<m.rows.length→Y.getD t default=true→ ∀ j,(t<s∨(t=s∧j<i))→j<(m.rows.getD t default).length→0≤((m.rows.getD t default).getD j default).to→Y.getD ((m.rows.getD t default).getD j default).to.toNat default=true)
def MDat.n(x:MDat):Int:=1+x.states%6
def MDat.inp(x:MDat):Int:=1+x.ins%3
def MDat.out(x:MDat):Int:=1+x.outs%3
def MDat.num(x:MDat)(k:Nat):Int:=if k<x.edges.length then x.edges.getD k default else 0
def zg4(x:MDat)(v:Int):Edge:=if x.part=true∧v%4=3 then⟨-1,-1⟩ else⟨v/4%x.n,v/4/x.n%x.out⟩
def z8v(x:MDat)(s i:Nat):Edge:=zg4 x (x.num (s*x.inp.toNat+i))
def zfm(x:MDat)(s:Nat):List Edge:=(List.range x.inp.toNat).map (z8v x s)
def mOf(x:MDat):Mach:=⟨x.inp,x.out,(List.range x.n.toNat).map (zfm x)⟩
structure MDOk (x:MDat):Prop where
 st:0≤x.states∧x.states≤255
 ins:0≤x.ins∧x.ins≤255
 outs:0≤x.outs∧x.outs≤255
 ed: ∀ k,k<x.edges.length→0≤x.edges.getD k default∧x.edges.getD k default≤65535
theorem MDOk.num{x:MDat}(h:MDOk x)(k:Nat):0≤x.num k∧x.num k≤65535:=by
 unfold MDat.num
 split
 ·exact h.ed k (by assumption)
 ·omega
theorem z6p{α:Type}[Inhabited α](f:Nat→α){n k:Nat}(h:k<n):((List.range n).map f).getD k default=f k:=by
 simp [List.getD_eq_getElem?_getD,h]
theorem znz{x:MDat}{v:Int}{m:Mach}(c:0≤v)(a:(m.rows.length:Int)=x.n)(b:m.outputs=x.out)(d:1≤x.n)(e:1≤x.out):eOk m (zg4 x v):=by
 unfold zg4 eOk
 split
 ·exact .inl ⟨rfl,rfl⟩
 ·refine .inr ⟨Int.emod_nonneg _ (by omega),?_,Int.emod_nonneg _ (by omega),?_⟩
  ·rw [a];exact Int.emod_lt_of_pos _ (by omega)
  ·rw [b];exact Int.emod_lt_of_pos _ (by omega)
theorem zre{x:MDat}(h:MDOk x):MOk (mOf x):=by
 have e:=h.st;have f:=h.ins;have g:=h.outs
 have c:1≤x.n∧x.n≤6:=by unfold MDat.n;omega
 have d:1≤x.inp∧x.inp≤3:=by unfold MDat.inp;omega
 have b:1≤x.out∧x.out≤3:=by unfold MDat.out;omega
 have j:(mOf x).rows.length=x.n.toNat:=by simp [mOf]
 have hrow: ∀ s,s<(mOf x).rows.length→(mOf x).rows.getD s default=zfm x s:=fun s a=>z6p _ (by omega)
 refine⟨d.1,by show x.inp≤16;omega,b.1,by show x.out≤16;omega,by omega,by omega,fun s a=>?_,fun s i a hi=>?_⟩
 ·rw [hrow s a];show ((zfm x s).length:Int)=x.inp;simp [zfm];omega
 ·rw [hrow s a] at hi⊢
  have hi':i<x.inp.toNat:=by simpa [zfm] using hi
  rw [show (zfm x s).getD i default=z8v x s i from z6p _ hi']
  exact znz (h.num _).1 (by omega) rfl c.1 b.1
theorem zoo{x:MDat}{s i:Nat}{v:Int}(a:x.num (s*x.inp.toNat+i)=v)(h:x.part=true∧v%4=3):z8v x s i=⟨-1,-1⟩:=by
 unfold z8v zg4;rw [a,if_pos h]
theorem zpu{x:MDat}{s i:Nat}{v:Int}(b:x.num (s*x.inp.toNat+i)=v)(h:x.part=true→ ¬v%4=3):z8v x s i=⟨v/4%x.n,v/4/x.n%x.out⟩:=by
 unfold z8v zg4;rw [b,if_neg (fun a=>h a.1 a.2)]
theorem zc0{α:Type}(f:Nat→α)(k:Nat):(List.range (k+1)).map f=(List.range k).map f++[f k]:=by rw [List.range_succ,List.map_append];rfl
theorem zl1{k:Nat}{a:Int}(b:k≤6)(c:1≤a∧a≤3):0≤(k:Int)*a∧(k:Int)*a≤18∧(k:Int)*a=((k*a.toNat:Nat):Int):=by
 have e:(k:Int)*a=((k*a.toNat:Nat):Int):=by rw [Int.natCast_mul,Int.toNat_of_nonneg (by omega)]
 have h:k*a.toNat≤6*3:=Nat.mul_le_mul b (by omega)
 exact⟨by omega,by omega,e⟩
end GV
end Go.Proofs.YtkkcidhcfkmbjaaGreatDoor

namespace Go.Proofs.YtkkcidhcfkmbjaaGreatDoor
namespace GV
/-! ### The order of words-/
def z5l:List Int→List Int→Prop
 |a::x,b::y=>a<b∨(a=b∧z5l x y)
 |_,_=>False
def llt(a b:List Int):Prop:=a.length<b.length∨(a.length=b.length∧z5l a b)
def lle(a b:List Int):Prop:=a=b∨llt a b
theorem z94: ∀ a,¬z5l a a
 | [],h=>h
 |x::a,h=>by
  rcases h with h|⟨_,h⟩
  ·omega
  ·exact z94 a h
theorem zb0: ∀ {a b c},z5l a b→z5l b c→z5l a c
 | [],_,_,h,_=>h.elim
 |_::_,[],_,h,_=>h.elim
 |_::_,_::_,[],_,h=>h.elim
 |x::a,y::b,z::c,h,k=>by
  rcases h with h|⟨rfl,h⟩
  ·rcases k with k|⟨rfl,k⟩
   ·exact .inl (by omega)
   ·exact .inl h
  ·rcases k with k|⟨rfl,k⟩
   ·exact .inl k
   ·exact .inr ⟨rfl,zb0 h k⟩
theorem zco: ∀ {a b:List Int} (i j:Int),z5l a b→a.length=b.length→z5l (a++[i]) (b++[j])
 | [],_,_,_,h,_=>h.elim
 |_::_,[],_,_,h,_=>h.elim
 |x::a,y::b,i,j,h,c=>by
  rcases h with h|⟨rfl,h⟩
  ·exact .inl h
  ·exact .inr ⟨rfl,zco i j h (by simpa using c)⟩
theorem zci: ∀ (a:List Int) {i j:Int},i<j→z5l (a++[i]) (a++[j])
 | [],_,_,h=> .inl h
 |_::a,_,_,h=> .inr ⟨rfl,zci a h⟩
theorem zi8(a:List Int): ¬llt a a:=by
 rintro(h|⟨_,h⟩)
 ·omega
 ·exact z94 a h
theorem z4t{a b c:List Int}(h:llt a b)(k:llt b c):llt a c:=by
 rcases h with h|⟨h,h'⟩
 ·rcases k with k|⟨k,_⟩
  ·exact .inl (by omega)
  ·exact .inl (by omega)
 ·rcases k with k|⟨k,k'⟩
  ·exact .inl (by omega)
  ·exact .inr ⟨by omega,zb0 h' k'⟩
theorem zbv{a b:List Int}(i j:Int)(h:llt a b):llt (a++[i]) (b++[j]):=by
 rcases h with h|⟨h,h'⟩
 ·exact .inl (by simp;omega)
 ·exact .inr ⟨by simp [h],zco i j h' h⟩
theorem zh5(a:List Int){i j:Int}(h:i<j):llt (a++[i]) (a++[j]):= .inr ⟨by simp,zci a h⟩
theorem z9r{a b c:List Int}(h:lle a b)(k:lle b c):lle a c:=by
 rcases h with rfl|h
 ·exact k
 ·rcases k with rfl|k
  ·exact .inr h
  ·exact .inr (z4t h k)
theorem zgm{a b:List Int}(i:Int)(h:lle a b):lle (a++[i]) (b++[i]):=by
 rcases h with rfl|h
 ·exact .inl rfl
 ·exact .inr (zbv i i h)
theorem zpi{a b c:List Int}(h:lle a b)(k:llt b c):llt a c:=by
 rcases h with rfl|h
 ·exact k
 ·exact z4t h k
theorem zot{a b:List Int}(h:lle a b): ¬llt b a:=fun k=>zi8 _ (zpi h k)
/-! ### Entries-/
structure BE where
 st:Nat
 par:Int
 inp:Int
 wd:List Int
 deriving DecidableEq,Inhabited
def ed(m:Mach)(s i:Nat):Int:=((m.rows.getD s default).getD i default).to
def occ(All:List BE)(t:Nat):Bool:=All.any fun e=>decide (e.st=t)
theorem z00{All:List BE}{t:Nat}:occ All t=true↔ ∃ j,j<All.length∧(All.getD j default).st=t:=by
 unfold occ
 rw [List.any_eq_true]
 constructor
 ·rintro⟨e,c,b⟩
  obtain⟨j,a,rfl⟩:=List.mem_iff_getElem.1 c
  exact⟨j,a,by simpa [List.getD_eq_getElem?_getD,a] using b⟩
 ·rintro⟨j,a,b⟩
  exact⟨_,z0x a,by simpa using b⟩
def push(m:Mach)(x:BE)(All:List BE)(i:Nat):List BE:=
 if ed m x.st i= -1 then All else if occ All (ed m x.st i).toNat=true then All else All++[⟨(ed m x.st i).toNat,x.st,i,x.wd++[(i:Int)]⟩]
def je(m:Mach)(x:BE)(All:List BE):Nat→List BE
 |0=>All
 |k+1=>push m x (je m x All k) k
def bfs(m:Mach):Nat→Nat→List BE→List BE
 |0,_,All=>All
 |g+1,p,All=>if p<All.length then bfs m g (p+1) (je m (All.getD p default) All m.inputs.toNat) else All
theorem z5k{m:Mach}(a:MOk m){s i:Nat}(b:s<m.rows.length)(hi:i<m.inputs.toNat):ed m s i= -1∨(0≤ed m s i∧ed m s i<m.rows.length):=by
 have:=z99 m a (s:Int) (i:Int) (.inr ⟨by omega,by omega⟩) ⟨by omega,by have:=a.i1;omega⟩
 have h:=this.1
 unfold ut at h
 rw [if_neg (by omega)] at h
 exact h
theorem zhl(m:Mach)(x:BE)(All:List BE)(i:Nat):All<+:push m x All i:=by
 unfold push
 split
 ·exact List.prefix_refl _
 ·split
  ·exact List.prefix_refl _
  ·exact List.prefix_append _ _
theorem ny(m:Mach)(x:BE)(All:List BE): ∀ k,All<+:je m x All k
 |0=>List.prefix_refl _
 |k+1=>(ny m x All k).trans (zhl m x _ k)
theorem zbk(m:Mach): ∀ g p All,All<+:bfs m g p All
 |0,_,All=>List.prefix_refl _
 |g+1,p,All=>by
  unfold bfs
  split
  ·exact(ny m _ All _).trans (zbk m g (p+1) _)
  ·exact List.prefix_refl _
theorem z6q{X Y:List BE}(h:X<+:Y){j:Nat}(a:j<X.length):Y.getD j default=X.getD j default:=by
 obtain⟨t,rfl⟩:=h
 simp [List.getD_eq_getElem?_getD,List.getElem?_append_left a]
structure Inv (m:Mach) (s0 p k:Nat) (All:List BE):Prop where
 pos:0<All.length
 root:All.getD 0 default=⟨s0,-1,-1,[]⟩
 rng: ∀ j,j<All.length→(All.getD j default).st<m.rows.length
 dis: ∀ i j,i<All.length→j<All.length→(All.getD i default).st=(All.getD j default).st→i=j
 aft: ∀ j,j<All.length→aftL m s0 (All.getD j default).wd=((All.getD j default).st:Int)
 par: ∀ j,0<j→j<All.length→ ∃ q i,q<j∧i<m.inputs.toNat∧(All.getD j default).par=((All.getD q default).st:Int)∧(All.getD j default).inp=(i:Int)∧(All.getD j default).wd=(All.getD q default).wd++[(i:Int)]∧ed m (All.getD q default).st i=((All.getD j default).st:Int)
 inc: ∀ i j,i<j→j<All.length→llt (All.getD i default).wd (All.getD j default).wd
 bnd:p<All.length→ ∀ j,j<All.length→llt (All.getD j default).wd ((All.getD p default).wd++[(k:Int)])
 cls: ∀ q i,q<All.length→i<m.inputs.toNat→(q<p∨(q=p∧i<k))→ed m (All.getD q default).st i≠ -1→ ∃ j,j<All.length∧((All.getD j default).st:Int)=ed m (All.getD q default).st i∧lle (All.getD j default).wd ((All.getD q default).wd++[(i:Int)])
theorem zfr{X:List BE}{e:BE}{j:Nat}(h:j<X.length):(X++[e]).getD j default=X.getD j default:=by
 simp [List.getD_eq_getElem?_getD,List.getElem?_append_left h]
theorem zdq{X:List BE}{e:BE}:(X++[e]).getD X.length default=e:=by
 simp [List.getD_eq_getElem?_getD]
theorem zm2{m:Mach}(z:MOk m){s0 p k:Nat}{All:List BE}(h:Inv m s0 p k All)(g:p<All.length)(y:k<m.inputs.toNat):Inv m s0 p (k+1) (push m (All.getD p default) All k):=by
 have r:=h.bnd g
 have hlast:llt ((All.getD p default).wd++[(k:Int)]) ((All.getD p default).wd++[((k+1:Nat):Int)]):=zh5 _ (by omega)
 have hsame:(∀ q i,q=p→i=k→ed m (All.getD q default).st i≠ -1→ ∃ j,j<All.length∧((All.getD j default).st:Int)=ed m (All.getD q default).st i∧lle (All.getD j default).wd ((All.getD q default).wd++[(i:Int)]))→Inv m s0 p (k+1) All:=fun s=>
  {h with
   bnd:=fun _ j a=>z4t (r j a) hlast
   cls:=fun q i f hi d c=>by
    rcases d with l|⟨rfl,l⟩
    ·exact h.cls q i f hi (.inl l) c
    ·by_cases e:i=k
     ·exact s q i rfl e c
     ·exact h.cls q i f hi (.inr ⟨rfl,by omega⟩) c}
 unfold push
 by_cases h1:ed m (All.getD p default).st k= -1
 ·rw [if_pos h1]
  exact hsame fun q i f hi c=>by subst f;subst hi;exact absurd h1 c
 ·rw [if_neg h1]
  have t:=z5k z (h.rng p g) y
  obtain⟨C,D⟩:=t.resolve_left h1
  by_cases h4:occ All (ed m (All.getD p default).st k).toNat=true
  ·rw [if_pos h4]
   refine hsame fun q i f hi c=>?_
   subst f;subst hi
   obtain⟨j,a,u⟩:=z00.1 h4
   exact⟨j,a,by rw [u];omega,.inr (r j a)⟩
  ·rw [if_neg h4]
   have hnew: ∀ j,j<All.length→(All.getD j default).st≠(ed m (All.getD p default).st k).toNat:=fun j a e=>h4 (z00.2 ⟨j,a,e⟩)
   have hlen:(All++[(⟨(ed m (All.getD p default).st k).toNat,((All.getD p default).st:Int),(k:Int),(All.getD p default).wd++[(k:Int)]⟩:BE)]).length=All.length+1:=by simp
   generalize hE:(⟨(ed m (All.getD p default).st k).toNat,((All.getD p default).st:Int),(k:Int),(All.getD p default).wd++[(k:Int)]⟩:BE)=e at hlen⊢
   have n:e.st=(ed m (All.getD p default).st k).toNat:=by rw [←hE]
   have A:e.par=((All.getD p default).st:Int):=by rw [←hE]
   have B:e.inp=(k:Int):=by rw [←hE]
   have o:e.wd=(All.getD p default).wd++[(k:Int)]:=by rw [←hE]
   have cs: ∀ j,j<(All++[e]).length→j<All.length∨j=All.length:=fun j a=>by rw [hlen] at a;omega
   have lt:=fun {j:Nat} (a:j<All.length)=>zfr (e:=e) a
   have le:=zdq (X:=All) (e:=e)
   refine⟨by rw [hlen];omega,by rw [lt h.pos];exact h.root,fun j a=>?_,fun i j hi a b=>?_,fun j a=>?_,fun j v a=>?_,fun i j b a=>?_,fun _ j a=>?_,fun q i f hi d c=>?_⟩
   ·rcases cs j a with a|rfl
    ·rw [lt a];exact h.rng j a
    ·rw [le,n];omega
   ·rcases cs i hi with hi|rfl<;>rcases cs j a with a|rfl
    ·rw [lt hi,lt a] at b;exact h.dis i j hi a b
    ·rw [lt hi,le,n] at b;exact absurd b (hnew i hi)
    ·rw [le,lt a,n] at b;exact absurd b.symm (hnew j a)
    ·rfl
   ·rcases cs j a with a|rfl
    ·rw [lt a];exact h.aft j a
    ·rw [le,o,n,z3h,h.aft p g]
     show (ut m ((All.getD p default).st:Int) (k:Int)).to=_
     unfold ut
     rw [if_neg (by omega)]
     show ed m (All.getD p default).st k=_
     omega
   ·rcases cs j a with a|rfl
    ·obtain⟨q,i,w,x⟩:=h.par j v a
     exact⟨q,i,w,by rw [lt a,lt (by omega)];exact x⟩
    ·refine⟨p,k,g,y,?_⟩
     rw [le,lt g,n,A,B,o]
     exact⟨rfl,rfl,rfl,by omega⟩
   ·rcases cs j a with a|rfl
    ·rw [lt a,lt (by omega)];exact h.inc i j b a
    ·rw [le,lt b,o];exact r i b
   ·rw [lt g]
    rcases cs j a with a|rfl
    ·rw [lt a];exact z4t (r j a) hlast
    ·rw [le,o];exact hlast
   ·have hq':q<All.length:=by rcases d with l|⟨rfl,_⟩<;>omega
    rw [lt hq'] at c⊢
    by_cases s:q=p∧i=k
    ·obtain⟨rfl,rfl⟩:=s
     exact⟨All.length,by rw [hlen];omega,by rw [le,n];omega,by rw [le,o];exact .inl rfl⟩
    ·obtain⟨j,a,w,x⟩:=h.cls q i hq' hi (by rcases d with l|⟨rfl,l⟩;exact .inl l;exact .inr ⟨rfl,by omega⟩) c
     exact⟨j,by rw [hlen];omega,by rw [lt a];exact w,by rw [lt a];exact x⟩
theorem z6x{m:Mach}(a:MOk m){s0 p:Nat}{All:List BE}(h:Inv m s0 p 0 All)(b:p<All.length): ∀ k,k≤m.inputs.toNat→Inv m s0 p k (je m (All.getD p default) All k)
 |0,_=>h
 |k+1,c=>by
  have ih:=z6x a h b k (by omega)
  have hpre:=ny m (All.getD p default) All k
  have e:(je m (All.getD p default) All k).getD p default=All.getD p default:=z6q hpre b
  have:=zm2 a ih (by have:=hpre.length_le;omega) (by omega)
  rw [e] at this
  exact this
theorem zcr{m:Mach}{s0 p:Nat}{All:List BE}(h:Inv m s0 p m.inputs.toNat All)(c:p<All.length):Inv m s0 (p+1) 0 All:=
 {h with
  bnd:=fun hp' j d=>z4t (h.bnd c j d) (zbv _ _ (h.inc p (p+1) (by omega) hp'))
  cls:=fun q i e hi a b=>h.cls q i e hi (by rcases a with f|⟨_,f⟩;exact(Nat.lt_or_ge q p).imp id fun _=>⟨by omega,hi⟩;omega) b}
theorem z5a{m:Mach}{s0 p k:Nat}{All:List BE}(h:Inv m s0 p k All):All.length≤m.rows.length:=by
 have b:(All.map (·.st)).Nodup:=by
  rw [List.nodup_iff_pairwise_ne,List.pairwise_iff_getElem]
  intro i j hi a c e
  rw [List.length_map] at hi a
  rw [List.getElem_map,List.getElem_map] at e
  have:=h.dis i j hi a (by simpa [List.getD_eq_getElem?_getD,a,hi] using e)
  omega
 have hsub:(All.map (·.st))⊆List.range m.rows.length:=by
  intro x d
  obtain⟨e,f,rfl⟩:=List.mem_map.1 d
  obtain⟨j,a,rfl⟩:=List.mem_iff_getElem.1 f
  have:=h.rng j a
  rw [List.mem_range]
  simpa [List.getD_eq_getElem?_getD,a] using this
 have:=List.Nodup.length_le_of_subset b hsub
 simpa using this
theorem zjc{m:Mach}(a:MOk m){s0:Nat}: ∀ (g p:Nat) (All:List BE),p+g=m.rows.length→p≤All.length→Inv m s0 p 0 All→ ∃ q,(bfs m g p All).length≤q∧Inv m s0 q 0 (bfs m g p All)
 |0,p,All,b,c,h=>⟨p,by have:=z5a h;show All.length≤p;omega,h⟩
 |g+1,p,All,b,c,h=>by
  unfold bfs
  by_cases hlt:p<All.length
  ·rw [if_pos hlt]
   have d:=z6x a h hlt _ (Nat.le_refl _)
   have hpre:=(ny m (All.getD p default) All m.inputs.toNat).length_le
   exact zjc a g (p+1) _ (by omega) (by omega) (zcr d (by omega))
  ·rw [if_neg hlt]
   exact⟨p,by omega,h⟩
def rch(m:Mach)(s0:Nat):List BE:=bfs m m.rows.length 0 [⟨s0,-1,-1,[]⟩]
structure Rch (m:Mach) (s0:Nat) (P:List BE):Prop where
 pos:0<P.length
 le:P.length≤m.rows.length
 root:P.getD 0 default=⟨s0,-1,-1,[]⟩
 rng: ∀ j,j<P.length→(P.getD j default).st<m.rows.length
 dis: ∀ i j,i<P.length→j<P.length→(P.getD i default).st=(P.getD j default).st→i=j
 aft: ∀ j,j<P.length→aftL m s0 (P.getD j default).wd=((P.getD j default).st:Int)
 par: ∀ j,0<j→j<P.length→ ∃ q i,q<j∧i<m.inputs.toNat∧(P.getD j default).par=((P.getD q default).st:Int)∧(P.getD j default).inp=(i:Int)∧(P.getD j default).wd=(P.getD q default).wd++[(i:Int)]∧ed m (P.getD q default).st i=((P.getD j default).st:Int)
 inc: ∀ i j,i<j→j<P.length→llt (P.getD i default).wd (P.getD j default).wd
 cls: ∀ q i,q<P.length→i<m.inputs.toNat→ed m (P.getD q default).st i≠ -1→ ∃ j,j<P.length∧((P.getD j default).st:Int)=ed m (P.getD q default).st i∧lle (P.getD j default).wd ((P.getD q default).wd++[(i:Int)])
theorem zcf{m:Mach}{s0:Nat}(b:s0<m.rows.length):Inv m s0 0 0 [⟨s0,-1,-1,[]⟩]:=by
 have c: ∀ j,j<[(⟨s0,-1,-1,[]⟩:BE)].length→j=0:=fun j a=>by simpa using a
 refine⟨by simp,rfl,fun j a=>?_,fun i j hi a _=>?_,fun j a=>?_,fun j h a=>?_,fun i j d a=>?_,fun _ j a=>?_,fun q i e hi f g=>?_⟩
 ·rw [c j a];exact b
 ·rw [c i hi,c j a]
 ·rw [c j a];rfl
 ·have:=c j a;omega
 ·have:=c j a;omega
 ·rw [c j a];exact .inl (by simp)
 ·have:=c q e;omega
theorem z6l{m:Mach}(b:MOk m){s0:Nat}(c:s0<m.rows.length):Rch m s0 (rch m s0):=by
 obtain⟨q,d,h⟩:=zjc b m.rows.length 0 _ (by omega) (by simp) (zcf c)
 exact⟨h.pos,z5a h,h.root,h.rng,h.dis,h.aft,h.par,h.inc,fun q' i hq' hi a=>h.cls q' i hq' hi (.inl (Nat.lt_of_lt_of_le hq' d)) a⟩
section rch
variable {m : Mach} {s0 : Nat} {P : List BE}
theorem Rch.wok(h:Rch m s0 P): ∀ j,j<P.length→WOk m.inputs (P.getD j default).wd∧(P.getD j default).wd.length≤j
 |j,b=>by
  by_cases h0:j=0
  ·subst h0;rw [h.root];exact⟨fun k a=>by simp at a,by simp⟩
  ·obtain⟨q,i,d,hi,_,_,c,_⟩:=h.par j (by omega) b
   obtain⟨ih,ihl⟩:=Rch.wok h q (by omega)
   rw [c]
   refine⟨fun k a=>?_,by rw [List.length_append,List.length_singleton];omega⟩
   rw [List.length_append,List.length_singleton] at a
   by_cases hk':k<(P.getD q default).wd.length
   ·rw [List.getD_eq_getElem?_getD,List.getElem?_append_left hk',←List.getD_eq_getElem?_getD];exact ih k hk'
   ·have:k=(P.getD q default).wd.length:=by omega
    subst this
    rw [List.getD_eq_getElem?_getD,List.getElem?_concat_length]
    exact⟨by simp,by simp only [Option.getD_some];omega⟩
theorem zlz{n c:Int}{u:List Int}(h:WOk n (u++[c])):WOk n u∧0≤c∧c<n:=by
 refine⟨fun k a=>?_,?_⟩
 ·have:=h k (by simp;omega)
  rwa [List.getD_eq_getElem?_getD,List.getElem?_append_left a,←List.getD_eq_getElem?_getD] at this
 ·have:=h u.length (by simp)
  rwa [List.getD_eq_getElem?_getD,List.getElem?_concat_length] at this
theorem zh4(m:Mach): ∀ (w:List Int),aftL m (-1) w= -1
 | []=>rfl
 |c::w=>by
  show aftL m (ut m (-1) c).to w= -1
  rw [show ut m (-1) c=⟨-1,-1⟩ from rfl]
  exact zh4 m w
theorem Rch.least(i:MOk m)(h:Rch m s0 P): ∀ (n:Nat) (w:List Int),w.length=n→WOk m.inputs w→aftL m s0 w≠ -1→ ∃ j,j<P.length∧((P.getD j default).st:Int)=aftL m s0 w∧lle (P.getD j default).wd w
 |0,w,b,g,a=>by
  have:w=[]:=List.length_eq_zero_iff.1 b
  subst this
  exact⟨0,h.pos,by rw [h.root];rfl,by rw [h.root];exact .inl rfl⟩
 |n+1,w,b,g,a=>by
  obtain⟨u,c,rfl⟩: ∃ u c,w=u++[c]:=⟨w.dropLast,w.getLast (by intro e;rw [e] at b;simp at b),(List.dropLast_concat_getLast _).symm⟩
  obtain⟨k,l,o⟩:=zlz g
  rw [z3h] at a⊢
  have hune:aftL m s0 u≠ -1:=fun e=>by rw [e,zh4] at a;exact a rfl
  obtain⟨q,p,d,f⟩:=Rch.least i h n u (by simpa using b) k hune
  rw [←d] at a⊢
  have hstep:aftL m ((P.getD q default).st:Int) [c]=ed m (P.getD q default).st c.toNat:=by
   show (ut m ((P.getD q default).st:Int) c).to=_
   unfold ut
   rw [if_neg (by omega)]
   rfl
  rw [hstep] at a⊢
  obtain⟨j,r,s,t⟩:=h.cls q c.toNat p (by omega) a
  refine⟨j,r,s,z9r t ?_⟩
  rw [show ((c.toNat:Nat):Int)=c by omega]
  exact zgm c f
theorem Rch.min(b:MOk m)(h:Rch m s0 P){j:Nat}(c:j<P.length){w:List Int}(d:WOk m.inputs w)(a:aftL m s0 w=((P.getD j default).st:Int)):lle (P.getD j default).wd w:=by
 obtain⟨i,hi,e,f⟩:=h.least b _ w rfl d (by rw [a];omega)
 rw [a] at e
 have:=h.dis i j hi c (by omega)
 subst this
 exact f
end rch
end GV
end Go.Proofs.YtkkcidhcfkmbjaaGreatDoor

namespace Go.Proofs.YtkkcidhcfkmbjaaGreatDoor
namespace GV
set_option maxRecDepth 100000
theorem zr3{N:Nat}{s:List Edge}{f:Edge→Option Bool}{p:Edge→Bool}(b: ∀ k,k<s.length→f (s.getD k default)=some (p (s.getD k default)))(c:s.length<N)(d:s.length≤4611686018427387904):
 yx N s f=some (zbg p s):=by
 have h:jb N s f N 0=some (if s.any p=true then Ex.rt (zbg p s) else Ex.go ()):=by
  refine o7 (σ:=Unit) (fun F k _=>jb N s f F (k:Int)) s.length (fun k _=>(s.take k).any p=false) _ (fun F k _ a hi=>?_) (fun F _ hi=>?_) N 0 () (Nat.zero_le _) (by omega) (by simp)
  ·simp only [jb]
   rw [gz (by omega),zm (jc a),bi,q9 (b k a)]
   cases hp:p (s.getD k default)
   ·right
    refine⟨(),by rw [z8n p s k a,hi,hp];rfl,?_⟩
    rw [cf rfl,zm (jm (by omega))];rfl
   ·left
    rw [ct rfl,if_pos (List.any_eq_true.2 ⟨_,z0x a,hp⟩),z7v p s k a hi hp]
  ·simp only [jb]
   rw [xz (by omega),if_neg (by rw [List.take_length] at hi;rw [hi];decide)]
 unfold yx
 rw [q9 h]
 by_cases ha:s.any p=true
 ·rw [if_pos ha];rfl
 ·rw [if_neg ha,ze9 p s (by simpa using ha)];rfl
theorem zkg{N:Nat}{s:List Edge}{f:Edge→Option Bool}{p:Edge→Bool}(a: ∀ k,k<s.length→f (s.getD k default)=some (p (s.getD k default)))(b:s.length<N)(c:s.length≤4611686018427387904):
 vo N s f=some (s.any p):=by
 unfold vo
 rw [q9 (zr3 a b c),zet]
theorem z96{N:Nat}{m:Mach}(b:Small m)(f:200≤N):wh N m=some (fu m):=by
 unfold wh
 by_cases h:(16<m.inputs∨16<m.outputs)∨64<m.rows.length
 ·rw [ct (by simp;omega),znh h]
 ·rw [cf (by simp;omega)]
  by_cases h1:(m.inputs<1∨m.outputs<1)∨m.rows.length<1
  ·rw [ct (by simp;omega),zlx h h1]
  ·rw [cf (by simp;omega)]
   have g:=b.r
   have d:ym N m N 0=some (if m.rows.any (z1w m)=true then Ex.rt 1 else Ex.go ()):=by
    refine o7 (σ:=Unit) (fun F k _=>ym N m F (k:Int)) m.rows.length (fun k _=>(m.rows.take k).any (z1w m)=false) _ (fun F k _ a hi=>?_) (fun F _ hi=>?_) N 0 () (Nat.zero_le _) (by omega) (by simp)
    ·simp only [ym]
     have i:=b.c k a
     rw [gz (by omega),zm (jc a),bi,zcb (fun _=>zkg (p:=fun x=> !zgv m x) (fun j l=>rfl) (by omega) (by omega))]
     have e:(decide (((m.rows.getD k default).length:Int)≠m.inputs)||((bif (true&&(decide (((m.rows.getD k default).length:Int)≠m.inputs)==false)) then some ((m.rows.getD k default).any fun x=> !zgv m x) else none).getD default))=z1w m (m.rows.getD k default):=by
      unfold z1w
      cases decide (((m.rows.getD k default).length:Int)≠m.inputs)<;>rfl
     rw [e]
     cases hr:z1w m (m.rows.getD k default)
     ·right
      refine⟨(),by rw [z8n _ _ k a,hi,hr];rfl,?_⟩
      rw [cf rfl,zm (jm (by omega))];rfl
     ·left
      rw [ct rfl,if_pos (List.any_eq_true.2 ⟨_,z0x a,hr⟩)]
    ·simp only [ym]
     rw [xz (by omega),if_neg (by rw [List.take_length] at hi;rw [hi];decide)]
   rw [q9 d]
   by_cases ha:m.rows.any (z1w m)=true
   ·rw [if_pos ha];unfold fu;rw [if_neg h,if_neg h1,if_pos ha];rfl
   ·rw [if_neg ha,zmd h h1 (by simpa using ha)];rfl
/-! ### Words-/
theorem zro{N:Nat}{s:List Int}{f:Int→Option Bool}{p:Int→Bool}(b: ∀ k,k<s.length→f (s.getD k default)=some (p (s.getD k default)))(c:s.length<N)(d:s.length≤4611686018427387904):
 di N s f=some (zbg p s):=by
 have h:ko N s f N 0=some (if s.any p=true then Ex.rt (zbg p s) else Ex.go ()):=by
  refine o7 (σ:=Unit) (fun F k _=>ko N s f F (k:Int)) s.length (fun k _=>(s.take k).any p=false) _ (fun F k _ a hi=>?_) (fun F _ hi=>?_) N 0 () (Nat.zero_le _) (by omega) (by simp)
  ·simp only [ko]
   rw [gz (by omega),zm (jc a),bi,q9 (b k a)]
   cases hp:p (s.getD k default)
   ·right
    refine⟨(),by rw [z8n p s k a,hi,hp];rfl,?_⟩
    rw [cf rfl,zm (jm (by omega))];rfl
   ·left
    rw [ct rfl,if_pos (List.any_eq_true.2 ⟨_,z0x a,hp⟩),z7v p s k a hi hp]
  ·simp only [ko]
   rw [xz (by omega),if_neg (by rw [List.take_length] at hi;rw [hi];decide)]
 unfold di
 rw [q9 h]
 by_cases ha:s.any p=true
 ·rw [if_pos ha];rfl
 ·rw [if_neg ha,ze9 p s (by simpa using ha)];rfl
theorem zkh{N:Nat}{s:List Int}{f:Int→Option Bool}{p:Int→Bool}(a: ∀ k,k<s.length→f (s.getD k default)=some (p (s.getD k default)))(b:s.length<N)(c:s.length≤4611686018427387904):
 xw N s f=some (s.any p):=by
 unfold xw
 rw [q9 (zro a b c),zet]
/-! ### Data-/
theorem zr2{N:Nat}{x:MDat}(b:MDOk x)(o:200≤N){s:Nat}(p:s<6):uh N x (s:Int) N [] 0=some (zfm x s):=by
 have q:=b.st;have r:=b.ins;have t:=b.outs
 have hinp:x.inp=1+x.ins%3:=rfl
 refine o7 (fun F i acc=>uh N x (s:Int) F acc (i:Int)) x.inp.toNat (fun i acc=>acc=(List.range i).map (z8v x s)) _ (fun F i acc hi hacc=> .inr ?_) (fun F acc hacc=>?_) N 0 [] (Nat.zero_le _) (by omega) rfl
 ·subst hacc
  refine⟨_,rfl,?_⟩
  have g:=zl1 (k:=s) (a:=x.inp) (by omega) (by omega)
  have j:(s:Int)*((1:Int)+x.ins%3)+(i:Int)=((s*x.inp.toNat+i:Nat):Int):=by
   rw [←hinp,g.2.2];rfl
  have hnum:=b.num (s*x.inp.toNat+i)
  simp only [uh]
  rw [gz (by omega)]
  have l:(gd (in64 ((s:Int)*((1:Int)+(x.ins%3))))<|gd (in64 (((s:Int)*((1:Int)+(x.ins%3)))+(i:Int)))<|bif decide (((s:Int)*((1:Int)+(x.ins%3)))+(i:Int)<(x.edges.length:Int)) then(gd (okI x.edges (((s:Int)*((1:Int)+(x.ins%3)))+(i:Int)))<|gd (in64 (ix x.edges (((s:Int)*((1:Int)+(x.ins%3)))+(i:Int))))<|some (ix x.edges (((s:Int)*((1:Int)+(x.ins%3)))+(i:Int)))) else(some (0:Int)))=some (x.num (s*x.inp.toNat+i)):=by
   rw [zm (jm (by rw [←hinp];omega)),j,zm (jm (by omega))]
   unfold MDat.num
   by_cases hk:s*x.inp.toNat+i<x.edges.length
   ·have m:=b.ed _ hk
    rw [gz (by omega),if_pos hk,zm (jc hk),zm (show in64 (ix x.edges ((s*x.inp.toNat+i:Nat):Int)) from jm (show-4611686018427387904≤x.edges.getD (s*x.inp.toNat+i) default∧x.edges.getD (s*x.inp.toNat+i) default≤4611686018427387904 by omega))];rfl
   ·rw [xz (by omega),if_neg hk]
  have hacc:((List.range i).map (z8v x s)).length=i:=by simp
  refine Eq.trans (q9 (x:=(List.range (i+1)).map (z8v x s)) (Eq.trans (q9 l) ?_)) ?_
  ·rw [zm (fun _=>⟨hnum.1,by omega⟩),zc0]
   by_cases hp:x.part=true∧x.num (s*x.inp.toNat+i)%4=3
   ·rw [ct (by rw [hp.1,decide_eq_true hp.2];rfl),zm ⟨by rw [hacc];simp;omega,by rw [hacc];simp;omega⟩,zoo rfl hp]
   ·have c:x.n=1+x.states%6:=rfl
    have d:x.out=1+x.outs%3:=rfl
    have e:0≤x.num (s*x.inp.toNat+i)/4:=by omega
    have f:0≤x.num (s*x.inp.toNat+i)/4/x.n:=Int.ediv_nonneg e (by omega)
    rw [cf (by
     rw [Bool.and_eq_false_iff]
     by_cases h:x.part=true
     ·exact .inr (decide_eq_false fun h'=>hp ⟨h,h'⟩)
     ·exact .inl (by simpa using h)),←c,←d,zm ⟨by omega,by omega,by omega⟩,zm ⟨e,by omega⟩,zm ⟨by omega,by omega,by omega⟩,zm ⟨e,by omega,by omega⟩,zm ⟨f,by omega⟩,zm ⟨by rw [hacc];simp;omega,by rw [hacc];simp;omega⟩,zpu rfl (fun h h'=>hp ⟨h,h'⟩)]
  ·rw [zm (jm (by omega))];rfl
 ·subst hacc
  simp only [uh]
  rw [xz (by omega)];rfl
theorem zrd{N:Nat}{x:MDat}(a:MDOk x)(b:200≤N):mq N x=some (mOf x):=by
 have d:=a.st;have e:=a.ins;have f:=a.outs
 have c:x.n=1+x.states%6:=rfl
 unfold mq
 rw [zm ⟨by omega,by omega⟩,zm (jm (by omega)),zm (jm (by omega)),zm ⟨by omega,by omega⟩,zm (jm (by omega)),zm (jm (by omega)),zm ⟨by omega,by omega⟩,zm (jm (by omega)),zm (jm (by omega))]
 refine Eq.trans (q9 (x:=(List.range x.n.toNat).map (zfm x)) ?_) rfl
 refine o7 (fun F s acc=>uw N x F (s:Int) acc) x.n.toNat (fun s acc=>acc=(List.range s).map (zfm x)) _ (fun F s acc g hacc=> .inr ?_) (fun F acc hacc=>?_) N 0 [] (Nat.zero_le _) (by omega) rfl
 ·subst hacc
  refine⟨_,rfl,?_⟩
  simp only [uw]
  rw [gz (by omega),q9 (zr2 a b (by omega)),zm ⟨by simp;omega,by simp;omega⟩,zm (jm (by omega)),zc0];rfl
 ·subst hacc
  simp only [uw]
  rw [xz (by omega)]
end GV
end Go.Proofs.YtkkcidhcfkmbjaaGreatDoor

namespace Go.Proofs.YtkkcidhcfkmbjaaGreatDoor
namespace GV
set_option maxRecDepth 100000
def toA(e:BE):Sb:=⟨(e.st:Int),e.par,e.inp⟩
def o8(n:Nat)(All:List BE):List Bool:=(List.range n).map fun s=>occ All s
theorem ay(n:Nat)(All:List BE):(o8 n All).length=n:=by simp [o8]
theorem z2l{n:Nat}{All:List BE}{t:Nat}(h:t<n):(o8 n All).getD t default=occ All t:=by
 simp [o8,List.getD_eq_getElem?_getD,h]
theorem zmo(All:List BE)(e:BE)(t:Nat):occ (All++[e]) t=(occ All t||decide (e.st=t)):=by simp [occ]
theorem zaw{n:Nat}{All:List BE}{e:BE}(h:e.st<n):(o8 n All).set e.st true=o8 n (All++[e]):=by
 refine z0r (by rw [List.length_set,ay,ay]) fun k a=>?_
 rw [List.length_set,ay] at a
 rw [z2l a,zmo,List.getD_eq_getElem?_getD,List.getElem?_set]
 by_cases hek:e.st=k
 ·subst hek
  rw [if_pos rfl,ay,if_pos h];simp
 ·rw [if_neg hek,←List.getD_eq_getElem?_getD,z2l a];simp [hek]
theorem zov{n:Nat}{All:List BE}{t:Int}(a:0≤t)(h:t<n):ix (o8 n All) t=occ All t.toNat:=by
 rw [zrb,z2l (by omega)]
theorem zaj{All:List BE}{p:Nat}(a:p<All.length):ix ((All.drop p).map toA) 0=toA (All.getD p default):=by
 rw [zky All p a];rfl
theorem zlq{All:List BE}{p:Nat}:cut ((All.drop p).map toA) 1 (((All.drop p).map toA).length:Int)=(All.drop (p+1)).map toA:=by
 unfold cut
 rw [Int.toNat_natCast,show (1:Int).toNat=1 from rfl,←List.map_drop,List.drop_drop,List.take_of_length_le (by simp only [List.length_map,List.length_drop];omega)]
theorem zpx{N:Nat}{m:Mach}(a:MOk m)(t:200≤N){σ:Type}{s0 p:Nat}{All:List BE}(h:Inv m s0 p 0 All)(b:p<All.length)(s:σ):
 uy N σ m ((All.drop p).map toA) N s 0 (o8 m.rows.length All) ((All.drop (p+1)).map toA)=some (.go (s,o8 m.rows.length (je m (All.getD p default) All m.inputs.toNat),((je m (All.getD p default) All m.inputs.toNat).drop (p+1)).map toA)):=by
 have hi1:=a.i1
 have hi2:=a.i2
 have l:=h.rng p b
 have hrow:=a.row _ l
 refine o7 (σ:=List Bool×List Sb) (fun F k st=>uy N σ m ((All.drop p).map toA) F s (k:Int) st.1 st.2) m.inputs.toNat
  (fun k st=>st=(o8 m.rows.length (je m (All.getD p default) All k),((je m (All.getD p default) All k).drop (p+1)).map toA)) _ (fun F k st n hi=>?_) (fun F st hi=>?_) N 0 _ (Nat.zero_le _) (by omega) rfl
 ·subst hi
  right
  refine⟨_,rfl,?_⟩
  have hinv:=z6x a h b k (by omega)
  have hpre:=ny m (All.getD p default) All k
  have o:p<(je m (All.getD p default) All k).length:=by have:=hpre.length_le;omega
  have hlen:=z5a hinv
  have q:=a.r2
  simp only [uy,zaj b]
  simp only [show ∀ e:BE,(toA e).fC=(e.st:Int) from fun _=>rfl,bi]
  rw [gz (by omega)]
  refine(q9 (x:=(s,o8 m.rows.length (je m (All.getD p default) All (k+1)),((je m (All.getD p default) All (k+1)).drop (p+1)).map toA)) ?_).trans ?_
  ·rw [zm (jc (by omega))]
   have f:((m.rows.getD (All.getD p default).st default).getD k default).to=ed m (All.getD p default).st k:=rfl
   rw [f]
   have g:=z5k a l n
   have i:je m (All.getD p default) All (k+1)=push m (All.getD p default) (je m (All.getD p default) All k) k:=rfl
   rw [i]
   unfold push
   by_cases h1:ed m (All.getD p default).st k= -1
   ·rw [if_pos h1,zm (by rw [h1];simp),h1];rfl
   ·obtain⟨c,j⟩:=g.resolve_left h1
    rw [if_neg h1,zm (fun _=>⟨c,by rw [ay];exact j⟩),zov c j]
    by_cases d:occ (je m (All.getD p default) All k) (ed m (All.getD p default).st k).toNat=true
    ·rw [if_pos d,d]
     rw [cf (by simp)]
    ·have h4':=Bool.eq_false_iff.2 d
     have hfit:fits 24 (((je m (All.getD p default) All k).drop (p+1)).map toA) ([⟨ed m (All.getD p default).st k,((All.getD p default).st:Int),(k:Int)⟩]:List Sb):=by
      have:(((je m (All.getD p default) All k).drop (p+1)).map toA).length≤64:=by rw [List.length_map,List.length_drop];omega
      exact⟨by simp only [List.length_singleton];omega,by simp only [List.length_singleton];omega⟩
     have r:((je m (All.getD p default) All k).drop (p+1)).map toA++[(⟨ed m (All.getD p default).st k,((All.getD p default).st:Int),(k:Int)⟩:Sb)]=((je m (All.getD p default) All k++[(⟨(ed m (All.getD p default).st k).toNat,((All.getD p default).st:Int),(k:Int),(All.getD p default).wd++[(k:Int)]⟩:BE)]).drop (p+1)).map toA:=by
      rw [List.drop_append_of_le_length (by omega),List.map_append]
      congr 1
      show [_]=[_]
      simp only [toA,Int.toNat_of_nonneg c]
     rw [if_neg d,ct (by rw [decide_eq_true h1,h4'];rfl),zm ⟨c,by rw [ay];exact j⟩,zm hfit]
     exact congrArg some (Prod.ext rfl (Prod.ext (zaw (e:=⟨(ed m (All.getD p default).st k).toNat,((All.getD p default).st:Int),(k:Int),(All.getD p default).wd++[(k:Int)]⟩) (by show (ed m _ _).toNat<_;omega)) r))
  ·rw [zm (jm (by omega))];rfl
 ·subst hi
  simp only [uy,zaj b]
  simp only [show ∀ e:BE,(toA e).fC=(e.st:Int) from fun _=>rfl,bi]
  rw [xz (by omega)]
theorem znf{m:Mach}{g p:Nat}{All:List BE}(h: ¬p<All.length):bfs m g p All=All:=by
 cases g with
 |zero=>rfl
 |succ g=>unfold bfs;rw [if_neg h]
theorem zjd{N:Nat}{m:Mach}(a:MOk m)(c:200≤N){σ:Type}{s0:Nat}(B:Sb→σ→Option (Bool×σ))(f:Nat→σ): ∀ (g p F:Nat) (All:List BE),p+g=m.rows.length→p≤All.length→Inv m s0 p 0 All→g<F→
 (∀ k,p≤k→k<(bfs m g p All).length→B (toA ((bfs m g p All).getD k default)) (f k)=some (true,f (k+1)))→
 xc N σ B m F (f p) (o8 m.rows.length All) ((All.drop p).map toA)=some (f (bfs m g p All).length)
 |g,p,0,All,_,_,_,i,_=>by omega
 |g,p,F+1,All,o,j,h,i,b=>by
  simp only [xc]
  by_cases hp:p<All.length
  ·have hlen:=z5a h
   obtain⟨g',rfl⟩: ∃ g',g=g'+1:=⟨g-1,by omega⟩
   have hbfs:bfs m (g'+1) p All=bfs m g' (p+1) (je m (All.getD p default) All m.inputs.toNat):=by
    show (if p<All.length then _ else _)=_
    rw [if_pos hp]
   have l:((All.drop p).map toA).length=All.length-p:=by simp
   have hget:(bfs m (g'+1) p All).getD p default=All.getD p default:=z6q (zbk m _ p All) hp
   have d:=(zbk m (g'+1) p All).length_le
   have e:=b p (Nat.le_refl _) (by omega)
   rw [hget] at e
   refine(q9 (x:=(Ex.go (f (p+1),o8 m.rows.length (je m (All.getD p default) All m.inputs.toNat),((je m (All.getD p default) All m.inputs.toNat).drop (p+1)).map toA):Ex (σ×List Bool×List Sb) σ)) ?_).trans ?_
   ·rw [gz (by omega),zm ⟨by omega,by omega⟩,zm ⟨by omega,by omega,by omega⟩,zaj hp,q9 (show B ⟨(toA (All.getD p default)).fC,(toA (All.getD p default)).fH,(toA (All.getD p default)).fG⟩ (f p)=some (true,f (p+1)) from e)]
    simp only [Bool.not_true,cond_false]
    rw [zm (show okI m.rows (toA (All.getD p default)).fC from jc (h.rng p hp)),zlq]
    exact zpx a c h hp _
   ·rw [z9u]
    have hpre:=(ny m (All.getD p default) All m.inputs.toNat).length_le
    rw [hbfs] at b⊢
    exact zjd a c B f g' (p+1) F _ (by omega) (by omega) (zcr (z6x a h hp _ (Nat.le_refl _)) (by omega)) (by omega) fun k q hk'=>b k (by omega) hk'
  ·have n:p=All.length:=by omega
   have l:((All.drop p).map toA).length=0:=by simp;omega
   rw [xz (by omega),z7r,zul,znf hp,←n]
theorem zmr{N:Nat}{m:Mach}(b:MOk m)(d:200≤N){σ:Type}{s0:Nat}(c:s0<m.rows.length)(B:Sb→σ→Option (Bool×σ))(f:Nat→σ)
 (g: ∀ k,k<(rch m s0).length→B (toA ((rch m s0).getD k default)) (f k)=some (true,f (k+1))):bz N m (s0:Int) σ B (f 0)=some (f (rch m s0).length):=by
 have h:=b.r2
 have i:=b.r1
 unfold bz
 rw [zm ⟨by omega,by omega,by omega⟩,za0,zm (jc (by rw [List.length_replicate];exact c)),z3t]
 have:=zjd (N:=N) b d B f m.rows.length 0 N [⟨s0,-1,-1,[]⟩] (by omega) (Nat.zero_le _) (zcf c) (by omega) (fun k _ a=>g k a)
 have e:(List.replicate m.rows.length false).set s0 true=o8 m.rows.length [⟨s0,-1,-1,[]⟩]:=by
  have:=zaw (n:=m.rows.length) (All:=[]) (e:=⟨s0,-1,-1,[]⟩) c
  rw [List.nil_append] at this
  rw [←this]
  congr 1
  refine z0r (by rw [List.length_replicate,ay]) fun k a=>?_
  rw [List.length_replicate] at a
  rw [z2l a]
  simp [List.getD_eq_getElem?_getD,a,occ]
 rw [e]
 exact this
end GV
end Go.Proofs.YtkkcidhcfkmbjaaGreatDoor

namespace Go.Proofs.YtkkcidhcfkmbjaaGreatDoor
namespace GV
set_option maxRecDepth 100000
def wdOf(P:List BE)(t:Nat):List Int:=((P.find? fun e=>decide (e.st=t)).map (·.wd)).getD []
def au(n:Nat)(P:List BE):List (List Int):=(List.range n).map (wdOf P)
theorem bn(n:Nat)(P:List BE):(au n P).length=n:=by simp [au]
theorem z0k{n:Nat}{P:List BE}{t:Nat}(h:t<n):(au n P).getD t default=wdOf P t:=by
 simp [au,List.getD_eq_getElem?_getD,h]
theorem za6(P:List BE)(e:BE)(t:Nat):wdOf (P++[e]) t=if occ P t=true then wdOf P t else if e.st=t then e.wd else []:=by
 unfold wdOf occ
 rw [List.find?_append]
 by_cases h:(P.any fun e=>decide (e.st=t))=true
 ·rw [if_pos h]
  obtain⟨x,a,b⟩:=List.any_eq_true.1 h
  cases hf:P.find? (fun e=>decide (e.st=t)) with
  |none=>exact absurd b (by simpa using List.find?_eq_none.1 hf x a)
  |some y=>rfl
 ·rw [if_neg h]
  have c:P.find? (fun e=>decide (e.st=t))=none:=List.find?_eq_none.2 fun x a b=>h (List.any_eq_true.2 ⟨x,a,b⟩)
  rw [c]
  by_cases he:e.st=t
  ·simp [he]
  ·simp [he]
theorem zl6{P:List BE}{t:Nat}(h:occ P t=false):wdOf P t=[]:=by
 unfold wdOf occ at*
 have a:P.find? (fun e=>decide (e.st=t))=none:=List.find?_eq_none.2 fun x b c=>by
  have:(P.any fun e=>decide (e.st=t))=true:=List.any_eq_true.2 ⟨x,b,c⟩
  rw [h] at this;cases this
 rw [a];rfl
theorem ziu{n:Nat}{P:List BE}{e:BE}(b:e.st<n)(c:occ P e.st=false):(au n P).set e.st e.wd=au n (P++[e]):=by
 refine z0r (by rw [List.length_set,bn,bn]) fun k a=>?_
 rw [List.length_set,bn] at a
 rw [z0k a,za6,List.getD_eq_getElem?_getD,List.getElem?_set]
 by_cases hek:e.st=k
 ·subst hek
  rw [if_pos rfl,bn,if_pos b,c];simp
 ·rw [if_neg hek,←List.getD_eq_getElem?_getD,z0k a,if_neg hek]
  by_cases h:occ P k=true
  ·rw [if_pos h]
  ·rw [if_neg h,zl6 (Bool.eq_false_iff.2 h)]
theorem z2p(P:List BE)(k:Nat)(h:k<P.length):P.take (k+1)=P.take k++[P.getD k default]:=by
 rw [List.take_add_one];simp [List.getD_eq_getElem?_getD,h]
section rch
variable {m : Mach} {s0 : Nat} {P : List BE}
theorem Rch.find(h:Rch m s0 P){j:Nat}: ∀ k,k≤P.length→j<k→wdOf (P.take k) (P.getD j default).st=(P.getD j default).wd
 |0,_,c=>by omega
 |k+1,f,c=>by
  rw [z2p P k (by omega),za6]
  by_cases e:j=k
  ·subst e
   have a:occ (P.take j) (P.getD j default).st=false:=by
    cases hc:occ (P.take j) (P.getD j default).st with
    |false=>rfl
    |true=>
     obtain⟨i,hi,b⟩:=z00.1 hc
     rw [List.length_take] at hi
     have d:(P.take j).getD i default=P.getD i default:=by simp only [List.getD_eq_getElem?_getD,List.getElem?_take,if_pos (show i<j by omega)]
     rw [d] at b
     have:=h.dis i j (by omega) (by omega) b
     omega
   rw [a,if_neg (by decide),if_pos rfl]
  ·have ih:=Rch.find h k (by omega) (show j<k by omega)
   have a:occ (P.take k) (P.getD j default).st=true:=z00.2 ⟨j,by rw [List.length_take];omega,by simp only [List.getD_eq_getElem?_getD,List.getElem?_take,if_pos (show j<k by omega)]⟩
   rw [if_pos a,ih]
theorem Rch.fresh(h:Rch m s0 P){k:Nat}(b:k<P.length):occ (P.take k) (P.getD k default).st=false:=by
 cases hc:occ (P.take k) (P.getD k default).st with
 |false=>rfl
 |true=>
  obtain⟨i,hi,a⟩:=z00.1 hc
  rw [List.length_take] at hi
  have c:(P.take k).getD i default=P.getD i default:=by simp only [List.getD_eq_getElem?_getD,List.getElem?_take,if_pos (show i<k by omega)]
  rw [c] at a
  have:=h.dis i k (by omega) b a
  omega
theorem Rch.wdOf(h:Rch m s0 P){j:Nat}(a:j<P.length):wdOf P (P.getD j default).st=(P.getD j default).wd:=by
 have:=h.find P.length (Nat.le_refl _) a
 rwa [List.take_length] at this
end rch
theorem zo7{N:Nat}{s:List Int}(a:s.length≤1000000):xn N s=some s:=by
 have:fits 8 ([]:List Int) s:=⟨by simp only [List.length_nil];omega,by simp only [List.length_nil];omega⟩
 unfold xn
 rw [zm this,List.nil_append]
theorem zjq{N:Nat}{s:List Int}:gy N s=some s:=by
 unfold gy
 rw [zm (z92 s),z8m]
theorem zmt{N:Nat}{m:Mach}(l:MOk m)(s:200≤N){s0:Nat}(p:s0<m.rows.length):z0p N m (s0:Int)=some (au m.rows.length (rch m s0),o8 m.rows.length (rch m s0)):=by
 have t:=l.r2
 have e:=z6l l p
 generalize hPe:rch m s0=P at e⊢
 unfold z0p
 rw [zm ⟨by omega,by omega,by omega⟩,zm ⟨by omega,by omega,by omega⟩]
 rw [q9 (show ig N m (s0:Int)=some (m,(s0:Int)) from rfl)]
 have u:mk (m.rows.length:Int) ([]:List Int)=au m.rows.length (P.take 0):=by
  rw [za0]
  refine z0r (by rw [List.length_replicate,bn]) fun k c=>?_
  rw [List.length_replicate] at c
  rw [z0k c]
  simp [List.getD_eq_getElem?_getD,c,GV.wdOf]
 have v:mk (m.rows.length:Int) false=o8 m.rows.length (P.take 0):=by
  rw [za0]
  refine z0r (by rw [List.length_replicate,ay]) fun k c=>?_
  rw [List.length_replicate] at c
  rw [z2l c]
  simp [List.getD_eq_getElem?_getD,c,occ]
 rw [u,v]
 have key:=zmr (N:=N) l s p (σ:=List (List Int)×List Bool) (fun a b=>
  gd (okI b.2 a.fC)<|
  bif decide (a.fH≠(-1)) then(
  gd (okI b.1 a.fH)<|
  bd (xn N (ix b.1 a.fH)) fun d=>
  gd (fits 8 d ([a.fG]:List Int))<|
  bd (gy N (d++([a.fG]:List Int))) fun f=>
  gd (okI b.1 a.fC)<|
  some (true,((up b.1 a.fC f),(up b.2 a.fC true)))) else(
  some (true,(b.1,(up b.2 a.fC true))))) (fun k=>(au m.rows.length (P.take k),o8 m.rows.length (P.take k))) (fun k c=>?_)
 ·rw [q9 key,hPe,List.take_length]
 ·rw [hPe] at c⊢
  have h:=e.rng k c
  have n:=e.fresh c
  have hset:up (o8 m.rows.length (P.take k)) ((P.getD k default).st:Int) true=o8 m.rows.length (P.take (k+1)):=by
   rw [z3t,zaw h,←z2p P k c]
  show gd (okI (o8 m.rows.length (P.take k)) ((P.getD k default).st:Int)) (bif decide ((P.getD k default).par≠(-1)) then(
   gd (okI (au m.rows.length (P.take k)) (P.getD k default).par)<|
   bd (xn N (ix (au m.rows.length (P.take k)) (P.getD k default).par)) fun d=>
   gd (fits 8 d ([(P.getD k default).inp]:List Int))<|
   bd (gy N (d++([(P.getD k default).inp]:List Int))) fun f=>
   gd (okI (au m.rows.length (P.take k)) ((P.getD k default).st:Int))<|
   some (true,((up (au m.rows.length (P.take k)) ((P.getD k default).st:Int) f),(up (o8 m.rows.length (P.take k)) ((P.getD k default).st:Int) true)))) else(
   some (true,((au m.rows.length (P.take k)),(up (o8 m.rows.length (P.take k)) ((P.getD k default).st:Int) true)))))=_
  rw [zm (jc (by rw [ay];exact h)),hset]
  by_cases h0:k=0
  ·subst h0
   rw [xz (by rw [e.root];simp)]
   congr 3
   rw [z2p P 0 c]
   refine z0r (by rw [bn,bn]) fun j o=>?_
   rw [bn] at o
   rw [z0k o,z0k o,za6,e.root]
   simp [GV.wdOf,occ]
  ·obtain⟨q,i,w,hi,r,x,y,_⟩:=e.par k (by omega) c
   have z:=e.wok q (by omega)
   have hple:=e.le
   have g:=e.rng q (by omega)
   rw [gz (by rw [r];omega),r,zm (jc (by rw [bn];exact g)),bi,z0k g,e.find k (by omega) w,q9 (zo7 (by omega))]
   have hfit:fits 8 (P.getD q default).wd ([(P.getD k default).inp]:List Int):=⟨by simp only [List.length_singleton];omega,by simp only [List.length_singleton];omega⟩
   rw [zm hfit,q9 zjq,zm (jc (by rw [bn];exact h)),z3t,x,←y,ziu h n,←z2p P k c]
end GV
end Go.Proofs.YtkkcidhcfkmbjaaGreatDoor

namespace Go.Proofs.YtkkcidhcfkmbjaaGreatDoor
namespace GV
set_option maxRecDepth 100000
end GV
end Go.Proofs.YtkkcidhcfkmbjaaGreatDoor

namespace Go.Proofs.YtkkcidhcfkmbjaaGreatDoor
namespace GV
set_option maxRecDepth 100000
theorem zey{N:Nat}{m:Mach}(a:MOk m)(b:200≤N):wh N m=some 0:=by rw [z96 a.small b,(lc m).2 a]
theorem zk6{N:Nat}{m:Mach}(a:MOk m)(b:200≤N):z04 N m=some (au m.rows.length (rch m 0),o8 m.rows.length (rch m 0),0):=by
 have c:=a.r1
 unfold z04
 rw [q9 (zey a b),xz (by simp),q9 (show z0p N m 0=_ from zmt a b (s0:=0) (by omega))]
def z9x(P:List BE):List Int:=P.map fun e=>(e.st:Int)
theorem zgk{N:Nat}{m:Mach}(c:MOk m)(f:200≤N):z0h N m=some (z9x (rch m 0)):=by
 have g:=c.r1
 have h:=c.r2
 have d:=z6l c (s0:=0) (by omega)
 generalize hPe:rch m 0=P at d⊢
 have hple:=d.le
 unfold z0h
 rw [q9 (show ig N m 0=some (m,0) from rfl)]
 have key:=zmr (N:=N) c f (s0:=0) (by omega) (σ:=List Int) (fun a b=>
  gd (fits 8 b ([a.fC]:List Int))<|
  some (true,(b++([a.fC]:List Int)))) (fun k=>z9x (P.take k)) (fun k e=>?_)
 ·rw [q9 (show bz N m 0 (List Int) _ ([]:List Int)=_ from key),hPe,List.take_length]
 ·rw [hPe] at e⊢
  have hfit:fits 8 (z9x (P.take k)) ([((P.getD k default).st:Int)]:List Int):=by
   have:(z9x (P.take k)).length≤64:=by unfold z9x;rw [List.length_map,List.length_take];omega
   exact⟨by simp only [List.length_singleton];omega,by simp only [List.length_singleton];omega⟩
  show gd (fits 8 (z9x (P.take k)) ([((P.getD k default).st:Int)]:List Int)) (some (true,(z9x (P.take k)++([((P.getD k default).st:Int)]:List Int))))=_
  rw [zm hfit,z2p P k e]
  unfold z9x
  rw [List.map_append];rfl
theorem zlt{N:Nat}{l:List Int}(d:l.length<N)(e:l.length≤1000000){σ:Type}(B:Int→σ→Option (Bool×σ))(f:Nat→σ)(c: ∀ k,k<l.length→B (l.getD k default) (f k)=some (true,f (k+1))):cu N l σ B (f 0)=some (f l.length):=by
 unfold cu
 refine o7 (σ:=σ) (fun F k s=>uu N σ B l F s (k:Int)) l.length (fun k s=>s=f k) _ (fun F k s a hi=>?_) (fun F s hi=>?_) N 0 (f 0) (Nat.zero_le _) (by omega) rfl
 ·subst hi
  right
  refine⟨_,rfl,?_⟩
  simp only [uu]
  rw [gz (by omega),zm (jc a),bi]
  refine(q9 (c k a)).trans ?_
  refine(cf (b:= !(true,f (k+1)).1) rfl).trans ?_
  exact zm (jm (by omega))
 ·subst hi
  simp only [uu]
  rw [xz (by omega)]
theorem zlo{N:Nat}{s l:List Int}(c:l.length<N)(e:s.length+l.length≤1000000):yw N s l=some (s++l):=by
 unfold yw
 have key:=zlt (N:=N) c (by omega) (fun a b=>
  gd (fits 8 b ([a]:List Int))<|
  some (true,(b++([a]:List Int)))) (fun k=>s++l.take k) (fun k d=>?_)
 ·rw [List.take_zero,List.append_nil,List.take_length] at key
  rw [q9 key]
 ·have hfit:fits 8 (s++l.take k) ([l.getD k default]:List Int):=by
   have:(s++l.take k).length≤1000000:=by rw [List.length_append,List.length_take];omega
   exact⟨by simp only [List.length_singleton];omega,by simp only [List.length_singleton];omega⟩
  rw [zm hfit,z4e l k d,List.append_assoc]
theorem zk9{N:Nat}{l:List Int}(a:l.length<N)(b:0<l.length)(d:l.length≤1000000):oq N l=some (z06 l):=by
 unfold oq ah
 rw [q9 (show (bd (yw N [] l) fun c=>some c)=some l from by rw [q9 (zlo a (by simp;omega))];rfl)]
 unfold slices_Sort_int
 rw [zm ⟨b,by omega⟩];rfl
theorem zo9{N:Nat}{m:Mach}(a:MOk m)(b:200≤N):z1l N m=some (z06 (z9x (rch m 0)),0):=by
 have d:=a.r1
 have e:=a.r2
 have c:=z6l a (s0:=0) (by omega)
 have g:(z9x (rch m 0)).length=(rch m 0).length:=by simp [z9x]
 have f:=c.le
 have hpos:=c.pos
 unfold z1l
 rw [q9 (zey a b),xz (by simp),q9 (zgk a b),q9 (show l5 N _=some _ from rfl),q9 (zk9 (by omega) (by omega) (by omega)),q9 zjq]
def zn5(n:Nat)(P:List BE):List Int:=((List.range n).filter fun s=>occ P s).map fun s=>((s:Nat):Int)
theorem zi3(n:Nat)(P:List BE):(zn5 n P).Pairwise (· ≤ ·):=by
 unfold zn5
 rw [List.pairwise_map]
 exact((List.pairwise_lt_range (n:=n)).filter _).imp fun h=>by omega
theorem znq{m:Mach}{s0:Nat}{P:List BE}(h:Rch m s0 P):z06 (z9x P)=zn5 m.rows.length P:=by
 refine z2u ((z8d _).trans ?_) (z8j _) (zi3 _ _)
 unfold z9x zn5
 have e:(P.map fun e=>(e.st:Int))=(P.map (·.st)).map fun s=>((s:Nat):Int):=by rw [List.map_map];rfl
 rw [e]
 refine List.Perm.map _ ?_
 have d:(P.map (·.st)).Nodup:=by
  rw [List.nodup_iff_pairwise_ne,List.pairwise_iff_getElem]
  intro i j hi b g e
  rw [List.length_map] at hi b
  rw [List.getElem_map,List.getElem_map] at e
  have:=h.dis i j hi b (by simpa [List.getD_eq_getElem?_getD,b,hi] using e)
  omega
 have c:((List.range m.rows.length).filter fun s=>occ P s).Nodup:=List.Pairwise.filter _ List.nodup_range
 rw [List.perm_ext_iff_of_nodup d c]
 intro a
 rw [List.mem_map,List.mem_filter,List.mem_range,z00]
 constructor
 ·rintro⟨x,k,rfl⟩
  obtain⟨j,b,rfl⟩:=List.mem_iff_getElem.1 k
  have f:P.getD j default=P[j]:=by simp [List.getD_eq_getElem?_getD,b]
  exact⟨by rw [←f];exact h.rng j b,j,b,by rw [f]⟩
 ·rintro⟨_,j,b,rfl⟩
  exact⟨_,z0x b,rfl⟩
end GV
end Go.Proofs.YtkkcidhcfkmbjaaGreatDoor

namespace Go.Proofs.YtkkcidhcfkmbjaaGreatDoor
namespace GV
set_option maxRecDepth 100000
theorem zsw{x:MDat}(h:MDOk x):(mOf x).rows.length≤6∧(mOf x).inputs≤3:=by
 have b:=h.st;have c:=h.ins
 have d:1≤x.n∧x.n≤6:=by unfold MDat.n;omega
 have a:1≤x.inp∧x.inp≤3:=by unfold MDat.inp;omega
 have e:(mOf x).rows.length=x.n.toNat:=by simp [mOf]
 exact⟨by omega,a.2⟩
theorem zgn{m:Mach}{s0:Nat}{P:List BE}(h:Rch m s0 P){t:Nat}(b:occ P t=true): ∃ j,j<P.length∧(P.getD j default).st=t∧wdOf P t=(P.getD j default).wd:=by
 obtain⟨j,a,rfl⟩:=z00.1 b
 exact⟨j,a,rfl,h.wdOf a⟩
end GV
end Go.Proofs.YtkkcidhcfkmbjaaGreatDoor

namespace Go.Proofs.YtkkcidhcfkmbjaaGreatDoor
namespace GV
set_option maxRecDepth 100000
def pos(L:List Nat)(t:Int):Int:=if t= -1 then-1 else(L.idxOf t.toNat:Int)
def rowP(m:Mach)(L:List Nat)(s:Nat):List Edge:=(m.rows.getD s default).map fun e=>⟨pos L e.to,e.out⟩
def l6(m:Mach)(L:List Nat):Mach:=⟨m.inputs,m.outputs,L.map (rowP m L)⟩
structure ClosedP (m:Mach) (L:List Nat):Prop where
 rng: ∀ s∈L,s<m.rows.length
 nd:L.Nodup
 cl: ∀ s∈L,∀ i,i<m.inputs.toNat→ed m s i≠ -1→(ed m s i).toNat∈L
 ne:L≠[]
theorem zd1{L:List Nat}{k:Nat}(a:L.Nodup)(b:k<L.length):L.idxOf (L.getD k 0)=k:=by
 have:L.getD k 0=L[k]:=by simp [List.getD_eq_getElem?_getD,b]
 rw [this]
 exact a.idxOf_getElem k b
theorem zev{L:List Nat}{t:Nat}(h:t∈L):L.idxOf t<L.length∧L.getD (L.idxOf t) 0=t:=by
 have a:=List.idxOf_lt_length_iff.2 h
 refine⟨a,?_⟩
 simp [List.getD_eq_getElem?_getD,a]
section
variable {m : Mach} {L : List Nat}
theorem ClosedP.len(a:ClosedP m L):L.length≤m.rows.length:=by
 have:=List.Nodup.length_le_of_subset a.nd (l₂:=List.range m.rows.length) (fun x b=>List.mem_range.2 (a.rng x b))
 simpa using this
theorem zaf{k:Nat}(a:k<L.length):(l6 m L).rows.getD k default=rowP m L (L.getD k 0):=by
 unfold l6
 simp [List.getD_eq_getElem?_getD,a]
theorem zd9(a:MOk m){s:Nat}(b:s<m.rows.length):(rowP m L s).length=m.inputs.toNat:=by
 unfold rowP
 have:=a.row s b
 rw [List.length_map];omega
theorem zc8(a:MOk m){s i:Nat}(b:s<m.rows.length)(hi:i<m.inputs.toNat):(rowP m L s).getD i default=⟨pos L (ed m s i),((m.rows.getD s default).getD i default).out⟩:=by
 have:=a.row s b
 unfold rowP ed
 simp only [List.getD_eq_getElem?_getD,List.getElem?_map]
 rw [←List.getD_eq_getElem?_getD,List.getElem?_eq_getElem (show i<(m.rows.getD s default).length by omega)]
 rfl
theorem zrm(d:MOk m)(b:ClosedP m L){s i:Nat}(c:s∈L)(hi:i<m.inputs.toNat):pos L (ed m s i)= -1∧ed m s i= -1∨(0≤pos L (ed m s i)∧pos L (ed m s i)<L.length∧0≤ed m s i∧L.getD (pos L (ed m s i)).toNat 0=(ed m s i).toNat):=by
 unfold pos
 rcases z5k d (b.rng s c) hi with h|⟨e,g⟩
 ·left;rw [if_pos h];exact⟨rfl,h⟩
 ·right
  have a:ed m s i≠ -1:=by omega
  obtain⟨j,f⟩:=zev (b.cl s c i hi a)
  rw [if_neg a]
  exact⟨by omega,by omega,e,by rw [Int.toNat_natCast];exact f⟩
theorem znu(a:MOk m)(c:ClosedP m L):MOk (l6 m L):=by
 have hlen:=c.len
 have l:=a.r2
 have e:(l6 m L).rows.length=L.length:=by simp [l6]
 have hpos:0<L.length:=List.length_pos_iff.2 c.ne
 have hmem: ∀ k,k<L.length→L.getD k 0∈L:=fun k n=>by simp [List.getD_eq_getElem?_getD,n]
 refine⟨a.i1,a.i2,a.o1,a.o2,by omega,by omega,fun s b=>?_,fun s i b hi=>?_⟩
 ·rw [e] at b
  rw [zaf b,zd9 a (c.rng _ (hmem s b))]
  have:=a.i1
  show _=m.inputs
  omega
 ·rw [e] at b
  rw [zaf b] at hi⊢
  have d:=c.rng _ (hmem s b)
  rw [zd9 a d] at hi
  rw [zc8 a d hi]
  have h:=a.edge _ i d (by have:=a.row _ d;omega)
  rcases zrm a c (hmem s b) hi with⟨f,j⟩|⟨f,j,q,_⟩
  ·rcases h with⟨_,g⟩|⟨o,_⟩
   ·left;exact⟨f,g⟩
   ·exfalso
    have:ed m (L.getD s 0) i=((m.rows.getD (L.getD s 0) default).getD i default).to:=rfl
    omega
  ·rcases h with⟨o,_⟩|⟨_,_,g,p⟩
   ·exfalso
    have:ed m (L.getD s 0) i=((m.rows.getD (L.getD s 0) default).getD i default).to:=rfl
    omega
   ·right
    exact⟨f,by rw [e];exact j,g,p⟩
theorem zlc(b:MOk m)(c:ClosedP m L){s:Int}(a:s= -1∨(0≤s∧s.toNat∈L)){i:Int}(hi:0≤i∧i<m.inputs):
 ut (l6 m L) (pos L s) i=⟨pos L (ut m s i).to,(ut m s i).out⟩∧((ut m s i).to= -1∨(0≤(ut m s i).to∧(ut m s i).to.toNat∈L)):=by
 rcases a with rfl|⟨k,a⟩
 ·exact⟨rfl,.inl rfl⟩
 ·obtain⟨e,f⟩:=zev a
  have g:pos L s=(L.idxOf s.toNat:Int):=by unfold pos;rw [if_neg (by omega)]
  have hi':i.toNat<m.inputs.toNat:=by omega
  have d:=c.rng _ a
  unfold ut
  rw [g,if_neg (by omega),if_neg (by omega),Int.toNat_natCast,zaf e,f,zc8 b d hi']
  refine⟨rfl,?_⟩
  show ed m s.toNat i.toNat= -1∨(0≤ed m s.toNat i.toNat∧(ed m s.toNat i.toNat).toNat∈L)
  rcases z5k b d hi' with h|⟨j,_⟩
  ·exact .inl h
  ·exact .inr ⟨j,c.cl _ a _ hi' (by omega)⟩
theorem zgh(a:MOk m)(b:ClosedP m L): ∀ (w:List Int) {s:Int},(s= -1∨(0≤s∧s.toNat∈L))→WOk m.inputs w→bq (l6 m L) (pos L s) w=bq m s w∧aftL (l6 m L) (pos L s) w=pos L (aftL m s w)
 | [],s,c,_=>⟨rfl,rfl⟩
 |i::w,s,c,d=>by
  have hi:=d 0 (by simp)
  obtain⟨e,f⟩:=zlc a b c (i:=i) hi
  have hw':WOk m.inputs w:=fun k g=>d (k+1) (by simpa using g)
  obtain⟨h,j⟩:=zgh a b w f hw'
  refine⟨?_,?_⟩
  ·show (ut (l6 m L) (pos L s) i).out::bq (l6 m L) (ut (l6 m L) (pos L s) i).to w=_
   rw [e,h];rfl
  ·show aftL (l6 m L) (ut (l6 m L) (pos L s) i).to w=_
   rw [e,j];rfl
end
/-! ### The program's part-/
theorem zao{M:List (Int×Int)}{k v z t:Int}:z08 z (z11 M k v) t=if t=k then v else z08 z M t:=by
 induction M with
 |nil=>simp [z11,z08]
 |cons p l ih=>
  unfold z11
  by_cases h:k=p.1
  ·rw [if_pos h]
   simp only [z08]
   by_cases ht:t=k
   ·rw [if_pos ht,if_pos ht]
   ·rw [if_neg ht,if_neg ht,if_neg (by rw [←h];exact ht)]
  ·rw [if_neg h]
   simp only [z08]
   by_cases ht:t=p.1
   ·rw [if_pos ht,if_neg (by rw [ht];exact fun e=>h e.symm),if_pos ht]
   ·rw [if_neg ht,ih,if_neg ht]
def z3y(L:List Nat):List Int:=L.map fun s=>((s:Nat):Int)
theorem z1f(L:List Nat):(z3y L).length=L.length:=by simp [z3y]
theorem z7c{L:List Nat}{k:Nat}(a:k<L.length):ix (z3y L) (k:Int)=((L.getD k 0:Nat):Int):=by
 rw [bi]
 simp [z3y,List.getD_eq_getElem?_getD,a]
theorem zij{α:Type}[Inhabited α](P:List α)(k:Nat)(h:k<P.length):P.take (k+1)=P.take k++[P.getD k default]:=by
 rw [List.take_add_one];simp [List.getD_eq_getElem?_getD,h]
theorem zjj{α:Type}{X:List α}{n k:Nat}{z y:α}(a:X.length=k)(b:k<n):(X++List.replicate (n-k) z).set k y=(X++[y])++List.replicate (n-(k+1)) z:=by
 rw [show n-k=(n-(k+1))+1 by omega,List.replicate_succ,List.set_append_right _ _ (by omega),a,Nat.sub_self]
 simp
theorem zps{N:Nat}{m:Mach}{L:List Nat}(d:MOk m)(f:ClosedP m L)(I:200≤N):z19 N m (z3y L)=some (l6 m L):=by
 have hlen:=f.len
 have A:=d.r2
 have hi1:=d.i1
 have hi2:=d.i2
 have hmem: ∀ k,k<L.length→L.getD k 0∈L:=fun k a=>by simp [List.getD_eq_getElem?_getD,a]
 unfold z19
 obtain⟨M,B,l⟩: ∃ M,pg N (z3y L) N 0 (z11 ([]:List (Int×Int)) (-1) (-1))=some M∧(z08 0 M (-1)= -1∧ ∀ j,j<L.length→z08 0 M ((L.getD j 0:Nat):Int)=(j:Int)):=by
  refine z98 (σ:=List (Int×Int)) (fun F k st=>pg N (z3y L) F (k:Int) st) L.length (fun k st=>z08 0 st (-1)= -1∧ ∀ j,j<k→z08 0 st ((L.getD j 0:Nat):Int)=(j:Int)) _ (fun F k st a hi=>?_) (fun F st hi=>?_) N 0 _ (Nat.zero_le _) (by omega) ⟨by rw [zao,if_pos rfl],fun j C=>by omega⟩
  ·right
   refine⟨z11 st ((L.getD k 0:Nat):Int) (k:Int),⟨by rw [zao,if_neg (by omega)];exact hi.1,fun j C=>?_⟩,?_⟩
   ·rw [zao]
    by_cases e:j=k
    ·subst e;rw [if_pos rfl]
    ·rw [if_neg,hi.2 j (by omega)]
     intro J
     have p:=zd1 f.nd (show j<L.length by omega)
     have y:=zd1 f.nd a
     rw [show L.getD j 0=L.getD k 0 by omega,y] at p
     omega
   ·simp only [pg,z7c a]
    rw [gz (by rw [z1f];omega),zm (jc (by rw [z1f];exact a)),zm (jm (by omega))];rfl
  ·refine⟨st,?_,hi⟩
   simp only [pg]
   rw [xz (by rw [z1f];omega)]
 rw [q9 B,z1f,zm ⟨by omega,by omega,by omega⟩]
 have q: ∀ s∈L,∀ i,i<m.inputs.toNat→z08 0 M (ed m s i)=pos L (ed m s i):=fun s z i hi=>by
  unfold pos
  rcases z5k d (f.rng s z) hi with h|⟨p,y⟩
  ·rw [if_pos h,h];exact l.1
  ·have n:ed m s i≠ -1:=by omega
   obtain⟨D,E⟩:=zev (f.cl s z i hi n)
   have:=l.2 _ D
   rw [E,Int.toNat_of_nonneg p] at this
   rw [if_neg n,this]
 have hrow: ∀ (k:Nat) (X:List (List Edge)),k<L.length→X.length=L.length→pz N m (z3y L) M (k:Int) N 0 (up X (k:Int) (mk m.inputs (⟨0,0⟩:Edge)))=some (X.set k (rowP m L (L.getD k 0))):=fun k X a r=>by
  have o:=f.rng _ (hmem k a)
  have G:=d.row _ o
  have t:=zd9 (L:=L) d o
  refine o7 (σ:=List (List Edge)) (fun F i st=>pz N m (z3y L) M (k:Int) F (i:Int) st) m.inputs.toNat (fun i st=>st=X.set k ((rowP m L (L.getD k 0)).take i++List.replicate (m.inputs.toNat-i) ⟨0,0⟩)) _ (fun F i st hi b=>?_) (fun F st b=>?_) N 0 _ (Nat.zero_le _) (by omega) (by rw [z3t];simp [mk])
  ·subst b
   right
   refine⟨_,rfl,?_⟩
   have H:(X.set k ((rowP m L (L.getD k 0)).take i++List.replicate (m.inputs.toNat-i) (⟨0,0⟩:Edge))).length=L.length:=by rw [List.length_set,r]
   have hget:ix (X.set k ((rowP m L (L.getD k 0)).take i++List.replicate (m.inputs.toNat-i) (⟨0,0⟩:Edge))) (k:Int)=(rowP m L (L.getD k 0)).take i++List.replicate (m.inputs.toNat-i) (⟨0,0⟩:Edge):=by
    rw [bi,List.getD_eq_getElem?_getD,List.getElem?_set,if_pos rfl,if_pos (by omega)];rfl
   have g:ix m.rows ((L.getD k 0:Nat):Int)=m.rows.getD (L.getD k 0) default:=bi _ _
   have u:(ix (m.rows.getD (L.getD k 0) default) (i:Int)).to=ed m (L.getD k 0) i:=by rw [bi];rfl
   simp only [pz,z7c a,g,u,hget]
   rw [gz (by omega),zm (jc (by omega)),zm (jc (by omega)),q9 (show z2j N ⟨ed m (L.getD k 0) i,(ix (m.rows.getD (L.getD k 0) default) (i:Int)).out⟩ M=some ⟨z08 0 M (ed m (L.getD k 0) i),(ix (m.rows.getD (L.getD k 0) default) (i:Int)).out⟩ from rfl)]
   rw [zm (jc (by rw [List.length_append,List.length_take,List.length_replicate];omega)),zm (jm (by omega)),q _ (hmem k a) i hi]
   have c:((rowP m L (L.getD k 0)).take i).length=i:=by rw [List.length_take];omega
   have v:up (X.set k ((rowP m L (L.getD k 0)).take i++List.replicate (m.inputs.toNat-i) (⟨0,0⟩:Edge))) (k:Int) (up ((rowP m L (L.getD k 0)).take i++List.replicate (m.inputs.toNat-i) (⟨0,0⟩:Edge)) (i:Int) ⟨pos L (ed m (L.getD k 0) i),(ix (m.rows.getD (L.getD k 0) default) (i:Int)).out⟩)=X.set k ((rowP m L (L.getD k 0)).take (i+1)++List.replicate (m.inputs.toNat-(i+1)) ⟨0,0⟩):=by
    rw [z3t,z3t,List.set_set,zjj c hi]
    rw [zij _ _ (show i<(rowP m L (L.getD k 0)).length by omega),zc8 d o hi,bi]
   rw [v];rfl
  ·subst b
   have g:ix m.rows ((L.getD k 0:Nat):Int)=m.rows.getD (L.getD k 0) default:=bi _ _
   simp only [pz,z7c a,g]
   rw [xz (by omega),Nat.sub_self,List.replicate_zero,List.append_nil,←t,List.take_length]
 have w:dh N m (z3y L) M N 0 (mk (L.length:Int) ([]:List Edge))=some (L.map (rowP m L)):=by
  refine o7 (σ:=List (List Edge)) (fun F k st=>dh N m (z3y L) M F (k:Int) st) L.length (fun k st=>st=(L.map (rowP m L)).take k++List.replicate (L.length-k) []) _ (fun F k st a b=>?_) (fun F st b=>?_) N 0 _ (Nat.zero_le _) (by omega) (by rw [za0];simp)
  ·subst b
   right
   refine⟨_,rfl,?_⟩
   have o:=f.rng _ (hmem k a)
   have c:((L.map (rowP m L)).take k).length=k:=by rw [List.length_take,List.length_map];omega
   have r:((L.map (rowP m L)).take k++List.replicate (L.length-k) ([]:List Edge)).length=L.length:=by rw [List.length_append,c,List.length_replicate];omega
   simp only [dh,z7c a]
   rw [gz (by rw [z1f];omega)]
   refine(q9 (x:=(L.map (rowP m L)).take (k+1)++List.replicate (L.length-(k+1)) []) ?_).trans ?_
   ·rw [zm (jc (by rw [z1f];exact a)),zm ⟨by omega,by omega,by omega⟩,zm (jc (by omega)),zm (jc o),hrow k _ a r,zjj c a]
    congr 2
    rw [List.take_add_one];simp [List.getD_eq_getElem?_getD,a]
   ·exact zm (jm (by omega))
  ·subst b
   simp only [dh]
   rw [xz (by rw [z1f];omega),Nat.sub_self,List.replicate_zero,List.append_nil,←(show (L.map (rowP m L)).length=L.length by simp),List.take_length]
 rw [q9 w];rfl
end GV
end Go.Proofs.YtkkcidhcfkmbjaaGreatDoor

namespace Go.Proofs.YtkkcidhcfkmbjaaGreatDoor
namespace GV
set_option maxRecDepth 100000
def z2c(n:Nat)(P:List BE):List Nat:=(List.range n).filter fun s=>occ P s
theorem z4l{n:Nat}{P:List BE}{s:Nat}:s∈z2c n P↔s<n∧occ P s=true:=by
 unfold z2c;rw [List.mem_filter,List.mem_range]
theorem zax{m:Mach}(f:MOk m){P:List BE}(a:Rch m 0 P):ClosedP m (z2c m.rows.length P):=by
 refine⟨fun s b=>(z4l.1 b).1,List.Pairwise.filter _ List.nodup_range,fun s b i hi c=>?_,fun e=>?_⟩
 ·obtain⟨l,g⟩:=z4l.1 b
  obtain⟨q,h,rfl⟩:=z00.1 g
  obtain⟨j,d,k,_⟩:=a.cls q i h hi c
  exact z4l.2 ⟨by have:=a.rng j d;omega,z00.2 ⟨j,d,by omega⟩⟩
 ·have:0∈z2c m.rows.length P:=z4l.2 ⟨by have:=f.r1;omega,z00.2 ⟨0,a.pos,by rw [a.root]⟩⟩
  rw [e] at this;cases this
theorem zl9{m:Mach}(b:MOk m){P:List BE}(a:Rch m 0 P):pos (z2c m.rows.length P) 0=0:=by
 have c:occ P 0=true:=z00.2 ⟨0,a.pos,by rw [a.root]⟩
 obtain⟨n,d⟩: ∃ n,m.rows.length=n+1:=⟨m.rows.length-1,by have:=b.r1;omega⟩
 unfold pos z2c
 rw [d,List.range_succ_eq_map,List.filter_cons,if_pos c]
 simp
theorem zpm{N:Nat}{m:Mach}(a:MOk m)(b:200≤N):z16 N m=some (l6 m (z2c m.rows.length (rch m 0)),z3y (z2c m.rows.length (rch m 0)),0):=by
 have c:=z6l a (s0:=0) (by have:=a.r1;omega)
 unfold z16
 rw [q9 (zo9 a b),xz (by simp),znq c]
 rw [q9 (show z19 N m (zn5 m.rows.length (rch m 0))=_ from zps a (zax a c) b)]
 rfl
end GV
end Go.Proofs.YtkkcidhcfkmbjaaGreatDoor

namespace Go.Proofs.YtkkcidhcfkmbjaaGreatDoor
namespace GV
section names
variable {κ κ' : Type} [DecidableEq κ] [DecidableEq κ']
def zs6(f:Nat→κ)(u:Nat):Bool:=(List.range u).all fun t=>decide (f t≠f u)
def cntF(f:Nat→κ):Nat→Nat
 |0=>0
 |u+1=>cntF f u+if zs6 f u=true then 1 else 0
def zuk(f:Nat→κ)(s:Nat):Nat:=((List.range s).find? fun t=>decide (f t=f s)).getD s
def name(f:Nat→κ)(s:Nat):Nat:=cntF f (zuk f s)
/-! Only which keys are equal counts. -/
/-! A map from keys to names,as the first k things are named. -/
end names
def zs3{κ:Type}[DecidableEq κ](f:Nat→κ)(n:Nat):List Nat:=(List.range n).filter fun u=>zs6 f u
section zs3
variable {κ : Type} [DecidableEq κ] {f : Nat → κ}
end zs3
end GV
end Go.Proofs.YtkkcidhcfkmbjaaGreatDoor

namespace Go.Proofs.YtkkcidhcfkmbjaaGreatDoor
namespace GV
def ou(m:Mach)(s i:Nat):Int:=((m.rows.getD s default).getD i default).out
def zun(m:Mach)(p:Nat→Nat)(s:Nat):List (Int×Int):=(List.range m.inputs.toNat).map fun i=>(ou m s i,if ed m s i= -1 then-1 else(p (ed m s i).toNat:Int))
def ztx(m:Mach)(p:Nat→Nat)(s:Nat):Nat×List (Int×Int):=(p s,zun m p s)
def pkc(m:Mach):Nat→Nat→Nat
 |0=>fun _=>0
 |k+1=>fun s=>name (ztx m (pkc m k)) s
section
variable {m : Mach}
theorem zjf(a:MOk m){s i:Nat}(b:s<m.rows.length)(hi:i<m.inputs.toNat):(ed m s i= -1↔ou m s i= -1)∧ -1≤ou m s i∧ou m s i<16:=by
 have c:=a.row s b
 have d:=a.o2
 rcases a.edge s i b (by omega) with h|h
 ·exact⟨⟨fun _=>h.2,fun _=>h.1⟩,by show-1≤((m.rows.getD s default).getD i default).out;omega,by show ((m.rows.getD s default).getD i default).out<16;omega⟩
 ·refine⟨⟨fun e=>?_,fun e=>?_⟩,?_,?_⟩
  ·have:((m.rows.getD s default).getD i default).to= -1:=e
   omega
  ·have:((m.rows.getD s default).getD i default).out= -1:=e
   omega
  ·show-1≤((m.rows.getD s default).getD i default).out;omega
  ·show ((m.rows.getD s default).getD i default).out<16;omega
def cls(m:Mach)(s:Nat):Nat:=pkc m m.rows.length s
/-! ### Responses-/
theorem zd8(m:Mach): ∀ w:List Int,bq m (-1) w=List.replicate w.length (-1)
 | []=>rfl
 |c::w=>by
  show (ut m (-1) c).out::bq m (ut m (-1) c).to w=_
  rw [show ut m (-1) c=⟨-1,-1⟩ from rfl,zd8 m w];rfl
theorem lv{s:Nat}(i:Nat)(w:List Int):bq m (s:Int) ((i:Int)::w)=ou m s i::bq m (ed m s i) w:=by
 show (ut m (s:Int) (i:Int)).out::bq m (ut m (s:Int) (i:Int)).to w=_
 unfold ut
 rw [if_neg (by omega)];rfl
theorem z6v{s:Nat}(i:Nat)(w:List Int):aftL m (s:Int) ((i:Int)::w)=aftL m (ed m s i) w:=by
 show aftL m (ut m (s:Int) (i:Int)).to w=_
 unfold ut
 rw [if_neg (by omega)];rfl
end
end GV
end Go.Proofs.YtkkcidhcfkmbjaaGreatDoor

namespace Go.Proofs.YtkkcidhcfkmbjaaGreatDoor
namespace GV
set_option maxRecDepth 100000
theorem zf0{m:Mach}{k i:Nat}(hi:i<m.inputs.toNat):z2t m (k*m.inputs.toNat+i)=(m.rows.getD k default).getD i default:=by
 unfold z2t;rw [zal hi,zam hi]
theorem zi7{N:Nat}{m:Mach}(a:MOk m)(g:200≤N){σ:Type}(B:((Int×Int)×Edge)→σ→Option (Bool×σ))(f:Nat→σ)
 (d: ∀ k i,k<m.rows.length→i<m.inputs.toNat→B (((k:Int),(i:Int)),(m.rows.getD k default).getD i default) (f (k*m.inputs.toNat+i))=some (true,f (k*m.inputs.toNat+i+1))):
 il N m σ B (f 0)=some (f (m.rows.length*m.inputs.toNat)):=by
 have h:=a.r2;have hi1:=a.i1;have hi2:=a.i2
 unfold il
 refine o7 (fun F k s=>yc N σ B m F s (k:Int)) m.rows.length (fun k s=>s=f (k*m.inputs.toNat)) _ (fun F k s b hi=> .inr ?_) (fun F s hi=>?_) N 0 (f 0) (Nat.zero_le _) (by omega) (by simp)
 ·subst hi
  refine⟨f ((k+1)*m.inputs.toNat),rfl,?_⟩
  have hlen:((ix m.rows (k:Int)).length:Int)=m.inputs:=a.row k b
  have e:uz N σ B m (k:Int) N (f (k*m.inputs.toNat)) 0=some (Ex.go (f ((k+1)*m.inputs.toNat))):=by
   refine o7 (fun F i s=>uz N σ B m (k:Int) F s (i:Int)) m.inputs.toNat (fun i s=>s=f (k*m.inputs.toNat+i)) _ (fun F i s hi c=> .inr ?_) (fun F s c=>?_) N 0 _ (Nat.zero_le _) (by omega) (by simp)
   ·subst c
    refine⟨_,rfl,?_⟩
    simp only [uz]
    rw [gz (by omega),zm (jc (by omega))]
    refine Eq.trans (q9 (d k i b hi)) ?_
    refine Eq.trans (cf rfl) ?_
    rw [zm (jm (by omega))];rfl
   ·subst c
    simp only [uz]
    rw [xz (by omega),Nat.succ_mul]
  simp only [yc]
  rw [gz (by omega),zm (jc b),q9 e,z9u,zm (jm (by omega))];rfl
 ·subst hi
  simp only [yc]
  rw [xz (by omega)]
theorem zoa{N:Nat}{m:Mach}(d:MOk m)(e:200≤N):tq N m=some (zcy m):=by
 unfold tq
 rw [show z0y N m=some m from rfl,z7r]
 have hmul:=d.mul.1
 have h:=zi7 d e (fun(a:(Int×Int)×Edge) (b:List (Int×Int))=>
  bd (ma N) fun c=>
  bif decide (a.2.to=c.to∧a.2.out=c.out) then(
  gd (fits 16 b ([((a.1.1,a.1.2):(Int×Int))]:List (Int×Int)))<|
  some (true,(b++([((a.1.1,a.1.2):(Int×Int))]:List (Int×Int))))) else(
  some (true,b))) (z5c m) (fun k i f hi=>by
   have g:=zdi f hi
   have j:=zlu m (k*m.inputs.toNat+i)
   rw [show ma N=some ⟨-1,-1⟩ from rfl,z7r,zg2,zf0 hi,zal hi,zam hi]
   by_cases he:((m.rows.getD k default).getD i default).to= -1∧((m.rows.getD k default).getD i default).out= -1
   ·rw [gz he,if_pos he,zm ⟨by simp;omega,by simp;omega⟩]
   ·rw [xz he,if_neg he,List.append_nil])
 rw [zg9] at h
 rw [q9 h]
 unfold su
 rw [zm (z92 _),z7r,z8m];rfl
theorem zb5{N:Nat}{m:Mach}(b:Small m)(a:200≤N):yl N m=some (z2w m,fu m):=by
 unfold yl z2w
 rw [q9 (z96 b a)]
 by_cases h:fu m≠0
 ·rw [gz h,if_pos h]
 ·rw [xz h,if_neg h]
  have c:MOk m:=(lc m).1 (by simpa using h)
  rw [q9 (zoa c a),show fu m=0 by simpa using h]
end GV
end Go.Proofs.YtkkcidhcfkmbjaaGreatDoor


namespace Go.Proofs.YtkkcidhcfkmbjaaGreatDoor
namespace GV
set_option maxRecDepth 100000
theorem zlh{N:Nat}{m:Mach}(a:Small m)(b:200≤N)(s:Int):lq N m s=some (z2s m s):=by
 unfold lq z2s
 rw [q9 (z96 a b)]
 by_cases h:fu m≠0
 ·rw [gz h,if_pos h]
 ·rw [xz h,if_neg h]
  by_cases h1:s<0∨(m.rows.length:Int)≤s
  ·rw [ct (by simpa using h1),if_pos h1]
  ·rw [cf (by simpa using h1),if_neg h1]
theorem zlp{N:Nat}{w:List Int}{n:Int}(b:w.length<N)(c:w.length≤4611686018427387904):z1s N w n=some (z0n w n):=by
 unfold z1s
 by_cases h:16<n∨256<w.length
 ·rw [ct (by simp;omega),zmj h]
 ·rw [cf (by simp;omega)]
  rw [zcb (fun _=>zkh (p:=z5d n) (fun j d=>rfl) b c)]
  by_cases h1:n<1∨w.any (z5d n)=true
  ·rw [zn7 h h1]
   refine ct ?_
   by_cases a:n<1
   ·rw [decide_eq_true a];rfl
   ·rw [decide_eq_false a];exact h1.resolve_left a
  ·rw [zh6 h h1]
   refine cf ?_
   rw [decide_eq_false (fun a=>h1 (.inl a))]
   exact Bool.eq_false_iff.2 fun a=>h1 (.inr a)
theorem zqv{N:Nat}{m:Mach}(e:MOk m){s:Int}{w:List Int}(g:SOk m s)(f:WOk m.inputs w)(j:w.length<N)(l:w.length≤1000000):z0t N m s w=some (bq m s w,aftL m s w):=by
 unfold z0t
 rw [zm ⟨by omega,by omega,by omega⟩,za0]
 refine Eq.trans (q9 (x:=(aftL m s w,bq m s w)) ?_) rfl
 refine o7 (σ:=Int×List Int) (fun F k x=>gu N m w F x.1 (k:Int) x.2) w.length (fun k x=>x.1=aftL m s (w.take k)∧x.2=bq m s (w.take k)++List.replicate (w.length-k) (0:Int)) _ (fun F k x a hi=> .inr ?_) (fun F x hi=>?_) N 0 (s,List.replicate w.length 0) (Nat.zero_le _) (by omega) (by simp [aftL,bq])
 ·obtain⟨t,X⟩:=x
  obtain⟨rfl,rfl⟩:=hi
  have d:=z6u m e s (w.take k) g (zh1 f k)
  have b:=f k a
  refine⟨(aftL m s (w.take (k+1)),bq m s (w.take (k+1))++List.replicate (w.length-(k+1)) (0:Int)),⟨rfl,rfl⟩,?_⟩
  simp only [gu]
  rw [gz (by omega),zm (jc a),show ma N=some ⟨-1,-1⟩ from rfl,z7r]
  have i:(bif decide (aftL m s (w.take k)≠ -1) then gd (okI m.rows (aftL m s (w.take k)))<|gd (okI (ix m.rows (aftL m s (w.take k))) (ix w (k:Int)))<|some ((ix (ix m.rows (aftL m s (w.take k))) (ix w (k:Int))).to,(ix (ix m.rows (aftL m s (w.take k))) (ix w (k:Int))).out) else some ((-1:Int),(-1:Int)))=
   some ((ut m (aftL m s (w.take k)) (w.getD k default)).to,(ut m (aftL m s (w.take k)) (w.getD k default)).out):=by
   rcases d with h|h
   ·rw [h];rfl
   ·have hrow:=e.row (aftL m s (w.take k)).toNat (by omega)
    rw [gz (by omega),zm h,zm (show okI (ix m.rows (aftL m s (w.take k))) (ix w (k:Int)) from⟨b.1,show w.getD k default<((m.rows.getD (aftL m s (w.take k)).toNat default).length:Int) from by rw [hrow];exact b.2⟩)]
    unfold ut
    rw [if_neg (by omega)];rfl
  refine Eq.trans (q9 i) ?_
  have c:=lm m s (w.take k)
  rw [List.length_take] at c
  rw [zm (jc (by rw [List.length_append,List.length_replicate,c];omega)),zm (jm (by omega)),z3t,zno _ _ _ _ (by omega) a,←zkn m s w k a,←ze8 m s w k a];rfl
 ·obtain⟨t,X⟩:=x
  obtain⟨rfl,rfl⟩:=hi
  simp only [gu]
  rw [xz (by omega),List.take_length,Nat.sub_self,List.replicate_zero,List.append_nil]
theorem zqq{N:Nat}{m:Mach}(c:Small m){s:Int}{w:List Int}(e:400≤N)(a:w.length<N)(hl':w.length≤1000000):r9 N m s w=some (zqu m s w,zqr m s w):=by
 unfold r9 zqu zqr
 rw [q9 (zlh c (by omega) s)]
 by_cases h:z2s m s≠0
 ·rw [gz h,if_pos h,if_pos h]
 ·rw [xz h,if_neg h,if_neg h,q9 (zlp a (by omega))]
  by_cases h1:z0n w m.inputs≠0
  ·rw [gz h1,if_pos h1]
  ·have b:=zne (m:=m) (s:=s) (by simpa using h)
   have d:=zn8 (w:=w) (n:=m.inputs) (by simpa using h1)
   rw [xz h1,if_neg h1,q9 (zqv b.1 (.inr b.2) d.1 a hl'),show z0n w m.inputs=0 by simpa using h1]
end GV
end Go.Proofs.YtkkcidhcfkmbjaaGreatDoor

namespace Go.Proofs.YtkkcidhcfkmbjaaGreatDoor
namespace GV
set_option maxRecDepth 100000
theorem zpk{N:Nat}{a b:List Int}(f:a.length≤100)(g:b.length≤100)(h:200≤N):o6 N a b=some (a++b):=by
 unfold o6
 have d:uk N a N [] 0=some a:=by
  refine o7 (fun F k acc=>uk N a F acc (k:Int)) a.length (fun k acc=>acc=a.take k) _ (fun F k acc c hacc=> .inr ?_) (fun F acc hacc=>?_) N 0 [] (Nat.zero_le _) (by omega) (by simp)
  ·subst hacc
   refine⟨_,rfl,?_⟩
   simp only [uk]
   rw [gz (by omega),zm (jc c),zm ⟨by simp;omega,by simp;omega⟩,zm (jm (by omega)),z4e a k c];rfl
  ·subst hacc
   simp only [uk]
   rw [xz (by omega),List.take_length]
 have e:ui N b N 0 a=some (a++b):=by
  refine o7 (fun F k acc=>ui N b F (k:Int) acc) b.length (fun k acc=>acc=a++b.take k) _ (fun F k acc c hacc=> .inr ?_) (fun F acc hacc=>?_) N 0 a (Nat.zero_le _) (by omega) (by simp)
  ·subst hacc
   refine⟨_,rfl,?_⟩
   simp only [ui]
   rw [gz (by omega),zm (jc c),zm ⟨by simp;omega,by simp;omega⟩,zm (jm (by omega)),z4e b k c,←List.append_assoc];rfl
  ·subst hacc
   simp only [ui]
   rw [xz (by omega),List.take_length]
 rw [q9 d,q9 e]
end GV
end Go.Proofs.YtkkcidhcfkmbjaaGreatDoor
