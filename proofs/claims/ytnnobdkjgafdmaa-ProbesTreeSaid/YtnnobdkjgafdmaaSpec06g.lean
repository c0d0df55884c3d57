
import Derived.Test.YtnnobdkjgafdmaaShPlain
import Derived.Test.YtnnobdkjgafdmaaShPl
import Derived.Test.YtnnobdkjgafdmaaShRow
set_option linter.unusedVariables false
set_option linter.unusedSimpArgs false
set_option linter.unusedSectionVars false
namespace Go.Proofs.Ytnnobdkjgafdmaa
namespace GV
def eOk(m:Mach)(e:Edge):Prop:=(e.to= -1∧e.out= -1)∨(0≤e.to∧e.to<m.rows.length∧0≤e.out∧e.out<m.outputs)
structure MOk (m:Mach):Prop where
 i1:1≤m.inputs
 i2:m.inputs≤16
 o1:1≤m.outputs
 o2:m.outputs≤16
 r1:1≤m.rows.length
 r2:m.rows.length≤64
 row: ∀ s,s<m.rows.length→((m.rows.getD s default).length:Int)=m.inputs
 edge: ∀ s i,s<m.rows.length→i<(m.rows.getD s default).length→eOk m ((m.rows.getD s default).getD i default)
def zjt(l:List Edge)(k:Nat):Nat:=(l.take k).countP fun e=>decide (0≤e.to)
def zj7(m:Mach)(k:Nat):Nat:=((m.rows.take k).map fun r=>r.countP fun e=>decide (0≤e.to)).sum
def q3n(m:Mach):Nat:=zj7 m m.rows.length
theorem zpc(l:List Edge):zjt l 0=0:=by simp [zjt]
theorem zpk(l:List Edge)(k:Nat)(h:k<l.length):zjt l (k+1)=zjt l k+if 0≤(l.getD k default).to then 1 else 0:=by
 unfold zjt
 rw [List.take_succ_eq_append_getElem h,List.countP_append]
 simp [List.countP_cons,List.getD_eq_getElem?_getD,h]
theorem zym(l:List Edge)(k:Nat):zjt l k≤k:=by
 unfold zjt;exact Nat.le_trans List.countP_le_length (List.length_take_le _ _)
theorem zfi(m:Mach)(k:Nat)(h:k<m.rows.length):zj7 m (k+1)=zj7 m k+zjt (m.rows.getD k default) (m.rows.getD k default).length:=by
 unfold zj7 zjt
 rw [List.take_succ_eq_append_getElem h,List.map_append,List.sum_append,List.take_length]
 congr 1
 simp [List.getD_eq_getElem?_getD,h]
def z1l(m:Mach)(s i:Int):Edge:=if s<0 then⟨-1,-1⟩ else(m.rows.getD s.toNat default).getD i.toNat default
def z1p(m:Mach):Int→List Int→List Int
 |_,[]=>[]
 |s,i::w=>(z1l m s i).out::z1p m (z1l m s i).to w
def z2s(m:Mach):Int→List Int→Int
 |s,[]=>s
 |s,i::w=>z2s m (z1l m s i).to w
def WOk(n:Int)(w:List Int):Prop:= ∀ k,k<w.length→0≤w.getD k default∧w.getD k default<n
def SOk(m:Mach)(s:Int):Prop:=s= -1∨(0≤s∧s<m.rows.length)
theorem zbm(m:Mach): ∀ (s:Int) (u v:List Int),z2s m s (u++v)=z2s m (z2s m s u) v
 |s,[],v=>rfl
 |s,i::u,v=>zbm m _ u v
theorem zk8(m:Mach): ∀ (s:Int) (u v:List Int),z1p m s (u++v)=z1p m s u++z1p m (z2s m s u) v
 |s,[],v=>rfl
 |s,i::u,v=>by
  show _::z1p m _ (u++v)=_::(z1p m _ u++_)
  rw [zk8 m _ u v];rfl
theorem zel(m:Mach): ∀ (s:Int) (w:List Int),(z1p m s w).length=w.length
 |s,[]=>rfl
 |s,i::w=>by simp [z1p,zel m _ w]
theorem zfo(w:List Int)(k:Nat)(h:k<w.length):w.take (k+1)=w.take k++[w.getD k default]:=by
 rw [List.take_succ_eq_append_getElem h];simp [List.getD_eq_getElem?_getD,h]
theorem zls(m:Mach)(a:MOk m)(s i:Int)(b:SOk m s)(hi:0≤i∧i<m.inputs):SOk m (z1l m s i).to∧ -1≤(z1l m s i).out∧(z1l m s i).out≤16:=by
 unfold z1l
 split
 ·exact⟨.inl rfl,by simp,by simp⟩
 ·have hs':0≤s∧s<m.rows.length:=by rcases b with h|h<;>omega
  have c:=a.row s.toNat (by omega)
  have d:=a.o2
  rcases a.edge s.toNat i.toNat (by omega) (by omega) with h|h
  ·exact⟨.inl h.1,by omega,by omega⟩
  ·exact⟨.inr ⟨h.1,h.2.1⟩,by omega,by omega⟩
theorem zy2(m:Mach)(b:MOk m): ∀ (s:Int) (w:List Int),SOk m s→WOk m.inputs w→SOk m (z2s m s w)
 |s,[],a,_=>a
 |s,i::w,a,c=>zy2 m b _ w (zls m b s i a (by simpa using c 0 (by simp))).1 (fun k d=>by simpa using c (k+1) (by simpa using d))
def zua(m:Mach)(x:Edge):Bool:=decide (x.to= -1∧x.out= -1)||(((decide (0≤x.to)&&decide (x.to<m.rows.length))&&decide (0≤x.out))&&decide (x.out<m.outputs))
theorem q0d(m:Mach)(x:Edge):zua m x=true↔eOk m x:=by
 simp [zua,eOk];omega
theorem zi6{α:Type}[Inhabited α](p:α→Bool)(X:List α)(k:Nat)(h:k<X.length):(X.take (k+1)).any p=((X.take k).any p||p (X.getD k default)):=by
 rw [List.take_succ_eq_append_getElem h,List.any_append]
 simp [List.getD_eq_getElem?_getD,h]
def zkm{α:Type}(p:α→Bool)(X:List α):Int:=match X.findIdx? p with|some i=>i|none=> -1
theorem zqf{α:Type}(p:α→Bool)(X:List α):decide (0≤zkm p X)=X.any p:=by
 unfold zkm
 cases h:X.findIdx? p with
 |none=>
  have:=List.findIdx?_eq_none_iff.1 h
  simp only [Bool.eq_false_iff] at*
  rw [show decide ((0:Int)≤ -1)=false from rfl]
  symm
  rw [List.any_eq_false]
  intro x a
  simp [this x a]
 |some i=>
  obtain⟨hi,b,_⟩:=List.findIdx?_eq_some_iff_getElem.1 h
  rw [show decide ((0:Int)≤(i:Int))=true from by simp]
  symm
  rw [List.any_eq_true]
  exact⟨_,List.getElem_mem hi,b⟩
theorem zgq{α:Type}[Inhabited α](p:α→Bool)(X:List α)(k:Nat)(h:k<X.length)(a:(X.take k).any p=false)(b:p (X.getD k default)=true):zkm p X=k:=by
 have:X.findIdx? p=some k:=by
  rw [List.findIdx?_eq_some_iff_getElem]
  refine⟨h,by simpa [List.getD_eq_getElem?_getD,h] using b,fun j c=>?_⟩
  rw [List.any_eq_false] at a
  have:=a X[j] (by rw [List.mem_take_iff_getElem];exact⟨j,by omega,rfl⟩)
  simpa using this
 simp [zkm,this]
theorem zj9{α:Type}(p:α→Bool)(X:List α)(a:X.any p=false):zkm p X= -1:=by
 have:X.findIdx? p=none:=by
  rw [List.findIdx?_eq_none_iff]
  rw [List.any_eq_false] at a
  intro x b
  simpa using a x b
 simp [zkm,this]
def za0(m:Mach)(r:List Edge):Bool:=decide ((r.length:Int)≠m.inputs)||r.any fun x=> !zua m x
def z3k(m:Mach):Int:=if(16<m.inputs∨16<m.outputs)∨64<m.rows.length then 3 else if(m.inputs<1∨m.outputs<1)∨m.rows.length<1 then 1 else if m.rows.any (za0 m)=true then 1 else 0
structure Small (m:Mach):Prop where
 r:m.rows.length≤100
 c: ∀ k,k<m.rows.length→(m.rows.getD k default).length≤100
theorem q3q{m:Mach}(h:(16<m.inputs∨16<m.outputs)∨64<m.rows.length):z3k m=3:=by unfold z3k;rw [if_pos h]
theorem q52{m:Mach}(h: ¬((16<m.inputs∨16<m.outputs)∨64<m.rows.length))(a:(m.inputs<1∨m.outputs<1)∨m.rows.length<1):z3k m=1:=by unfold z3k;rw [if_neg h,if_pos a]
theorem q3c{m:Mach}(h: ¬((16<m.inputs∨16<m.outputs)∨64<m.rows.length))(a: ¬((m.inputs<1∨m.outputs<1)∨m.rows.length<1))(b:m.rows.any (za0 m)=false):z3k m=0:=by
 unfold z3k;rw [if_neg h,if_neg a,if_neg (by rw [b];decide)]
theorem zlv{α:Type}[Inhabited α](p:α→Bool)(X:List α):X.any p=false↔ ∀ k,k<X.length→p (X.getD k default)=false:=by
 rw [List.any_eq_false]
 refine⟨fun h k a=>by simpa using h _ (z19 a),fun h x b=>?_⟩
 obtain⟨k,a,rfl⟩:=List.getElem_of_mem b
 have:=h k a
 simp only [List.getD_eq_getElem?_getD,List.getElem?_eq_getElem a,Option.getD_some] at this
 simp [this]
theorem zd5(m:Mach)(r:List Edge):za0 m r=false↔(r.length:Int)=m.inputs∧ ∀ i,i<r.length→eOk m (r.getD i default):=by
 unfold za0
 rw [Bool.or_eq_false_iff,zlv]
 refine and_congr (by simp) (forall_congr' fun i=>forall_congr' fun hi=>?_)
 rw [←q0d];simp
theorem z6b(m:Mach):z3k m=0↔MOk m:=by
 unfold z3k
 by_cases h:(16<m.inputs∨16<m.outputs)∨64<m.rows.length
 ·rw [if_pos h];exact⟨fun h=>absurd h (by decide),fun a=>by have:=a.i2;have:=a.o2;have:=a.r2;omega⟩
 rw [if_neg h]
 by_cases h1:(m.inputs<1∨m.outputs<1)∨m.rows.length<1
 ·rw [if_pos h1];exact⟨fun h=>absurd h (by decide),fun a=>by have:=a.i1;have:=a.o1;have:=a.r1;omega⟩
 rw [if_neg h1]
 cases hr:m.rows.any (za0 m)
 ·rw [if_neg (by decide)]
  have:=(zlv _ _).1 hr
  exact⟨fun _=>⟨by omega,by omega,by omega,by omega,by omega,by omega,fun s b=>((zd5 m _).1 (this s b)).1,fun s i b hi=>((zd5 m _).1 (this s b)).2 i hi⟩,fun _=>rfl⟩
 ·rw [if_pos rfl]
  refine⟨fun h=>absurd h (by decide),fun a=>?_⟩
  have:m.rows.any (za0 m)=false:=(zlv _ _).2 fun k c=>(zd5 m _).2 ⟨a.row k c,fun i hi=>a.edge k i c hi⟩
  rw [hr] at this;cases this
theorem MOk.small{m:Mach}(a:MOk m):Small m:=⟨by have:=a.r2;omega,fun k b=>by have:=a.row k b;have:=a.i2;omega⟩
def zjn:List Int→List Int→Int
 |x::a,y::b=>if x<y then-1 else if y<x then 1 else zjn a b
 |_,_=>0
def cmpL(a b:List Int):Int:=if a.length<b.length then-1 else if b.length<a.length then 1 else zjn a b
theorem z6e{α:Type}[Inhabited α](X:List α)(k:Nat)(h:k<X.length):X.drop k=X.getD k default::X.drop (k+1):=by
 rw [List.drop_eq_getElem_cons h];simp [List.getD_eq_getElem?_getD,h]
theorem q0j{a b:List Int}{k:Nat}(c:k<a.length)(d:k<b.length):zjn (a.drop k) (b.drop k)=if a.getD k default<b.getD k default then-1 else if b.getD k default<a.getD k default then 1 else zjn (a.drop (k+1)) (b.drop (k+1)):=by
 rw [z6e a k c,z6e b k d];rfl
theorem zxs: ∀ (a b:List Int),a.length=b.length→(zjn a b=0↔a=b)
 | [],[],_=>by simp [zjn]
 |x::a,y::b,h=>by
  have ih:=zxs a b (by simpa using h)
  unfold zjn
  by_cases h1:x<y
  ·rw [if_pos h1];simp;omega
  by_cases h2:y<x
  ·rw [if_neg h1,if_pos h2];simp;omega
  rw [if_neg h1,if_neg h2,ih,show x=y from by omega];simp
theorem cmpL_eq(a b:List Int):cmpL a b=0↔a=b:=by
 unfold cmpL
 by_cases h1:a.length<b.length
 ·rw [if_pos h1];exact⟨fun h=>absurd h (by decide),fun h=>by subst h;omega⟩
 by_cases h2:b.length<a.length
 ·rw [if_neg h1,if_pos h2];exact⟨fun h=>absurd h (by decide),fun h=>by subst h;omega⟩
 rw [if_neg h1,if_neg h2]
 exact zxs a b (by omega)
theorem z3c{α:Type}[Inhabited α]{X Y:List α}(b:X.length=Y.length)(h: ∀ k,k<X.length→X.getD k default=Y.getD k default):X=Y:=by
 refine List.ext_getElem b fun k a c=>?_
 have:=h k a
 simpa only [List.getD_eq_getElem?_getD,List.getElem?_eq_getElem a,List.getElem?_eq_getElem c,Option.getD_some] using this
def za1(m:Mach)(k:Nat):Edge:=(m.rows.getD (k/m.inputs.toNat) default).getD (k%m.inputs.toNat) default
def z9d(m:Mach)(k:Nat):List (Int×Int):=((List.range k).filter fun k=>decide ((za1 m k).to= -1∧(za1 m k).out= -1)).map fun k=>(((k/m.inputs.toNat:Nat):Int),((k%m.inputs.toNat:Nat):Int))
def zrh(m:Mach):List (Int×Int):=z9d m (m.rows.length*m.inputs.toNat)
theorem zrm(m:Mach):z9d m 0=[]:=rfl
theorem zk4(m:Mach)(k:Nat):z9d m (k+1)=z9d m k++if(za1 m k).to= -1∧(za1 m k).out= -1 then [(((k/m.inputs.toNat:Nat):Int),((k%m.inputs.toNat:Nat):Int))] else []:=by
 unfold z9d
 rw [List.range_succ,List.filter_append,List.map_append]
 congr 1
 by_cases h:(za1 m k).to= -1∧(za1 m k).out= -1
 ·rw [if_pos h];simp [h]
 ·rw [if_neg h];simp only [List.filter_cons,List.filter_nil,decide_eq_false h];rfl
theorem zz7(m:Mach)(k:Nat):(z9d m k).length≤k:=by
 unfold z9d;rw [List.length_map];exact Nat.le_trans (List.length_filter_le _ _) (by simp)
theorem zon{n k i:Nat}(h:i<n):(k*n+i)/n=k:=by
 rw [Nat.mul_comm,Nat.mul_add_div (by omega),Nat.div_eq_of_lt h];rfl
theorem zoe{n k i:Nat}(h:i<n):(k*n+i)%n=i:=by
 rw [Nat.mul_comm,Nat.mul_add_mod,Nat.mod_eq_of_lt h]
theorem MOk.mul{m:Mach}(a:MOk m):m.rows.length*m.inputs.toNat≤1024∧(m.rows.length:Int)*m.inputs=((m.rows.length*m.inputs.toNat:Nat):Int):=by
 have b:=a.r2;have c:=a.i1;have d:=a.i2
 refine⟨Nat.le_trans (Nat.mul_le_mul b (show m.inputs.toNat≤16 by omega)) (by decide),?_⟩
 rw [Int.natCast_mul,Int.toNat_of_nonneg (by omega)]
theorem q1a{n k i N:Nat}(a:k<N)(hi:i<n):k*n+i<N*n:=by
 have:(k+1)*n≤N*n:=Nat.mul_le_mul_right n a
 rw [Nat.succ_mul] at this;omega
def zps(m:Mach):Bool:=if z3k m≠0 then false else decide (((zrh m).length:Int)=0)
theorem qc0{m:Mach}(a:MOk m)(s:Int)(k:Nat)(b:s.toNat<m.rows.length)(c:k<(m.rows.getD s.toNat default).length):SOk m ((m.rows.getD s.toNat default).getD k default).to:=by
 rcases a.edge s.toNat k b c with h|h
 ·exact .inl h.1
 ·exact .inr ⟨h.1,h.2.1⟩
inductive Reach (m:Mach) (s:Nat):Nat→Prop
 |refl:Reach m s s
 |step {t i:Nat}:Reach m s t→t<m.rows.length→i<(m.rows.getD t default).length→0≤((m.rows.getD t default).getD i default).to→Reach m s ((m.rows.getD t default).getD i default).to.toNat
theorem Reach.trans{m:Mach}{a b c:Nat}(h:Reach m a b)(k:Reach m b c):Reach m a c:=by
 induction k with
 |refl=>exact h
 |step _ e hi d ih=>exact .step ih e hi d
theorem Reach.lt{m:Mach}(c:MOk m){a b:Nat}(h:Reach m a b)(d:a<m.rows.length):b<m.rows.length:=by
 cases h with
 |refl=>exact d
 |step g e f i=>rcases c.edge _ _ e f with h|h<;>omega
def Closed(m:Mach)(Y:List Bool)(t:Nat):Prop:= ∀ i,i<(m.rows.getD t default).length→0≤((m.rows.getD t default).getD i default).to→Y.getD ((m.rows.getD t default).getD i default).to.toNat default=true
structure Vis (m:Mach) (X:List Bool) (s:Int) (Y:List Bool):Prop where
 len:Y.length=X.length
 cnt:Y.count false≤X.count false
 mono: ∀ t,X.getD t default=true→Y.getD t default=true
 here:0≤s→Y.getD s.toNat default=true
 reach: ∀ t,Y.getD t default=true→X.getD t default=true∨(0≤s∧Reach m s.toNat t)
 closed: ∀ t,t<m.rows.length→Y.getD t default=true→X.getD t default=true∨Closed m Y t
structure VisK (m:Mach) (X:List Bool) (s:Nat) (k:Nat) (Y:List Bool):Prop where
 len:Y.length=X.length
 cnt:Y.count false<X.count false
 mono: ∀ t,X.getD t default=true→Y.getD t default=true
 here:Y.getD s default=true
 reach: ∀ t,Y.getD t default=true→X.getD t default=true∨Reach m s t
 closed: ∀ t,t<m.rows.length→Y.getD t default=true→X.getD t default=true∨t=s∨Closed m Y t
 done: ∀ i,i<k→0≤((m.rows.getD s default).getD i default).to→Y.getD ((m.rows.getD s default).getD i default).to.toNat default=true
theorem q2e{m:Mach}{X:List Bool}{s:Int}(h:s= -1∨X.getD s.toNat default=true)(a:s= -1∨0≤s):Vis m X s X:=
 ⟨rfl,Nat.le_refl _,fun _ h=>h,fun b=>by rcases h with h|h;omega;exact h,fun _ h=> .inl h,fun _ _ h=> .inl h⟩
theorem zfu{X:List Bool}{s t:Nat}(a:s<X.length):(X.set s true).getD t default=if t=s then true else X.getD t default:=by
 simp only [List.getD_eq_getElem?_getD,List.getElem?_set]
 by_cases h:s=t
 ·subst h;simp [a]
 ·rw [if_neg h,if_neg (fun e=>h e.symm)]
theorem zgp: ∀ {X:List Bool} {s:Nat},s<X.length→X.getD s default=false→(X.set s true).count false+1=X.count false
 |x::X,0,_,h=>by
  have:x=false:=by simpa using h
  subst this
  simp
 |x::X,s+1,a,h=>by
  have:=zgp (X:=X) (s:=s) (by simpa using a) (by simpa using h)
  rw [List.set_cons_succ,List.count_cons,List.count_cons];omega
theorem zzd{m:Mach}{X:List Bool}{s:Nat}(c:s<X.length)(h:X.getD s default=false):VisK m X s 0 (X.set s true):=by
 have b:=fun t=>zfu (t:=t) c
 refine⟨by simp,by have:=zgp c h;omega,fun t a=>by rw [b];split<;>simp_all,by rw [b,if_pos rfl],fun t a=>?_,fun t _ a=>?_,fun i hi=>by omega⟩
 ·rw [b] at a
  by_cases e:t=s
  ·subst e;exact .inr .refl
  ·rw [if_neg e] at a;exact .inl a
 ·rw [b] at a
  by_cases e:t=s
  ·exact .inr (.inl e)
  ·rw [if_neg e] at a;exact .inl a
theorem q0v{m:Mach}{X Y Z:List Bool}{s k:Nat}(b:VisK m X s k Y)(f:s<m.rows.length)(g:k<(m.rows.getD s default).length)(a:Vis m Y ((m.rows.getD s default).getD k default).to Z):VisK m X s (k+1) Z:=by
 refine⟨a.len.trans b.len,Nat.lt_of_le_of_lt a.cnt b.cnt,fun t d=>a.mono t (b.mono t d),a.mono _ b.here,fun t d=>?_,fun t e d=>?_,fun i hi c=>?_⟩
 ·rcases a.reach t d with h|⟨c,h⟩
  ·exact b.reach t h
  ·exact .inr ((Reach.step .refl f g c).trans h)
 ·rcases a.closed t e d with h|h
  ·rcases b.closed t e h with h|h|h
   ·exact .inl h
   ·exact .inr (.inl h)
   ·exact .inr (.inr fun i hi c=>a.mono _ (h i hi c))
  ·exact .inr (.inr h)
 ·rcases Nat.lt_succ_iff_lt_or_eq.1 hi with h|rfl
  ·exact a.mono _ (b.done i h c)
  ·exact a.here c
theorem q50{m:Mach}{X Y:List Bool}{s:Int}{k:Nat}(b:0≤s)(a:VisK m X s.toNat k Y)(e: ¬k<(m.rows.getD s.toNat default).length):Vis m X s Y:=
 ⟨a.len,Nat.le_of_lt a.cnt,a.mono,fun _=>a.here,fun t c=>(a.reach t c).imp id fun h=>⟨b,h⟩,fun t d c=>by
  rcases a.closed t d c with h|rfl|h
  ·exact .inl h
  ·exact .inr fun i hi b=>a.done i (by omega) b
  ·exact .inr h⟩
noncomputable def connB(m:Mach):Bool:= @decide (∀ t,t<m.rows.length→Reach m 0 t) (Classical.propDecidable _)
theorem q1c{m:Mach}{Y:List Bool}(d:Y.length=m.rows.length)(h: ∀ t,t<m.rows.length→(Y.getD t default=true↔Reach m 0 t)):connB m= !Y.contains false:=by
 unfold connB
 cases hc:Y.contains false
 ·refine(@decide_eq_true _ (Classical.propDecidable _) ?_).trans rfl
  intro t a
  rw [←h t a]
  cases hy:Y.getD t default with
  |true=>rfl
  |false=>
   have:Y.contains false=true:=by
    rw [List.contains_iff_mem,←hy];exact z19 (by omega)
   rw [hc] at this;cases this
 ·refine(@decide_eq_false _ (Classical.propDecidable _) ?_).trans rfl
  intro hall
  rw [List.contains_iff_mem] at hc
  obtain⟨k,b,c⟩:=List.getElem_of_mem hc
  have:=(h k (by omega)).2 (hall k (by omega))
  simp only [List.getD_eq_getElem?_getD,List.getElem?_eq_getElem b,Option.getD_some,c] at this
  cases this
theorem q3l{m:Mach}(e:MOk m){n:Nat}(g:n=m.rows.length){Y:List Bool}(h:Vis m (List.replicate n false) 0 Y):connB m= !Y.contains false:=by
 have l:=e.r1
 have f: ∀ t,(List.replicate n false).getD t default=false:=fun t=>by
  simp only [List.getD_eq_getElem?_getD,List.getElem?_replicate];split<;>rfl
 have b: ∀ t,t<m.rows.length→Y.getD t default=true→Closed m Y t:=fun t a c=>(h.closed t a c).resolve_left (by rw [f];simp)
 refine q1c (by rw [h.len];simp [g]) fun t a=>⟨fun c=>?_,fun d=>?_⟩
 ·exact((h.reach t c).resolve_left (by rw [f];simp)).2
 ·clear a
  have key: ∀ t,Reach m 0 t→Y.getD t default=true∧t<m.rows.length:=by
   intro t a
   refine⟨?_,a.lt e (by omega)⟩
   induction a with
   |refl=>exact h.here (Int.le_refl _)
   |step o i j k ih=>exact b _ i ih _ j k
  exact(key t d).1
theorem zqs(Y:List Bool):(Y.any fun x=>decide (false=x))=Y.contains false:=by
 rw [Bool.eq_iff_iff,List.any_eq_true,List.contains_iff_mem]
 exact⟨fun⟨x,a,h⟩=>by rw [of_decide_eq_true h];exact a,fun h=>⟨false,h,rfl⟩⟩
theorem q4d{P:Nat→Prop}{k:Nat}(h: ∀ j,j<k→P j)(a:P k): ∀ j,j<k+1→P j:=fun j b=>by
 rcases Nat.lt_succ_iff_lt_or_eq.1 b with c|rfl
 ·exact h j c
 ·exact a
theorem Small.mem{m:Mach}(h:Small m){r:List Edge}(b:r∈m.rows):r.length≤100:=by
 obtain⟨k,a,rfl⟩:=List.getElem_of_mem b
 have:=h.c k a
 simpa [List.getD_eq_getElem?_getD,a] using this
def z9a(m:Mach):Bool:=decide ((q3n m:Int)=m.rows.length*m.inputs)
def q8j(m:Mach)(Y:List Bool):Prop:= ∀ t,t<m.rows.length→Y.getD t default=true→Closed m Y t
structure RInv (m:Mach) (a:Nat) (r:Nat) (Y:List Bool):Prop where
 len:Y.length=m.rows.length
 sound: ∀ t,Y.getD t default=true→Reach m a t
 start:Y.getD a default=true
 prog:q8j m Y∨r<Y.count true
structure RPass (m:Mach) (a:Nat) (Y0:List Bool) (s i:Nat) (Y:List Bool):Prop where
 len:Y.length=m.rows.length
 sound: ∀ t,Y.getD t default=true→Reach m a t
 start:Y.getD a default=true
 fix:q8j m Y0→Y=Y0
 prog:Y0.count true<Y.count true∨(Y=Y0∧ ∀ t,t<m.rows.length→Y.getD t default=true→ ∀ j,(t<s∨(t=s∧j<i))→j<(m.rows.getD t default).length→0≤((m.rows.getD t default).getD j default).to→Y.getD ((m.rows.getD t default).getD j default).to.toNat default=true)
theorem q4q{Y:List Bool}{t:Nat}(h:Y.getD t default=true)(a:t<Y.length):Y.set t true=Y:=by
 refine z3c (by simp) fun k b=>?_
 rw [zfu a]
 by_cases e:k=t
 ·subst e;rw [if_pos rfl,h]
 ·rw [if_neg e]
theorem zgk: ∀ {X:List Bool} {s:Nat},s<X.length→X.getD s default=false→(X.set s true).count true=X.count true+1
 |x::X,0,_,h=>by
  have:x=false:=by simpa using h
  subst this
  simp
 |x::X,s+1,a,h=>by
  have:=zgk (X:=X) (s:=s) (by simpa using a) (by simpa using h)
  rw [List.set_cons_succ,List.count_cons,List.count_cons];omega
theorem q6y{m:Mach}{a r:Nat}{Y:List Bool}(h:RInv m a r Y):RPass m a Y 0 0 Y:=
 ⟨h.len,h.sound,h.start,fun _=>rfl,.inr ⟨rfl,fun t _ _ j b=>by omega⟩⟩
theorem q74{m:Mach}{a s i:Nat}{c Y:List Bool}(h:RPass m a c s i Y)(g: ¬(Y.getD s default=true∧0≤((m.rows.getD s default).getD i default).to)):RPass m a c s (i+1) Y:=by
 refine⟨h.len,h.sound,h.start,h.fix,h.prog.imp id fun⟨e,k⟩=>⟨e,fun t l d j n b f=>?_⟩⟩
 by_cases e:t=s∧j=i
 ·obtain⟨rfl,rfl⟩:=e;exact absurd ⟨d,f⟩ g
 ·exact k t l d j (by omega) b f
theorem q8c{m:Mach}{a s i:Nat}{g Y:List Bool}(q:MOk m)(h:RPass m a g s i Y)(c:s<m.rows.length)(hi:i<(m.rows.getD s default).length)(k:Y.getD s default=true)(l:0≤((m.rows.getD s default).getD i default).to):
 RPass m a g s (i+1) (Y.set ((m.rows.getD s default).getD i default).to.toNat true):=by
 have d:((m.rows.getD s default).getD i default).to.toNat<Y.length:=by
  rw [h.len];rcases q.edge s i c hi with h|h<;>omega
 cases hv:Y.getD ((m.rows.getD s default).getD i default).to.toNat default with
 |true=>
  rw [q4q hv d]
  refine⟨h.len,h.sound,h.start,h.fix,h.prog.imp id fun⟨e,r⟩=>⟨e,fun t b hy' j u f h0'=>?_⟩⟩
  by_cases e:t=s∧j=i
  ·obtain⟨rfl,rfl⟩:=e;exact hv
  ·exact r t b hy' j (by omega) f h0'
 |false=>
  have n:=fun t=>zfu (t:=t) d
  refine⟨by simp [h.len],fun t b=>?_,by rw [n];split;rfl;exact h.start,fun o=>?_,.inl ?_⟩
  ·rw [n] at b
   by_cases e:t=((m.rows.getD s default).getD i default).to.toNat
   ·subst e;exact .step (h.sound _ k) c hi l
   ·rw [if_neg e] at b;exact h.sound t b
  ·have e:=h.fix o
   subst e
   have:=o s c k i hi l
   rw [hv] at this;cases this
  ·rw [zgk d hv]
   rcases h.prog with p|⟨p,_⟩
   ·omega
   ·subst p;omega
theorem q82{m:Mach}{a s i:Nat}{d Y:List Bool}(h:RPass m a d s i Y)(hi:(m.rows.getD s default).length≤i):RPass m a d (s+1) 0 Y:=
 ⟨h.len,h.sound,h.start,h.fix,h.prog.imp id fun⟨e,f⟩=>⟨e,fun t g k j b c l=>f t g k j (by
  rcases b with b|b
  ·by_cases e:t=s
   ·subst e;exact .inr ⟨rfl,by omega⟩
   ·exact .inl (by omega)
  ·omega) c l⟩⟩
theorem q8q{m:Mach}{a s r:Nat}{d Y:List Bool}(h:RPass m a d s 0 Y)(k:m.rows.length≤s)(b:RInv m a r d):RInv m a (r+1) Y:=by
 refine⟨h.len,h.sound,h.start,?_⟩
 rcases b.prog with c|c
 ·rw [h.fix c];exact .inl c
 ·rcases h.prog with l|⟨_,e⟩
  ·exact .inr (by omega)
  ·exact .inl fun t f g j i b=>e t f g j (.inl (by omega)) i b
theorem zzc{m:Mach}{a:Nat}(g:a<m.rows.length):RInv m a 0 ((List.replicate m.rows.length false).set a true):=by
 have c:a<(List.replicate m.rows.length false).length:=by simpa using g
 have d: ∀ t,(List.replicate m.rows.length false).getD t default=false:=fun t=>by
  simp only [List.getD_eq_getElem?_getD,List.getElem?_replicate];split<;>rfl
 have f:=fun t=>zfu (t:=t) c
 refine⟨by simp,fun t b=>?_,by rw [f,if_pos rfl],.inr (by rw [zgk c (d a)];omega)⟩
 rw [f,d] at b
 by_cases e:t=a
 ·subst e;exact .refl
 ·rw [if_neg e] at b;cases b
noncomputable def reachL(m:Mach)(a:Nat):List Bool:=(List.range m.rows.length).map fun t=> @decide (Reach m a t) (Classical.propDecidable _)
theorem zdd{m:Mach}{a t:Nat}(b:t<m.rows.length):(reachL m a).getD t default=true↔Reach m a t:=by
 unfold reachL
 simp only [List.getD_eq_getElem?_getD,List.getElem?_map,List.getElem?_range b,Option.map_some,Option.getD_some]
 exact⟨fun h=> @of_decide_eq_true _ (Classical.propDecidable _) h,fun h=> @decide_eq_true _ (Classical.propDecidable _) h⟩
theorem zc1(m:Mach)(a:Nat):(reachL m a).length=m.rows.length:=by simp [reachL]
theorem q56{m:Mach}{a r:Nat}{Y:List Bool}(i:MOk m)(j:a<m.rows.length)(h:RInv m a r Y)(n:m.rows.length≤r):Y=reachL m a:=by
 have b:q8j m Y:=h.prog.resolve_right (by have:=List.count_le_length (a:=true) (l:=Y);rw [h.len] at this;omega)
 have key: ∀ t,Reach m a t→Y.getD t default=true:=by
  intro t c
  induction c with
  |refl=>exact h.start
  |step o d e f ih=>exact b _ d ih _ e f
 refine z3c (by rw [h.len,zc1]) fun k g=>?_
 rw [Bool.eq_iff_iff,zdd (by rw [←h.len];exact g)]
 exact⟨h.sound k,key k⟩
theorem q6u{m:Mach}(h: ∀ j,j<m.rows.length→(reachL m 0).getD j default=true):connB m=true:=by
 unfold connB
 exact @decide_eq_true _ (Classical.propDecidable _) fun t a=>(zdd a).1 (h t a)
theorem ik{α:Type}[Inhabited α](f:Nat→α){n k:Nat}(h:k<n):((List.range n).map f).getD k default=f k:=by
 simp [List.getD_eq_getElem?_getD,h]
theorem z9e{α:Type}(f:Nat→α)(k:Nat):(List.range (k+1)).map f=(List.range k).map f++[f k]:=by rw [List.range_succ,List.map_append];rfl
end GV
end Go.Proofs.Ytnnobdkjgafdmaa

namespace Go.Proofs.Ytnnobdkjgafdmaa
namespace GV
/-! ### The order of words-/
def z81:List Int→List Int→Prop
 |a::x,b::y=>a<b∨(a=b∧z81 x y)
 |_,_=>False
def llt(a b:List Int):Prop:=a.length<b.length∨(a.length=b.length∧z81 a b)
def lle(a b:List Int):Prop:=a=b∨llt a b
theorem z6g: ∀ a,¬z81 a a
 | [],h=>h
 |x::a,h=>by
  rcases h with h|⟨_,h⟩
  ·omega
  ·exact z6g a h
theorem zbq: ∀ {a b c},z81 a b→z81 b c→z81 a c
 | [],_,_,h,_=>h.elim
 |_::_,[],_,h,_=>h.elim
 |_::_,_::_,[],_,h=>h.elim
 |x::a,y::b,z::c,h,k=>by
  rcases h with h|⟨rfl,h⟩
  ·rcases k with k|⟨rfl,k⟩
   ·exact .inl (by omega)
   ·exact .inl h
  ·rcases k with k|⟨rfl,k⟩
   ·exact .inl k
   ·exact .inr ⟨rfl,zbq h k⟩
theorem zbu: ∀ {a b:List Int},a.length=b.length→z81 a b∨a=b∨z81 b a
 | [],[],_=> .inr (.inl rfl)
 | [],_::_,h=>by simp at h
 |_::_,[],h=>by simp at h
 |x::a,y::b,h=>by
  rcases Int.lt_trichotomy x y with e|rfl|e
  ·exact .inl (.inl e)
  ·rcases zbu (a:=a) (b:=b) (by simpa using h) with k|rfl|k
   ·exact .inl (.inr ⟨rfl,k⟩)
   ·exact .inr (.inl rfl)
   ·exact .inr (.inr (.inr ⟨rfl,k⟩))
  ·exact .inr (.inr (.inl e))
theorem znr: ∀ {a b:List Int} (i j:Int),z81 a b→a.length=b.length→z81 (a++[i]) (b++[j])
 | [],_,_,_,h,_=>h.elim
 |_::_,[],_,_,h,_=>h.elim
 |x::a,y::b,i,j,h,c=>by
  rcases h with h|⟨rfl,h⟩
  ·exact .inl h
  ·exact .inr ⟨rfl,znr i j h (by simpa using c)⟩
theorem zn4: ∀ (a:List Int) {i j:Int},i<j→z81 (a++[i]) (a++[j])
 | [],_,_,h=> .inl h
 |_::a,_,_,h=> .inr ⟨rfl,zn4 a h⟩
theorem zdm(a:List Int): ¬llt a a:=by
 rintro(h|⟨_,h⟩)
 ·omega
 ·exact z6g a h
theorem zan{a b c:List Int}(h:llt a b)(k:llt b c):llt a c:=by
 rcases h with h|⟨h,h'⟩
 ·rcases k with k|⟨k,_⟩
  ·exact .inl (by omega)
  ·exact .inl (by omega)
 ·rcases k with k|⟨k,k'⟩
  ·exact .inl (by omega)
  ·exact .inr ⟨by omega,zbq h' k'⟩
theorem zz4(a b:List Int):llt a b∨a=b∨llt b a:=by
 rcases Nat.lt_trichotomy a.length b.length with h|h|h
 ·exact .inl (.inl h)
 ·rcases zbu h with k|k|k
  ·exact .inl (.inr ⟨h,k⟩)
  ·exact .inr (.inl k)
  ·exact .inr (.inr (.inr ⟨h.symm,k⟩))
 ·exact .inr (.inr (.inl h))
theorem zie{a b:List Int}(i j:Int)(h:llt a b):llt (a++[i]) (b++[j]):=by
 rcases h with h|⟨h,h'⟩
 ·exact .inl (by simp;omega)
 ·exact .inr ⟨by simp [h],znr i j h' h⟩
theorem zsu(a:List Int){i j:Int}(h:i<j):llt (a++[i]) (a++[j]):= .inr ⟨by simp,zn4 a h⟩
theorem zfg{a b c:List Int}(h:lle a b)(k:lle b c):lle a c:=by
 rcases h with rfl|h
 ·exact k
 ·rcases k with rfl|k
  ·exact .inr h
  ·exact .inr (zan h k)
theorem zss{a b:List Int}(i:Int)(h:lle a b):lle (a++[i]) (b++[i]):=by
 rcases h with rfl|h
 ·exact .inl rfl
 ·exact .inr (zie i i h)
theorem zr7{a b c:List Int}(h:lle a b)(k:llt b c):llt a c:=by
 rcases h with rfl|h
 ·exact k
 ·exact zan h k
theorem zdg{a b:List Int}(h:lle a b): ¬llt b a:=fun k=>zdm _ (zr7 h k)
/-! ### Entries-/
structure BE where
 st:Nat
 par:Int
 inp:Int
 wd:List Int
 deriving DecidableEq,Inhabited
def ed(m:Mach)(s i:Nat):Int:=((m.rows.getD s default).getD i default).to
def occ(All:List BE)(t:Nat):Bool:=All.any fun e=>decide (e.st=t)
theorem z3w{All:List BE}{t:Nat}:occ All t=true↔ ∃ j,j<All.length∧(All.getD j default).st=t:=by
 unfold occ
 rw [List.any_eq_true]
 constructor
 ·rintro⟨e,c,b⟩
  obtain⟨j,a,rfl⟩:=List.mem_iff_getElem.1 c
  exact⟨j,a,by simpa [List.getD_eq_getElem?_getD,a] using b⟩
 ·rintro⟨j,a,b⟩
  exact⟨_,z19 a,by simpa using b⟩
def push(m:Mach)(x:BE)(All:List BE)(i:Nat):List BE:=
 if ed m x.st i= -1 then All else if occ All (ed m x.st i).toNat=true then All else All++[⟨(ed m x.st i).toNat,x.st,i,x.wd++[(i:Int)]⟩]
def z6m(m:Mach)(x:BE)(All:List BE):Nat→List BE
 |0=>All
 |k+1=>push m x (z6m m x All k) k
def bfs(m:Mach):Nat→Nat→List BE→List BE
 |0,_,All=>All
 |g+1,p,All=>if p<All.length then bfs m g (p+1) (z6m m (All.getD p default) All m.inputs.toNat) else All
theorem z8w{m:Mach}(a:MOk m){s i:Nat}(b:s<m.rows.length)(hi:i<m.inputs.toNat):ed m s i= -1∨(0≤ed m s i∧ed m s i<m.rows.length):=by
 have:=zls m a (s:Int) (i:Int) (.inr ⟨by omega,by omega⟩) ⟨by omega,by have:=a.i1;omega⟩
 have h:=this.1
 unfold z1l at h
 rw [if_neg (by omega)] at h
 exact h
theorem q1o(m:Mach)(x:BE)(All:List BE)(i:Nat):All<+:push m x All i:=by
 unfold push
 split
 ·exact List.prefix_refl _
 ·split
  ·exact List.prefix_refl _
  ·exact List.prefix_append _ _
theorem zbp(m:Mach)(x:BE)(All:List BE): ∀ k,All<+:z6m m x All k
 |0=>List.prefix_refl _
 |k+1=>(zbp m x All k).trans (q1o m x _ k)
theorem q51{X Y:List BE}(h:X<+:Y){j:Nat}(a:j<X.length):Y.getD j default=X.getD j default:=by
 obtain⟨t,rfl⟩:=h
 simp [List.getD_eq_getElem?_getD,List.getElem?_append_left a]
structure Inv (m:Mach) (s0 p k:Nat) (All:List BE):Prop where
 pos:0<All.length
 root:All.getD 0 default=⟨s0,-1,-1,[]⟩
 rng: ∀ j,j<All.length→(All.getD j default).st<m.rows.length
 dis: ∀ i j,i<All.length→j<All.length→(All.getD i default).st=(All.getD j default).st→i=j
 aft: ∀ j,j<All.length→z2s m s0 (All.getD j default).wd=((All.getD j default).st:Int)
 par: ∀ j,0<j→j<All.length→ ∃ q i,q<j∧i<m.inputs.toNat∧(All.getD j default).par=((All.getD q default).st:Int)∧(All.getD j default).inp=(i:Int)∧(All.getD j default).wd=(All.getD q default).wd++[(i:Int)]∧ed m (All.getD q default).st i=((All.getD j default).st:Int)
 inc: ∀ i j,i<j→j<All.length→llt (All.getD i default).wd (All.getD j default).wd
 bnd:p<All.length→ ∀ j,j<All.length→llt (All.getD j default).wd ((All.getD p default).wd++[(k:Int)])
 cls: ∀ q i,q<All.length→i<m.inputs.toNat→(q<p∨(q=p∧i<k))→ed m (All.getD q default).st i≠ -1→ ∃ j,j<All.length∧((All.getD j default).st:Int)=ed m (All.getD q default).st i∧lle (All.getD j default).wd ((All.getD q default).wd++[(i:Int)])
theorem zqd{X:List BE}{e:BE}{j:Nat}(h:j<X.length):(X++[e]).getD j default=X.getD j default:=by
 simp [List.getD_eq_getElem?_getD,List.getElem?_append_left h]
theorem zo8{X:List BE}{e:BE}:(X++[e]).getD X.length default=e:=by
 simp [List.getD_eq_getElem?_getD]
theorem q2v{m:Mach}(z:MOk m){s0 p k:Nat}{All:List BE}(h:Inv m s0 p k All)(g:p<All.length)(y:k<m.inputs.toNat):Inv m s0 p (k+1) (push m (All.getD p default) All k):=by
 have r:=h.bnd g
 have hlast:llt ((All.getD p default).wd++[(k:Int)]) ((All.getD p default).wd++[((k+1:Nat):Int)]):=zsu _ (by omega)
 have hsame:(∀ q i,q=p→i=k→ed m (All.getD q default).st i≠ -1→ ∃ j,j<All.length∧((All.getD j default).st:Int)=ed m (All.getD q default).st i∧lle (All.getD j default).wd ((All.getD q default).wd++[(i:Int)]))→Inv m s0 p (k+1) All:=fun s=>
  {h with
   bnd:=fun _ j a=>zan (r j a) hlast
   cls:=fun q i f hi d c=>by
    rcases d with l|⟨rfl,l⟩
    ·exact h.cls q i f hi (.inl l) c
    ·by_cases e:i=k
     ·exact s q i rfl e c
     ·exact h.cls q i f hi (.inr ⟨rfl,by omega⟩) c}
 unfold push
 by_cases h1:ed m (All.getD p default).st k= -1
 ·rw [if_pos h1]
  exact hsame fun q i f hi c=>by subst f;subst hi;exact absurd h1 c
 ·rw [if_neg h1]
  have t:=z8w z (h.rng p g) y
  obtain⟨C,D⟩:=t.resolve_left h1
  by_cases h4:occ All (ed m (All.getD p default).st k).toNat=true
  ·rw [if_pos h4]
   refine hsame fun q i f hi c=>?_
   subst f;subst hi
   obtain⟨j,a,u⟩:=z3w.1 h4
   exact⟨j,a,by rw [u];omega,.inr (r j a)⟩
  ·rw [if_neg h4]
   have hnew: ∀ j,j<All.length→(All.getD j default).st≠(ed m (All.getD p default).st k).toNat:=fun j a e=>h4 (z3w.2 ⟨j,a,e⟩)
   have hlen:(All++[(⟨(ed m (All.getD p default).st k).toNat,((All.getD p default).st:Int),(k:Int),(All.getD p default).wd++[(k:Int)]⟩:BE)]).length=All.length+1:=by simp
   generalize hE:(⟨(ed m (All.getD p default).st k).toNat,((All.getD p default).st:Int),(k:Int),(All.getD p default).wd++[(k:Int)]⟩:BE)=e at hlen⊢
   have n:e.st=(ed m (All.getD p default).st k).toNat:=by rw [←hE]
   have A:e.par=((All.getD p default).st:Int):=by rw [←hE]
   have B:e.inp=(k:Int):=by rw [←hE]
   have o:e.wd=(All.getD p default).wd++[(k:Int)]:=by rw [←hE]
   have cs: ∀ j,j<(All++[e]).length→j<All.length∨j=All.length:=fun j a=>by rw [hlen] at a;omega
   have lt:=fun {j:Nat} (a:j<All.length)=>zqd (e:=e) a
   have le:=zo8 (X:=All) (e:=e)
   refine⟨by rw [hlen];omega,by rw [lt h.pos];exact h.root,fun j a=>?_,fun i j hi a b=>?_,fun j a=>?_,fun j v a=>?_,fun i j b a=>?_,fun _ j a=>?_,fun q i f hi d c=>?_⟩
   ·rcases cs j a with a|rfl
    ·rw [lt a];exact h.rng j a
    ·rw [le,n];omega
   ·rcases cs i hi with hi|rfl<;>rcases cs j a with a|rfl
    ·rw [lt hi,lt a] at b;exact h.dis i j hi a b
    ·rw [lt hi,le,n] at b;exact absurd b (hnew i hi)
    ·rw [le,lt a,n] at b;exact absurd b.symm (hnew j a)
    ·rfl
   ·rcases cs j a with a|rfl
    ·rw [lt a];exact h.aft j a
    ·rw [le,o,n,zbm,h.aft p g]
     show (z1l m ((All.getD p default).st:Int) (k:Int)).to=_
     unfold z1l
     rw [if_neg (by omega)]
     show ed m (All.getD p default).st k=_
     omega
   ·rcases cs j a with a|rfl
    ·obtain⟨q,i,w,x⟩:=h.par j v a
     exact⟨q,i,w,by rw [lt a,lt (by omega)];exact x⟩
    ·refine⟨p,k,g,y,?_⟩
     rw [le,lt g,n,A,B,o]
     exact⟨rfl,rfl,rfl,by omega⟩
   ·rcases cs j a with a|rfl
    ·rw [lt a,lt (by omega)];exact h.inc i j b a
    ·rw [le,lt b,o];exact r i b
   ·rw [lt g]
    rcases cs j a with a|rfl
    ·rw [lt a];exact zan (r j a) hlast
    ·rw [le,o];exact hlast
   ·have hq':q<All.length:=by rcases d with l|⟨rfl,_⟩<;>omega
    rw [lt hq'] at c⊢
    by_cases s:q=p∧i=k
    ·obtain⟨rfl,rfl⟩:=s
     exact⟨All.length,by rw [hlen];omega,by rw [le,n];omega,by rw [le,o];exact .inl rfl⟩
    ·obtain⟨j,a,w,x⟩:=h.cls q i hq' hi (by rcases d with l|⟨rfl,l⟩;exact .inl l;exact .inr ⟨rfl,by omega⟩) c
     exact⟨j,by rw [hlen];omega,by rw [lt a];exact w,by rw [lt a];exact x⟩
theorem zqx{m:Mach}(a:MOk m){s0 p:Nat}{All:List BE}(h:Inv m s0 p 0 All)(b:p<All.length): ∀ k,k≤m.inputs.toNat→Inv m s0 p k (z6m m (All.getD p default) All k)
 |0,_=>h
 |k+1,c=>by
  have ih:=zqx a h b k (by omega)
  have hpre:=zbp m (All.getD p default) All k
  have e:(z6m m (All.getD p default) All k).getD p default=All.getD p default:=q51 hpre b
  have:=q2v a ih (by have:=hpre.length_le;omega) (by omega)
  rw [e] at this
  exact this
theorem zty{m:Mach}{s0 p:Nat}{All:List BE}(h:Inv m s0 p m.inputs.toNat All)(c:p<All.length):Inv m s0 (p+1) 0 All:=
 {h with
  bnd:=fun hp' j d=>zan (h.bnd c j d) (zie _ _ (h.inc p (p+1) (by omega) hp'))
  cls:=fun q i e hi a b=>h.cls q i e hi (by rcases a with f|⟨_,f⟩;exact(Nat.lt_or_ge q p).imp id fun _=>⟨by omega,hi⟩;omega) b}
theorem zkw{m:Mach}{s0 p k:Nat}{All:List BE}(h:Inv m s0 p k All):All.length≤m.rows.length:=by
 have b:(All.map (·.st)).Nodup:=by
  rw [List.nodup_iff_pairwise_ne,List.pairwise_iff_getElem]
  intro i j hi a c e
  rw [List.length_map] at hi a
  rw [List.getElem_map,List.getElem_map] at e
  have:=h.dis i j hi a (by simpa [List.getD_eq_getElem?_getD,a,hi] using e)
  omega
 have hsub:(All.map (·.st))⊆List.range m.rows.length:=by
  intro x d
  obtain⟨e,f,rfl⟩:=List.mem_map.1 d
  obtain⟨j,a,rfl⟩:=List.mem_iff_getElem.1 f
  have:=h.rng j a
  rw [List.mem_range]
  simpa [List.getD_eq_getElem?_getD,a] using this
 have:=List.Nodup.length_le_of_subset b hsub
 simpa using this
theorem zx0{m:Mach}(a:MOk m){s0:Nat}: ∀ (g p:Nat) (All:List BE),p+g=m.rows.length→p≤All.length→Inv m s0 p 0 All→ ∃ q,(bfs m g p All).length≤q∧Inv m s0 q 0 (bfs m g p All)
 |0,p,All,b,c,h=>⟨p,by have:=zkw h;show All.length≤p;omega,h⟩
 |g+1,p,All,b,c,h=>by
  unfold bfs
  by_cases hlt:p<All.length
  ·rw [if_pos hlt]
   have d:=zqx a h hlt _ (Nat.le_refl _)
   have hpre:=(zbp m (All.getD p default) All m.inputs.toNat).length_le
   exact zx0 a g (p+1) _ (by omega) (by omega) (zty d (by omega))
  ·rw [if_neg hlt]
   exact⟨p,by omega,h⟩
def rch(m:Mach)(s0:Nat):List BE:=bfs m m.rows.length 0 [⟨s0,-1,-1,[]⟩]
structure Rch (m:Mach) (s0:Nat) (P:List BE):Prop where
 pos:0<P.length
 le:P.length≤m.rows.length
 root:P.getD 0 default=⟨s0,-1,-1,[]⟩
 rng: ∀ j,j<P.length→(P.getD j default).st<m.rows.length
 dis: ∀ i j,i<P.length→j<P.length→(P.getD i default).st=(P.getD j default).st→i=j
 aft: ∀ j,j<P.length→z2s m s0 (P.getD j default).wd=((P.getD j default).st:Int)
 par: ∀ j,0<j→j<P.length→ ∃ q i,q<j∧i<m.inputs.toNat∧(P.getD j default).par=((P.getD q default).st:Int)∧(P.getD j default).inp=(i:Int)∧(P.getD j default).wd=(P.getD q default).wd++[(i:Int)]∧ed m (P.getD q default).st i=((P.getD j default).st:Int)
 inc: ∀ i j,i<j→j<P.length→llt (P.getD i default).wd (P.getD j default).wd
 cls: ∀ q i,q<P.length→i<m.inputs.toNat→ed m (P.getD q default).st i≠ -1→ ∃ j,j<P.length∧((P.getD j default).st:Int)=ed m (P.getD q default).st i∧lle (P.getD j default).wd ((P.getD q default).wd++[(i:Int)])
theorem zri{m:Mach}{s0:Nat}(b:s0<m.rows.length):Inv m s0 0 0 [⟨s0,-1,-1,[]⟩]:=by
 have c: ∀ j,j<[(⟨s0,-1,-1,[]⟩:BE)].length→j=0:=fun j a=>by simpa using a
 refine⟨by simp,rfl,fun j a=>?_,fun i j hi a _=>?_,fun j a=>?_,fun j h a=>?_,fun i j d a=>?_,fun _ j a=>?_,fun q i e hi f g=>?_⟩
 ·rw [c j a];exact b
 ·rw [c i hi,c j a]
 ·rw [c j a];rfl
 ·have:=c j a;omega
 ·have:=c j a;omega
 ·rw [c j a];exact .inl (by simp)
 ·have:=c q e;omega
theorem zji{m:Mach}(b:MOk m){s0:Nat}(c:s0<m.rows.length):Rch m s0 (rch m s0):=by
 obtain⟨q,d,h⟩:=zx0 b m.rows.length 0 _ (by omega) (by simp) (zri c)
 exact⟨h.pos,zkw h,h.root,h.rng,h.dis,h.aft,h.par,h.inc,fun q' i hq' hi a=>h.cls q' i hq' hi (.inl (Nat.lt_of_lt_of_le hq' d)) a⟩
section rch
variable {m : Mach} {s0 : Nat} {P : List BE}
theorem Rch.wok(h:Rch m s0 P): ∀ j,j<P.length→WOk m.inputs (P.getD j default).wd∧(P.getD j default).wd.length≤j
 |j,b=>by
  by_cases h0:j=0
  ·subst h0;rw [h.root];exact⟨fun k a=>by simp at a,by simp⟩
  ·obtain⟨q,i,d,hi,_,_,c,_⟩:=h.par j (by omega) b
   obtain⟨ih,ihl⟩:=Rch.wok h q (by omega)
   rw [c]
   refine⟨fun k a=>?_,by rw [List.length_append,List.length_singleton];omega⟩
   rw [List.length_append,List.length_singleton] at a
   by_cases hk':k<(P.getD q default).wd.length
   ·rw [List.getD_eq_getElem?_getD,List.getElem?_append_left hk',←List.getD_eq_getElem?_getD];exact ih k hk'
   ·have:k=(P.getD q default).wd.length:=by omega
    subst this
    rw [List.getD_eq_getElem?_getD,List.getElem?_concat_length]
    exact⟨by simp,by simp only [Option.getD_some];omega⟩
theorem q55{n c:Int}{u:List Int}(h:WOk n (u++[c])):WOk n u∧0≤c∧c<n:=by
 refine⟨fun k a=>?_,?_⟩
 ·have:=h k (by simp;omega)
  rwa [List.getD_eq_getElem?_getD,List.getElem?_append_left a,←List.getD_eq_getElem?_getD] at this
 ·have:=h u.length (by simp)
  rwa [List.getD_eq_getElem?_getD,List.getElem?_concat_length] at this
theorem zhx(m:Mach): ∀ (w:List Int),z2s m (-1) w= -1
 | []=>rfl
 |c::w=>by
  show z2s m (z1l m (-1) c).to w= -1
  rw [show z1l m (-1) c=⟨-1,-1⟩ from rfl]
  exact zhx m w
theorem Rch.least(i:MOk m)(h:Rch m s0 P): ∀ (n:Nat) (w:List Int),w.length=n→WOk m.inputs w→z2s m s0 w≠ -1→ ∃ j,j<P.length∧((P.getD j default).st:Int)=z2s m s0 w∧lle (P.getD j default).wd w
 |0,w,b,g,a=>by
  have:w=[]:=List.length_eq_zero_iff.1 b
  subst this
  exact⟨0,h.pos,by rw [h.root];rfl,by rw [h.root];exact .inl rfl⟩
 |n+1,w,b,g,a=>by
  obtain⟨u,c,rfl⟩: ∃ u c,w=u++[c]:=⟨w.dropLast,w.getLast (by intro e;rw [e] at b;simp at b),(List.dropLast_concat_getLast _).symm⟩
  obtain⟨k,l,o⟩:=q55 g
  rw [zbm] at a⊢
  have hune:z2s m s0 u≠ -1:=fun e=>by rw [e,zhx] at a;exact a rfl
  obtain⟨q,p,d,f⟩:=Rch.least i h n u (by simpa using b) k hune
  rw [←d] at a⊢
  have hstep:z2s m ((P.getD q default).st:Int) [c]=ed m (P.getD q default).st c.toNat:=by
   show (z1l m ((P.getD q default).st:Int) c).to=_
   unfold z1l
   rw [if_neg (by omega)]
   rfl
  rw [hstep] at a⊢
  obtain⟨j,r,s,t⟩:=h.cls q c.toNat p (by omega) a
  refine⟨j,r,s,zfg t ?_⟩
  rw [show ((c.toNat:Nat):Int)=c by omega]
  exact zss c f
theorem Rch.min(b:MOk m)(h:Rch m s0 P){j:Nat}(c:j<P.length){w:List Int}(d:WOk m.inputs w)(a:z2s m s0 w=((P.getD j default).st:Int)):lle (P.getD j default).wd w:=by
 obtain⟨i,hi,e,f⟩:=h.least b _ w rfl d (by rw [a];omega)
 rw [a] at e
 have:=h.dis i j hi c (by omega)
 subst this
 exact f
end rch
end GV
end Go.Proofs.Ytnnobdkjgafdmaa

namespace Go.Proofs.Ytnnobdkjgafdmaa
namespace GV
set_option maxRecDepth 100000
theorem q96{N:Nat}{s:List Edge}{f:Edge→Option Bool}{p:Edge→Bool}(b: ∀ k,k<s.length→f (s.getD k default)=some (p (s.getD k default)))(c:s.length<N)(d:s.length≤4611686018427387904):
 lu N s f=some (zkm p s):=by
 have h:wy N s f N 0=some (if s.any p=true then Ex.rt (zkm p s) else Ex.go ()):=by
  refine ru (σ:=Unit) (fun F k _=>wy N s f F (k:Int)) s.length (fun k _=>(s.take k).any p=false) _ (fun F k _ a hi=>?_) (fun F _ hi=>?_) N 0 () (Nat.zero_le _) (by omega) (by simp)
  ·simp only [wy]
   rw [wu (by omega),ze (qy a),yn,qc (b k a)]
   cases hp:p (s.getD k default)
   ·right
    refine⟨(),by rw [zi6 p s k a,hi,hp];rfl,?_⟩
    rw [cf rfl,ze (qm (by omega))];rfl
   ·left
    rw [ct rfl,if_pos (List.any_eq_true.2 ⟨_,z19 a,hp⟩),zgq p s k a hi hp]
  ·simp only [wy]
   rw [um (by omega),if_neg (by rw [List.take_length] at hi;rw [hi];decide)]
 unfold lu
 rw [qc h]
 by_cases ha:s.any p=true
 ·rw [if_pos ha];rfl
 ·rw [if_neg ha,zj9 p s (by simpa using ha)];rfl
theorem q0f{N:Nat}{s:List Edge}{f:Edge→Option Bool}{p:Edge→Bool}(a: ∀ k,k<s.length→f (s.getD k default)=some (p (s.getD k default)))(b:s.length<N)(c:s.length≤4611686018427387904):
 ib N s f=some (s.any p):=by
 unfold ib
 rw [qc (q96 a b c),zqf]
theorem zhj{N:Nat}{m:Mach}(b:Small m)(f:200≤N):z0u N m=some (z3k m):=by
 unfold z0u
 by_cases h:(16<m.inputs∨16<m.outputs)∨64<m.rows.length
 ·rw [ct (by simp;omega),q3q h]
 ·rw [cf (by simp;omega)]
  by_cases h1:(m.inputs<1∨m.outputs<1)∨m.rows.length<1
  ·rw [ct (by simp;omega),q52 h h1]
  ·rw [cf (by simp;omega)]
   have g:=b.r
   have d:rq N m N 0=some (if m.rows.any (za0 m)=true then Ex.rt 1 else Ex.go ()):=by
    refine ru (σ:=Unit) (fun F k _=>rq N m F (k:Int)) m.rows.length (fun k _=>(m.rows.take k).any (za0 m)=false) _ (fun F k _ a hi=>?_) (fun F _ hi=>?_) N 0 () (Nat.zero_le _) (by omega) (by simp)
    ·simp only [rq]
     have i:=b.c k a
     rw [wu (by omega),ze (qy a),yn,zn5 (fun _=>q0f (p:=fun x=> !zua m x) (fun j l=>rfl) (by omega) (by omega))]
     have e:(decide (((m.rows.getD k default).length:Int)≠m.inputs)||((bif (true&&(decide (((m.rows.getD k default).length:Int)≠m.inputs)==false)) then some ((m.rows.getD k default).any fun x=> !zua m x) else none).getD default))=za0 m (m.rows.getD k default):=by
      unfold za0
      cases decide (((m.rows.getD k default).length:Int)≠m.inputs)<;>rfl
     rw [e]
     cases hr:za0 m (m.rows.getD k default)
     ·right
      refine⟨(),by rw [zi6 _ _ k a,hi,hr];rfl,?_⟩
      rw [cf rfl,ze (qm (by omega))];rfl
     ·left
      rw [ct rfl,if_pos (List.any_eq_true.2 ⟨_,z19 a,hr⟩)]
    ·simp only [rq]
     rw [um (by omega),if_neg (by rw [List.take_length] at hi;rw [hi];decide)]
   rw [qc d]
   by_cases ha:m.rows.any (za0 m)=true
   ·rw [if_pos ha];unfold z3k;rw [if_neg h,if_neg h1,if_pos ha];rfl
   ·rw [if_neg ha,q3c h h1 (by simpa using ha)];rfl
theorem zvh{N:Nat}{m:Mach}(b:MOk m)(v:200≤N){a:Nat}(f:a<m.rows.length):z04 N m (a:Int)=some (reachL m a):=by
 have w:=b.r2;have k:=b.i1;have l:=b.i2
 unfold z04
 rw [ze ⟨by omega,by omega,by omega⟩,zdp,ze (qy (by simpa using f)),z5o]
 refine Eq.trans (qc (x:=reachL m a) ?_) rfl
 refine ru (fun F r Y=>bz N m F (r:Int) Y) m.rows.length (fun r Y=>RInv m a r Y) _ (fun F r Y y hi=> .inr ?_) (fun F Y hi=>?_) N 0 _ (Nat.zero_le _) (by omega) (zzc f)
 ·obtain⟨Z,n,o⟩: ∃ Z,xq N m N 0 Y=some Z∧RInv m a (r+1) Z:=by
   refine z4v (fun F s Z=>xq N m F (s:Int) Z) m.rows.length (fun s Z=>RPass m a Y s 0 Z) _ (fun F s Z e g=> .inr ?_) (fun F Z g=>?_) N 0 Y (Nat.zero_le _) (by omega) (q6y hi)
   ·have hlen:((m.rows.getD s default).length:Int)=m.inputs:=b.row s e
    obtain⟨V,p,q⟩: ∃ V,xe N m (s:Int) N 0 Z=some V∧RPass m a Y (s+1) 0 V:=by
     refine z4v (fun F i V=>xe N m (s:Int) F (i:Int) V) m.inputs.toNat (fun i V=>RPass m a Y s i V) _ (fun F i V hi' d=> .inr ?_) (fun F V d=>?_) N 0 Z (Nat.zero_le _) (by omega) g
     ·have c:i<(m.rows.getD s default).length:=by omega
      have j:s<V.length:=by rw [d.len];exact e
      simp only [xe]
      rw [wu (by omega),ze (qy e),ze (show okI (ix m.rows (s:Int)) (i:Int) from qy c),ze (qy j)]
      by_cases hc:V.getD s default=true∧0≤((m.rows.getD s default).getD i default).to
      ·refine⟨_,q8c b d e c hc.1 hc.2,?_⟩
       have t:((m.rows.getD s default).getD i default).to.toNat<V.length:=by
        rw [d.len];rcases b.edge s i e c with h|h<;>omega
       refine Eq.trans (qc (x:=V.set ((m.rows.getD s default).getD i default).to.toNat true) ?_) ?_
       ·refine Eq.trans (ct (by show (V.getD s default&&decide (0≤((m.rows.getD s default).getD i default).to))=true;rw [hc.1,decide_eq_true hc.2];rfl)) ?_
        exact ze (show okI V ((m.rows.getD s default).getD i default).to from⟨hc.2,by omega⟩)
       ·rw [ze (qm (by omega))];rfl
      ·refine⟨V,q74 d hc,?_⟩
       refine Eq.trans (qc (x:=V) ?_) ?_
       ·refine cf (show (V.getD s default&&decide (0≤((m.rows.getD s default).getD i default).to))=false from ?_)
        cases h1:V.getD s default
        ·rfl
        ·exact decide_eq_false fun u=>hc ⟨h1,u⟩
       ·rw [ze (qm (by omega))];rfl
     ·simp only [xe]
      rw [um (by omega)]
      exact⟨V,rfl,q82 d (by omega)⟩
    refine⟨V,q,?_⟩
    simp only [xq]
    rw [wu (by omega),qc p,ze (qm (by omega))];rfl
   ·simp only [xq]
    rw [um (by omega)]
    exact⟨Z,rfl,q8q g (Nat.le_refl _) hi⟩
  refine⟨Z,o,?_⟩
  simp only [bz]
  rw [wu (by omega),qc n,ze (qm (by omega))];rfl
 ·simp only [bz]
  rw [um (by omega),q56 b f hi (Nat.le_refl _)]
/-! ### Words-/
theorem q8u{N:Nat}{s:List Int}{f:Int→Option Bool}{p:Int→Bool}(b: ∀ k,k<s.length→f (s.getD k default)=some (p (s.getD k default)))(c:s.length<N)(d:s.length≤4611686018427387904):
 z1q N s f=some (zkm p s):=by
 have h:gq N s f N 0=some (if s.any p=true then Ex.rt (zkm p s) else Ex.go ()):=by
  refine ru (σ:=Unit) (fun F k _=>gq N s f F (k:Int)) s.length (fun k _=>(s.take k).any p=false) _ (fun F k _ a hi=>?_) (fun F _ hi=>?_) N 0 () (Nat.zero_le _) (by omega) (by simp)
  ·simp only [gq]
   rw [wu (by omega),ze (qy a),yn,qc (b k a)]
   cases hp:p (s.getD k default)
   ·right
    refine⟨(),by rw [zi6 p s k a,hi,hp];rfl,?_⟩
    rw [cf rfl,ze (qm (by omega))];rfl
   ·left
    rw [ct rfl,if_pos (List.any_eq_true.2 ⟨_,z19 a,hp⟩),zgq p s k a hi hp]
  ·simp only [gq]
   rw [um (by omega),if_neg (by rw [List.take_length] at hi;rw [hi];decide)]
 unfold z1q
 rw [qc h]
 by_cases ha:s.any p=true
 ·rw [if_pos ha];rfl
 ·rw [if_neg ha,zj9 p s (by simpa using ha)];rfl
theorem q18{N:Nat}{s:List Int}{f:Int→Option Bool}{p:Int→Bool}(a: ∀ k,k<s.length→f (s.getD k default)=some (p (s.getD k default)))(b:s.length<N)(c:s.length≤4611686018427387904):
 z0o N s f=some (s.any p):=by
 unfold z0o
 rw [qc (q8u a b c),zqf]
theorem q7c{N:Nat}{m:Mach}(a:MOk m){s i:Int}(b:SOk m s)(hi:0≤i∧i<m.inputs):z3m N m s i=some (z1l m s i):=by
 unfold z3m z1l
 rcases b with h|h
 ·rw [h];rfl
 ·have hrow:=a.row s.toNat (by omega)
  rw [um (by omega),if_neg (by omega),ze h,ze (show okI (ix m.rows s) i from⟨hi.1,by rw [zqk,hrow];exact hi.2⟩)];rfl
theorem zy9{N:Nat}{m:Mach}(a:MOk m): ∀ (F:Nat) (s:Int) (w:List Int),SOk m s→WOk m.inputs w→w.length<F→sj N F m s w=some (z2s m s w)
 |0,s,w,_,_,h=>by omega
 |F+1,s,[],b,_,_=>rfl
 |F+1,s,i::w,b,c,h=>by
  have hi:0≤i∧i<m.inputs:=by simpa using c 0 (by simp)
  simp only [sj]
  rw [um (by simp;omega),ze (show okI (i::w) 0 from qy (k:=0) (by simp))]
  refine Eq.trans (qc (q7c a b (show 0≤i∧i<m.inputs from hi))) ?_
  rw [ze ⟨by omega,by simp;omega,by simp⟩]
  have d:cut (i::w) 1 (((i::w).length:Nat):Int)=w:=by simp [cut]
  rw [d]
  refine Eq.trans (qc (zy9 (N:=N) a F _ w (zls m a s i b hi).1 (fun k e=>by simpa using c (k+1) (by simpa using e)) (by simpa using h))) ?_
  rfl
/-! ### Data-/
end GV
end Go.Proofs.Ytnnobdkjgafdmaa

namespace Go.Proofs.Ytnnobdkjgafdmaa
namespace GV
set_option maxRecDepth 100000
def z1d(n:Nat)(All:List BE):List Bool:=(List.range n).map fun s=>occ All s
theorem z4t(n:Nat)(All:List BE):(z1d n All).length=n:=by simp [z1d]
theorem z92{n:Nat}{All:List BE}{t:Nat}(h:t<n):(z1d n All).getD t default=occ All t:=by
 simp [z1d,List.getD_eq_getElem?_getD,h]
theorem q3h(All:List BE)(e:BE)(t:Nat):occ (All++[e]) t=(occ All t||decide (e.st=t)):=by simp [occ]
theorem q0y{n:Nat}{All:List BE}{e:BE}(h:e.st<n):(z1d n All).set e.st true=z1d n (All++[e]):=by
 refine z3c (by rw [List.length_set,z4t,z4t]) fun k a=>?_
 rw [List.length_set,z4t] at a
 rw [z92 a,q3h,List.getD_eq_getElem?_getD,List.getElem?_set]
 by_cases hek:e.st=k
 ·subst hek
  rw [if_pos rfl,z4t,if_pos h];simp
 ·rw [if_neg hek,←List.getD_eq_getElem?_getD,z92 a];simp [hek]
theorem zy4{n:Nat}{All:List BE}{t:Int}(a:0≤t)(h:t<n):ix (z1d n All) t=occ All t.toNat:=by
 rw [zqk,z92 (by omega)]
theorem zis{m:Mach}{g p:Nat}{All:List BE}(h: ¬p<All.length):bfs m g p All=All:=by
 cases g with
 |zero=>rfl
 |succ g=>unfold bfs;rw [if_neg h]
end GV
end Go.Proofs.Ytnnobdkjgafdmaa

namespace Go.Proofs.Ytnnobdkjgafdmaa
namespace GV
set_option maxRecDepth 100000
def wdOf(P:List BE)(t:Nat):List Int:=((P.find? fun e=>decide (e.st=t)).map (·.wd)).getD []
def z0x(n:Nat)(P:List BE):List (List Int):=(List.range n).map (wdOf P)
theorem z3h(n:Nat)(P:List BE):(z0x n P).length=n:=by simp [z0x]
theorem z9b{n:Nat}{P:List BE}{t:Nat}(h:t<n):(z0x n P).getD t default=wdOf P t:=by
 simp [z0x,List.getD_eq_getElem?_getD,h]
theorem zp1(P:List BE)(e:BE)(t:Nat):wdOf (P++[e]) t=if occ P t=true then wdOf P t else if e.st=t then e.wd else []:=by
 unfold wdOf occ
 rw [List.find?_append]
 by_cases h:(P.any fun e=>decide (e.st=t))=true
 ·rw [if_pos h]
  obtain⟨x,a,b⟩:=List.any_eq_true.1 h
  cases hf:P.find? (fun e=>decide (e.st=t)) with
  |none=>exact absurd b (by simpa using List.find?_eq_none.1 hf x a)
  |some y=>rfl
 ·rw [if_neg h]
  have c:P.find? (fun e=>decide (e.st=t))=none:=List.find?_eq_none.2 fun x a b=>h (List.any_eq_true.2 ⟨x,a,b⟩)
  rw [c]
  by_cases he:e.st=t
  ·simp [he]
  ·simp [he]
theorem q10{P:List BE}{t:Nat}(h:occ P t=false):wdOf P t=[]:=by
 unfold wdOf occ at*
 have a:P.find? (fun e=>decide (e.st=t))=none:=List.find?_eq_none.2 fun x b c=>by
  have:(P.any fun e=>decide (e.st=t))=true:=List.any_eq_true.2 ⟨x,b,c⟩
  rw [h] at this;cases this
 rw [a];rfl
theorem zvk{n:Nat}{P:List BE}{e:BE}(b:e.st<n)(c:occ P e.st=false):(z0x n P).set e.st e.wd=z0x n (P++[e]):=by
 refine z3c (by rw [List.length_set,z3h,z3h]) fun k a=>?_
 rw [List.length_set,z3h] at a
 rw [z9b a,zp1,List.getD_eq_getElem?_getD,List.getElem?_set]
 by_cases hek:e.st=k
 ·subst hek
  rw [if_pos rfl,z3h,if_pos b,c];simp
 ·rw [if_neg hek,←List.getD_eq_getElem?_getD,z9b a,if_neg hek]
  by_cases h:occ P k=true
  ·rw [if_pos h]
  ·rw [if_neg h,q10 (Bool.eq_false_iff.2 h)]
theorem zh0(P:List BE)(k:Nat)(h:k<P.length):P.take (k+1)=P.take k++[P.getD k default]:=by
 rw [List.take_add_one];simp [List.getD_eq_getElem?_getD,h]
section rch
variable {m : Mach} {s0 : Nat} {P : List BE}
theorem Rch.find(h:Rch m s0 P){j:Nat}: ∀ k,k≤P.length→j<k→wdOf (P.take k) (P.getD j default).st=(P.getD j default).wd
 |0,_,c=>by omega
 |k+1,f,c=>by
  rw [zh0 P k (by omega),zp1]
  by_cases e:j=k
  ·subst e
   have a:occ (P.take j) (P.getD j default).st=false:=by
    cases hc:occ (P.take j) (P.getD j default).st with
    |false=>rfl
    |true=>
     obtain⟨i,hi,b⟩:=z3w.1 hc
     rw [List.length_take] at hi
     have d:(P.take j).getD i default=P.getD i default:=by simp only [List.getD_eq_getElem?_getD,List.getElem?_take,if_pos (show i<j by omega)]
     rw [d] at b
     have:=h.dis i j (by omega) (by omega) b
     omega
   rw [a,if_neg (by decide),if_pos rfl]
  ·have ih:=Rch.find h k (by omega) (show j<k by omega)
   have a:occ (P.take k) (P.getD j default).st=true:=z3w.2 ⟨j,by rw [List.length_take];omega,by simp only [List.getD_eq_getElem?_getD,List.getElem?_take,if_pos (show j<k by omega)]⟩
   rw [if_pos a,ih]
theorem Rch.fresh(h:Rch m s0 P){k:Nat}(b:k<P.length):occ (P.take k) (P.getD k default).st=false:=by
 cases hc:occ (P.take k) (P.getD k default).st with
 |false=>rfl
 |true=>
  obtain⟨i,hi,a⟩:=z3w.1 hc
  rw [List.length_take] at hi
  have c:(P.take k).getD i default=P.getD i default:=by simp only [List.getD_eq_getElem?_getD,List.getElem?_take,if_pos (show i<k by omega)]
  rw [c] at a
  have:=h.dis i k (by omega) b a
  omega
theorem Rch.wdOf(h:Rch m s0 P){j:Nat}(a:j<P.length):wdOf P (P.getD j default).st=(P.getD j default).wd:=by
 have:=h.find P.length (Nat.le_refl _) a
 rwa [List.take_length] at this
end rch
theorem zxr{N:Nat}{s:List Int}:z3r N s=some s:=by
 unfold z3r
 rw [ze (zqm s),zrd]
end GV
end Go.Proofs.Ytnnobdkjgafdmaa

namespace Go.Proofs.Ytnnobdkjgafdmaa
namespace GV
set_option maxRecDepth 100000
def nxt(K:Int):List Int→Option (List Int)
 | []=>none
 |d::r=>match nxt K r with
  |some r'=>some (d::r')
  |none=>if d+1<K then some ((d+1)::List.replicate r.length 0) else none
def z9u(K:Int)(w:List Int):List Int:=(nxt K w).getD (List.replicate w.length 0++[0])
def Dg(K:Int)(w:List Int):Prop:= ∀ d∈w,0≤d∧d<K
theorem zvg{K:Int}{w:List Int}:Dg K w↔WOk K w:=by
 constructor
 ·intro h k a;exact h _ (z19 a)
 ·intro h d b
  obtain⟨k,a,rfl⟩:=List.mem_iff_getElem.1 b
  have:=h k a
  simpa [List.getD_eq_getElem?_getD,a] using this
theorem zek: ∀ {v:List Int} {n:Nat},(∀ d∈v,0≤d)→ ¬z81 v (List.replicate n 0)
 | [],_,_,h=>h
 |_::_,0,_,h=>h
 |d::v,n+1,a,h=>by
  rw [List.replicate_succ] at h
  have:=a d (by simp)
  rcases h with h|⟨_,h⟩
  ·omega
  ·exact zek (fun x b=>a x (by simp [b])) h
theorem zlu{K:Int}: ∀ {w v:List Int},nxt K w=none→Dg K v→ ¬z81 w v
 | [],_,_,_,h=>h
 |_::_,[],_,_,h=>h
 |d::r,e::v,a,b,h=>by
  unfold nxt at a
  cases hr:nxt K r with
  |some r'=>rw [hr] at a;cases a
  |none=>
   rw [hr] at a
   simp only at a
   split at a
   ·cases a
   ·have:=b e (by simp)
    rcases h with h|⟨_,h⟩
    ·omega
    ·exact zlu hr (fun x c=>b x (by simp [c])) h
theorem zmb{K:Int}: ∀ {w u:List Int},nxt K w=some u→u.length=w.length∧(Dg K w→Dg K u)∧z81 w u∧ ∀ v,Dg K v→z81 v u→ ¬z81 w v
 | [],_,h=>by cases h
 |d::r,u,h=>by
  unfold nxt at h
  cases hr:nxt K r with
  |some r'=>
   rw [hr] at h
   simp only [Option.some.injEq] at h
   subst h
   obtain⟨i,j,k,l⟩:=zmb hr
   refine⟨by simp [i],fun c x b=>?_,.inr ⟨rfl,k⟩,fun v g a hlt'=>?_⟩
   ·rcases List.mem_cons.1 b with rfl|b
    ·exact c _ (by simp)
    ·exact j (fun y m=>c y (by simp [m])) x b
   ·cases v with
    |nil=>exact a
    |cons e v=>
     rcases a with a|⟨rfl,a⟩
     ·rcases hlt' with hlt'|⟨rfl,_⟩<;>omega
     ·rcases hlt' with hlt'|⟨_,hlt'⟩
      ·omega
      ·exact l v (fun x b=>g x (by simp [b])) a hlt'
  |none=>
   rw [hr] at h
   simp only at h
   split at h
   ·rename_i hK
    simp only [Option.some.injEq] at h
    subst h
    refine⟨by simp,fun c x b=>?_,.inl (by omega),fun v g a hlt'=>?_⟩
    ·rcases List.mem_cons.1 b with rfl|b
     ·have:=c d (by simp);omega
     ·have:=(List.mem_replicate.1 b).2
      have:=c d (by simp);omega
    ·cases v with
     |nil=>exact a
     |cons e v=>
      have f:Dg K v:=fun x b=>g x (by simp [b])
      rcases a with a|⟨rfl,a⟩
      ·rcases hlt' with hlt'|⟨rfl,hlt'⟩
       ·omega
       ·exact zlu hr f hlt'
      ·exact zek (fun x b=>(f x b).1) a
   ·cases h
theorem zu4{K:Int}(q:1≤K){w:List Int}(i:Dg K w):Dg K (z9u K w)∧llt w (z9u K w)∧ ∀ v,Dg K v→llt v (z9u K w)→lle v w:=by
 unfold z9u
 cases h:nxt K w with
 |some u=>
  obtain⟨j,l,m,n⟩:=zmb h
  refine⟨l i,.inr ⟨j.symm,m⟩,fun v f c=>?_⟩
  rcases c with c|⟨g,c⟩
  ·exact .inr (.inl (by simp only [Option.getD_some] at c;omega))
  ·simp only [Option.getD_some] at g c
   rcases zbu (a:=v) (b:=w) (by omega) with k|rfl|k
   ·exact .inr (.inr ⟨by omega,k⟩)
   ·exact .inl rfl
   ·exact absurd k (n v f c)
 |none=>
  simp only [Option.getD_none]
  have e:List.replicate w.length (0:Int)++[0]=List.replicate (w.length+1) 0:=by rw [List.replicate_succ']
  rw [e]
  refine⟨fun d o=>by rw [(List.mem_replicate.1 o).2];omega,.inl (by simp),fun v f c=>?_⟩
  rcases c with c|⟨g,c⟩
  ·rw [List.length_replicate] at c
   by_cases hvl:v.length=w.length
   ·rcases zbu hvl with k|rfl|k
    ·exact .inr (.inr ⟨hvl,k⟩)
    ·exact .inl rfl
    ·exact absurd k (zlu h f)
   ·exact .inr (.inl (by omega))
  ·exact absurd c (zek fun x p=>(f x p).1)
theorem zyo{K:Int}{b b':List Int}(h:nxt K b=some b'): ∀ a:List Int,nxt K (a++b)=some (a++b')
 | []=>h
 |d::a=>by
  show (match nxt K (a++b) with|some r'=>some (d::r')|none=>_)=_
  rw [zyo h a];rfl
theorem q5e{K:Int}{w:List Int}:w.length≤(z9u K w).length∧(z9u K w).length≤w.length+1:=by
 unfold z9u
 cases h:nxt K w with
 |some u=>have:=(zmb h).1;simp only [Option.getD_some];omega
 |none=>simp
theorem set_mid{A B:List Int}{c v:Int}:((A++[c])++B).set A.length v=A++v::B:=by
 rw [List.append_assoc,List.set_append_right _ _ (Nat.le_refl _),Nat.sub_self];rfl
theorem q43{N:Nat}{K:Int}{w:List Int}(o:w.length<N)(q:w.length≤100000)(l:Dg K w)(r:K≤1000):z1f N w K=some (z9u K w):=by
 unfold z1f
 have f:fits 8 ([]:List Int) w:=⟨by simp only [List.length_nil];omega,by simp only [List.length_nil];omega⟩
 rw [ze f,List.nil_append]
 have m:gz N K N ((w.length:Int)-1) w=some (match nxt K w with|some u=>Ex.rt u|none=>Ex.go (List.replicate w.length 0)):=by
  have key:=ru (σ:=List Int) (fun F k s=>gz N K F ((w.length:Int)-1-(k:Int)) s) w.length
   (fun k s=>k≤w.length∧s=w.take (w.length-k)++List.replicate k 0∧nxt K (w.drop (w.length-k))=none) (match nxt K w with|some u=>Ex.rt u|none=>Ex.go (List.replicate w.length 0)) (fun F k s t hi=>?_) (fun F s hi=>?_) N 0 w (Nat.zero_le _) (by omega) ⟨Nat.zero_le _,by simp,by rw [Nat.sub_zero,List.drop_length];rfl⟩
  ·simpa using key
  ·obtain⟨_,rfl,e⟩:=hi
   have b:w.length-1-k<w.length:=by omega
   generalize hpe:w.length-1-k=p at b
   have hidx:(w.length:Int)-1-(k:Int)=(p:Int):=by omega
   have htake:w.take (w.length-k)=w.take p++[w.getD p default]:=by rw [show w.length-k=p+1 by omega];exact zfo w p b
   have hdrop:w.drop p=w.getD p default::w.drop (w.length-k):=by rw [z6e w p b,show p+1=w.length-k by omega]
   have a:(w.take (w.length-k)++List.replicate k (0:Int)).length=w.length:=by simp;omega
   have g:ix (w.take (w.length-k)++List.replicate k (0:Int)) (p:Int)=w.getD p default:=by
    rw [yn,List.getD_eq_getElem?_getD,List.getElem?_append_left (by rw [List.length_take];omega),List.getElem?_take,if_pos (by omega),←List.getD_eq_getElem?_getD]
   have n:=zvg.1 l p b
   have hsplit:w=w.take p++(w.getD p default::w.drop (w.length-k)):=by rw [←hdrop,List.take_append_drop]
   have hset: ∀ v,up (w.take (w.length-k)++List.replicate k (0:Int)) (p:Int) v=w.take p++v::List.replicate k 0:=fun v=>by
    rw [z5o,htake]
    have:=set_mid (A:=w.take p) (B:=List.replicate k (0:Int)) (c:=w.getD p default) (v:=v)
    rwa [List.length_take,Nat.min_eq_left (by omega)] at this
   have i:(w.drop (w.length-k)).length=k:=by rw [List.length_drop];omega
   have d:nxt K (w.getD p default::w.drop (w.length-k))=if w.getD p default+1<K then some ((w.getD p default+1)::List.replicate k 0) else none:=by
    show (match nxt K (w.drop (w.length-k)) with|some r'=>_|none=>_)=_
    rw [e,i]
   simp only [gz]
   simp only [hidx,g]
   rw [wu (by omega),ze (qy (by rw [a];exact b)),ze (qm (by omega))]
   by_cases hc:w.getD p default+1<K
   ·left
    rw [wu hc,ze (qy (by rw [a];exact b)),ze (qm (by omega)),ze (qy (by rw [a];exact b)),hset]
    rw [if_pos hc] at d
    have hw':nxt K w=some (w.take p++((w.getD p default+1)::List.replicate k 0)):=by
     have:=zyo d (w.take p)
     rwa [←hsplit] at this
    rw [hw']
   ·right
    refine⟨w.take p++0::List.replicate k 0,⟨by omega,?_,?_⟩,?_⟩
    ·rw [show w.length-(k+1)=p by omega,List.replicate_succ]
    ·rw [show w.length-(k+1)=p by omega,hdrop,d,if_neg hc]
    ·rw [um hc,ze (qy (by rw [a];exact b)),ze (qm (by omega)),hset]
     congr 1
     omega
  ·obtain⟨_,rfl,e⟩:=hi
   rw [Nat.sub_self,List.drop_zero] at e
   simp only [gz]
   rw [um (by omega),e,Nat.sub_self,List.take_zero,List.nil_append]
 rw [qc (show (gd (in64 ((w.length:Int)-1)) (gz N K N ((w.length:Int)-1) w))=some (match nxt K w with|some u=>Ex.rt u|none=>Ex.go (List.replicate w.length 0)) from by rw [ze (qm (by omega)),m])]
 unfold z9u
 cases h:nxt K w with
 |some u=>rfl
 |none=>
  simp only
  rw [zgl]
  have j:fits 8 (List.replicate w.length (0:Int)) ([0]:List Int):=⟨by simp only [List.length_replicate,List.length_singleton];omega,by simp only [List.length_replicate,List.length_singleton];omega⟩
  rw [ze j];rfl
def znf(K:Int):Nat→List Int
 |0=>[]
 |k+1=>z9u K (znf K k)
theorem zvw: ∀ K,1≤K→K≤3→6≤(znf K 364).length:=by
 intro K a b
 have:K=1∨K=2∨K=3:=by omega
 rcases this with rfl|rfl|rfl<;>decide+kernel
theorem zse{K:Int}(a:1≤K): ∀ k,Dg K (znf K k)
 |0=>fun d b=>by simp [znf] at b
 |k+1=>(zu4 a (zse a k)).1
theorem zzz{N:Nat}{m:Mach}(D:MOk m)(hN:400≤N)(h6:m.rows.length≤6)(h3:m.inputs≤3){s0:Nat}(hs:s0<m.rows.length):z10 N m (s0:Int)=some (z0x m.rows.length (rch m s0),z1d m.rows.length (rch m s0)):=by
 have o:=zji D hs
 generalize hPe:rch m s0=P at o⊢
 have v:=D.i1
 unfold z10
 rw [ze ⟨by omega,by omega,by omega⟩,ze ⟨by omega,by omega,by omega⟩]
 have e1:mk (m.rows.length:Int) ([]:List Int)=z0x m.rows.length (P.take 0):=by
  rw [zdp]
  refine z3c (by rw [List.length_replicate,z3h]) fun k u=>?_
  rw [List.length_replicate] at u
  rw [z9b u]
  simp [List.getD_eq_getElem?_getD,u,wdOf]
 have e2:mk (m.rows.length:Int) false=z1d m.rows.length (P.take 0):=by
  rw [zdp]
  refine z3c (by rw [List.length_replicate,z4t]) fun k u=>?_
  rw [List.length_replicate] at u
  rw [z92 u]
  simp [List.getD_eq_getElem?_getD,u,occ]
 have hL:yg N m (s0:Int) N [] (mk (m.rows.length:Int) ([]:List Int)) (mk (m.rows.length:Int) false)=some (z0x m.rows.length P,z1d m.rows.length P):=by
  refine ru (σ:=List Int×List (List Int)×List Bool) (fun F k s=>yg N m (s0:Int) F s.1 s.2.1 s.2.2) 364
   (fun k s=>s.1=znf m.inputs k∧s.1.length≤6∧ ∃ c,c≤P.length∧s.2=(z0x m.rows.length (P.take c),z1d m.rows.length (P.take c))∧(∀ j,j<c→llt (P.getD j default).wd s.1)∧ ∀ j,c≤j→j<P.length→lle s.1 (P.getD j default).wd)
   _ (fun F k s u hi=>?_) (fun F s hi=>?_) N 0 ([],_,_) (Nat.zero_le _) (by omega) ⟨rfl,by simp,0,Nat.zero_le _,Prod.ext e1 e2,fun j d=>by omega,fun j _ d=>?_⟩
  ·obtain⟨w,l,is⟩:=s
   obtain⟨B,x,c,hc,p,q,f⟩:=hi
   simp only at B x p q f
   obtain⟨rfl,rfl⟩:=Prod.mk.inj p
   have y:=B▸zse v k
   have z:=zvg.1 y
   simp only [yg]
   by_cases hlen:w.length<m.rows.length
   ·right
    rw [wu (by omega)]
    have haft:=zy9 (N:=N) D N (s0:Int) w (.inr ⟨by omega,by omega⟩) z (by omega)
    have E:=zy2 m D (s0:Int) w (.inr ⟨by omega,by omega⟩) z
    obtain⟨ah,M,O⟩:=zu4 v y
    have ai:=q5e (K:=m.inputs) (w:=w)
    have G:=q43 (N:=N) (K:=m.inputs) (w:=w) (by omega) (by omega) y (by omega)
    have go: ∀ c',c'≤P.length→(∀ j,j<c'→lle (P.getD j default).wd w)→(∀ j,c'≤j→j<P.length→llt w (P.getD j default).wd)→
     (z9u m.inputs w=znf m.inputs (k+1)∧(z9u m.inputs w).length≤6∧ ∃ c,c≤P.length∧(z0x m.rows.length (P.take c'),z1d m.rows.length (P.take c'))=(z0x m.rows.length (P.take c),z1d m.rows.length (P.take c))∧(∀ j,j<c→llt (P.getD j default).wd (z9u m.inputs w))∧ ∀ j,c≤j→j<P.length→lle (z9u m.inputs w) (P.getD j default).wd):=fun c' hc' C Q=>
     ⟨by rw [B];rfl,by omega,c',hc',rfl,fun j d=>zr7 (C j d) M,fun j d g=>by
      rcases zz4 (z9u m.inputs w) (P.getD j default).wd with h|h|h
      ·exact .inr h
      ·exact .inl h
      ·exact absurd (Q j d g) (zdg (O _ (zvg.2 (o.wok j g).1) h))⟩
    have strict: ∀ j,j<P.length→lle w (P.getD j default).wd→(P.getD j default).wd≠w→llt w (P.getD j default).wd:=fun j d h R=>h.resolve_left fun e=>R e.symm
    have hsame:z2s m (s0:Int) w= -1∨(0≤z2s m (s0:Int) w∧ix (z1d m.rows.length (P.take c)) (z2s m (s0:Int) w)=true)→
     ∃ s':List Int×List (List Int)×List Bool,(s'.1=znf m.inputs (k+1)∧s'.1.length≤6∧ ∃ c,c≤P.length∧s'.2=(z0x m.rows.length (P.take c),z1d m.rows.length (P.take c))∧(∀ j,j<c→llt (P.getD j default).wd s'.1)∧ ∀ j,c≤j→j<P.length→lle s'.1 (P.getD j default).wd)∧
     (bd (bd (sj N N m (s0:Int) w) fun n=>gd ((true&&((decide (0≤n))==true))=true→okI (z1d m.rows.length (P.take c)) n)<|bif (decide (0≤n))&&(!(ix (z1d m.rows.length (P.take c)) n)) then(gd (okI (z1d m.rows.length (P.take c)) n)<|gd (okI (z0x m.rows.length (P.take c)) n)<|some ((up (z0x m.rows.length (P.take c)) n w),(up (z1d m.rows.length (P.take c)) n true))) else(some (z0x m.rows.length (P.take c),z1d m.rows.length (P.take c)))) fun H=>bd (z1f N w m.inputs) fun I=>yg N m (s0:Int) F I H.1 H.2)=yg N m (s0:Int) F s'.1 s'.2.1 s'.2.2:=fun hcase=>by
     refine⟨(z9u m.inputs w,z0x m.rows.length (P.take c),z1d m.rows.length (P.take c)),go c hc (fun j d=> .inr (q j d)) (fun j d g=>strict j g (f j d g) fun e=>?_),?_⟩
     ·have S:=o.aft j g
      rw [e] at S
      rcases hcase with h|⟨h0,h⟩
      ·rw [S] at h;omega
      ·rw [S,zy4 (by omega) (by have:=o.rng j g;omega)] at h
       obtain⟨i,hi,r⟩:=z3w.1 h
       rw [List.length_take] at hi
       have hg:(P.take c).getD i default=P.getD i default:=by simp only [List.getD_eq_getElem?_getD,List.getElem?_take,if_pos (show i<c by omega)]
       rw [hg] at r
       have:=o.dis i j (by omega) g (by omega)
       omega
     ·rw [qc (show _=some (z0x m.rows.length (P.take c),z1d m.rows.length (P.take c)) from by
       rw [qc haft]
       rcases hcase with h|⟨h0,h⟩
       ·rw [h,ze (by simp)];rfl
       ·have T:z2s m (s0:Int) w<m.rows.length:=by rcases E with e|e<;>omega
        rw [ze (fun _=>⟨h0,by rw [z4t];exact T⟩),h,cf (by simp)]),qc G]
    by_cases ht:z2s m (s0:Int) w= -1
    ·exact hsame (.inl ht)
    ·obtain⟨J,U⟩:=E.resolve_left ht
     by_cases hseen:ix (z1d m.rows.length (P.take c)) (z2s m (s0:Int) w)=true
     ·exact hsame (.inr ⟨J,hseen⟩)
     ·obtain⟨j,d,r,V⟩:=o.least D _ w rfl z ht
      have W:c≤j:=by
       rcases Nat.lt_or_ge j c with h|h
       ·exfalso
        apply hseen
        rw [zy4 J U]
        refine z3w.2 ⟨j,by rw [List.length_take];omega,?_⟩
        simp only [List.getD_eq_getElem?_getD,List.getElem?_take,if_pos h]
        rw [←List.getD_eq_getElem?_getD];omega
       ·exact h
      have t:(P.getD j default).wd=w:=by
       rcases V with h|h
       ·exact h
       ·exact absurd h (zdg (f j W d))
      have X:j=c:=by
       rcases Nat.lt_or_ge c j with h|h
       ·have C:=o.inc c j h d
        rw [t] at C
        exact absurd C (zdg (f c (Nat.le_refl _) (by omega)))
       ·omega
      subst X
      have L:=o.rng j d
      have Y:=o.fresh d
      refine⟨(z9u m.inputs w,z0x m.rows.length (P.take (j+1)),z1d m.rows.length (P.take (j+1))),go (j+1) (by omega) (fun i hi=>?_) (fun i hi Z=>?_),?_⟩
      ·by_cases e:i=j
       ·subst e;rw [t];exact .inl rfl
       ·exact .inr (q i (by omega))
      ·have:=o.inc j i (by omega) Z
       rwa [t] at this
      ·rw [qc (show _=some (z0x m.rows.length (P.take (j+1)),z1d m.rows.length (P.take (j+1))) from by
        rw [qc haft,←r]
        rw [←r] at hseen
        rw [ze (fun _=>qy (by rw [z4t];exact L)),ct (by rw [Bool.eq_false_iff.2 hseen];simp),ze (qy (by rw [z4t];exact L)),ze (qy (by rw [z3h];exact L)),z5o,z5o,q0y L,←zh0 P j d]
        have:=zvk L Y
        rw [t,←zh0 P j d] at this
        rw [this]),qc G]
   ·left
    rw [um (by omega)]
    have A:c=P.length:=by
     rcases Nat.lt_or_ge c P.length with h|h
     ·have C:=(o.wok c h).2
      have Q:=o.le
      exact absurd (show llt (P.getD c default).wd w from .inl (by omega)) (zdg (f c (Nat.le_refl _) h))
     ·omega
    rw [A,List.take_length]
  ·obtain⟨w,l,is⟩:=s
   obtain⟨B,x,c,hc,p,q,f⟩:=hi
   simp only at B x p q f
   obtain⟨rfl,rfl⟩:=Prod.mk.inj p
   have h6':=zvw m.inputs v h3
   rw [←B] at h6'
   simp only [yg]
   rw [um (by omega)]
   have A:c=P.length:=by
    rcases Nat.lt_or_ge c P.length with h|h
    ·have C:=(o.wok c h).2
     have Q:=o.le
     exact absurd (show llt (P.getD c default).wd w from .inl (by omega)) (zdg (f c (Nat.le_refl _) h))
    ·omega
   rw [A,List.take_length]
  ·show lle [] _
   cases hwd:(P.getD j default).wd with
   |nil=>exact .inl rfl
   |cons a b=>exact .inr (.inl (by simp))
 rw [qc hL]
end GV
end Go.Proofs.Ytnnobdkjgafdmaa

namespace Go.Proofs.Ytnnobdkjgafdmaa
namespace GV
set_option maxRecDepth 100000
theorem q9o{N:Nat}{m:Mach}(a:MOk m)(b:200≤N):z0u N m=some 0:=by rw [zhj a.small b,(z6b m).2 a]
theorem zwc{N:Nat}{m:Mach}(a:MOk m)(b:400≤N)(c:m.rows.length≤6)(d:m.inputs≤3):z1v N m=some (z0x m.rows.length (rch m 0),z1d m.rows.length (rch m 0)):=by
 have e:=a.r1
 unfold z1v
 rw [qc (show z10 N m 0=_ from zzz a b c d (s0:=0) (by omega))]
def z4k(P:List BE):List Int:=P.map fun e=>(e.st:Int)
end GV
end Go.Proofs.Ytnnobdkjgafdmaa

namespace Go.Proofs.Ytnnobdkjgafdmaa
namespace GV
set_option maxRecDepth 1000000
end GV
end Go.Proofs.Ytnnobdkjgafdmaa

namespace Go.Proofs.Ytnnobdkjgafdmaa
namespace GV
set_option maxRecDepth 100000
theorem q37(w:List Int)(k:Nat):cut w 0 (k:Int)=w.take k:=by simp [cut]
end GV
end Go.Proofs.Ytnnobdkjgafdmaa

namespace Go.Proofs.Ytnnobdkjgafdmaa
namespace GV
set_option maxRecDepth 100000
def pos(L:List Nat)(t:Int):Int:=if t= -1 then-1 else(L.idxOf t.toNat:Int)
def rowP(m:Mach)(L:List Nat)(s:Nat):List Edge:=(m.rows.getD s default).map fun e=>⟨pos L e.to,e.out⟩
def z3l(m:Mach)(L:List Nat):Mach:=⟨m.inputs,m.outputs,L.map (rowP m L)⟩
structure ClosedP (m:Mach) (L:List Nat):Prop where
 rng: ∀ s∈L,s<m.rows.length
 nd:L.Nodup
 cl: ∀ s∈L,∀ i,i<m.inputs.toNat→ed m s i≠ -1→(ed m s i).toNat∈L
 ne:L≠[]
theorem zcv{L:List Nat}{k:Nat}(a:L.Nodup)(b:k<L.length):L.idxOf (L.getD k 0)=k:=by
 have:L.getD k 0=L[k]:=by simp [List.getD_eq_getElem?_getD,b]
 rw [this]
 exact a.idxOf_getElem k b
theorem zdi{L:List Nat}{t:Nat}(h:t∈L):L.idxOf t<L.length∧L.getD (L.idxOf t) 0=t:=by
 have a:=List.idxOf_lt_length_iff.2 h
 refine⟨a,?_⟩
 simp [List.getD_eq_getElem?_getD,a]
section
variable {m : Mach} {L : List Nat}
theorem ClosedP.len(a:ClosedP m L):L.length≤m.rows.length:=by
 have:=List.Nodup.length_le_of_subset a.nd (l₂:=List.range m.rows.length) (fun x b=>List.mem_range.2 (a.rng x b))
 simpa using this
theorem zci{k:Nat}(a:k<L.length):(z3l m L).rows.getD k default=rowP m L (L.getD k 0):=by
 unfold z3l
 simp [List.getD_eq_getElem?_getD,a]
theorem znu(a:MOk m){s:Nat}(b:s<m.rows.length):(rowP m L s).length=m.inputs.toNat:=by
 unfold rowP
 have:=a.row s b
 rw [List.length_map];omega
theorem zed(a:MOk m){s i:Nat}(b:s<m.rows.length)(hi:i<m.inputs.toNat):(rowP m L s).getD i default=⟨pos L (ed m s i),((m.rows.getD s default).getD i default).out⟩:=by
 have:=a.row s b
 unfold rowP ed
 simp only [List.getD_eq_getElem?_getD,List.getElem?_map]
 rw [←List.getD_eq_getElem?_getD,List.getElem?_eq_getElem (show i<(m.rows.getD s default).length by omega)]
 rfl
theorem q9p(d:MOk m)(b:ClosedP m L){s i:Nat}(c:s∈L)(hi:i<m.inputs.toNat):pos L (ed m s i)= -1∧ed m s i= -1∨(0≤pos L (ed m s i)∧pos L (ed m s i)<L.length∧0≤ed m s i∧L.getD (pos L (ed m s i)).toNat 0=(ed m s i).toNat):=by
 unfold pos
 rcases z8w d (b.rng s c) hi with h|⟨e,g⟩
 ·left;rw [if_pos h];exact⟨rfl,h⟩
 ·right
  have a:ed m s i≠ -1:=by omega
  obtain⟨j,f⟩:=zdi (b.cl s c i hi a)
  rw [if_neg a]
  exact⟨by omega,by omega,e,by rw [Int.toNat_natCast];exact f⟩
theorem ztv(a:MOk m)(c:ClosedP m L):MOk (z3l m L):=by
 have hlen:=c.len
 have l:=a.r2
 have e:(z3l m L).rows.length=L.length:=by simp [z3l]
 have hpos:0<L.length:=List.length_pos_iff.2 c.ne
 have hmem: ∀ k,k<L.length→L.getD k 0∈L:=fun k n=>by simp [List.getD_eq_getElem?_getD,n]
 refine⟨a.i1,a.i2,a.o1,a.o2,by omega,by omega,fun s b=>?_,fun s i b hi=>?_⟩
 ·rw [e] at b
  rw [zci b,znu a (c.rng _ (hmem s b))]
  have:=a.i1
  show _=m.inputs
  omega
 ·rw [e] at b
  rw [zci b] at hi⊢
  have d:=c.rng _ (hmem s b)
  rw [znu a d] at hi
  rw [zed a d hi]
  have h:=a.edge _ i d (by have:=a.row _ d;omega)
  rcases q9p a c (hmem s b) hi with⟨f,j⟩|⟨f,j,q,_⟩
  ·rcases h with⟨_,g⟩|⟨o,_⟩
   ·left;exact⟨f,g⟩
   ·exfalso
    have:ed m (L.getD s 0) i=((m.rows.getD (L.getD s 0) default).getD i default).to:=rfl
    omega
  ·rcases h with⟨o,_⟩|⟨_,_,g,p⟩
   ·exfalso
    have:ed m (L.getD s 0) i=((m.rows.getD (L.getD s 0) default).getD i default).to:=rfl
    omega
   ·right
    exact⟨f,by rw [e];exact j,g,p⟩
theorem q07(b:MOk m)(c:ClosedP m L){s:Int}(a:s= -1∨(0≤s∧s.toNat∈L)){i:Int}(hi:0≤i∧i<m.inputs):
 z1l (z3l m L) (pos L s) i=⟨pos L (z1l m s i).to,(z1l m s i).out⟩∧((z1l m s i).to= -1∨(0≤(z1l m s i).to∧(z1l m s i).to.toNat∈L)):=by
 rcases a with rfl|⟨k,a⟩
 ·exact⟨rfl,.inl rfl⟩
 ·obtain⟨e,f⟩:=zdi a
  have g:pos L s=(L.idxOf s.toNat:Int):=by unfold pos;rw [if_neg (by omega)]
  have hi':i.toNat<m.inputs.toNat:=by omega
  have d:=c.rng _ a
  unfold z1l
  rw [g,if_neg (by omega),if_neg (by omega),Int.toNat_natCast,zci e,f,zed b d hi']
  refine⟨rfl,?_⟩
  show ed m s.toNat i.toNat= -1∨(0≤ed m s.toNat i.toNat∧(ed m s.toNat i.toNat).toNat∈L)
  rcases z8w b d hi' with h|⟨j,_⟩
  ·exact .inl h
  ·exact .inr ⟨j,c.cl _ a _ hi' (by omega)⟩
theorem zsn(a:MOk m)(b:ClosedP m L): ∀ (w:List Int) {s:Int},(s= -1∨(0≤s∧s.toNat∈L))→WOk m.inputs w→z1p (z3l m L) (pos L s) w=z1p m s w∧z2s (z3l m L) (pos L s) w=pos L (z2s m s w)
 | [],s,c,_=>⟨rfl,rfl⟩
 |i::w,s,c,d=>by
  have hi:=d 0 (by simp)
  obtain⟨e,f⟩:=q07 a b c (i:=i) hi
  have hw':WOk m.inputs w:=fun k g=>d (k+1) (by simpa using g)
  obtain⟨h,j⟩:=zsn a b w f hw'
  refine⟨?_,?_⟩
  ·show (z1l (z3l m L) (pos L s) i).out::z1p (z3l m L) (z1l (z3l m L) (pos L s) i).to w=_
   rw [e,h];rfl
  ·show z2s (z3l m L) (z1l (z3l m L) (pos L s) i).to w=_
   rw [e,j];rfl
end
/-! ### The program's part-/
def z6r(L:List Nat):List Int:=L.map fun s=>((s:Nat):Int)
theorem zjj(L:List Nat):(z6r L).length=L.length:=by simp [z6r]
theorem zpg{L:List Nat}{k:Nat}(a:k<L.length):ix (z6r L) (k:Int)=((L.getD k 0:Nat):Int):=by
 rw [yn]
 simp [z6r,List.getD_eq_getElem?_getD,a]
theorem zgn{α:Type}[Inhabited α](P:List α)(k:Nat)(h:k<P.length):P.take (k+1)=P.take k++[P.getD k default]:=by
 rw [List.take_add_one];simp [List.getD_eq_getElem?_getD,h]
theorem q5j{α:Type}{X:List α}{n k:Nat}{z y:α}(a:X.length=k)(b:k<n):(X++List.replicate (n-k) z).set k y=(X++[y])++List.replicate (n-(k+1)) z:=by
 rw [show n-k=(n-(k+1))+1 by omega,List.replicate_succ,List.set_append_right _ _ (by omega),a,Nat.sub_self]
 simp
end GV
end Go.Proofs.Ytnnobdkjgafdmaa

namespace Go.Proofs.Ytnnobdkjgafdmaa
namespace GV
set_option maxRecDepth 100000
end GV
end Go.Proofs.Ytnnobdkjgafdmaa

namespace Go.Proofs.Ytnnobdkjgafdmaa
namespace GV
set_option maxRecDepth 100000
theorem ztq{m:Mach}(a:MOk m){s0:Nat}: ∀ (g h p:Nat) (All:List BE),Inv m s0 p 0 All→m.rows.length≤p+g→m.rows.length≤p+h→bfs m g p All=bfs m h p All
 |0,h,p,All,hi,b,_=>by
  have:=zkw hi
  rw [zis (g:=0) (by omega),zis (g:=h) (by omega)]
 |g+1,0,p,All,hi,_,c=>by
  have:=zkw hi
  rw [zis (g:=g+1) (by omega),zis (g:=0) (by omega)]
 |g+1,h+1,p,All,hi,b,c=>by
  show (if p<All.length then _ else _)=(if p<All.length then _ else _)
  by_cases hp:p<All.length
  ·rw [if_pos hp,if_pos hp]
   have hpre:=(zbp m (All.getD p default) All m.inputs.toNat).length_le
   exact ztq a g h (p+1) _ (zty (zqx a hi hp _ (Nat.le_refl _)) (by omega)) (by omega) (by omega)
  ·rw [if_neg hp,if_neg hp]
def ren(L:List Nat)(e:BE):BE:=⟨L.idxOf e.st,pos L e.par,e.inp,e.wd⟩
theorem q75{L:List Nat}{a b:Nat}(c:a∈L)(d:b∈L)(h:L.idxOf a=L.idxOf b):a=b:=by
 have e:=(zdi c).2
 have f:=(zdi d).2
 rw [←e,h,f]
theorem zqc(L:List Nat)(t:Nat):pos L (t:Int)=(L.idxOf t:Int):=by
 unfold pos;rw [if_neg (by omega),Int.toNat_natCast]
section
variable {m : Mach} {L : List Nat}
theorem q6k(b:MOk m)(c:ClosedP m L){s i:Nat}(a:s∈L)(hi:i<m.inputs.toNat):ed (z3l m L) (L.idxOf s) i=pos L (ed m s i):=by
 obtain⟨d,e⟩:=zdi a
 show (((z3l m L).rows.getD (L.idxOf s) default).getD i default).to=_
 rw [zci d,e,zed b (c.rng s a) hi]
theorem q68{All:List BE}(c: ∀ e∈All,e.st∈L){t:Nat}(d:t∈L):occ (All.map (ren L)) (L.idxOf t)=occ All t:=by
 unfold occ
 rw [Bool.eq_iff_iff,List.any_eq_true,List.any_eq_true]
 constructor
 ·rintro⟨e,a,h⟩
  obtain⟨x,b,rfl⟩:=List.mem_map.1 a
  exact⟨x,b,decide_eq_true (q75 (c x b) d (of_decide_eq_true h))⟩
 ·rintro⟨e,a,h⟩
  exact⟨ren L e,List.mem_map.2 ⟨e,a,rfl⟩,decide_eq_true (congrArg L.idxOf (of_decide_eq_true h))⟩
theorem q1u(j:MOk m)(f:ClosedP m L){x:BE}{All:List BE}(d: ∀ e∈All,e.st∈L)(g:x.st∈L){i:Nat}(hi:i<m.inputs.toNat):
 push (z3l m L) (ren L x) (All.map (ren L)) i=(push m x All i).map (ren L)∧ ∀ e∈push m x All i,e.st∈L:=by
 have a:ed (z3l m L) (ren L x).st i=pos L (ed m x.st i):=q6k j f g hi
 unfold push
 rw [a]
 rcases z8w j (f.rng _ g) hi with h|⟨l,n⟩
 ·rw [h,if_pos (show pos L (-1)= -1 from rfl),if_pos (show (-1:Int)= -1 from rfl)]
  exact⟨rfl,d⟩
 ·have b:ed m x.st i≠ -1:=by omega
  have c:=f.cl _ g i hi b
  have k:pos L (ed m x.st i)=((L.idxOf (ed m x.st i).toNat:Nat):Int):=by unfold pos;rw [if_neg b]
  rw [k,if_neg (show¬((L.idxOf (ed m x.st i).toNat:Nat):Int)= -1 by omega),if_neg b,Int.toNat_natCast,q68 d c]
  by_cases ho:occ All (ed m x.st i).toNat=true
  ·rw [if_pos ho,if_pos ho];exact⟨rfl,d⟩
  ·rw [if_neg ho,if_neg ho]
   refine⟨?_,fun e a=>?_⟩
   ·rw [List.map_append]
    congr 1
   ·rcases List.mem_append.1 a with a|a
    ·exact d e a
    ·rw [List.mem_singleton.1 a];exact c
theorem zk5(a:MOk m)(b:ClosedP m L){x:BE}{All:List BE}(c: ∀ e∈All,e.st∈L)(d:x.st∈L): ∀ k,k≤m.inputs.toNat→
 z6m (z3l m L) (ren L x) (All.map (ren L)) k=(z6m m x All k).map (ren L)∧ ∀ e∈z6m m x All k,e.st∈L
 |0,_=>⟨rfl,c⟩
 |k+1,h=>by
  obtain⟨f,g⟩:=zk5 a b c d k (by omega)
  show push (z3l m L) (ren L x) (z6m (z3l m L) (ren L x) (All.map (ren L)) k) k=(push m x (z6m m x All k) k).map (ren L)∧ ∀ e∈push m x (z6m m x All k) k,e.st∈L
  rw [f]
  exact q1u a b g d (by omega)
theorem zyh(a:MOk m)(b:ClosedP m L): ∀ (g p:Nat) (All:List BE),(∀ e∈All,e.st∈L)→bfs (z3l m L) g p (All.map (ren L))=(bfs m g p All).map (ren L)
 |0,p,All,_=>rfl
 |g+1,p,All,c=>by
  show (if p<(All.map (ren L)).length then bfs (z3l m L) g (p+1) (z6m (z3l m L) ((All.map (ren L)).getD p default) (All.map (ren L)) (z3l m L).inputs.toNat) else All.map (ren L))=(if p<All.length then bfs m g (p+1) (z6m m (All.getD p default) All m.inputs.toNat) else All).map (ren L)
  rw [List.length_map]
  by_cases hp:p<All.length
  ·rw [if_pos hp,if_pos hp]
   have e:(All.map (ren L)).getD p default=ren L (All.getD p default):=by simp [List.getD_eq_getElem?_getD,hp]
   have d:=c _ (z19 hp)
   obtain⟨f,h⟩:=zk5 a b c d m.inputs.toNat (Nat.le_refl _)
   rw [e,show (z3l m L).inputs.toNat=m.inputs.toNat from rfl,f]
   exact zyh a b g (p+1) _ h
  ·rw [if_neg hp,if_neg hp]
theorem zoq:(z3l m L).rows.length=L.length:=by simp [z3l]
theorem q6t(b:MOk m)(a:ClosedP m L){s0:Nat}(c:s0∈L):rch (z3l m L) (L.idxOf s0)=(rch m s0).map (ren L):=by
 have d:=zoq (m:=m) (L:=L)
 obtain⟨f,h⟩:=zdi c
 have hlen:=a.len
 have hroot:=zri (m:=z3l m L) (s0:=L.idxOf s0) (by rw [d];exact f)
 unfold rch
 rw [ztq (ztv b a) (z3l m L).rows.length m.rows.length 0 _ hroot (by omega) (by omega)]
 exact zyh b a m.rows.length 0 [⟨s0,-1,-1,[]⟩] (fun e g=>by rw [List.mem_singleton.1 g];exact c)
end
/-! ### The states in their order-/
def zg0(P:List BE):List Nat:=P.map (·.st)
theorem zm1(P:List BE):(zg0 P).length=P.length:=by simp [zg0]
theorem zt3(P:List BE){k:Nat}(a:k<P.length):(zg0 P).getD k 0=(P.getD k default).st:=by
 simp [zg0,List.getD_eq_getElem?_getD,a]
theorem zhd{P:List BE}{s:Nat}:s∈zg0 P↔ ∃ j,j<P.length∧(P.getD j default).st=s:=by
 unfold zg0;rw [List.mem_map]
 constructor
 ·rintro⟨e,b,rfl⟩
  obtain⟨j,a,rfl⟩:=List.mem_iff_getElem.1 b
  exact⟨j,a,by simp [List.getD_eq_getElem?_getD,a]⟩
 ·rintro⟨j,a,rfl⟩;exact⟨_,z19 a,rfl⟩
section
variable {m : Mach} {s0 : Nat} {P : List BE}
theorem zv4(b:Rch m s0 P):(zg0 P).Nodup:=by
 unfold zg0
 rw [List.nodup_iff_pairwise_ne,List.pairwise_iff_getElem]
 intro i j hi a c e
 rw [List.length_map] at hi a
 rw [List.getElem_map,List.getElem_map] at e
 have:=b.dis i j hi a (by simpa [List.getD_eq_getElem?_getD,a,hi] using e)
 omega
theorem zlk(a:Rch m s0 P):ClosedP m (zg0 P):=by
 refine⟨fun s b=>?_,zv4 a,fun s b i hi c=>?_,fun e=>?_⟩
 ·obtain⟨j,d,rfl⟩:=zhd.1 b
  exact a.rng j d
 ·obtain⟨q,g,rfl⟩:=zhd.1 b
  obtain⟨j,d,h,_⟩:=a.cls q i g hi c
  exact zhd.2 ⟨j,d,by omega⟩
 ·have f:=zm1 P
  rw [e] at f
  have:=a.pos
  simp at f;omega
theorem q1v(a:Rch m s0 P):s0∈zg0 P∧(zg0 P).idxOf s0=0:=by
 have b:(zg0 P).getD 0 0=s0:=by rw [zt3 P a.pos,a.root]
 have:=zcv (zv4 a) (show 0<(zg0 P).length by rw [zm1];exact a.pos)
 rw [b] at this
 exact⟨zhd.2 ⟨0,a.pos,by rw [a.root]⟩,this⟩
end
def qbf(m:Mach):Mach:=z3l m (zg0 (rch m 0))
section
variable {m : Mach} {L : List Nat}
theorem zt8(a:MOk m):Rch m 0 (rch m 0):=zji a (by have:=a.r1;omega)
theorem q6d(a:MOk m):MOk (qbf m):=ztv a (zlk (zt8 a))
end
end GV
end Go.Proofs.Ytnnobdkjgafdmaa

namespace Go.Proofs.Ytnnobdkjgafdmaa
namespace GV
set_option maxRecDepth 100000
theorem znm: ∀ {a b:List Int} {k:Nat},k<a.length→k<b.length→a.take k=b.take k→a.getD k default<b.getD k default→z81 a b
 | [],_,_,h,_,_,_=>by simp at h
 |_::_,[],_,_,h,_,_=>by simp at h
 |x::a,y::b,0,_,_,_,h=> .inl h
 |x::a,y::b,k+1,d,e,c,h=>by
  rw [List.take_succ_cons,List.take_succ_cons] at c
  obtain⟨rfl,ht'⟩:=List.cons.inj c
  exact .inr ⟨rfl,znm (k:=k) (by simpa using d) (by simpa using e) ht' h⟩
theorem q3d{N:Nat}{a b:List Int}(d:a.length=b.length)(i:a.length<N)(j:a.length≤1000000){r:Ex Unit Int}(e:z81 a b→r=Ex.rt 1)(f:z81 b a→r=Ex.rt 0)(g:a=b→r=Ex.go ()):dx N a b N 0=some r:=by
 refine ru (σ:=Unit) (fun F k _=>dx N a b F (k:Int)) a.length (fun k _=>a.take k=b.take k) r (fun F k _ c hi=>?_) (fun F _ hi=>?_) N 0 () (Nat.zero_le _) (by omega) rfl
 ·simp only [dx]
  have oa:okI a (k:Int):=qy c
  have ob:okI b (k:Int):=qy (by omega)
  rw [wu (by omega),ze oa,ze ob]
  rcases Int.lt_trichotomy (ix a (k:Int)) (ix b (k:Int)) with h|h|h
  ·left
   rw [wu (by omega),ze oa,ze ob,wu h,e (znm c (by omega) hi h)]
  ·right
   refine⟨(),?_,?_⟩
   ·rw [zfo a k c,zfo b k (by omega),hi,show a.getD k default=b.getD k default from h]
   ·rw [um (by omega)];exact ze (qm (by omega))
  ·left
   rw [wu (by omega),ze oa,ze ob,um (by omega),f (znm (by omega) c hi.symm h)]
 ·simp only [dx]
  rw [um (by omega),g (by rw [List.take_length,d,List.take_length] at hi;exact hi)]
theorem q8a{N:Nat}{a b:List Int}(h:llt a b)(c:a.length<N)(d:a.length≤1000000):z0i N a b=some 1:=by
 unfold z0i
 rcases h with h|⟨f,h⟩
 ·rw [wu (by omega),wu (by omega)]
 ·rw [um (by omega),qc (q3d f c d (r:=Ex.rt 1) (fun _=>rfl) (fun k=>absurd (zbq h k) (z6g _)) (fun e=>by rw [e] at h;exact absurd h (z6g _)))];rfl
theorem q8f{N:Nat}{a b:List Int}(h:llt b a)(c:a.length<N)(d:a.length≤1000000):z0i N a b=some 0:=by
 unfold z0i
 rcases h with h|⟨f,h⟩
 ·rw [wu (by omega),um (by omega)]
 ·rw [um (by omega),qc (q3d f.symm c d (r:=Ex.rt 0) (fun k=>absurd (zbq h k) (z6g _)) (fun _=>rfl) (fun e=>by rw [e] at h;exact absurd h (z6g _)))];rfl
def z0s(s:Nat)(P:List BE):List BE:=P.filter fun e=>decide (e.st<s)
theorem zkc{m:Mach}{s0:Nat}{P:List BE}(f:Rch m s0 P){j:Nat}(c:j<P.length):
 z0s ((P.getD j default).st+1) P=z0s (P.getD j default).st (P.take j)++P.getD j default::z0s (P.getD j default).st (P.drop (j+1))∧
 z0s (P.getD j default).st P=z0s (P.getD j default).st (P.take j)++z0s (P.getD j default).st (P.drop (j+1)):=by
 have d:P=P.take j++P.getD j default::P.drop (j+1):=by rw [←z6e P j c,List.take_append_drop]
 have key: ∀ i,i<P.length→i≠j→decide ((P.getD i default).st<(P.getD j default).st+1)=decide ((P.getD i default).st<(P.getD j default).st):=fun i hi a=>by
  have:(P.getD i default).st≠(P.getD j default).st:=fun e=>a (f.dis i j hi c e)
  rw [decide_eq_decide];omega
 generalize hx:P.getD j default=x at*
 have g:z0s (x.st+1) (P.take j)=z0s x.st (P.take j):=by
  refine List.filter_congr fun e b=>?_
  obtain⟨i,hi,rfl⟩:=List.mem_iff_getElem.1 b
  rw [List.length_take] at hi
  have:=key i (by omega) (by omega)
  rw [List.getElem_take]
  rwa [show P.getD i default=P[i]'(by omega) by simp [List.getD_eq_getElem?_getD,show i<P.length by omega]] at this
 have h:z0s (x.st+1) (P.drop (j+1))=z0s x.st (P.drop (j+1)):=by
  refine List.filter_congr fun e b=>?_
  obtain⟨i,hi,rfl⟩:=List.mem_iff_getElem.1 b
  rw [List.length_drop] at hi
  have:=key (j+1+i) (by omega) (by omega)
  rw [List.getElem_drop]
  rwa [show P.getD (j+1+i) default=P[j+1+i]'(by omega) by simp [List.getD_eq_getElem?_getD,show j+1+i<P.length by omega]] at this
 constructor
 ·conv=>lhs;rw [d]
  unfold z0s at*
  rw [List.filter_append,List.filter_cons,if_pos (decide_eq_true (by omega)),g,h]
 ·conv=>lhs;rw [d]
  unfold z0s
  rw [List.filter_append,List.filter_cons,if_neg (by simp)]
theorem zvz{P:List BE}{s:Nat}(h:occ P s=false):z0s (s+1) P=z0s s P:=by
 refine List.filter_congr fun e b=>?_
 have:e.st≠s:=fun a=>by
  have:occ P s=true:=List.any_eq_true.2 ⟨e,b,decide_eq_true a⟩
  rw [h] at this;cases this
 rw [decide_eq_decide];omega
theorem zz2{m:Mach}{s0:Nat}{P:List BE}(a:Rch m s0 P):z0s m.rows.length P=P:=by
 unfold z0s
 rw [List.filter_eq_self]
 intro e b
 obtain⟨i,hi,rfl⟩:=List.mem_iff_getElem.1 b
 have:=a.rng i hi
 rw [show P.getD i default=P[i] by simp [List.getD_eq_getElem?_getD,hi]] at this
 exact decide_eq_true this
theorem zpb{m:Mach}{s0:Nat}{P:List BE}(a:Rch m s0 P)(s:Nat):(z4k (z0s s P)).length≤P.length:=by
 unfold z4k z0s;rw [List.length_map];exact List.length_filter_le _ _
theorem zjy(X Y:List BE):z4k (X++Y)=z4k X++z4k Y:=by simp [z4k]
theorem q26{N:Nat}{m:Mach}(z:200≤N){s0:Nat}{P:List BE}(a:Rch m s0 P)(v:m.rows.length≤64){j:Nat}(q:j<P.length):
 bu N (z0x m.rows.length P,z1d m.rows.length P) (z4k (z0s (P.getD j default).st P)) ((P.getD j default).st:Int) N 0=some ((z0s (P.getD j default).st (P.take j)).length:Int):=by
 obtain⟨_,r⟩:=zkc a q
 have w:=a.le
 have l:=a.rng j q
 have x: ∀ e∈z0s (P.getD j default).st (P.take j),∃ i,i<j∧e=P.getD i default:=fun e c=>by
  obtain⟨i,hi,rfl⟩:=List.mem_iff_getElem.1 (List.mem_filter.1 c).1
  rw [List.length_take] at hi
  exact⟨i,by omega,by rw [List.getElem_take];simp [List.getD_eq_getElem?_getD,show i<P.length by omega]⟩
 have y: ∀ e∈z0s (P.getD j default).st (P.drop (j+1)),∃ i,j<i∧i<P.length∧e=P.getD i default:=fun e c=>by
  obtain⟨i,hi,rfl⟩:=List.mem_iff_getElem.1 (List.mem_filter.1 c).1
  rw [List.length_drop] at hi
  exact⟨j+1+i,by omega,by omega,by rw [List.getElem_drop];simp [List.getD_eq_getElem?_getD,show j+1+i<P.length by omega]⟩
 have hlen:=zpb a (P.getD j default).st
 rw [r] at hlen⊢
 generalize hx:z0s (P.getD j default).st (P.take j)=A at*
 generalize z0s (P.getD j default).st (P.drop (j+1))=B at*
 have n:ix (z0x m.rows.length P) ((P.getD j default).st:Int)=(P.getD j default).wd:=by rw [yn,z9b l,a.wdOf q]
 have okw:okI (z0x m.rows.length P) ((P.getD j default).st:Int):=qy (by rw [z3h];exact l)
 have s:(z4k (A++B)).length=A.length+B.length:=by simp [z4k]
 have hget: ∀ k,k<A.length+B.length→ix (z4k (A++B)) (k:Int)=(((A++B).getD k default).st:Int):=fun k o=>by
  have hk':k<(A++B).length:=by rw [List.length_append];exact o
  rw [yn]
  unfold z4k
  rw [List.getD_eq_getElem?_getD,List.getElem?_map,List.getD_eq_getElem?_getD,List.getElem?_eq_getElem hk'];rfl
 refine ru (σ:=Unit) (fun F k _=>bu N (z0x m.rows.length P,z1d m.rows.length P) (z4k (A++B)) ((P.getD j default).st:Int) F (k:Int)) A.length (fun _ _=>True) _ (fun F k _ o _=>?_) (fun F _ _=>?_) N 0 () (Nat.zero_le _) (by omega) trivial
 ·right
  refine⟨(),trivial,?_⟩
  simp only [bu,hget k (by omega),n]
  have c:(A++B).getD k default∈A:=by
   have:(A++B).getD k default=A[k]:=by simp [List.getD_eq_getElem?_getD,List.getElem?_append_left o,o]
   rw [this];exact List.getElem_mem o
  obtain⟨i,d,f⟩:=x _ c
  rw [f]
  have b:=a.rng i (by omega)
  have g:ix (z0x m.rows.length P) ((P.getD i default).st:Int)=(P.getD i default).wd:=by rw [yn,z9b b,a.wdOf (by omega)]
  have t:=(a.wok i (by omega)).2
  rw [g,ze (fun _=>qy (by omega)),ze (fun _=>qy (by rw [z3h];exact b)),ze (fun _=>okw),zn5 (fun _=>q8a (N:=N) (a.inc i j d q) (by omega) (by omega))]
  have p:decide ((k:Int)<((z4k (A++B)).length:Int))=true:=decide_eq_true (by omega)
  refine(ct (by rw [p];rfl)).trans ?_
  exact ze (qm (by omega))
 ·simp only [bu]
  by_cases hb:0<B.length
  ·have p:decide ((A.length:Int)<((z4k (A++B)).length:Int))=true:=decide_eq_true (by omega)
   simp only [hget A.length (by omega),n]
   have c:(A++B).getD A.length default∈B:=by
    have:(A++B).getD A.length default=B[0]:=by simp [List.getD_eq_getElem?_getD,hb]
    rw [this];exact List.getElem_mem hb
   obtain⟨i,d,u,f⟩:=y _ c
   rw [f]
   have b:=a.rng i (by omega)
   have g:ix (z0x m.rows.length P) ((P.getD i default).st:Int)=(P.getD i default).wd:=by rw [yn,z9b b,a.wdOf (by omega)]
   have t:=(a.wok i (by omega)).2
   rw [g,ze (fun _=>qy (by omega)),ze (fun _=>qy (by rw [z3h];exact b)),ze (fun _=>okw),zn5 (fun _=>q8f (N:=N) (a.inc j i d u) (by omega) (by omega))]
   exact cf (by rw [p];rfl)
  ·have p:decide ((A.length:Int)<((z4k (A++B)).length:Int))=false:=decide_eq_false (by omega)
   rw [p,ze (fun h=>by simp at h),ze (fun h=>by simp at h),ze (fun h=>by simp at h),zta (by rfl)]
   rfl
theorem q0o{N:Nat}{m:Mach}(e:MOk m)(o:400≤N)(p:m.rows.length≤6)(q:m.inputs≤3):z2f N m=some (z4k (rch m 0)):=by
 have c:=zt8 e
 have g:=e.r2
 unfold z2f
 rw [qc (zwc e o p q)]
 generalize rch m 0=P at*
 have r:=c.le
 have s:bq N (z0x m.rows.length P,z1d m.rows.length P) N [] 0=some (z4k P):=by
  refine ru (σ:=List Int) (fun F k st=>bq N (z0x m.rows.length P,z1d m.rows.length P) F st (k:Int)) m.rows.length (fun k st=>st=z4k (z0s k P)) _ (fun F k st i a=>?_) (fun F st a=>?_) N 0 _ (Nat.zero_le _) (by omega) (by unfold z0s z4k;simp)
  ·subst a
   right
   refine⟨_,rfl,?_⟩
   have hixs:ix (z1d m.rows.length P) (k:Int)=occ P k:=by rw [yn,z92 i]
   simp only [bq,hixs]
   rw [wu (by rw [z3h];omega)]
   refine(qc (x:=z4k (z0s (k+1) P)) ?_).trans (ze (qm (by omega)))
   rw [ze (qy (by rw [z4t];exact i))]
   cases ho:occ P k
   ·rw [ct (b:= !false) rfl,zvz ho]
   ·rw [cf (b:= !true) rfl]
    obtain⟨j,l,rfl⟩:=z3w.1 ho
    obtain⟨n,h⟩:=zkc c l
    have hlen:=zpb c (P.getD j default).st
    rw [qc (q26 (by omega) c g l),n,h]
    rw [h] at hlen
    generalize z0s (P.getD j default).st (P.take j)=A at*
    generalize z0s (P.getD j default).st (P.drop (j+1))=B at*
    have d:(z4k A).length=A.length:=by simp [z4k]
    have t:(z4k B).length=B.length:=by simp [z4k]
    rw [zjy] at hlen⊢
    rw [List.length_append] at hlen
    have u:cut (z4k A++z4k B) 0 (A.length:Int)=z4k A:=by rw [q37,←d,List.take_left]
    have v:cut (z4k A++z4k B) (A.length:Int) ((z4k A++z4k B).length:Int)=z4k B:=by
     unfold cut
     rw [Int.toNat_natCast,Int.toNat_natCast,←d,List.drop_left,List.take_of_length_le (by rw [List.length_append];omega)]
    have f: ∀ {X Y:List Int},X.length≤1000→Y.length≤1000→fits 8 X Y:=fun n h=>⟨by omega,by omega⟩
    have la:(z4k A++z4k B).length=A.length+B.length:=by rw [List.length_append];omega
    rw [ze ⟨by omega,by omega,by omega⟩,u,ze (f (by simp) (by omega)),List.nil_append,ze (f (by omega) (by simp)),ze ⟨by omega,by omega,by omega⟩,v,ze (f (by rw [List.length_append];simp;omega) (by omega))]
    rw [zjy,List.append_assoc];rfl
  ·subst a
   simp only [bq]
   rw [um (by rw [z3h];omega),zz2 c]
 rw [qc s]
end GV
end Go.Proofs.Ytnnobdkjgafdmaa
