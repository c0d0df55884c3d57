
import Derived.Test.YtdhccodneoebpaaShPlain
import Derived.Test.YtdhccodneoebpaaShPl
set_option linter.unusedVariables false
set_option linter.unusedSimpArgs false
set_option linter.unusedSectionVars false
namespace Go.Proofs.Ytdhccodneoebpaa
namespace GV
def eOk(m:Mach)(e:Edge):Prop:=(e.to= -1∧e.out= -1)∨(0≤e.to∧e.to<m.rows.length∧0≤e.out∧e.out<m.outputs)
structure MOk (m:Mach):Prop where
 i1:1≤m.inputs
 i2:m.inputs≤16
 o1:1≤m.outputs
 o2:m.outputs≤16
 r1:1≤m.rows.length
 r2:m.rows.length≤64
 row: ∀ s,s<m.rows.length→((m.rows.getD s default).length:Int)=m.inputs
 edge: ∀ s i,s<m.rows.length→i<(m.rows.getD s default).length→eOk m ((m.rows.getD s default).getD i default)
def z5a(m:Mach)(s i:Int):Edge:=if s<0 then⟨-1,-1⟩ else(m.rows.getD s.toNat default).getD i.toNat default
def z7n(m:Mach):Int→List Int→Int
 |s,[]=>s
 |s,i::w=>z7n m (z5a m s i).to w
def WOk(n:Int)(w:List Int):Prop:= ∀ k,k<w.length→0≤w.getD k default∧w.getD k default<n
def SOk(m:Mach)(s:Int):Prop:=s= -1∨(0≤s∧s<m.rows.length)
theorem zcp(m:Mach): ∀ (s:Int) (u v:List Int),z7n m s (u++v)=z7n m (z7n m s u) v
 |s,[],v=>rfl
 |s,i::u,v=>zcp m _ u v
theorem zfx(w:List Int)(k:Nat)(h:k<w.length):w.take (k+1)=w.take k++[w.getD k default]:=by
 rw [List.take_succ_eq_append_getElem h];simp [List.getD_eq_getElem?_getD,h]
theorem zhy(m:Mach)(a:MOk m)(s i:Int)(b:SOk m s)(hi:0≤i∧i<m.inputs):SOk m (z5a m s i).to∧ -1≤(z5a m s i).out∧(z5a m s i).out≤16:=by
 unfold z5a
 split
 ·exact⟨.inl rfl,by simp,by simp⟩
 ·have hs':0≤s∧s<m.rows.length:=by rcases b with h|h<;>omega
  have c:=a.row s.toNat (by omega)
  have d:=a.o2
  rcases a.edge s.toNat i.toNat (by omega) (by omega) with h|h
  ·exact⟨.inl h.1,by omega,by omega⟩
  ·exact⟨.inr ⟨h.1,h.2.1⟩,by omega,by omega⟩
theorem zsu(m:Mach)(b:MOk m): ∀ (s:Int) (w:List Int),SOk m s→WOk m.inputs w→SOk m (z7n m s w)
 |s,[],a,_=>a
 |s,i::w,a,c=>zsu m b _ w (zhy m b s i a (by simpa using c 0 (by simp))).1 (fun k d=>by simpa using c (k+1) (by simpa using d))
theorem zwx{n:Int}{w:List Int}(h:WOk n w)(k:Nat):WOk n (w.drop k):=fun j a=>by
 rw [List.length_drop] at a
 have:=h (k+j) (by omega)
 rwa [show (w.drop k).getD j default=w.getD (k+j) default from by simp only [List.getD_eq_getElem?_getD,List.getElem?_drop]]
def zng(m:Mach)(x:Edge):Bool:=decide (x.to= -1∧x.out= -1)||(((decide (0≤x.to)&&decide (x.to<m.rows.length))&&decide (0≤x.out))&&decide (x.out<m.outputs))
theorem zul(m:Mach)(x:Edge):zng m x=true↔eOk m x:=by
 simp [zng,eOk];omega
theorem zes{α:Type}[Inhabited α](p:α→Bool)(X:List α)(k:Nat)(h:k<X.length):(X.take (k+1)).any p=((X.take k).any p||p (X.getD k default)):=by
 rw [List.take_succ_eq_append_getElem h,List.any_append]
 simp [List.getD_eq_getElem?_getD,h]
def zk7{α:Type}(p:α→Bool)(X:List α):Int:=match X.findIdx? p with|some i=>i|none=> -1
theorem zsw{α:Type}(p:α→Bool)(X:List α):decide (0≤zk7 p X)=X.any p:=by
 unfold zk7
 cases h:X.findIdx? p with
 |none=>
  have:=List.findIdx?_eq_none_iff.1 h
  simp only [Bool.eq_false_iff] at*
  rw [show decide ((0:Int)≤ -1)=false from rfl]
  symm
  rw [List.any_eq_false]
  intro x a
  simp [this x a]
 |some i=>
  obtain⟨hi,b,_⟩:=List.findIdx?_eq_some_iff_getElem.1 h
  rw [show decide ((0:Int)≤(i:Int))=true from by simp]
  symm
  rw [List.any_eq_true]
  exact⟨_,List.getElem_mem hi,b⟩
theorem zjv{α:Type}[Inhabited α](p:α→Bool)(X:List α)(k:Nat)(h:k<X.length)(a:(X.take k).any p=false)(b:p (X.getD k default)=true):zk7 p X=k:=by
 have:X.findIdx? p=some k:=by
  rw [List.findIdx?_eq_some_iff_getElem]
  refine⟨h,by simpa [List.getD_eq_getElem?_getD,h] using b,fun j c=>?_⟩
  rw [List.any_eq_false] at a
  have:=a X[j] (by rw [List.mem_take_iff_getElem];exact⟨j,by omega,rfl⟩)
  simpa using this
 simp [zk7,this]
theorem zkp{α:Type}(p:α→Bool)(X:List α)(a:X.any p=false):zk7 p X= -1:=by
 have:X.findIdx? p=none:=by
  rw [List.findIdx?_eq_none_iff]
  rw [List.any_eq_false] at a
  intro x b
  simpa using a x b
 simp [zk7,this]
def z81(m:Mach)(r:List Edge):Bool:=decide ((r.length:Int)≠m.inputs)||r.any fun x=> !zng m x
def z4a(m:Mach):Int:=if(16<m.inputs∨16<m.outputs)∨64<m.rows.length then 3 else if(m.inputs<1∨m.outputs<1)∨m.rows.length<1 then 1 else if m.rows.any (z81 m)=true then 1 else 0
structure Small (m:Mach):Prop where
 r:m.rows.length≤100
 c: ∀ k,k<m.rows.length→(m.rows.getD k default).length≤100
theorem zy1{m:Mach}(h:(16<m.inputs∨16<m.outputs)∨64<m.rows.length):z4a m=3:=by unfold z4a;rw [if_pos h]
theorem zwa{m:Mach}(h: ¬((16<m.inputs∨16<m.outputs)∨64<m.rows.length))(a:(m.inputs<1∨m.outputs<1)∨m.rows.length<1):z4a m=1:=by unfold z4a;rw [if_neg h,if_pos a]
theorem zvz{m:Mach}(h: ¬((16<m.inputs∨16<m.outputs)∨64<m.rows.length))(a: ¬((m.inputs<1∨m.outputs<1)∨m.rows.length<1))(b:m.rows.any (z81 m)=false):z4a m=0:=by
 unfold z4a;rw [if_neg h,if_neg a,if_neg (by rw [b];decide)]
theorem zfn{α:Type}[Inhabited α](p:α→Bool)(X:List α):X.any p=false↔ ∀ k,k<X.length→p (X.getD k default)=false:=by
 rw [List.any_eq_false]
 refine⟨fun h k a=>by simpa using h _ (z0x a),fun h x b=>?_⟩
 obtain⟨k,a,rfl⟩:=List.getElem_of_mem b
 have:=h k a
 simp only [List.getD_eq_getElem?_getD,List.getElem?_eq_getElem a,Option.getD_some] at this
 simp [this]
theorem zbf(m:Mach)(r:List Edge):z81 m r=false↔(r.length:Int)=m.inputs∧ ∀ i,i<r.length→eOk m (r.getD i default):=by
 unfold z81
 rw [Bool.or_eq_false_iff,zfn]
 refine and_congr (by simp) (forall_congr' fun i=>forall_congr' fun hi=>?_)
 rw [←zul];simp
theorem zed(m:Mach):z4a m=0↔MOk m:=by
 unfold z4a
 by_cases h:(16<m.inputs∨16<m.outputs)∨64<m.rows.length
 ·rw [if_pos h];exact⟨fun h=>absurd h (by decide),fun a=>by have:=a.i2;have:=a.o2;have:=a.r2;omega⟩
 rw [if_neg h]
 by_cases h1:(m.inputs<1∨m.outputs<1)∨m.rows.length<1
 ·rw [if_pos h1];exact⟨fun h=>absurd h (by decide),fun a=>by have:=a.i1;have:=a.o1;have:=a.r1;omega⟩
 rw [if_neg h1]
 cases hr:m.rows.any (z81 m)
 ·rw [if_neg (by decide)]
  have:=(zfn _ _).1 hr
  exact⟨fun _=>⟨by omega,by omega,by omega,by omega,by omega,by omega,fun s b=>((zbf m _).1 (this s b)).1,fun s i b hi=>((zbf m _).1 (this s b)).2 i hi⟩,fun _=>rfl⟩
 ·rw [if_pos rfl]
  refine⟨fun h=>absurd h (by decide),fun a=>?_⟩
  have:m.rows.any (z81 m)=false:=(zfn _ _).2 fun k c=>(zbf m _).2 ⟨a.row k c,fun i hi=>a.edge k i c hi⟩
  rw [hr] at this;cases this
theorem MOk.small{m:Mach}(a:MOk m):Small m:=⟨by have:=a.r2;omega,fun k b=>by have:=a.row k b;have:=a.i2;omega⟩
def zg7(n c:Int):Bool:=decide (c<0)||decide (n≤c)
theorem zg9{α:Type}[Inhabited α](X:List α)(k:Nat)(h:k<X.length):X.drop k=X.getD k default::X.drop (k+1):=by
 rw [List.drop_eq_getElem_cons h];simp [List.getD_eq_getElem?_getD,h]
theorem z5c{α:Type}[Inhabited α]{X Y:List α}(b:X.length=Y.length)(h: ∀ k,k<X.length→X.getD k default=Y.getD k default):X=Y:=by
 refine List.ext_getElem b fun k a c=>?_
 have:=h k a
 simpa only [List.getD_eq_getElem?_getD,List.getElem?_eq_getElem a,List.getElem?_eq_getElem c,Option.getD_some] using this
theorem MOk.mul{m:Mach}(a:MOk m):m.rows.length*m.inputs.toNat≤1024∧(m.rows.length:Int)*m.inputs=((m.rows.length*m.inputs.toNat:Nat):Int):=by
 have b:=a.r2;have c:=a.i1;have d:=a.i2
 refine⟨Nat.le_trans (Nat.mul_le_mul b (show m.inputs.toNat≤16 by omega)) (by decide),?_⟩
 rw [Int.natCast_mul,Int.toNat_of_nonneg (by omega)]
theorem q42{m:Mach}(a:MOk m)(s:Int)(k:Nat)(b:s.toNat<m.rows.length)(c:k<(m.rows.getD s.toNat default).length):SOk m ((m.rows.getD s.toNat default).getD k default).to:=by
 rcases a.edge s.toNat k b c with h|h
 ·exact .inl h.1
 ·exact .inr ⟨h.1,h.2.1⟩
inductive Reach (m:Mach) (s:Nat):Nat→Prop
 |refl:Reach m s s
 |step {t i:Nat}:Reach m s t→t<m.rows.length→i<(m.rows.getD t default).length→0≤((m.rows.getD t default).getD i default).to→Reach m s ((m.rows.getD t default).getD i default).to.toNat
theorem Reach.trans{m:Mach}{a b c:Nat}(h:Reach m a b)(k:Reach m b c):Reach m a c:=by
 induction k with
 |refl=>exact h
 |step _ e hi d ih=>exact .step ih e hi d
theorem Reach.lt{m:Mach}(c:MOk m){a b:Nat}(h:Reach m a b)(d:a<m.rows.length):b<m.rows.length:=by
 cases h with
 |refl=>exact d
 |step g e f i=>rcases c.edge _ _ e f with h|h<;>omega
def Closed(m:Mach)(Y:List Bool)(t:Nat):Prop:= ∀ i,i<(m.rows.getD t default).length→0≤((m.rows.getD t default).getD i default).to→Y.getD ((m.rows.getD t default).getD i default).to.toNat default=true
structure Vis (m:Mach) (X:List Bool) (s:Int) (Y:List Bool):Prop where
 len:Y.length=X.length
 cnt:Y.count false≤X.count false
 mono: ∀ t,X.getD t default=true→Y.getD t default=true
 here:0≤s→Y.getD s.toNat default=true
 reach: ∀ t,Y.getD t default=true→X.getD t default=true∨(0≤s∧Reach m s.toNat t)
 closed: ∀ t,t<m.rows.length→Y.getD t default=true→X.getD t default=true∨Closed m Y t
structure VisK (m:Mach) (X:List Bool) (s:Nat) (k:Nat) (Y:List Bool):Prop where
 len:Y.length=X.length
 cnt:Y.count false<X.count false
 mono: ∀ t,X.getD t default=true→Y.getD t default=true
 here:Y.getD s default=true
 reach: ∀ t,Y.getD t default=true→X.getD t default=true∨Reach m s t
 closed: ∀ t,t<m.rows.length→Y.getD t default=true→X.getD t default=true∨t=s∨Closed m Y t
 done: ∀ i,i<k→0≤((m.rows.getD s default).getD i default).to→Y.getD ((m.rows.getD s default).getD i default).to.toNat default=true
theorem zv2{m:Mach}{X:List Bool}{s:Int}(h:s= -1∨X.getD s.toNat default=true)(a:s= -1∨0≤s):Vis m X s X:=
 ⟨rfl,Nat.le_refl _,fun _ h=>h,fun b=>by rcases h with h|h;omega;exact h,fun _ h=> .inl h,fun _ _ h=> .inl h⟩
theorem z4u{X:List Bool}{s t:Nat}(a:s<X.length):(X.set s true).getD t default=if t=s then true else X.getD t default:=by
 simp only [List.getD_eq_getElem?_getD,List.getElem?_set]
 by_cases h:s=t
 ·subst h;simp [a]
 ·rw [if_neg h,if_neg (fun e=>h e.symm)]
theorem z98: ∀ {X:List Bool} {s:Nat},s<X.length→X.getD s default=false→(X.set s true).count false+1=X.count false
 |x::X,0,_,h=>by
  have:x=false:=by simpa using h
  subst this
  simp
 |x::X,s+1,a,h=>by
  have:=z98 (X:=X) (s:=s) (by simpa using a) (by simpa using h)
  rw [List.set_cons_succ,List.count_cons,List.count_cons];omega
theorem zug{m:Mach}{X:List Bool}{s:Nat}(c:s<X.length)(h:X.getD s default=false):VisK m X s 0 (X.set s true):=by
 have b:=fun t=>z4u (t:=t) c
 refine⟨by simp,by have:=z98 c h;omega,fun t a=>by rw [b];split<;>simp_all,by rw [b,if_pos rfl],fun t a=>?_,fun t _ a=>?_,fun i hi=>by omega⟩
 ·rw [b] at a
  by_cases e:t=s
  ·subst e;exact .inr .refl
  ·rw [if_neg e] at a;exact .inl a
 ·rw [b] at a
  by_cases e:t=s
  ·exact .inr (.inl e)
  ·rw [if_neg e] at a;exact .inl a
theorem zt7{m:Mach}{X Y Z:List Bool}{s k:Nat}(b:VisK m X s k Y)(f:s<m.rows.length)(g:k<(m.rows.getD s default).length)(a:Vis m Y ((m.rows.getD s default).getD k default).to Z):VisK m X s (k+1) Z:=by
 refine⟨a.len.trans b.len,Nat.lt_of_le_of_lt a.cnt b.cnt,fun t d=>a.mono t (b.mono t d),a.mono _ b.here,fun t d=>?_,fun t e d=>?_,fun i hi c=>?_⟩
 ·rcases a.reach t d with h|⟨c,h⟩
  ·exact b.reach t h
  ·exact .inr ((Reach.step .refl f g c).trans h)
 ·rcases a.closed t e d with h|h
  ·rcases b.closed t e h with h|h|h
   ·exact .inl h
   ·exact .inr (.inl h)
   ·exact .inr (.inr fun i hi c=>a.mono _ (h i hi c))
  ·exact .inr (.inr h)
 ·rcases Nat.lt_succ_iff_lt_or_eq.1 hi with h|rfl
  ·exact a.mono _ (b.done i h c)
  ·exact a.here c
theorem zx2{m:Mach}{X Y:List Bool}{s:Int}{k:Nat}(b:0≤s)(a:VisK m X s.toNat k Y)(e: ¬k<(m.rows.getD s.toNat default).length):Vis m X s Y:=
 ⟨a.len,Nat.le_of_lt a.cnt,a.mono,fun _=>a.here,fun t c=>(a.reach t c).imp id fun h=>⟨b,h⟩,fun t d c=>by
  rcases a.closed t d c with h|rfl|h
  ·exact .inl h
  ·exact .inr fun i hi b=>a.done i (by omega) b
  ·exact .inr h⟩
noncomputable def connB(m:Mach):Bool:= @decide (∀ t,t<m.rows.length→Reach m 0 t) (Classical.propDecidable _)
theorem zwf{m:Mach}{Y:List Bool}(d:Y.length=m.rows.length)(h: ∀ t,t<m.rows.length→(Y.getD t default=true↔Reach m 0 t)):connB m= !Y.contains false:=by
 unfold connB
 cases hc:Y.contains false
 ·refine(@decide_eq_true _ (Classical.propDecidable _) ?_).trans rfl
  intro t a
  rw [←h t a]
  cases hy:Y.getD t default with
  |true=>rfl
  |false=>
   have:Y.contains false=true:=by
    rw [List.contains_iff_mem,←hy];exact z0x (by omega)
   rw [hc] at this;cases this
 ·refine(@decide_eq_false _ (Classical.propDecidable _) ?_).trans rfl
  intro hall
  rw [List.contains_iff_mem] at hc
  obtain⟨k,b,c⟩:=List.getElem_of_mem hc
  have:=(h k (by omega)).2 (hall k (by omega))
  simp only [List.getD_eq_getElem?_getD,List.getElem?_eq_getElem b,Option.getD_some,c] at this
  cases this
theorem zxg{m:Mach}(e:MOk m){n:Nat}(g:n=m.rows.length){Y:List Bool}(h:Vis m (List.replicate n false) 0 Y):connB m= !Y.contains false:=by
 have l:=e.r1
 have f: ∀ t,(List.replicate n false).getD t default=false:=fun t=>by
  simp only [List.getD_eq_getElem?_getD,List.getElem?_replicate];split<;>rfl
 have b: ∀ t,t<m.rows.length→Y.getD t default=true→Closed m Y t:=fun t a c=>(h.closed t a c).resolve_left (by rw [f];simp)
 refine zwf (by rw [h.len];simp [g]) fun t a=>⟨fun c=>?_,fun d=>?_⟩
 ·exact((h.reach t c).resolve_left (by rw [f];simp)).2
 ·clear a
  have key: ∀ t,Reach m 0 t→Y.getD t default=true∧t<m.rows.length:=by
   intro t a
   refine⟨?_,a.lt e (by omega)⟩
   induction a with
   |refl=>exact h.here (Int.le_refl _)
   |step o i j k ih=>exact b _ i ih _ j k
  exact(key t d).1
theorem zlv(Y:List Bool):(Y.any fun x=>decide (false=x))=Y.contains false:=by
 rw [Bool.eq_iff_iff,List.any_eq_true,List.contains_iff_mem]
 exact⟨fun⟨x,a,h⟩=>by rw [of_decide_eq_true h];exact a,fun h=>⟨false,h,rfl⟩⟩
theorem zjq{P:Nat→Prop}{k:Nat}(h: ∀ j,j<k→P j)(a:P k): ∀ j,j<k+1→P j:=fun j b=>by
 rcases Nat.lt_succ_iff_lt_or_eq.1 b with c|rfl
 ·exact h j c
 ·exact a
theorem Small.mem{m:Mach}(h:Small m){r:List Edge}(b:r∈m.rows):r.length≤100:=by
 obtain⟨k,a,rfl⟩:=List.getElem_of_mem b
 have:=h.c k a
 simpa [List.getD_eq_getElem?_getD,a] using this
def q13(m:Mach)(Y:List Bool):Prop:= ∀ t,t<m.rows.length→Y.getD t default=true→Closed m Y t
structure RInv (m:Mach) (a:Nat) (r:Nat) (Y:List Bool):Prop where
 len:Y.length=m.rows.length
 sound: ∀ t,Y.getD t default=true→Reach m a t
 start:Y.getD a default=true
 prog:q13 m Y∨r<Y.count true
structure RPass (m:Mach) (a:Nat) (Y0:List Bool) (s i:Nat) (Y:List Bool):Prop where
 len:Y.length=m.rows.length
 sound: ∀ t,Y.getD t default=true→Reach m a t
 start:Y.getD a default=true
 fix:q13 m Y0→Y=Y0
 prog:Y0.count true<Y.count true∨(Y=Y0∧ ∀ t,t<m.rows.length→Y.getD t default=true→ ∀ j,(t<s∨(t=s∧j<i))→j<(m.rows.getD t default).length→0≤((m.rows.getD t default).getD j default).to→Y.getD ((m.rows.getD t default).getD j default).to.toNat default=true)
theorem zwi{Y:List Bool}{t:Nat}(h:Y.getD t default=true)(a:t<Y.length):Y.set t true=Y:=by
 refine z5c (by simp) fun k b=>?_
 rw [z4u a]
 by_cases e:k=t
 ·subst e;rw [if_pos rfl,h]
 ·rw [if_neg e]
theorem zdr: ∀ {X:List Bool} {s:Nat},s<X.length→X.getD s default=false→(X.set s true).count true=X.count true+1
 |x::X,0,_,h=>by
  have:x=false:=by simpa using h
  subst this
  simp
 |x::X,s+1,a,h=>by
  have:=zdr (X:=X) (s:=s) (by simpa using a) (by simpa using h)
  rw [List.set_cons_succ,List.count_cons,List.count_cons];omega
theorem zyt{m:Mach}{a r:Nat}{Y:List Bool}(h:RInv m a r Y):RPass m a Y 0 0 Y:=
 ⟨h.len,h.sound,h.start,fun _=>rfl,.inr ⟨rfl,fun t _ _ j b=>by omega⟩⟩
theorem zrh{m:Mach}{a s i:Nat}{c Y:List Bool}(h:RPass m a c s i Y)(g: ¬(Y.getD s default=true∧0≤((m.rows.getD s default).getD i default).to)):RPass m a c s (i+1) Y:=by
 refine⟨h.len,h.sound,h.start,h.fix,h.prog.imp id fun⟨e,k⟩=>⟨e,fun t l d j n b f=>?_⟩⟩
 by_cases e:t=s∧j=i
 ·obtain⟨rfl,rfl⟩:=e;exact absurd ⟨d,f⟩ g
 ·exact k t l d j (by omega) b f
theorem q0q{m:Mach}{a s i:Nat}{g Y:List Bool}(q:MOk m)(h:RPass m a g s i Y)(c:s<m.rows.length)(hi:i<(m.rows.getD s default).length)(k:Y.getD s default=true)(l:0≤((m.rows.getD s default).getD i default).to):
 RPass m a g s (i+1) (Y.set ((m.rows.getD s default).getD i default).to.toNat true):=by
 have d:((m.rows.getD s default).getD i default).to.toNat<Y.length:=by
  rw [h.len];rcases q.edge s i c hi with h|h<;>omega
 cases hv:Y.getD ((m.rows.getD s default).getD i default).to.toNat default with
 |true=>
  rw [zwi hv d]
  refine⟨h.len,h.sound,h.start,h.fix,h.prog.imp id fun⟨e,r⟩=>⟨e,fun t b hy' j u f h0'=>?_⟩⟩
  by_cases e:t=s∧j=i
  ·obtain⟨rfl,rfl⟩:=e;exact hv
  ·exact r t b hy' j (by omega) f h0'
 |false=>
  have n:=fun t=>z4u (t:=t) d
  refine⟨by simp [h.len],fun t b=>?_,by rw [n];split;rfl;exact h.start,fun o=>?_,.inl ?_⟩
  ·rw [n] at b
   by_cases e:t=((m.rows.getD s default).getD i default).to.toNat
   ·subst e;exact .step (h.sound _ k) c hi l
   ·rw [if_neg e] at b;exact h.sound t b
  ·have e:=h.fix o
   subst e
   have:=o s c k i hi l
   rw [hv] at this;cases this
  ·rw [zdr d hv]
   rcases h.prog with p|⟨p,_⟩
   ·omega
   ·subst p;omega
theorem zvv{m:Mach}{a s i:Nat}{d Y:List Bool}(h:RPass m a d s i Y)(hi:(m.rows.getD s default).length≤i):RPass m a d (s+1) 0 Y:=
 ⟨h.len,h.sound,h.start,h.fix,h.prog.imp id fun⟨e,f⟩=>⟨e,fun t g k j b c l=>f t g k j (by
  rcases b with b|b
  ·by_cases e:t=s
   ·subst e;exact .inr ⟨rfl,by omega⟩
   ·exact .inl (by omega)
  ·omega) c l⟩⟩
theorem q1q{m:Mach}{a s r:Nat}{d Y:List Bool}(h:RPass m a d s 0 Y)(k:m.rows.length≤s)(b:RInv m a r d):RInv m a (r+1) Y:=by
 refine⟨h.len,h.sound,h.start,?_⟩
 rcases b.prog with c|c
 ·rw [h.fix c];exact .inl c
 ·rcases h.prog with l|⟨_,e⟩
  ·exact .inr (by omega)
  ·exact .inl fun t f g j i b=>e t f g j (.inl (by omega)) i b
theorem zus{m:Mach}{a:Nat}(g:a<m.rows.length):RInv m a 0 ((List.replicate m.rows.length false).set a true):=by
 have c:a<(List.replicate m.rows.length false).length:=by simpa using g
 have d: ∀ t,(List.replicate m.rows.length false).getD t default=false:=fun t=>by
  simp only [List.getD_eq_getElem?_getD,List.getElem?_replicate];split<;>rfl
 have f:=fun t=>z4u (t:=t) c
 refine⟨by simp,fun t b=>?_,by rw [f,if_pos rfl],.inr (by rw [zdr c (d a)];omega)⟩
 rw [f,d] at b
 by_cases e:t=a
 ·subst e;exact .refl
 ·rw [if_neg e] at b;cases b
noncomputable def reachL(m:Mach)(a:Nat):List Bool:=(List.range m.rows.length).map fun t=> @decide (Reach m a t) (Classical.propDecidable _)
theorem lw{m:Mach}{a t:Nat}(b:t<m.rows.length):(reachL m a).getD t default=true↔Reach m a t:=by
 unfold reachL
 simp only [List.getD_eq_getElem?_getD,List.getElem?_map,List.getElem?_range b,Option.map_some,Option.getD_some]
 exact⟨fun h=> @of_decide_eq_true _ (Classical.propDecidable _) h,fun h=> @decide_eq_true _ (Classical.propDecidable _) h⟩
theorem z3m(m:Mach)(a:Nat):(reachL m a).length=m.rows.length:=by simp [reachL]
theorem zuw{m:Mach}{a r:Nat}{Y:List Bool}(i:MOk m)(j:a<m.rows.length)(h:RInv m a r Y)(n:m.rows.length≤r):Y=reachL m a:=by
 have b:q13 m Y:=h.prog.resolve_right (by have:=List.count_le_length (a:=true) (l:=Y);rw [h.len] at this;omega)
 have key: ∀ t,Reach m a t→Y.getD t default=true:=by
  intro t c
  induction c with
  |refl=>exact h.start
  |step o d e f ih=>exact b _ d ih _ e f
 refine z5c (by rw [h.len,z3m]) fun k g=>?_
 rw [Bool.eq_iff_iff,lw (by rw [←h.len];exact g)]
 exact⟨h.sound k,key k⟩
theorem zyk{m:Mach}(h: ∀ j,j<m.rows.length→(reachL m 0).getD j default=true):connB m=true:=by
 unfold connB
 exact @decide_eq_true _ (Classical.propDecidable _) fun t a=>(lw a).1 (h t a)
def MDat.n(x:MDat):Int:=1+x.states%6
def MDat.inp(x:MDat):Int:=1+x.ins%3
def MDat.out(x:MDat):Int:=1+x.outs%3
def MDat.num(x:MDat)(k:Nat):Int:=if k<x.edges.length then x.edges.getD k default else 0
def zoq(x:MDat)(v:Int):Edge:=if x.part=true∧v%4=3 then⟨-1,-1⟩ else⟨v/4%x.n,v/4/x.n%x.out⟩
def zff(x:MDat)(s i:Nat):Edge:=zoq x (x.num (s*x.inp.toNat+i))
def zlw(x:MDat)(s:Nat):List Edge:=(List.range x.inp.toNat).map (zff x s)
def mOf(x:MDat):Mach:=⟨x.inp,x.out,(List.range x.n.toNat).map (zlw x)⟩
structure MDOk (x:MDat):Prop where
 st:0≤x.states∧x.states≤255
 ins:0≤x.ins∧x.ins≤255
 outs:0≤x.outs∧x.outs≤255
 ed: ∀ k,k<x.edges.length→0≤x.edges.getD k default∧x.edges.getD k default≤65535
theorem MDOk.num{x:MDat}(h:MDOk x)(k:Nat):0≤x.num k∧x.num k≤65535:=by
 unfold MDat.num
 split
 ·exact h.ed k (by assumption)
 ·omega
theorem yg{α:Type}[Inhabited α](f:Nat→α){n k:Nat}(h:k<n):((List.range n).map f).getD k default=f k:=by
 simp [List.getD_eq_getElem?_getD,h]
theorem zwb{x:MDat}{v:Int}{m:Mach}(c:0≤v)(a:(m.rows.length:Int)=x.n)(b:m.outputs=x.out)(d:1≤x.n)(e:1≤x.out):eOk m (zoq x v):=by
 unfold zoq eOk
 split
 ·exact .inl ⟨rfl,rfl⟩
 ·refine .inr ⟨Int.emod_nonneg _ (by omega),?_,Int.emod_nonneg _ (by omega),?_⟩
  ·rw [a];exact Int.emod_lt_of_pos _ (by omega)
  ·rw [b];exact Int.emod_lt_of_pos _ (by omega)
theorem q1b{x:MDat}(h:MDOk x):MOk (mOf x):=by
 have e:=h.st;have f:=h.ins;have g:=h.outs
 have c:1≤x.n∧x.n≤6:=by unfold MDat.n;omega
 have d:1≤x.inp∧x.inp≤3:=by unfold MDat.inp;omega
 have b:1≤x.out∧x.out≤3:=by unfold MDat.out;omega
 have j:(mOf x).rows.length=x.n.toNat:=by simp [mOf]
 have hrow: ∀ s,s<(mOf x).rows.length→(mOf x).rows.getD s default=zlw x s:=fun s a=>yg _ (by omega)
 refine⟨d.1,by show x.inp≤16;omega,b.1,by show x.out≤16;omega,by omega,by omega,fun s a=>?_,fun s i a hi=>?_⟩
 ·rw [hrow s a];show ((zlw x s).length:Int)=x.inp;simp [zlw];omega
 ·rw [hrow s a] at hi⊢
  have hi':i<x.inp.toNat:=by simpa [zlw] using hi
  rw [show (zlw x s).getD i default=zff x s i from yg _ hi']
  exact zwb (h.num _).1 (by omega) rfl c.1 b.1
theorem zya{x:MDat}{s i:Nat}{v:Int}(a:x.num (s*x.inp.toNat+i)=v)(h:x.part=true∧v%4=3):zff x s i=⟨-1,-1⟩:=by
 unfold zff zoq;rw [a,if_pos h]
theorem zyh{x:MDat}{s i:Nat}{v:Int}(b:x.num (s*x.inp.toNat+i)=v)(h:x.part=true→ ¬v%4=3):zff x s i=⟨v/4%x.n,v/4/x.n%x.out⟩:=by
 unfold zff zoq;rw [b,if_neg (fun a=>h a.1 a.2)]
theorem zj3{α:Type}(f:Nat→α)(k:Nat):(List.range (k+1)).map f=(List.range k).map f++[f k]:=by rw [List.range_succ,List.map_append];rfl
theorem zum{k:Nat}{a:Int}(b:k≤6)(c:1≤a∧a≤3):0≤(k:Int)*a∧(k:Int)*a≤18∧(k:Int)*a=((k*a.toNat:Nat):Int):=by
 have e:(k:Int)*a=((k*a.toNat:Nat):Int):=by rw [Int.natCast_mul,Int.toNat_of_nonneg (by omega)]
 have h:k*a.toNat≤6*3:=Nat.mul_le_mul b (by omega)
 exact⟨by omega,by omega,e⟩
end GV
end Go.Proofs.Ytdhccodneoebpaa

namespace Go.Proofs.Ytdhccodneoebpaa
namespace GV
/-! ### The order of words-/
def z6f:List Int→List Int→Prop
 |a::x,b::y=>a<b∨(a=b∧z6f x y)
 |_,_=>False
def llt(a b:List Int):Prop:=a.length<b.length∨(a.length=b.length∧z6f a b)
def lle(a b:List Int):Prop:=a=b∨llt a b
theorem z4v: ∀ a,¬z6f a a
 | [],h=>h
 |x::a,h=>by
  rcases h with h|⟨_,h⟩
  ·omega
  ·exact z4v a h
theorem z9j: ∀ {a b c},z6f a b→z6f b c→z6f a c
 | [],_,_,h,_=>h.elim
 |_::_,[],_,h,_=>h.elim
 |_::_,_::_,[],_,h=>h.elim
 |x::a,y::b,z::c,h,k=>by
  rcases h with h|⟨rfl,h⟩
  ·rcases k with k|⟨rfl,k⟩
   ·exact .inl (by omega)
   ·exact .inl h
  ·rcases k with k|⟨rfl,k⟩
   ·exact .inl k
   ·exact .inr ⟨rfl,z9j h k⟩
theorem z9q: ∀ {a b:List Int},a.length=b.length→z6f a b∨a=b∨z6f b a
 | [],[],_=> .inr (.inl rfl)
 | [],_::_,h=>by simp at h
 |_::_,[],h=>by simp at h
 |x::a,y::b,h=>by
  rcases Int.lt_trichotomy x y with e|rfl|e
  ·exact .inl (.inl e)
  ·rcases z9q (a:=a) (b:=b) (by simpa using h) with k|rfl|k
   ·exact .inl (.inr ⟨rfl,k⟩)
   ·exact .inr (.inl rfl)
   ·exact .inr (.inr (.inr ⟨rfl,k⟩))
  ·exact .inr (.inr (.inl e))
theorem zi7: ∀ {a b:List Int} (i j:Int),z6f a b→a.length=b.length→z6f (a++[i]) (b++[j])
 | [],_,_,_,h,_=>h.elim
 |_::_,[],_,_,h,_=>h.elim
 |x::a,y::b,i,j,h,c=>by
  rcases h with h|⟨rfl,h⟩
  ·exact .inl h
  ·exact .inr ⟨rfl,zi7 i j h (by simpa using c)⟩
theorem zhh: ∀ (a:List Int) {i j:Int},i<j→z6f (a++[i]) (a++[j])
 | [],_,_,h=> .inl h
 |_::a,_,_,h=> .inr ⟨rfl,zhh a h⟩
theorem zqh(a:List Int): ¬llt a a:=by
 rintro(h|⟨_,h⟩)
 ·omega
 ·exact z4v a h
theorem zau{a b c:List Int}(h:llt a b)(k:llt b c):llt a c:=by
 rcases h with h|⟨h,h'⟩
 ·rcases k with k|⟨k,_⟩
  ·exact .inl (by omega)
  ·exact .inl (by omega)
 ·rcases k with k|⟨k,k'⟩
  ·exact .inl (by omega)
  ·exact .inr ⟨by omega,z9j h' k'⟩
theorem ztf(a b:List Int):llt a b∨a=b∨llt b a:=by
 rcases Nat.lt_trichotomy a.length b.length with h|h|h
 ·exact .inl (.inl h)
 ·rcases z9q h with k|k|k
  ·exact .inl (.inr ⟨h,k⟩)
  ·exact .inr (.inl k)
  ·exact .inr (.inr (.inr ⟨h.symm,k⟩))
 ·exact .inr (.inr (.inl h))
theorem zo2{a b:List Int}(i j:Int)(h:llt a b):llt (a++[i]) (b++[j]):=by
 rcases h with h|⟨h,h'⟩
 ·exact .inl (by simp;omega)
 ·exact .inr ⟨by simp [h],zi7 i j h' h⟩
theorem zvu(a:List Int){i j:Int}(h:i<j):llt (a++[i]) (a++[j]):= .inr ⟨by simp,zhh a h⟩
theorem ztc{a b c:List Int}(h:lle a b)(k:lle b c):lle a c:=by
 rcases h with rfl|h
 ·exact k
 ·rcases k with rfl|k
  ·exact .inr h
  ·exact .inr (zau h k)
theorem zw1{a b:List Int}(i:Int)(h:lle a b):lle (a++[i]) (b++[i]):=by
 rcases h with rfl|h
 ·exact .inl rfl
 ·exact .inr (zo2 i i h)
theorem zrp{a b c:List Int}(h:lle a b)(k:llt b c):llt a c:=by
 rcases h with rfl|h
 ·exact k
 ·exact zau h k
theorem zet{a b:List Int}(h:lle a b): ¬llt b a:=fun k=>zqh _ (zrp h k)
/-! ### Entries-/
structure BE where
 st:Nat
 par:Int
 inp:Int
 wd:List Int
 deriving DecidableEq,Inhabited
def ed(m:Mach)(s i:Nat):Int:=((m.rows.getD s default).getD i default).to
def occ(All:List BE)(t:Nat):Bool:=All.any fun e=>decide (e.st=t)
theorem z9h{All:List BE}{t:Nat}:occ All t=true↔ ∃ j,j<All.length∧(All.getD j default).st=t:=by
 unfold occ
 rw [List.any_eq_true]
 constructor
 ·rintro⟨e,c,b⟩
  obtain⟨j,a,rfl⟩:=List.mem_iff_getElem.1 c
  exact⟨j,a,by simpa [List.getD_eq_getElem?_getD,a] using b⟩
 ·rintro⟨j,a,b⟩
  exact⟨_,z0x a,by simpa using b⟩
def push(m:Mach)(x:BE)(All:List BE)(i:Nat):List BE:=
 if ed m x.st i= -1 then All else if occ All (ed m x.st i).toNat=true then All else All++[⟨(ed m x.st i).toNat,x.st,i,x.wd++[(i:Int)]⟩]
def z4t(m:Mach)(x:BE)(All:List BE):Nat→List BE
 |0=>All
 |k+1=>push m x (z4t m x All k) k
def bfs(m:Mach):Nat→Nat→List BE→List BE
 |0,_,All=>All
 |g+1,p,All=>if p<All.length then bfs m g (p+1) (z4t m (All.getD p default) All m.inputs.toNat) else All
theorem z7h{m:Mach}(a:MOk m){s i:Nat}(b:s<m.rows.length)(hi:i<m.inputs.toNat):ed m s i= -1∨(0≤ed m s i∧ed m s i<m.rows.length):=by
 have:=zhy m a (s:Int) (i:Int) (.inr ⟨by omega,by omega⟩) ⟨by omega,by have:=a.i1;omega⟩
 have h:=this.1
 unfold z5a at h
 rw [if_neg (by omega)] at h
 exact h
theorem zy0(m:Mach)(x:BE)(All:List BE)(i:Nat):All<+:push m x All i:=by
 unfold push
 split
 ·exact List.prefix_refl _
 ·split
  ·exact List.prefix_refl _
  ·exact List.prefix_append _ _
theorem z9o(m:Mach)(x:BE)(All:List BE): ∀ k,All<+:z4t m x All k
 |0=>List.prefix_refl _
 |k+1=>(z9o m x All k).trans (zy0 m x _ k)
theorem zwe{X Y:List BE}(h:X<+:Y){j:Nat}(a:j<X.length):Y.getD j default=X.getD j default:=by
 obtain⟨t,rfl⟩:=h
 simp [List.getD_eq_getElem?_getD,List.getElem?_append_left a]
structure Inv (m:Mach) (s0 p k:Nat) (All:List BE):Prop where
 pos:0<All.length
 root:All.getD 0 default=⟨s0,-1,-1,[]⟩
 rng: ∀ j,j<All.length→(All.getD j default).st<m.rows.length
 dis: ∀ i j,i<All.length→j<All.length→(All.getD i default).st=(All.getD j default).st→i=j
 aft: ∀ j,j<All.length→z7n m s0 (All.getD j default).wd=((All.getD j default).st:Int)
 par: ∀ j,0<j→j<All.length→ ∃ q i,q<j∧i<m.inputs.toNat∧(All.getD j default).par=((All.getD q default).st:Int)∧(All.getD j default).inp=(i:Int)∧(All.getD j default).wd=(All.getD q default).wd++[(i:Int)]∧ed m (All.getD q default).st i=((All.getD j default).st:Int)
 inc: ∀ i j,i<j→j<All.length→llt (All.getD i default).wd (All.getD j default).wd
 bnd:p<All.length→ ∀ j,j<All.length→llt (All.getD j default).wd ((All.getD p default).wd++[(k:Int)])
 cls: ∀ q i,q<All.length→i<m.inputs.toNat→(q<p∨(q=p∧i<k))→ed m (All.getD q default).st i≠ -1→ ∃ j,j<All.length∧((All.getD j default).st:Int)=ed m (All.getD q default).st i∧lle (All.getD j default).wd ((All.getD q default).wd++[(i:Int)])
theorem zly{X:List BE}{e:BE}{j:Nat}(h:j<X.length):(X++[e]).getD j default=X.getD j default:=by
 simp [List.getD_eq_getElem?_getD,List.getElem?_append_left h]
theorem zkc{X:List BE}{e:BE}:(X++[e]).getD X.length default=e:=by
 simp [List.getD_eq_getElem?_getD]
theorem zxm{m:Mach}(z:MOk m){s0 p k:Nat}{All:List BE}(h:Inv m s0 p k All)(g:p<All.length)(y:k<m.inputs.toNat):Inv m s0 p (k+1) (push m (All.getD p default) All k):=by
 have r:=h.bnd g
 have hlast:llt ((All.getD p default).wd++[(k:Int)]) ((All.getD p default).wd++[((k+1:Nat):Int)]):=zvu _ (by omega)
 have hsame:(∀ q i,q=p→i=k→ed m (All.getD q default).st i≠ -1→ ∃ j,j<All.length∧((All.getD j default).st:Int)=ed m (All.getD q default).st i∧lle (All.getD j default).wd ((All.getD q default).wd++[(i:Int)]))→Inv m s0 p (k+1) All:=fun s=>
  {h with
   bnd:=fun _ j a=>zau (r j a) hlast
   cls:=fun q i f hi d c=>by
    rcases d with l|⟨rfl,l⟩
    ·exact h.cls q i f hi (.inl l) c
    ·by_cases e:i=k
     ·exact s q i rfl e c
     ·exact h.cls q i f hi (.inr ⟨rfl,by omega⟩) c}
 unfold push
 by_cases h1:ed m (All.getD p default).st k= -1
 ·rw [if_pos h1]
  exact hsame fun q i f hi c=>by subst f;subst hi;exact absurd h1 c
 ·rw [if_neg h1]
  have t:=z7h z (h.rng p g) y
  obtain⟨C,D⟩:=t.resolve_left h1
  by_cases h4:occ All (ed m (All.getD p default).st k).toNat=true
  ·rw [if_pos h4]
   refine hsame fun q i f hi c=>?_
   subst f;subst hi
   obtain⟨j,a,u⟩:=z9h.1 h4
   exact⟨j,a,by rw [u];omega,.inr (r j a)⟩
  ·rw [if_neg h4]
   have hnew: ∀ j,j<All.length→(All.getD j default).st≠(ed m (All.getD p default).st k).toNat:=fun j a e=>h4 (z9h.2 ⟨j,a,e⟩)
   have hlen:(All++[(⟨(ed m (All.getD p default).st k).toNat,((All.getD p default).st:Int),(k:Int),(All.getD p default).wd++[(k:Int)]⟩:BE)]).length=All.length+1:=by simp
   generalize hE:(⟨(ed m (All.getD p default).st k).toNat,((All.getD p default).st:Int),(k:Int),(All.getD p default).wd++[(k:Int)]⟩:BE)=e at hlen⊢
   have n:e.st=(ed m (All.getD p default).st k).toNat:=by rw [←hE]
   have A:e.par=((All.getD p default).st:Int):=by rw [←hE]
   have B:e.inp=(k:Int):=by rw [←hE]
   have o:e.wd=(All.getD p default).wd++[(k:Int)]:=by rw [←hE]
   have cs: ∀ j,j<(All++[e]).length→j<All.length∨j=All.length:=fun j a=>by rw [hlen] at a;omega
   have lt:=fun {j:Nat} (a:j<All.length)=>zly (e:=e) a
   have le:=zkc (X:=All) (e:=e)
   refine⟨by rw [hlen];omega,by rw [lt h.pos];exact h.root,fun j a=>?_,fun i j hi a b=>?_,fun j a=>?_,fun j v a=>?_,fun i j b a=>?_,fun _ j a=>?_,fun q i f hi d c=>?_⟩
   ·rcases cs j a with a|rfl
    ·rw [lt a];exact h.rng j a
    ·rw [le,n];omega
   ·rcases cs i hi with hi|rfl<;>rcases cs j a with a|rfl
    ·rw [lt hi,lt a] at b;exact h.dis i j hi a b
    ·rw [lt hi,le,n] at b;exact absurd b (hnew i hi)
    ·rw [le,lt a,n] at b;exact absurd b.symm (hnew j a)
    ·rfl
   ·rcases cs j a with a|rfl
    ·rw [lt a];exact h.aft j a
    ·rw [le,o,n,zcp,h.aft p g]
     show (z5a m ((All.getD p default).st:Int) (k:Int)).to=_
     unfold z5a
     rw [if_neg (by omega)]
     show ed m (All.getD p default).st k=_
     omega
   ·rcases cs j a with a|rfl
    ·obtain⟨q,i,w,x⟩:=h.par j v a
     exact⟨q,i,w,by rw [lt a,lt (by omega)];exact x⟩
    ·refine⟨p,k,g,y,?_⟩
     rw [le,lt g,n,A,B,o]
     exact⟨rfl,rfl,rfl,by omega⟩
   ·rcases cs j a with a|rfl
    ·rw [lt a,lt (by omega)];exact h.inc i j b a
    ·rw [le,lt b,o];exact r i b
   ·rw [lt g]
    rcases cs j a with a|rfl
    ·rw [lt a];exact zau (r j a) hlast
    ·rw [le,o];exact hlast
   ·have hq':q<All.length:=by rcases d with l|⟨rfl,_⟩<;>omega
    rw [lt hq'] at c⊢
    by_cases s:q=p∧i=k
    ·obtain⟨rfl,rfl⟩:=s
     exact⟨All.length,by rw [hlen];omega,by rw [le,n];omega,by rw [le,o];exact .inl rfl⟩
    ·obtain⟨j,a,w,x⟩:=h.cls q i hq' hi (by rcases d with l|⟨rfl,l⟩;exact .inl l;exact .inr ⟨rfl,by omega⟩) c
     exact⟨j,by rw [hlen];omega,by rw [lt a];exact w,by rw [lt a];exact x⟩
theorem zmw{m:Mach}(a:MOk m){s0 p:Nat}{All:List BE}(h:Inv m s0 p 0 All)(b:p<All.length): ∀ k,k≤m.inputs.toNat→Inv m s0 p k (z4t m (All.getD p default) All k)
 |0,_=>h
 |k+1,c=>by
  have ih:=zmw a h b k (by omega)
  have hpre:=z9o m (All.getD p default) All k
  have e:(z4t m (All.getD p default) All k).getD p default=All.getD p default:=zwe hpre b
  have:=zxm a ih (by have:=hpre.length_le;omega) (by omega)
  rw [e] at this
  exact this
theorem zox{m:Mach}{s0 p:Nat}{All:List BE}(h:Inv m s0 p m.inputs.toNat All)(c:p<All.length):Inv m s0 (p+1) 0 All:=
 {h with
  bnd:=fun hp' j d=>zau (h.bnd c j d) (zo2 _ _ (h.inc p (p+1) (by omega) hp'))
  cls:=fun q i e hi a b=>h.cls q i e hi (by rcases a with f|⟨_,f⟩;exact(Nat.lt_or_ge q p).imp id fun _=>⟨by omega,hi⟩;omega) b}
theorem zh6{m:Mach}{s0 p k:Nat}{All:List BE}(h:Inv m s0 p k All):All.length≤m.rows.length:=by
 have b:(All.map (·.st)).Nodup:=by
  rw [List.nodup_iff_pairwise_ne,List.pairwise_iff_getElem]
  intro i j hi a c e
  rw [List.length_map] at hi a
  rw [List.getElem_map,List.getElem_map] at e
  have:=h.dis i j hi a (by simpa [List.getD_eq_getElem?_getD,a,hi] using e)
  omega
 have hsub:(All.map (·.st))⊆List.range m.rows.length:=by
  intro x d
  obtain⟨e,f,rfl⟩:=List.mem_map.1 d
  obtain⟨j,a,rfl⟩:=List.mem_iff_getElem.1 f
  have:=h.rng j a
  rw [List.mem_range]
  simpa [List.getD_eq_getElem?_getD,a] using this
 have:=List.Nodup.length_le_of_subset b hsub
 simpa using this
theorem zrr{m:Mach}(a:MOk m){s0:Nat}: ∀ (g p:Nat) (All:List BE),p+g=m.rows.length→p≤All.length→Inv m s0 p 0 All→ ∃ q,(bfs m g p All).length≤q∧Inv m s0 q 0 (bfs m g p All)
 |0,p,All,b,c,h=>⟨p,by have:=zh6 h;show All.length≤p;omega,h⟩
 |g+1,p,All,b,c,h=>by
  unfold bfs
  by_cases hlt:p<All.length
  ·rw [if_pos hlt]
   have d:=zmw a h hlt _ (Nat.le_refl _)
   have hpre:=(z9o m (All.getD p default) All m.inputs.toNat).length_le
   exact zrr a g (p+1) _ (by omega) (by omega) (zox d (by omega))
  ·rw [if_neg hlt]
   exact⟨p,by omega,h⟩
def rch(m:Mach)(s0:Nat):List BE:=bfs m m.rows.length 0 [⟨s0,-1,-1,[]⟩]
structure Rch (m:Mach) (s0:Nat) (P:List BE):Prop where
 pos:0<P.length
 le:P.length≤m.rows.length
 root:P.getD 0 default=⟨s0,-1,-1,[]⟩
 rng: ∀ j,j<P.length→(P.getD j default).st<m.rows.length
 dis: ∀ i j,i<P.length→j<P.length→(P.getD i default).st=(P.getD j default).st→i=j
 aft: ∀ j,j<P.length→z7n m s0 (P.getD j default).wd=((P.getD j default).st:Int)
 par: ∀ j,0<j→j<P.length→ ∃ q i,q<j∧i<m.inputs.toNat∧(P.getD j default).par=((P.getD q default).st:Int)∧(P.getD j default).inp=(i:Int)∧(P.getD j default).wd=(P.getD q default).wd++[(i:Int)]∧ed m (P.getD q default).st i=((P.getD j default).st:Int)
 inc: ∀ i j,i<j→j<P.length→llt (P.getD i default).wd (P.getD j default).wd
 cls: ∀ q i,q<P.length→i<m.inputs.toNat→ed m (P.getD q default).st i≠ -1→ ∃ j,j<P.length∧((P.getD j default).st:Int)=ed m (P.getD q default).st i∧lle (P.getD j default).wd ((P.getD q default).wd++[(i:Int)])
theorem znb{m:Mach}{s0:Nat}(b:s0<m.rows.length):Inv m s0 0 0 [⟨s0,-1,-1,[]⟩]:=by
 have c: ∀ j,j<[(⟨s0,-1,-1,[]⟩:BE)].length→j=0:=fun j a=>by simpa using a
 refine⟨by simp,rfl,fun j a=>?_,fun i j hi a _=>?_,fun j a=>?_,fun j h a=>?_,fun i j d a=>?_,fun _ j a=>?_,fun q i e hi f g=>?_⟩
 ·rw [c j a];exact b
 ·rw [c i hi,c j a]
 ·rw [c j a];rfl
 ·have:=c j a;omega
 ·have:=c j a;omega
 ·rw [c j a];exact .inl (by simp)
 ·have:=c q e;omega
theorem zr3{m:Mach}(b:MOk m){s0:Nat}(c:s0<m.rows.length):Rch m s0 (rch m s0):=by
 obtain⟨q,d,h⟩:=zrr b m.rows.length 0 _ (by omega) (by simp) (znb c)
 exact⟨h.pos,zh6 h,h.root,h.rng,h.dis,h.aft,h.par,h.inc,fun q' i hq' hi a=>h.cls q' i hq' hi (.inl (Nat.lt_of_lt_of_le hq' d)) a⟩
section rch
variable {m : Mach} {s0 : Nat} {P : List BE}
theorem Rch.wok(h:Rch m s0 P): ∀ j,j<P.length→WOk m.inputs (P.getD j default).wd∧(P.getD j default).wd.length≤j
 |j,b=>by
  by_cases h0:j=0
  ·subst h0;rw [h.root];exact⟨fun k a=>by simp at a,by simp⟩
  ·obtain⟨q,i,d,hi,_,_,c,_⟩:=h.par j (by omega) b
   obtain⟨ih,ihl⟩:=Rch.wok h q (by omega)
   rw [c]
   refine⟨fun k a=>?_,by rw [List.length_append,List.length_singleton];omega⟩
   rw [List.length_append,List.length_singleton] at a
   by_cases hk':k<(P.getD q default).wd.length
   ·rw [List.getD_eq_getElem?_getD,List.getElem?_append_left hk',←List.getD_eq_getElem?_getD];exact ih k hk'
   ·have:k=(P.getD q default).wd.length:=by omega
    subst this
    rw [List.getD_eq_getElem?_getD,List.getElem?_concat_length]
    exact⟨by simp,by simp only [Option.getD_some];omega⟩
theorem zx5{n c:Int}{u:List Int}(h:WOk n (u++[c])):WOk n u∧0≤c∧c<n:=by
 refine⟨fun k a=>?_,?_⟩
 ·have:=h k (by simp;omega)
  rwa [List.getD_eq_getElem?_getD,List.getElem?_append_left a,←List.getD_eq_getElem?_getD] at this
 ·have:=h u.length (by simp)
  rwa [List.getD_eq_getElem?_getD,List.getElem?_concat_length] at this
theorem zii(m:Mach): ∀ (w:List Int),z7n m (-1) w= -1
 | []=>rfl
 |c::w=>by
  show z7n m (z5a m (-1) c).to w= -1
  rw [show z5a m (-1) c=⟨-1,-1⟩ from rfl]
  exact zii m w
theorem Rch.least(i:MOk m)(h:Rch m s0 P): ∀ (n:Nat) (w:List Int),w.length=n→WOk m.inputs w→z7n m s0 w≠ -1→ ∃ j,j<P.length∧((P.getD j default).st:Int)=z7n m s0 w∧lle (P.getD j default).wd w
 |0,w,b,g,a=>by
  have:w=[]:=List.length_eq_zero_iff.1 b
  subst this
  exact⟨0,h.pos,by rw [h.root];rfl,by rw [h.root];exact .inl rfl⟩
 |n+1,w,b,g,a=>by
  obtain⟨u,c,rfl⟩: ∃ u c,w=u++[c]:=⟨w.dropLast,w.getLast (by intro e;rw [e] at b;simp at b),(List.dropLast_concat_getLast _).symm⟩
  obtain⟨k,l,o⟩:=zx5 g
  rw [zcp] at a⊢
  have hune:z7n m s0 u≠ -1:=fun e=>by rw [e,zii] at a;exact a rfl
  obtain⟨q,p,d,f⟩:=Rch.least i h n u (by simpa using b) k hune
  rw [←d] at a⊢
  have hstep:z7n m ((P.getD q default).st:Int) [c]=ed m (P.getD q default).st c.toNat:=by
   show (z5a m ((P.getD q default).st:Int) c).to=_
   unfold z5a
   rw [if_neg (by omega)]
   rfl
  rw [hstep] at a⊢
  obtain⟨j,r,s,t⟩:=h.cls q c.toNat p (by omega) a
  refine⟨j,r,s,ztc t ?_⟩
  rw [show ((c.toNat:Nat):Int)=c by omega]
  exact zw1 c f
theorem Rch.min(b:MOk m)(h:Rch m s0 P){j:Nat}(c:j<P.length){w:List Int}(d:WOk m.inputs w)(a:z7n m s0 w=((P.getD j default).st:Int)):lle (P.getD j default).wd w:=by
 obtain⟨i,hi,e,f⟩:=h.least b _ w rfl d (by rw [a];omega)
 rw [a] at e
 have:=h.dis i j hi c (by omega)
 subst this
 exact f
end rch
end GV
end Go.Proofs.Ytdhccodneoebpaa

namespace Go.Proofs.Ytdhccodneoebpaa
namespace GV
set_option maxRecDepth 100000
theorem q26{N:Nat}{s:List Edge}{f:Edge→Option Bool}{p:Edge→Bool}(b: ∀ k,k<s.length→f (s.getD k default)=some (p (s.getD k default)))(c:s.length<N)(d:s.length≤4611686018427387904):
 oq N s f=some (zk7 p s):=by
 have h:um N s f N 0=some (if s.any p=true then Ex.rt (zk7 p s) else Ex.go ()):=by
  refine bz (σ:=Unit) (fun F k _=>um N s f F (k:Int)) s.length (fun k _=>(s.take k).any p=false) _ (fun F k _ a hi=>?_) (fun F _ hi=>?_) N 0 () (Nat.zero_le _) (by omega) (by simp)
  ·simp only [um]
   rw [bu (by omega),zh (qg a),ug,qf (b k a)]
   cases hp:p (s.getD k default)
   ·right
    refine⟨(),by rw [zes p s k a,hi,hp];rfl,?_⟩
    rw [cf rfl,zh (qo (by omega))];rfl
   ·left
    rw [ct rfl,if_pos (List.any_eq_true.2 ⟨_,z0x a,hp⟩),zjv p s k a hi hp]
  ·simp only [um]
   rw [ym (by omega),if_neg (by rw [List.take_length] at hi;rw [hi];decide)]
 unfold oq
 rw [qf h]
 by_cases ha:s.any p=true
 ·rw [if_pos ha];rfl
 ·rw [if_neg ha,zkp p s (by simpa using ha)];rfl
theorem ztj{N:Nat}{s:List Edge}{f:Edge→Option Bool}{p:Edge→Bool}(a: ∀ k,k<s.length→f (s.getD k default)=some (p (s.getD k default)))(b:s.length<N)(c:s.length≤4611686018427387904):
 nu N s f=some (s.any p):=by
 unfold nu
 rw [qf (q26 a b c),zsw]
theorem zpg{N:Nat}{m:Mach}(b:Small m)(f:200≤N):z2o N m=some (z4a m):=by
 unfold z2o
 by_cases h:(16<m.inputs∨16<m.outputs)∨64<m.rows.length
 ·rw [ct (by simp;omega),zy1 h]
 ·rw [cf (by simp;omega)]
  by_cases h1:(m.inputs<1∨m.outputs<1)∨m.rows.length<1
  ·rw [ct (by simp;omega),zwa h h1]
  ·rw [cf (by simp;omega)]
   have g:=b.r
   have d:mi N m N 0=some (if m.rows.any (z81 m)=true then Ex.rt 1 else Ex.go ()):=by
    refine bz (σ:=Unit) (fun F k _=>mi N m F (k:Int)) m.rows.length (fun k _=>(m.rows.take k).any (z81 m)=false) _ (fun F k _ a hi=>?_) (fun F _ hi=>?_) N 0 () (Nat.zero_le _) (by omega) (by simp)
    ·simp only [mi]
     have i:=b.c k a
     rw [bu (by omega),zh (qg a),ug,z7z (fun _=>ztj (p:=fun x=> !zng m x) (fun j l=>rfl) (by omega) (by omega))]
     have e:(decide (((m.rows.getD k default).length:Int)≠m.inputs)||((bif (true&&(decide (((m.rows.getD k default).length:Int)≠m.inputs)==false)) then some ((m.rows.getD k default).any fun x=> !zng m x) else none).getD default))=z81 m (m.rows.getD k default):=by
      unfold z81
      cases decide (((m.rows.getD k default).length:Int)≠m.inputs)<;>rfl
     rw [e]
     cases hr:z81 m (m.rows.getD k default)
     ·right
      refine⟨(),by rw [zes _ _ k a,hi,hr];rfl,?_⟩
      rw [cf rfl,zh (qo (by omega))];rfl
     ·left
      rw [ct rfl,if_pos (List.any_eq_true.2 ⟨_,z0x a,hr⟩)]
    ·simp only [mi]
     rw [ym (by omega),if_neg (by rw [List.take_length] at hi;rw [hi];decide)]
   rw [qf d]
   by_cases ha:m.rows.any (z81 m)=true
   ·rw [if_pos ha];unfold z4a;rw [if_neg h,if_neg h1,if_pos ha];rfl
   ·rw [if_neg ha,zvz h h1 (by simpa using ha)];rfl
/-! ### Words-/
theorem zz0{N:Nat}{m:Mach}(a:MOk m){s i:Int}(b:SOk m s)(hi:0≤i∧i<m.inputs):z18 N m s i=some (z5a m s i):=by
 unfold z18 z5a
 rcases b with h|h
 ·rw [h];rfl
 ·have hrow:=a.row s.toNat (by omega)
  rw [ym (by omega),if_neg (by omega),zh h,zh (show okI (ix m.rows s) i from⟨hi.1,by rw [zct,hrow];exact hi.2⟩)];rfl
theorem zrc{N:Nat}{m:Mach}(a:MOk m): ∀ (F:Nat) (s:Int) (w:List Int),SOk m s→WOk m.inputs w→w.length<F→nz N F m s w=some (z7n m s w)
 |0,s,w,_,_,h=>by omega
 |F+1,s,[],b,_,_=>rfl
 |F+1,s,i::w,b,c,h=>by
  have hi:0≤i∧i<m.inputs:=by simpa using c 0 (by simp)
  simp only [nz]
  rw [ym (by simp;omega),zh (show okI (i::w) 0 from qg (k:=0) (by simp))]
  refine Eq.trans (qf (zz0 a b (show 0≤i∧i<m.inputs from hi))) ?_
  rw [zh ⟨by omega,by simp;omega,by simp⟩]
  have d:cut (i::w) 1 (((i::w).length:Nat):Int)=w:=by simp [cut]
  rw [d]
  refine Eq.trans (qf (zrc (N:=N) a F _ w (zhy m a s i b hi).1 (fun k e=>by simpa using c (k+1) (by simpa using e)) (by simpa using h))) ?_
  rfl
/-! ### Data-/
theorem q0x{N:Nat}{x:MDat}(b:MDOk x)(o:200≤N){s:Nat}(p:s<6):xk N x (s:Int) N [] 0=some (zlw x s):=by
 have q:=b.st;have r:=b.ins;have t:=b.outs
 have hinp:x.inp=1+x.ins%3:=rfl
 refine bz (fun F i acc=>xk N x (s:Int) F acc (i:Int)) x.inp.toNat (fun i acc=>acc=(List.range i).map (zff x s)) _ (fun F i acc hi hacc=> .inr ?_) (fun F acc hacc=>?_) N 0 [] (Nat.zero_le _) (by omega) rfl
 ·subst hacc
  refine⟨_,rfl,?_⟩
  have g:=zum (k:=s) (a:=x.inp) (by omega) (by omega)
  have j:(s:Int)*((1:Int)+x.ins%3)+(i:Int)=((s*x.inp.toNat+i:Nat):Int):=by
   rw [←hinp,g.2.2];rfl
  have hnum:=b.num (s*x.inp.toNat+i)
  simp only [xk]
  rw [bu (by omega)]
  have l:(gd (in64 ((s:Int)*((1:Int)+(x.ins%3))))<|gd (in64 (((s:Int)*((1:Int)+(x.ins%3)))+(i:Int)))<|bif decide (((s:Int)*((1:Int)+(x.ins%3)))+(i:Int)<(x.edges.length:Int)) then(gd (okI x.edges (((s:Int)*((1:Int)+(x.ins%3)))+(i:Int)))<|gd (in64 (ix x.edges (((s:Int)*((1:Int)+(x.ins%3)))+(i:Int))))<|some (ix x.edges (((s:Int)*((1:Int)+(x.ins%3)))+(i:Int)))) else(some (0:Int)))=some (x.num (s*x.inp.toNat+i)):=by
   rw [zh (qo (by rw [←hinp];omega)),j,zh (qo (by omega))]
   unfold MDat.num
   by_cases hk:s*x.inp.toNat+i<x.edges.length
   ·have m:=b.ed _ hk
    rw [bu (by omega),if_pos hk,zh (qg hk),zh (show in64 (ix x.edges ((s*x.inp.toNat+i:Nat):Int)) from qo (show-4611686018427387904≤x.edges.getD (s*x.inp.toNat+i) default∧x.edges.getD (s*x.inp.toNat+i) default≤4611686018427387904 by omega))];rfl
   ·rw [ym (by omega),if_neg hk]
  have hacc:((List.range i).map (zff x s)).length=i:=by simp
  refine Eq.trans (qf (x:=(List.range (i+1)).map (zff x s)) (Eq.trans (qf l) ?_)) ?_
  ·rw [zh (fun _=>⟨hnum.1,by omega⟩),zj3]
   by_cases hp:x.part=true∧x.num (s*x.inp.toNat+i)%4=3
   ·rw [ct (by rw [hp.1,decide_eq_true hp.2];rfl),zh ⟨by rw [hacc];simp;omega,by rw [hacc];simp;omega⟩,zya rfl hp]
   ·have c:x.n=1+x.states%6:=rfl
    have d:x.out=1+x.outs%3:=rfl
    have e:0≤x.num (s*x.inp.toNat+i)/4:=by omega
    have f:0≤x.num (s*x.inp.toNat+i)/4/x.n:=Int.ediv_nonneg e (by omega)
    rw [cf (by
     rw [Bool.and_eq_false_iff]
     by_cases h:x.part=true
     ·exact .inr (decide_eq_false fun h'=>hp ⟨h,h'⟩)
     ·exact .inl (by simpa using h)),←c,←d,zh ⟨by omega,by omega,by omega⟩,zh ⟨e,by omega⟩,zh ⟨by omega,by omega,by omega⟩,zh ⟨e,by omega,by omega⟩,zh ⟨f,by omega⟩,zh ⟨by rw [hacc];simp;omega,by rw [hacc];simp;omega⟩,zyh rfl (fun h h'=>hp ⟨h,h'⟩)]
  ·rw [zh (qo (by omega))];rfl
 ·subst hacc
  simp only [xk]
  rw [ym (by omega)];rfl
theorem q29{N:Nat}{x:MDat}(a:MDOk x)(b:200≤N):z1c N x=some (mOf x):=by
 have d:=a.st;have e:=a.ins;have f:=a.outs
 have c:x.n=1+x.states%6:=rfl
 unfold z1c
 rw [zh ⟨by omega,by omega⟩,zh (qo (by omega)),zh (qo (by omega)),zh ⟨by omega,by omega⟩,zh (qo (by omega)),zh (qo (by omega)),zh ⟨by omega,by omega⟩,zh (qo (by omega)),zh (qo (by omega))]
 refine Eq.trans (qf (x:=(List.range x.n.toNat).map (zlw x)) ?_) rfl
 refine bz (fun F s acc=>pz N x F (s:Int) acc) x.n.toNat (fun s acc=>acc=(List.range s).map (zlw x)) _ (fun F s acc g hacc=> .inr ?_) (fun F acc hacc=>?_) N 0 [] (Nat.zero_le _) (by omega) rfl
 ·subst hacc
  refine⟨_,rfl,?_⟩
  simp only [pz]
  rw [bu (by omega),qf (q0x a b (by omega)),zh ⟨by simp;omega,by simp;omega⟩,zh (qo (by omega)),zj3];rfl
 ·subst hacc
  simp only [pz]
  rw [ym (by omega)]
end GV
end Go.Proofs.Ytdhccodneoebpaa

namespace Go.Proofs.Ytdhccodneoebpaa
namespace GV
set_option maxRecDepth 100000
def z1e(n:Nat)(All:List BE):List Bool:=(List.range n).map fun s=>occ All s
theorem z4q(n:Nat)(All:List BE):(z1e n All).length=n:=by simp [z1e]
theorem zak{n:Nat}{All:List BE}{t:Nat}(h:t<n):(z1e n All).getD t default=occ All t:=by
 simp [z1e,List.getD_eq_getElem?_getD,h]
theorem zw0(All:List BE)(e:BE)(t:Nat):occ (All++[e]) t=(occ All t||decide (e.st=t)):=by simp [occ]
theorem zua{n:Nat}{All:List BE}{e:BE}(h:e.st<n):(z1e n All).set e.st true=z1e n (All++[e]):=by
 refine z5c (by rw [List.length_set,z4q,z4q]) fun k a=>?_
 rw [List.length_set,z4q] at a
 rw [zak a,zw0,List.getD_eq_getElem?_getD,List.getElem?_set]
 by_cases hek:e.st=k
 ·subst hek
  rw [if_pos rfl,z4q,if_pos h];simp
 ·rw [if_neg hek,←List.getD_eq_getElem?_getD,zak a];simp [hek]
theorem zsm{n:Nat}{All:List BE}{t:Int}(a:0≤t)(h:t<n):ix (z1e n All) t=occ All t.toNat:=by
 rw [zct,zak (by omega)]
theorem zex{m:Mach}{g p:Nat}{All:List BE}(h: ¬p<All.length):bfs m g p All=All:=by
 cases g with
 |zero=>rfl
 |succ g=>unfold bfs;rw [if_neg h]
end GV
end Go.Proofs.Ytdhccodneoebpaa

namespace Go.Proofs.Ytdhccodneoebpaa
namespace GV
set_option maxRecDepth 100000
def wdOf(P:List BE)(t:Nat):List Int:=((P.find? fun e=>decide (e.st=t)).map (·.wd)).getD []
def ru(n:Nat)(P:List BE):List (List Int):=(List.range n).map (wdOf P)
theorem z1d(n:Nat)(P:List BE):(ru n P).length=n:=by simp [ru]
theorem z6s{n:Nat}{P:List BE}{t:Nat}(h:t<n):(ru n P).getD t default=wdOf P t:=by
 simp [ru,List.getD_eq_getElem?_getD,h]
theorem zkk(P:List BE)(e:BE)(t:Nat):wdOf (P++[e]) t=if occ P t=true then wdOf P t else if e.st=t then e.wd else []:=by
 unfold wdOf occ
 rw [List.find?_append]
 by_cases h:(P.any fun e=>decide (e.st=t))=true
 ·rw [if_pos h]
  obtain⟨x,a,b⟩:=List.any_eq_true.1 h
  cases hf:P.find? (fun e=>decide (e.st=t)) with
  |none=>exact absurd b (by simpa using List.find?_eq_none.1 hf x a)
  |some y=>rfl
 ·rw [if_neg h]
  have c:P.find? (fun e=>decide (e.st=t))=none:=List.find?_eq_none.2 fun x a b=>h (List.any_eq_true.2 ⟨x,a,b⟩)
  rw [c]
  by_cases he:e.st=t
  ·simp [he]
  ·simp [he]
theorem zuj{P:List BE}{t:Nat}(h:occ P t=false):wdOf P t=[]:=by
 unfold wdOf occ at*
 have a:P.find? (fun e=>decide (e.st=t))=none:=List.find?_eq_none.2 fun x b c=>by
  have:(P.any fun e=>decide (e.st=t))=true:=List.any_eq_true.2 ⟨x,b,c⟩
  rw [h] at this;cases this
 rw [a];rfl
theorem zqv{n:Nat}{P:List BE}{e:BE}(b:e.st<n)(c:occ P e.st=false):(ru n P).set e.st e.wd=ru n (P++[e]):=by
 refine z5c (by rw [List.length_set,z1d,z1d]) fun k a=>?_
 rw [List.length_set,z1d] at a
 rw [z6s a,zkk,List.getD_eq_getElem?_getD,List.getElem?_set]
 by_cases hek:e.st=k
 ·subst hek
  rw [if_pos rfl,z1d,if_pos b,c];simp
 ·rw [if_neg hek,←List.getD_eq_getElem?_getD,z6s a,if_neg hek]
  by_cases h:occ P k=true
  ·rw [if_pos h]
  ·rw [if_neg h,zuj (Bool.eq_false_iff.2 h)]
theorem ze6(P:List BE)(k:Nat)(h:k<P.length):P.take (k+1)=P.take k++[P.getD k default]:=by
 rw [List.take_add_one];simp [List.getD_eq_getElem?_getD,h]
section rch
variable {m : Mach} {s0 : Nat} {P : List BE}
theorem Rch.find(h:Rch m s0 P){j:Nat}: ∀ k,k≤P.length→j<k→wdOf (P.take k) (P.getD j default).st=(P.getD j default).wd
 |0,_,c=>by omega
 |k+1,f,c=>by
  rw [ze6 P k (by omega),zkk]
  by_cases e:j=k
  ·subst e
   have a:occ (P.take j) (P.getD j default).st=false:=by
    cases hc:occ (P.take j) (P.getD j default).st with
    |false=>rfl
    |true=>
     obtain⟨i,hi,b⟩:=z9h.1 hc
     rw [List.length_take] at hi
     have d:(P.take j).getD i default=P.getD i default:=by simp only [List.getD_eq_getElem?_getD,List.getElem?_take,if_pos (show i<j by omega)]
     rw [d] at b
     have:=h.dis i j (by omega) (by omega) b
     omega
   rw [a,if_neg (by decide),if_pos rfl]
  ·have ih:=Rch.find h k (by omega) (show j<k by omega)
   have a:occ (P.take k) (P.getD j default).st=true:=z9h.2 ⟨j,by rw [List.length_take];omega,by simp only [List.getD_eq_getElem?_getD,List.getElem?_take,if_pos (show j<k by omega)]⟩
   rw [if_pos a,ih]
theorem Rch.fresh(h:Rch m s0 P){k:Nat}(b:k<P.length):occ (P.take k) (P.getD k default).st=false:=by
 cases hc:occ (P.take k) (P.getD k default).st with
 |false=>rfl
 |true=>
  obtain⟨i,hi,a⟩:=z9h.1 hc
  rw [List.length_take] at hi
  have c:(P.take k).getD i default=P.getD i default:=by simp only [List.getD_eq_getElem?_getD,List.getElem?_take,if_pos (show i<k by omega)]
  rw [c] at a
  have:=h.dis i k (by omega) b a
  omega
theorem Rch.wdOf(h:Rch m s0 P){j:Nat}(a:j<P.length):wdOf P (P.getD j default).st=(P.getD j default).wd:=by
 have:=h.find P.length (Nat.le_refl _) a
 rwa [List.take_length] at this
end rch
end GV
end Go.Proofs.Ytdhccodneoebpaa

namespace Go.Proofs.Ytdhccodneoebpaa
namespace GV
set_option maxRecDepth 100000
def nxt(K:Int):List Int→Option (List Int)
 | []=>none
 |d::r=>match nxt K r with
  |some r'=>some (d::r')
  |none=>if d+1<K then some ((d+1)::List.replicate r.length 0) else none
def z7o(K:Int)(w:List Int):List Int:=(nxt K w).getD (List.replicate w.length 0++[0])
def Dg(K:Int)(w:List Int):Prop:= ∀ d∈w,0≤d∧d<K
theorem zqy{K:Int}{w:List Int}:Dg K w↔WOk K w:=by
 constructor
 ·intro h k a;exact h _ (z0x a)
 ·intro h d b
  obtain⟨k,a,rfl⟩:=List.mem_iff_getElem.1 b
  have:=h k a
  simpa [List.getD_eq_getElem?_getD,a] using this
theorem zc9: ∀ {v:List Int} {n:Nat},(∀ d∈v,0≤d)→ ¬z6f v (List.replicate n 0)
 | [],_,_,h=>h
 |_::_,0,_,h=>h
 |d::v,n+1,a,h=>by
  rw [List.replicate_succ] at h
  have:=a d (by simp)
  rcases h with h|⟨_,h⟩
  ·omega
  ·exact zc9 (fun x b=>a x (by simp [b])) h
theorem zhj{K:Int}: ∀ {w v:List Int},nxt K w=none→Dg K v→ ¬z6f w v
 | [],_,_,_,h=>h
 |_::_,[],_,_,h=>h
 |d::r,e::v,a,b,h=>by
  unfold nxt at a
  cases hr:nxt K r with
  |some r'=>rw [hr] at a;cases a
  |none=>
   rw [hr] at a
   simp only at a
   split at a
   ·cases a
   ·have:=b e (by simp)
    rcases h with h|⟨_,h⟩
    ·omega
    ·exact zhj hr (fun x c=>b x (by simp [c])) h
theorem zis{K:Int}: ∀ {w u:List Int},nxt K w=some u→u.length=w.length∧(Dg K w→Dg K u)∧z6f w u∧ ∀ v,Dg K v→z6f v u→ ¬z6f w v
 | [],_,h=>by cases h
 |d::r,u,h=>by
  unfold nxt at h
  cases hr:nxt K r with
  |some r'=>
   rw [hr] at h
   simp only [Option.some.injEq] at h
   subst h
   obtain⟨i,j,k,l⟩:=zis hr
   refine⟨by simp [i],fun c x b=>?_,.inr ⟨rfl,k⟩,fun v g a hlt'=>?_⟩
   ·rcases List.mem_cons.1 b with rfl|b
    ·exact c _ (by simp)
    ·exact j (fun y m=>c y (by simp [m])) x b
   ·cases v with
    |nil=>exact a
    |cons e v=>
     rcases a with a|⟨rfl,a⟩
     ·rcases hlt' with hlt'|⟨rfl,_⟩<;>omega
     ·rcases hlt' with hlt'|⟨_,hlt'⟩
      ·omega
      ·exact l v (fun x b=>g x (by simp [b])) a hlt'
  |none=>
   rw [hr] at h
   simp only at h
   split at h
   ·rename_i hK
    simp only [Option.some.injEq] at h
    subst h
    refine⟨by simp,fun c x b=>?_,.inl (by omega),fun v g a hlt'=>?_⟩
    ·rcases List.mem_cons.1 b with rfl|b
     ·have:=c d (by simp);omega
     ·have:=(List.mem_replicate.1 b).2
      have:=c d (by simp);omega
    ·cases v with
     |nil=>exact a
     |cons e v=>
      have f:Dg K v:=fun x b=>g x (by simp [b])
      rcases a with a|⟨rfl,a⟩
      ·rcases hlt' with hlt'|⟨rfl,hlt'⟩
       ·omega
       ·exact zhj hr f hlt'
      ·exact zc9 (fun x b=>(f x b).1) a
   ·cases h
theorem zp4{K:Int}(q:1≤K){w:List Int}(i:Dg K w):Dg K (z7o K w)∧llt w (z7o K w)∧ ∀ v,Dg K v→llt v (z7o K w)→lle v w:=by
 unfold z7o
 cases h:nxt K w with
 |some u=>
  obtain⟨j,l,m,n⟩:=zis h
  refine⟨l i,.inr ⟨j.symm,m⟩,fun v f c=>?_⟩
  rcases c with c|⟨g,c⟩
  ·exact .inr (.inl (by simp only [Option.getD_some] at c;omega))
  ·simp only [Option.getD_some] at g c
   rcases z9q (a:=v) (b:=w) (by omega) with k|rfl|k
   ·exact .inr (.inr ⟨by omega,k⟩)
   ·exact .inl rfl
   ·exact absurd k (n v f c)
 |none=>
  simp only [Option.getD_none]
  have e:List.replicate w.length (0:Int)++[0]=List.replicate (w.length+1) 0:=by rw [List.replicate_succ']
  rw [e]
  refine⟨fun d o=>by rw [(List.mem_replicate.1 o).2];omega,.inl (by simp),fun v f c=>?_⟩
  rcases c with c|⟨g,c⟩
  ·rw [List.length_replicate] at c
   by_cases hvl:v.length=w.length
   ·rcases z9q hvl with k|rfl|k
    ·exact .inr (.inr ⟨hvl,k⟩)
    ·exact .inl rfl
    ·exact absurd k (zhj h f)
   ·exact .inr (.inl (by omega))
  ·exact absurd c (zc9 fun x p=>(f x p).1)
theorem zs5{K:Int}{b b':List Int}(h:nxt K b=some b'): ∀ a:List Int,nxt K (a++b)=some (a++b')
 | []=>h
 |d::a=>by
  show (match nxt K (a++b) with|some r'=>some (d::r')|none=>_)=_
  rw [zs5 h a];rfl
theorem zyd{K:Int}{w:List Int}:w.length≤(z7o K w).length∧(z7o K w).length≤w.length+1:=by
 unfold z7o
 cases h:nxt K w with
 |some u=>have:=(zis h).1;simp only [Option.getD_some];omega
 |none=>simp
theorem set_mid{A B:List Int}{c v:Int}:((A++[c])++B).set A.length v=A++v::B:=by
 rw [List.append_assoc,List.set_append_right _ _ (Nat.le_refl _),Nat.sub_self];rfl
theorem zxf{N:Nat}{K:Int}{w:List Int}(o:w.length<N)(q:w.length≤100000)(l:Dg K w)(r:K≤1000):lv N w K=some (z7o K w):=by
 unfold lv
 have f:fits 8 ([]:List Int) w:=⟨by simp only [List.length_nil];omega,by simp only [List.length_nil];omega⟩
 rw [zh f,List.nil_append]
 have m:yc N K N ((w.length:Int)-1) w=some (match nxt K w with|some u=>Ex.rt u|none=>Ex.go (List.replicate w.length 0)):=by
  have key:=bz (σ:=List Int) (fun F k s=>yc N K F ((w.length:Int)-1-(k:Int)) s) w.length
   (fun k s=>k≤w.length∧s=w.take (w.length-k)++List.replicate k 0∧nxt K (w.drop (w.length-k))=none) (match nxt K w with|some u=>Ex.rt u|none=>Ex.go (List.replicate w.length 0)) (fun F k s t hi=>?_) (fun F s hi=>?_) N 0 w (Nat.zero_le _) (by omega) ⟨Nat.zero_le _,by simp,by rw [Nat.sub_zero,List.drop_length];rfl⟩
  ·simpa using key
  ·obtain⟨_,rfl,e⟩:=hi
   have b:w.length-1-k<w.length:=by omega
   generalize hpe:w.length-1-k=p at b
   have hidx:(w.length:Int)-1-(k:Int)=(p:Int):=by omega
   have htake:w.take (w.length-k)=w.take p++[w.getD p default]:=by rw [show w.length-k=p+1 by omega];exact zfx w p b
   have hdrop:w.drop p=w.getD p default::w.drop (w.length-k):=by rw [zg9 w p b,show p+1=w.length-k by omega]
   have a:(w.take (w.length-k)++List.replicate k (0:Int)).length=w.length:=by simp;omega
   have g:ix (w.take (w.length-k)++List.replicate k (0:Int)) (p:Int)=w.getD p default:=by
    rw [ug,List.getD_eq_getElem?_getD,List.getElem?_append_left (by rw [List.length_take];omega),List.getElem?_take,if_pos (by omega),←List.getD_eq_getElem?_getD]
   have n:=zqy.1 l p b
   have hsplit:w=w.take p++(w.getD p default::w.drop (w.length-k)):=by rw [←hdrop,List.take_append_drop]
   have hset: ∀ v,up (w.take (w.length-k)++List.replicate k (0:Int)) (p:Int) v=w.take p++v::List.replicate k 0:=fun v=>by
    rw [mq,htake]
    have:=set_mid (A:=w.take p) (B:=List.replicate k (0:Int)) (c:=w.getD p default) (v:=v)
    rwa [List.length_take,Nat.min_eq_left (by omega)] at this
   have i:(w.drop (w.length-k)).length=k:=by rw [List.length_drop];omega
   have d:nxt K (w.getD p default::w.drop (w.length-k))=if w.getD p default+1<K then some ((w.getD p default+1)::List.replicate k 0) else none:=by
    show (match nxt K (w.drop (w.length-k)) with|some r'=>_|none=>_)=_
    rw [e,i]
   simp only [yc]
   simp only [hidx,g]
   rw [bu (by omega),zh (qg (by rw [a];exact b)),zh (qo (by omega))]
   by_cases hc:w.getD p default+1<K
   ·left
    rw [bu hc,zh (qg (by rw [a];exact b)),zh (qo (by omega)),zh (qg (by rw [a];exact b)),hset]
    rw [if_pos hc] at d
    have hw':nxt K w=some (w.take p++((w.getD p default+1)::List.replicate k 0)):=by
     have:=zs5 d (w.take p)
     rwa [←hsplit] at this
    rw [hw']
   ·right
    refine⟨w.take p++0::List.replicate k 0,⟨by omega,?_,?_⟩,?_⟩
    ·rw [show w.length-(k+1)=p by omega,List.replicate_succ]
    ·rw [show w.length-(k+1)=p by omega,hdrop,d,if_neg hc]
    ·rw [ym hc,zh (qg (by rw [a];exact b)),zh (qo (by omega)),hset]
     congr 1
     omega
  ·obtain⟨_,rfl,e⟩:=hi
   rw [Nat.sub_self,List.drop_zero] at e
   simp only [yc]
   rw [ym (by omega),e,Nat.sub_self,List.take_zero,List.nil_append]
 rw [qf (show (gd (in64 ((w.length:Int)-1)) (yc N K N ((w.length:Int)-1) w))=some (match nxt K w with|some u=>Ex.rt u|none=>Ex.go (List.replicate w.length 0)) from by rw [zh (qo (by omega)),m])]
 unfold z7o
 cases h:nxt K w with
 |some u=>rfl
 |none=>
  simp only
  rw [zb5]
  have j:fits 8 (List.replicate w.length (0:Int)) ([0]:List Int):=⟨by simp only [List.length_replicate,List.length_singleton];omega,by simp only [List.length_replicate,List.length_singleton];omega⟩
  rw [zh j];rfl
def zjk(K:Int):Nat→List Int
 |0=>[]
 |k+1=>z7o K (zjk K k)
theorem zqb: ∀ K,1≤K→K≤3→6≤(zjk K 364).length:=by
 intro K a b
 have:K=1∨K=2∨K=3:=by omega
 rcases this with rfl|rfl|rfl<;>decide+kernel
theorem zpb{K:Int}(a:1≤K): ∀ k,Dg K (zjk K k)
 |0=>fun d b=>by simp [zjk] at b
 |k+1=>(zp4 a (zpb a k)).1
theorem zur{N:Nat}{m:Mach}(D:MOk m)(hN:400≤N)(h6:m.rows.length≤6)(h3:m.inputs≤3){s0:Nat}(hs:s0<m.rows.length):fw N m (s0:Int)=some (ru m.rows.length (rch m s0),z1e m.rows.length (rch m s0)):=by
 have o:=zr3 D hs
 generalize hPe:rch m s0=P at o⊢
 have v:=D.i1
 unfold fw
 rw [zh ⟨by omega,by omega,by omega⟩,zh ⟨by omega,by omega,by omega⟩]
 have e1:mk (m.rows.length:Int) ([]:List Int)=ru m.rows.length (P.take 0):=by
  rw [l8]
  refine z5c (by rw [List.length_replicate,z1d]) fun k u=>?_
  rw [List.length_replicate] at u
  rw [z6s u]
  simp [List.getD_eq_getElem?_getD,u,wdOf]
 have e2:mk (m.rows.length:Int) false=z1e m.rows.length (P.take 0):=by
  rw [l8]
  refine z5c (by rw [List.length_replicate,z4q]) fun k u=>?_
  rw [List.length_replicate] at u
  rw [zak u]
  simp [List.getD_eq_getElem?_getD,u,occ]
 have hL:uy N m (s0:Int) N [] (mk (m.rows.length:Int) ([]:List Int)) (mk (m.rows.length:Int) false)=some (ru m.rows.length P,z1e m.rows.length P):=by
  refine bz (σ:=List Int×List (List Int)×List Bool) (fun F k s=>uy N m (s0:Int) F s.1 s.2.1 s.2.2) 364
   (fun k s=>s.1=zjk m.inputs k∧s.1.length≤6∧ ∃ c,c≤P.length∧s.2=(ru m.rows.length (P.take c),z1e m.rows.length (P.take c))∧(∀ j,j<c→llt (P.getD j default).wd s.1)∧ ∀ j,c≤j→j<P.length→lle s.1 (P.getD j default).wd)
   _ (fun F k s u hi=>?_) (fun F s hi=>?_) N 0 ([],_,_) (Nat.zero_le _) (by omega) ⟨rfl,by simp,0,Nat.zero_le _,Prod.ext e1 e2,fun j d=>by omega,fun j _ d=>?_⟩
  ·obtain⟨w,l,is⟩:=s
   obtain⟨B,x,c,hc,p,q,f⟩:=hi
   simp only at B x p q f
   obtain⟨rfl,rfl⟩:=Prod.mk.inj p
   have y:=B▸zpb v k
   have z:=zqy.1 y
   simp only [uy]
   by_cases hlen:w.length<m.rows.length
   ·right
    rw [bu (by omega)]
    have haft:=zrc (N:=N) D N (s0:Int) w (.inr ⟨by omega,by omega⟩) z (by omega)
    have E:=zsu m D (s0:Int) w (.inr ⟨by omega,by omega⟩) z
    obtain⟨ah,M,O⟩:=zp4 v y
    have ai:=zyd (K:=m.inputs) (w:=w)
    have G:=zxf (N:=N) (K:=m.inputs) (w:=w) (by omega) (by omega) y (by omega)
    have go: ∀ c',c'≤P.length→(∀ j,j<c'→lle (P.getD j default).wd w)→(∀ j,c'≤j→j<P.length→llt w (P.getD j default).wd)→
     (z7o m.inputs w=zjk m.inputs (k+1)∧(z7o m.inputs w).length≤6∧ ∃ c,c≤P.length∧(ru m.rows.length (P.take c'),z1e m.rows.length (P.take c'))=(ru m.rows.length (P.take c),z1e m.rows.length (P.take c))∧(∀ j,j<c→llt (P.getD j default).wd (z7o m.inputs w))∧ ∀ j,c≤j→j<P.length→lle (z7o m.inputs w) (P.getD j default).wd):=fun c' hc' C Q=>
     ⟨by rw [B];rfl,by omega,c',hc',rfl,fun j d=>zrp (C j d) M,fun j d g=>by
      rcases ztf (z7o m.inputs w) (P.getD j default).wd with h|h|h
      ·exact .inr h
      ·exact .inl h
      ·exact absurd (Q j d g) (zet (O _ (zqy.2 (o.wok j g).1) h))⟩
    have strict: ∀ j,j<P.length→lle w (P.getD j default).wd→(P.getD j default).wd≠w→llt w (P.getD j default).wd:=fun j d h R=>h.resolve_left fun e=>R e.symm
    have hsame:z7n m (s0:Int) w= -1∨(0≤z7n m (s0:Int) w∧ix (z1e m.rows.length (P.take c)) (z7n m (s0:Int) w)=true)→
     ∃ s':List Int×List (List Int)×List Bool,(s'.1=zjk m.inputs (k+1)∧s'.1.length≤6∧ ∃ c,c≤P.length∧s'.2=(ru m.rows.length (P.take c),z1e m.rows.length (P.take c))∧(∀ j,j<c→llt (P.getD j default).wd s'.1)∧ ∀ j,c≤j→j<P.length→lle s'.1 (P.getD j default).wd)∧
     (bd (bd (nz N N m (s0:Int) w) fun n=>gd ((true&&((decide (0≤n))==true))=true→okI (z1e m.rows.length (P.take c)) n)<|bif (decide (0≤n))&&(!(ix (z1e m.rows.length (P.take c)) n)) then(gd (okI (z1e m.rows.length (P.take c)) n)<|gd (okI (ru m.rows.length (P.take c)) n)<|some ((up (ru m.rows.length (P.take c)) n w),(up (z1e m.rows.length (P.take c)) n true))) else(some (ru m.rows.length (P.take c),z1e m.rows.length (P.take c)))) fun H=>bd (lv N w m.inputs) fun I=>uy N m (s0:Int) F I H.1 H.2)=uy N m (s0:Int) F s'.1 s'.2.1 s'.2.2:=fun hcase=>by
     refine⟨(z7o m.inputs w,ru m.rows.length (P.take c),z1e m.rows.length (P.take c)),go c hc (fun j d=> .inr (q j d)) (fun j d g=>strict j g (f j d g) fun e=>?_),?_⟩
     ·have S:=o.aft j g
      rw [e] at S
      rcases hcase with h|⟨h0,h⟩
      ·rw [S] at h;omega
      ·rw [S,zsm (by omega) (by have:=o.rng j g;omega)] at h
       obtain⟨i,hi,r⟩:=z9h.1 h
       rw [List.length_take] at hi
       have hg:(P.take c).getD i default=P.getD i default:=by simp only [List.getD_eq_getElem?_getD,List.getElem?_take,if_pos (show i<c by omega)]
       rw [hg] at r
       have:=o.dis i j (by omega) g (by omega)
       omega
     ·rw [qf (show _=some (ru m.rows.length (P.take c),z1e m.rows.length (P.take c)) from by
       rw [qf haft]
       rcases hcase with h|⟨h0,h⟩
       ·rw [h,zh (by simp)];rfl
       ·have T:z7n m (s0:Int) w<m.rows.length:=by rcases E with e|e<;>omega
        rw [zh (fun _=>⟨h0,by rw [z4q];exact T⟩),h,cf (by simp)]),qf G]
    by_cases ht:z7n m (s0:Int) w= -1
    ·exact hsame (.inl ht)
    ·obtain⟨J,U⟩:=E.resolve_left ht
     by_cases hseen:ix (z1e m.rows.length (P.take c)) (z7n m (s0:Int) w)=true
     ·exact hsame (.inr ⟨J,hseen⟩)
     ·obtain⟨j,d,r,V⟩:=o.least D _ w rfl z ht
      have W:c≤j:=by
       rcases Nat.lt_or_ge j c with h|h
       ·exfalso
        apply hseen
        rw [zsm J U]
        refine z9h.2 ⟨j,by rw [List.length_take];omega,?_⟩
        simp only [List.getD_eq_getElem?_getD,List.getElem?_take,if_pos h]
        rw [←List.getD_eq_getElem?_getD];omega
       ·exact h
      have t:(P.getD j default).wd=w:=by
       rcases V with h|h
       ·exact h
       ·exact absurd h (zet (f j W d))
      have X:j=c:=by
       rcases Nat.lt_or_ge c j with h|h
       ·have C:=o.inc c j h d
        rw [t] at C
        exact absurd C (zet (f c (Nat.le_refl _) (by omega)))
       ·omega
      subst X
      have L:=o.rng j d
      have Y:=o.fresh d
      refine⟨(z7o m.inputs w,ru m.rows.length (P.take (j+1)),z1e m.rows.length (P.take (j+1))),go (j+1) (by omega) (fun i hi=>?_) (fun i hi Z=>?_),?_⟩
      ·by_cases e:i=j
       ·subst e;rw [t];exact .inl rfl
       ·exact .inr (q i (by omega))
      ·have:=o.inc j i (by omega) Z
       rwa [t] at this
      ·rw [qf (show _=some (ru m.rows.length (P.take (j+1)),z1e m.rows.length (P.take (j+1))) from by
        rw [qf haft,←r]
        rw [←r] at hseen
        rw [zh (fun _=>qg (by rw [z4q];exact L)),ct (by rw [Bool.eq_false_iff.2 hseen];simp),zh (qg (by rw [z4q];exact L)),zh (qg (by rw [z1d];exact L)),mq,mq,zua L,←ze6 P j d]
        have:=zqv L Y
        rw [t,←ze6 P j d] at this
        rw [this]),qf G]
   ·left
    rw [ym (by omega)]
    have A:c=P.length:=by
     rcases Nat.lt_or_ge c P.length with h|h
     ·have C:=(o.wok c h).2
      have Q:=o.le
      exact absurd (show llt (P.getD c default).wd w from .inl (by omega)) (zet (f c (Nat.le_refl _) h))
     ·omega
    rw [A,List.take_length]
  ·obtain⟨w,l,is⟩:=s
   obtain⟨B,x,c,hc,p,q,f⟩:=hi
   simp only at B x p q f
   obtain⟨rfl,rfl⟩:=Prod.mk.inj p
   have h6':=zqb m.inputs v h3
   rw [←B] at h6'
   simp only [uy]
   rw [ym (by omega)]
   have A:c=P.length:=by
    rcases Nat.lt_or_ge c P.length with h|h
    ·have C:=(o.wok c h).2
     have Q:=o.le
     exact absurd (show llt (P.getD c default).wd w from .inl (by omega)) (zet (f c (Nat.le_refl _) h))
    ·omega
   rw [A,List.take_length]
  ·show lle [] _
   cases hwd:(P.getD j default).wd with
   |nil=>exact .inl rfl
   |cons a b=>exact .inr (.inl (by simp))
 rw [qf hL]
end GV
end Go.Proofs.Ytdhccodneoebpaa

namespace Go.Proofs.Ytdhccodneoebpaa
namespace GV
set_option maxRecDepth 100000
theorem check0{N:Nat}{m:Mach}(a:MOk m)(b:200≤N):z2o N m=some 0:=by rw [zpg a.small b,(zed m).2 a]
theorem zqk{N:Nat}{m:Mach}(a:MOk m)(b:400≤N)(c:m.rows.length≤6)(d:m.inputs≤3):z0i N m=some (ru m.rows.length (rch m 0),z1e m.rows.length (rch m 0)):=by
 have e:=a.r1
 unfold z0i
 rw [qf (show fw N m 0=_ from zur a b c d (s0:=0) (by omega))]
def z3r(P:List BE):List Int:=P.map fun e=>(e.st:Int)
end GV
end Go.Proofs.Ytdhccodneoebpaa

namespace Go.Proofs.Ytdhccodneoebpaa
namespace GV
set_option maxRecDepth 100000
theorem z7j(m:Mach):(⟨m.inputs,m.outputs,m.rows⟩:Mach)=m:=rfl
theorem q43{x:MDat}(h:MDOk x):(mOf x).rows.length≤6∧(mOf x).inputs≤3:=by
 have b:=h.st;have c:=h.ins
 have d:1≤x.n∧x.n≤6:=by unfold MDat.n;omega
 have a:1≤x.inp∧x.inp≤3:=by unfold MDat.inp;omega
 have e:(mOf x).rows.length=x.n.toNat:=by simp [mOf]
 exact⟨by omega,a.2⟩
theorem zxe(w:List Int)(k:Nat):cut w 0 (k:Int)=w.take k:=by simp [cut]
end GV
end Go.Proofs.Ytdhccodneoebpaa

namespace Go.Proofs.Ytdhccodneoebpaa
namespace GV
set_option maxRecDepth 100000
def pos(L:List Nat)(t:Int):Int:=if t= -1 then-1 else(L.idxOf t.toNat:Int)
def rowP(m:Mach)(L:List Nat)(s:Nat):List Edge:=(m.rows.getD s default).map fun e=>⟨pos L e.to,e.out⟩
def z3w(m:Mach)(L:List Nat):Mach:=⟨m.inputs,m.outputs,L.map (rowP m L)⟩
structure ClosedP (m:Mach) (L:List Nat):Prop where
 rng: ∀ s∈L,s<m.rows.length
 nd:L.Nodup
 cl: ∀ s∈L,∀ i,i<m.inputs.toNat→ed m s i≠ -1→(ed m s i).toNat∈L
 ne:L≠[]
theorem zhk{L:List Nat}{k:Nat}(a:L.Nodup)(b:k<L.length):L.idxOf (L.getD k 0)=k:=by
 have:L.getD k 0=L[k]:=by simp [List.getD_eq_getElem?_getD,b]
 rw [this]
 exact a.idxOf_getElem k b
theorem zfc{L:List Nat}{t:Nat}(h:t∈L):L.idxOf t<L.length∧L.getD (L.idxOf t) 0=t:=by
 have a:=List.idxOf_lt_length_iff.2 h
 refine⟨a,?_⟩
 simp [List.getD_eq_getElem?_getD,a]
section
variable {m : Mach} {L : List Nat}
theorem ClosedP.len(a:ClosedP m L):L.length≤m.rows.length:=by
 have:=List.Nodup.length_le_of_subset a.nd (l₂:=List.range m.rows.length) (fun x b=>List.mem_range.2 (a.rng x b))
 simpa using this
theorem zgc{k:Nat}(a:k<L.length):(z3w m L).rows.getD k default=rowP m L (L.getD k 0):=by
 unfold z3w
 simp [List.getD_eq_getElem?_getD,a]
theorem zja(a:MOk m){s:Nat}(b:s<m.rows.length):(rowP m L s).length=m.inputs.toNat:=by
 unfold rowP
 have:=a.row s b
 rw [List.length_map];omega
theorem zix(a:MOk m){s i:Nat}(b:s<m.rows.length)(hi:i<m.inputs.toNat):(rowP m L s).getD i default=⟨pos L (ed m s i),((m.rows.getD s default).getD i default).out⟩:=by
 have:=a.row s b
 unfold rowP ed
 simp only [List.getD_eq_getElem?_getD,List.getElem?_map]
 rw [←List.getD_eq_getElem?_getD,List.getElem?_eq_getElem (show i<(m.rows.getD s default).length by omega)]
 rfl
theorem zvc(d:MOk m)(b:ClosedP m L){s i:Nat}(c:s∈L)(hi:i<m.inputs.toNat):pos L (ed m s i)= -1∧ed m s i= -1∨(0≤pos L (ed m s i)∧pos L (ed m s i)<L.length∧0≤ed m s i∧L.getD (pos L (ed m s i)).toNat 0=(ed m s i).toNat):=by
 unfold pos
 rcases z7h d (b.rng s c) hi with h|⟨e,g⟩
 ·left;rw [if_pos h];exact⟨rfl,h⟩
 ·right
  have a:ed m s i≠ -1:=by omega
  obtain⟨j,f⟩:=zfc (b.cl s c i hi a)
  rw [if_neg a]
  exact⟨by omega,by omega,e,by rw [Int.toNat_natCast];exact f⟩
theorem znz(a:MOk m)(c:ClosedP m L):MOk (z3w m L):=by
 have hlen:=c.len
 have l:=a.r2
 have e:(z3w m L).rows.length=L.length:=by simp [z3w]
 have hpos:0<L.length:=List.length_pos_iff.2 c.ne
 have hmem: ∀ k,k<L.length→L.getD k 0∈L:=fun k n=>by simp [List.getD_eq_getElem?_getD,n]
 refine⟨a.i1,a.i2,a.o1,a.o2,by omega,by omega,fun s b=>?_,fun s i b hi=>?_⟩
 ·rw [e] at b
  rw [zgc b,zja a (c.rng _ (hmem s b))]
  have:=a.i1
  show _=m.inputs
  omega
 ·rw [e] at b
  rw [zgc b] at hi⊢
  have d:=c.rng _ (hmem s b)
  rw [zja a d] at hi
  rw [zix a d hi]
  have h:=a.edge _ i d (by have:=a.row _ d;omega)
  rcases zvc a c (hmem s b) hi with⟨f,j⟩|⟨f,j,q,_⟩
  ·rcases h with⟨_,g⟩|⟨o,_⟩
   ·left;exact⟨f,g⟩
   ·exfalso
    have:ed m (L.getD s 0) i=((m.rows.getD (L.getD s 0) default).getD i default).to:=rfl
    omega
  ·rcases h with⟨o,_⟩|⟨_,_,g,p⟩
   ·exfalso
    have:ed m (L.getD s 0) i=((m.rows.getD (L.getD s 0) default).getD i default).to:=rfl
    omega
   ·right
    exact⟨f,by rw [e];exact j,g,p⟩
end
/-! ### The program's part-/
def zan(L:List Nat):List Int:=L.map fun s=>((s:Nat):Int)
theorem z8l(L:List Nat):(zan L).length=L.length:=by simp [zan]
theorem zfs{L:List Nat}{k:Nat}(a:k<L.length):ix (zan L) (k:Int)=((L.getD k 0:Nat):Int):=by
 rw [ug]
 simp [zan,List.getD_eq_getElem?_getD,a]
theorem zjh{α:Type}[Inhabited α](P:List α)(k:Nat)(h:k<P.length):P.take (k+1)=P.take k++[P.getD k default]:=by
 rw [List.take_add_one];simp [List.getD_eq_getElem?_getD,h]
theorem z9g{α:Type}{X:List α}{n k:Nat}{z y:α}(a:X.length=k)(b:k<n):(X++List.replicate (n-k) z).set k y=(X++[y])++List.replicate (n-(k+1)) z:=by
 rw [show n-k=(n-(k+1))+1 by omega,List.replicate_succ,List.set_append_right _ _ (by omega),a,Nat.sub_self]
 simp
end GV
end Go.Proofs.Ytdhccodneoebpaa

namespace Go.Proofs.Ytdhccodneoebpaa
namespace GV
set_option maxRecDepth 100000
theorem zx4{N:Nat}{m:Mach}{L:List Nat}(c:MOk m)(f:ClosedP m L)(G:200≤N):lq N m (zan L)=some (z3w m L):=by
 have hlen:=f.len
 have y:=c.r2
 have z:=c.i1
 have A:=c.i2
 have hmem: ∀ k,k<L.length→L.getD k 0∈L:=fun k b=>by simp [List.getD_eq_getElem?_getD,b]
 unfold lq
 have o: ∀ k i,k<L.length→i<m.inputs.toNat→xm N m (zan L) (k:Int) (i:Int) N (-1) 0=some (pos L (ed m (L.getD k 0) i)):=fun k i b hi=>by
  have g:=f.rng _ (hmem k b)
  have d:ix m.rows ((L.getD k 0:Nat):Int)=m.rows.getD (L.getD k 0) default:=ug _ _
  have p:(ix (m.rows.getD (L.getD k 0) default) (i:Int)).to=ed m (L.getD k 0) i:=by rw [ug];rfl
  have hpos:=zvc c f (hmem k b) hi
  generalize ed m (L.getD k 0) i=t at*
  refine bz (σ:=Int) (fun F j st=>xm N m (zan L) (k:Int) (i:Int) F st (j:Int)) L.length (fun j st=>st=if t≠ -1∧pos L t<(j:Int) then pos L t else-1) _ (fun F j st q a=>?_) (fun F st a=>?_) N 0 _ (Nat.zero_le _) (by omega) (by
   rw [if_neg];rintro⟨n,l⟩;rcases hpos with⟨_,r⟩|⟨r,_⟩<;>omega)
  ·subst a
   right
   refine⟨_,rfl,?_⟩
   simp only [xm,zfs b,zfs q,d,p]
   rw [bu (by rw [z8l];omega)]
   refine(qf (x:=if t≠ -1∧pos L t<((j+1:Nat):Int) then pos L t else-1) ?_).trans (zh (qo (by omega)))
   rw [zh (qg (by rw [z8l];exact q))]
   by_cases he:((L.getD j 0:Nat):Int)=t
   ·rw [bu he]
    have B:pos L t=(j:Int):=by
     rw [←he];unfold pos
     rw [if_neg (by omega),Int.toNat_natCast,zhk f.nd q]
    rw [B,if_pos ⟨by omega,by omega⟩]
   ·rw [ym he]
    congr 1
    by_cases ht:t= -1
    ·rw [if_neg (fun h=>h.1 ht),if_neg (fun h=>h.1 ht)]
    ·rcases hpos with⟨_,h⟩|⟨n,l,r,C⟩
     ·exact absurd h ht
     ·have D:pos L t≠(j:Int):=fun e=>he (by rw [e,Int.toNat_natCast] at C;omega)
      by_cases hlt:pos L t<(j:Int)
      ·rw [if_pos ⟨ht,hlt⟩,if_pos ⟨ht,by omega⟩]
      ·rw [if_neg (fun h=>hlt h.2),if_neg (fun h=>by have:=h.2;omega)]
  ·subst a
   simp only [xm]
   rw [ym (by rw [z8l];omega)]
   congr 1
   rcases hpos with⟨n,l⟩|⟨n,l,r,_⟩
   ·rw [if_neg (fun h=>h.1 l),n]
   ·rw [if_pos ⟨by omega,l⟩]
 have s: ∀ k,k<L.length→xn N m (zan L) (k:Int) N [] 0=some (rowP m L (L.getD k 0)):=fun k b=>by
  have g:=f.rng _ (hmem k b)
  have E:=c.row _ g
  have u:=zja (L:=L) c g
  have d:ix m.rows ((L.getD k 0:Nat):Int)=m.rows.getD (L.getD k 0) default:=ug _ _
  refine bz (σ:=List Edge) (fun F i st=>xn N m (zan L) (k:Int) F st (i:Int)) m.inputs.toNat (fun i st=>st=(rowP m L (L.getD k 0)).take i) _ (fun F i st hi a=>?_) (fun F st a=>?_) N 0 _ (Nat.zero_le _) (by omega) (by simp)
  ·subst a
   right
   refine⟨_,rfl,?_⟩
   simp only [xn,zfs b,d]
   rw [bu (by omega),zh (qg (by rw [z8l];exact b)),zh (qg g),zh (qg (by omega)),qf (o k i b hi)]
   have hfit:fits 16 ((rowP m L (L.getD k 0)).take i) ([(⟨pos L (ed m (L.getD k 0) i),(ix (m.rows.getD (L.getD k 0) default) (i:Int)).out⟩:Edge)]:List Edge):=by
    have:((rowP m L (L.getD k 0)).take i).length≤16:=by rw [List.length_take];omega
    exact⟨by simp only [List.length_singleton];omega,by simp only [List.length_singleton];omega⟩
   rw [zh hfit,zh (qo (by omega)),zjh _ _ (show i<(rowP m L (L.getD k 0)).length by omega),zix c g hi,ug];rfl
  ·subst a
   simp only [xn]
   rw [ym (by omega),←u,List.take_length]
 have v:xq N m (zan L) N 0 []=some (L.map (rowP m L)):=by
  have w:(L.map (rowP m L)).length=L.length:=by simp
  refine bz (σ:=List (List Edge)) (fun F k st=>xq N m (zan L) F (k:Int) st) L.length (fun k st=>st=(L.map (rowP m L)).take k) _ (fun F k st b a=>?_) (fun F st a=>?_) N 0 _ (Nat.zero_le _) (by omega) (by simp)
  ·subst a
   right
   refine⟨_,rfl,?_⟩
   simp only [xq]
   rw [bu (by rw [z8l];omega),qf (s k b)]
   have hfit:fits 24 ((L.map (rowP m L)).take k) ([rowP m L (L.getD k 0)]:List (List Edge)):=by
    have:((L.map (rowP m L)).take k).length≤64:=by rw [List.length_take];omega
    exact⟨by simp only [List.length_singleton];omega,by simp only [List.length_singleton];omega⟩
   rw [zh hfit,zh (qo (by omega)),zjh _ _ (show k<(L.map (rowP m L)).length by omega)]
   have:(L.map (rowP m L)).getD k default=rowP m L (L.getD k 0):=by simp [List.getD_eq_getElem?_getD,b]
   rw [this];rfl
  ·subst a
   simp only [xq]
   rw [ym (by rw [z8l];omega),←w,List.take_length]
 rw [qf v];rfl
end GV
end Go.Proofs.Ytdhccodneoebpaa

namespace Go.Proofs.Ytdhccodneoebpaa
namespace GV
set_option maxRecDepth 100000
theorem zo7{m:Mach}(a:MOk m){s0:Nat}: ∀ (g h p:Nat) (All:List BE),Inv m s0 p 0 All→m.rows.length≤p+g→m.rows.length≤p+h→bfs m g p All=bfs m h p All
 |0,h,p,All,hi,b,_=>by
  have:=zh6 hi
  rw [zex (g:=0) (by omega),zex (g:=h) (by omega)]
 |g+1,0,p,All,hi,_,c=>by
  have:=zh6 hi
  rw [zex (g:=g+1) (by omega),zex (g:=0) (by omega)]
 |g+1,h+1,p,All,hi,b,c=>by
  show (if p<All.length then _ else _)=(if p<All.length then _ else _)
  by_cases hp:p<All.length
  ·rw [if_pos hp,if_pos hp]
   have hpre:=(z9o m (All.getD p default) All m.inputs.toNat).length_le
   exact zo7 a g h (p+1) _ (zox (zmw a hi hp _ (Nat.le_refl _)) (by omega)) (by omega) (by omega)
  ·rw [if_neg hp,if_neg hp]
def ren(L:List Nat)(e:BE):BE:=⟨L.idxOf e.st,pos L e.par,e.inp,e.wd⟩
theorem zy5{L:List Nat}{a b:Nat}(c:a∈L)(d:b∈L)(h:L.idxOf a=L.idxOf b):a=b:=by
 have e:=(zfc c).2
 have f:=(zfc d).2
 rw [←e,h,f]
section
variable {m : Mach} {L : List Nat}
theorem zyi(b:MOk m)(c:ClosedP m L){s i:Nat}(a:s∈L)(hi:i<m.inputs.toNat):ed (z3w m L) (L.idxOf s) i=pos L (ed m s i):=by
 obtain⟨d,e⟩:=zfc a
 show (((z3w m L).rows.getD (L.idxOf s) default).getD i default).to=_
 rw [zgc d,e,zix b (c.rng s a) hi]
theorem zza{All:List BE}(c: ∀ e∈All,e.st∈L){t:Nat}(d:t∈L):occ (All.map (ren L)) (L.idxOf t)=occ All t:=by
 unfold occ
 rw [Bool.eq_iff_iff,List.any_eq_true,List.any_eq_true]
 constructor
 ·rintro⟨e,a,h⟩
  obtain⟨x,b,rfl⟩:=List.mem_map.1 a
  exact⟨x,b,decide_eq_true (zy5 (c x b) d (of_decide_eq_true h))⟩
 ·rintro⟨e,a,h⟩
  exact⟨ren L e,List.mem_map.2 ⟨e,a,rfl⟩,decide_eq_true (congrArg L.idxOf (of_decide_eq_true h))⟩
theorem zvw(j:MOk m)(f:ClosedP m L){x:BE}{All:List BE}(d: ∀ e∈All,e.st∈L)(g:x.st∈L){i:Nat}(hi:i<m.inputs.toNat):
 push (z3w m L) (ren L x) (All.map (ren L)) i=(push m x All i).map (ren L)∧ ∀ e∈push m x All i,e.st∈L:=by
 have a:ed (z3w m L) (ren L x).st i=pos L (ed m x.st i):=zyi j f g hi
 unfold push
 rw [a]
 rcases z7h j (f.rng _ g) hi with h|⟨l,n⟩
 ·rw [h,if_pos (show pos L (-1)= -1 from rfl),if_pos (show (-1:Int)= -1 from rfl)]
  exact⟨rfl,d⟩
 ·have b:ed m x.st i≠ -1:=by omega
  have c:=f.cl _ g i hi b
  have k:pos L (ed m x.st i)=((L.idxOf (ed m x.st i).toNat:Nat):Int):=by unfold pos;rw [if_neg b]
  rw [k,if_neg (show¬((L.idxOf (ed m x.st i).toNat:Nat):Int)= -1 by omega),if_neg b,Int.toNat_natCast,zza d c]
  by_cases ho:occ All (ed m x.st i).toNat=true
  ·rw [if_pos ho,if_pos ho];exact⟨rfl,d⟩
  ·rw [if_neg ho,if_neg ho]
   refine⟨?_,fun e a=>?_⟩
   ·rw [List.map_append]
    congr 1
   ·rcases List.mem_append.1 a with a|a
    ·exact d e a
    ·rw [List.mem_singleton.1 a];exact c
theorem zgp(a:MOk m)(b:ClosedP m L){x:BE}{All:List BE}(c: ∀ e∈All,e.st∈L)(d:x.st∈L): ∀ k,k≤m.inputs.toNat→
 z4t (z3w m L) (ren L x) (All.map (ren L)) k=(z4t m x All k).map (ren L)∧ ∀ e∈z4t m x All k,e.st∈L
 |0,_=>⟨rfl,c⟩
 |k+1,h=>by
  obtain⟨f,g⟩:=zgp a b c d k (by omega)
  show push (z3w m L) (ren L x) (z4t (z3w m L) (ren L x) (All.map (ren L)) k) k=(push m x (z4t m x All k) k).map (ren L)∧ ∀ e∈push m x (z4t m x All k) k,e.st∈L
  rw [f]
  exact zvw a b g d (by omega)
theorem zsq(a:MOk m)(b:ClosedP m L): ∀ (g p:Nat) (All:List BE),(∀ e∈All,e.st∈L)→bfs (z3w m L) g p (All.map (ren L))=(bfs m g p All).map (ren L)
 |0,p,All,_=>rfl
 |g+1,p,All,c=>by
  show (if p<(All.map (ren L)).length then bfs (z3w m L) g (p+1) (z4t (z3w m L) ((All.map (ren L)).getD p default) (All.map (ren L)) (z3w m L).inputs.toNat) else All.map (ren L))=(if p<All.length then bfs m g (p+1) (z4t m (All.getD p default) All m.inputs.toNat) else All).map (ren L)
  rw [List.length_map]
  by_cases hp:p<All.length
  ·rw [if_pos hp,if_pos hp]
   have e:(All.map (ren L)).getD p default=ren L (All.getD p default):=by simp [List.getD_eq_getElem?_getD,hp]
   have d:=c _ (z0x hp)
   obtain⟨f,h⟩:=zgp a b c d m.inputs.toNat (Nat.le_refl _)
   rw [e,show (z3w m L).inputs.toNat=m.inputs.toNat from rfl,f]
   exact zsq a b g (p+1) _ h
  ·rw [if_neg hp,if_neg hp]
theorem zfw:(z3w m L).rows.length=L.length:=by simp [z3w]
theorem zyl(b:MOk m)(a:ClosedP m L){s0:Nat}(c:s0∈L):rch (z3w m L) (L.idxOf s0)=(rch m s0).map (ren L):=by
 have d:=zfw (m:=m) (L:=L)
 obtain⟨f,h⟩:=zfc c
 have hlen:=a.len
 have hroot:=znb (m:=z3w m L) (s0:=L.idxOf s0) (by rw [d];exact f)
 unfold rch
 rw [zo7 (znz b a) (z3w m L).rows.length m.rows.length 0 _ hroot (by omega) (by omega)]
 exact zsq b a m.rows.length 0 [⟨s0,-1,-1,[]⟩] (fun e g=>by rw [List.mem_singleton.1 g];exact c)
end
/-! ### The states in their order-/
def z9b(P:List BE):List Nat:=P.map (·.st)
theorem zux(P:List BE):zan (z9b P)=z3r P:=by unfold zan z9b z3r;rw [List.map_map];rfl
theorem zfk(P:List BE):(z9b P).length=P.length:=by simp [z9b]
theorem znr(P:List BE){k:Nat}(a:k<P.length):(z9b P).getD k 0=(P.getD k default).st:=by
 simp [z9b,List.getD_eq_getElem?_getD,a]
theorem zh8{P:List BE}{s:Nat}:s∈z9b P↔ ∃ j,j<P.length∧(P.getD j default).st=s:=by
 unfold z9b;rw [List.mem_map]
 constructor
 ·rintro⟨e,b,rfl⟩
  obtain⟨j,a,rfl⟩:=List.mem_iff_getElem.1 b
  exact⟨j,a,by simp [List.getD_eq_getElem?_getD,a]⟩
 ·rintro⟨j,a,rfl⟩;exact⟨_,z0x a,rfl⟩
section
variable {m : Mach} {s0 : Nat} {P : List BE}
theorem zw8(b:Rch m s0 P):(z9b P).Nodup:=by
 unfold z9b
 rw [List.nodup_iff_pairwise_ne,List.pairwise_iff_getElem]
 intro i j hi a c e
 rw [List.length_map] at hi a
 rw [List.getElem_map,List.getElem_map] at e
 have:=b.dis i j hi a (by simpa [List.getD_eq_getElem?_getD,a,hi] using e)
 omega
theorem ze4(a:Rch m s0 P):ClosedP m (z9b P):=by
 refine⟨fun s b=>?_,zw8 a,fun s b i hi c=>?_,fun e=>?_⟩
 ·obtain⟨j,d,rfl⟩:=zh8.1 b
  exact a.rng j d
 ·obtain⟨q,g,rfl⟩:=zh8.1 b
  obtain⟨j,d,h,_⟩:=a.cls q i g hi c
  exact zh8.2 ⟨j,d,by omega⟩
 ·have f:=zfk P
  rw [e] at f
  have:=a.pos
  simp at f;omega
theorem znd(a:Rch m s0 P):s0∈z9b P∧(z9b P).idxOf s0=0:=by
 have b:(z9b P).getD 0 0=s0:=by rw [znr P a.pos,a.root]
 have:=zhk (zw8 a) (show 0<(z9b P).length by rw [zfk];exact a.pos)
 rw [b] at this
 exact⟨zh8.2 ⟨0,a.pos,by rw [a.root]⟩,this⟩
end
def zgw(m:Mach):Mach:=z3w m (z9b (rch m 0))
section
variable {m : Mach} {L : List Nat}
theorem zwh(a:MOk m):Rch m 0 (rch m 0):=zr3 a (by have:=a.r1;omega)
theorem zyq(a:MOk m):MOk (zgw m):=znz a (ze4 (zwh a))
end
end GV
end Go.Proofs.Ytdhccodneoebpaa

namespace Go.Proofs.Ytdhccodneoebpaa
namespace GV
set_option maxRecDepth 100000
theorem zi6: ∀ {a b:List Int} {k:Nat},k<a.length→k<b.length→a.take k=b.take k→a.getD k default<b.getD k default→z6f a b
 | [],_,_,h,_,_,_=>by simp at h
 |_::_,[],_,_,h,_,_=>by simp at h
 |x::a,y::b,0,_,_,_,h=> .inl h
 |x::a,y::b,k+1,d,e,c,h=>by
  rw [List.take_succ_cons,List.take_succ_cons] at c
  obtain⟨rfl,ht'⟩:=List.cons.inj c
  exact .inr ⟨rfl,zi6 (k:=k) (by simpa using d) (by simpa using e) ht' h⟩
theorem zuu{N:Nat}{a b:List Int}(d:a.length=b.length)(i:a.length<N)(j:a.length≤1000000){r:Ex Unit Int}(e:z6f a b→r=Ex.rt 1)(f:z6f b a→r=Ex.rt 0)(g:a=b→r=Ex.go ()):xu N a b N 0=some r:=by
 refine bz (σ:=Unit) (fun F k _=>xu N a b F (k:Int)) a.length (fun k _=>a.take k=b.take k) r (fun F k _ c hi=>?_) (fun F _ hi=>?_) N 0 () (Nat.zero_le _) (by omega) rfl
 ·simp only [xu]
  have oa:okI a (k:Int):=qg c
  have ob:okI b (k:Int):=qg (by omega)
  rw [bu (by omega),zh oa,zh ob]
  rcases Int.lt_trichotomy (ix a (k:Int)) (ix b (k:Int)) with h|h|h
  ·left
   rw [bu (by omega),zh oa,zh ob,bu h,e (zi6 c (by omega) hi h)]
  ·right
   refine⟨(),?_,?_⟩
   ·rw [zfx a k c,zfx b k (by omega),hi,show a.getD k default=b.getD k default from h]
   ·rw [ym (by omega)];exact zh (qo (by omega))
  ·left
   rw [bu (by omega),zh oa,zh ob,ym (by omega),f (zi6 (by omega) c hi.symm h)]
 ·simp only [xu]
  rw [ym (by omega),g (by rw [List.take_length,d,List.take_length] at hi;exact hi)]
theorem q0p{N:Nat}{a b:List Int}(h:llt a b)(c:a.length<N)(d:a.length≤1000000):il N a b=some 1:=by
 unfold il
 rcases h with h|⟨f,h⟩
 ·rw [bu (by omega),bu (by omega)]
 ·rw [ym (by omega),qf (zuu f c d (r:=Ex.rt 1) (fun _=>rfl) (fun k=>absurd (z9j h k) (z4v _)) (fun e=>by rw [e] at h;exact absurd h (z4v _)))];rfl
theorem q1y{N:Nat}{a b:List Int}(h:llt b a)(c:a.length<N)(d:a.length≤1000000):il N a b=some 0:=by
 unfold il
 rcases h with h|⟨f,h⟩
 ·rw [bu (by omega),ym (by omega)]
 ·rw [ym (by omega),qf (zuu f.symm c d (r:=Ex.rt 0) (fun k=>absurd (z9j h k) (z4v _)) (fun _=>rfl) (fun e=>by rw [e] at h;exact absurd h (z4v _)))];rfl
def rq(s:Nat)(P:List BE):List BE:=P.filter fun e=>decide (e.st<s)
theorem zge{m:Mach}{s0:Nat}{P:List BE}(f:Rch m s0 P){j:Nat}(c:j<P.length):
 rq ((P.getD j default).st+1) P=rq (P.getD j default).st (P.take j)++P.getD j default::rq (P.getD j default).st (P.drop (j+1))∧
 rq (P.getD j default).st P=rq (P.getD j default).st (P.take j)++rq (P.getD j default).st (P.drop (j+1)):=by
 have d:P=P.take j++P.getD j default::P.drop (j+1):=by rw [←zg9 P j c,List.take_append_drop]
 have key: ∀ i,i<P.length→i≠j→decide ((P.getD i default).st<(P.getD j default).st+1)=decide ((P.getD i default).st<(P.getD j default).st):=fun i hi a=>by
  have:(P.getD i default).st≠(P.getD j default).st:=fun e=>a (f.dis i j hi c e)
  rw [decide_eq_decide];omega
 generalize hx:P.getD j default=x at*
 have g:rq (x.st+1) (P.take j)=rq x.st (P.take j):=by
  refine List.filter_congr fun e b=>?_
  obtain⟨i,hi,rfl⟩:=List.mem_iff_getElem.1 b
  rw [List.length_take] at hi
  have:=key i (by omega) (by omega)
  rw [List.getElem_take]
  rwa [show P.getD i default=P[i]'(by omega) by simp [List.getD_eq_getElem?_getD,show i<P.length by omega]] at this
 have h:rq (x.st+1) (P.drop (j+1))=rq x.st (P.drop (j+1)):=by
  refine List.filter_congr fun e b=>?_
  obtain⟨i,hi,rfl⟩:=List.mem_iff_getElem.1 b
  rw [List.length_drop] at hi
  have:=key (j+1+i) (by omega) (by omega)
  rw [List.getElem_drop]
  rwa [show P.getD (j+1+i) default=P[j+1+i]'(by omega) by simp [List.getD_eq_getElem?_getD,show j+1+i<P.length by omega]] at this
 constructor
 ·conv=>lhs;rw [d]
  unfold rq at*
  rw [List.filter_append,List.filter_cons,if_pos (decide_eq_true (by omega)),g,h]
 ·conv=>lhs;rw [d]
  unfold rq
  rw [List.filter_append,List.filter_cons,if_neg (by simp)]
theorem zq1{P:List BE}{s:Nat}(h:occ P s=false):rq (s+1) P=rq s P:=by
 refine List.filter_congr fun e b=>?_
 have:e.st≠s:=fun a=>by
  have:occ P s=true:=List.any_eq_true.2 ⟨e,b,decide_eq_true a⟩
  rw [h] at this;cases this
 rw [decide_eq_decide];omega
theorem zsy{m:Mach}{s0:Nat}{P:List BE}(a:Rch m s0 P):rq m.rows.length P=P:=by
 unfold rq
 rw [List.filter_eq_self]
 intro e b
 obtain⟨i,hi,rfl⟩:=List.mem_iff_getElem.1 b
 have:=a.rng i hi
 rw [show P.getD i default=P[i] by simp [List.getD_eq_getElem?_getD,hi]] at this
 exact decide_eq_true this
theorem zl4{m:Mach}{s0:Nat}{P:List BE}(a:Rch m s0 P)(s:Nat):(z3r (rq s P)).length≤P.length:=by
 unfold z3r rq;rw [List.length_map];exact List.length_filter_le _ _
theorem zgq(X Y:List BE):z3r (X++Y)=z3r X++z3r Y:=by simp [z3r]
theorem zw9{N:Nat}{m:Mach}(z:200≤N){s0:Nat}{P:List BE}(a:Rch m s0 P)(v:m.rows.length≤64){j:Nat}(q:j<P.length):
 yt N (ru m.rows.length P,z1e m.rows.length P) (z3r (rq (P.getD j default).st P)) ((P.getD j default).st:Int) N 0=some ((rq (P.getD j default).st (P.take j)).length:Int):=by
 obtain⟨_,r⟩:=zge a q
 have w:=a.le
 have l:=a.rng j q
 have x: ∀ e∈rq (P.getD j default).st (P.take j),∃ i,i<j∧e=P.getD i default:=fun e c=>by
  obtain⟨i,hi,rfl⟩:=List.mem_iff_getElem.1 (List.mem_filter.1 c).1
  rw [List.length_take] at hi
  exact⟨i,by omega,by rw [List.getElem_take];simp [List.getD_eq_getElem?_getD,show i<P.length by omega]⟩
 have y: ∀ e∈rq (P.getD j default).st (P.drop (j+1)),∃ i,j<i∧i<P.length∧e=P.getD i default:=fun e c=>by
  obtain⟨i,hi,rfl⟩:=List.mem_iff_getElem.1 (List.mem_filter.1 c).1
  rw [List.length_drop] at hi
  exact⟨j+1+i,by omega,by omega,by rw [List.getElem_drop];simp [List.getD_eq_getElem?_getD,show j+1+i<P.length by omega]⟩
 have hlen:=zl4 a (P.getD j default).st
 rw [r] at hlen⊢
 generalize hx:rq (P.getD j default).st (P.take j)=A at*
 generalize rq (P.getD j default).st (P.drop (j+1))=B at*
 have n:ix (ru m.rows.length P) ((P.getD j default).st:Int)=(P.getD j default).wd:=by rw [ug,z6s l,a.wdOf q]
 have okw:okI (ru m.rows.length P) ((P.getD j default).st:Int):=qg (by rw [z1d];exact l)
 have s:(z3r (A++B)).length=A.length+B.length:=by simp [z3r]
 have hget: ∀ k,k<A.length+B.length→ix (z3r (A++B)) (k:Int)=(((A++B).getD k default).st:Int):=fun k o=>by
  have hk':k<(A++B).length:=by rw [List.length_append];exact o
  rw [ug]
  unfold z3r
  rw [List.getD_eq_getElem?_getD,List.getElem?_map,List.getD_eq_getElem?_getD,List.getElem?_eq_getElem hk'];rfl
 refine bz (σ:=Unit) (fun F k _=>yt N (ru m.rows.length P,z1e m.rows.length P) (z3r (A++B)) ((P.getD j default).st:Int) F (k:Int)) A.length (fun _ _=>True) _ (fun F k _ o _=>?_) (fun F _ _=>?_) N 0 () (Nat.zero_le _) (by omega) trivial
 ·right
  refine⟨(),trivial,?_⟩
  simp only [yt,hget k (by omega),n]
  have c:(A++B).getD k default∈A:=by
   have:(A++B).getD k default=A[k]:=by simp [List.getD_eq_getElem?_getD,List.getElem?_append_left o,o]
   rw [this];exact List.getElem_mem o
  obtain⟨i,d,f⟩:=x _ c
  rw [f]
  have b:=a.rng i (by omega)
  have g:ix (ru m.rows.length P) ((P.getD i default).st:Int)=(P.getD i default).wd:=by rw [ug,z6s b,a.wdOf (by omega)]
  have t:=(a.wok i (by omega)).2
  rw [g,zh (fun _=>qg (by omega)),zh (fun _=>qg (by rw [z1d];exact b)),zh (fun _=>okw),z7z (fun _=>q0p (N:=N) (a.inc i j d q) (by omega) (by omega))]
  have p:decide ((k:Int)<((z3r (A++B)).length:Int))=true:=decide_eq_true (by omega)
  refine(ct (by rw [p];rfl)).trans ?_
  exact zh (qo (by omega))
 ·simp only [yt]
  by_cases hb:0<B.length
  ·have p:decide ((A.length:Int)<((z3r (A++B)).length:Int))=true:=decide_eq_true (by omega)
   simp only [hget A.length (by omega),n]
   have c:(A++B).getD A.length default∈B:=by
    have:(A++B).getD A.length default=B[0]:=by simp [List.getD_eq_getElem?_getD,hb]
    rw [this];exact List.getElem_mem hb
   obtain⟨i,d,u,f⟩:=y _ c
   rw [f]
   have b:=a.rng i (by omega)
   have g:ix (ru m.rows.length P) ((P.getD i default).st:Int)=(P.getD i default).wd:=by rw [ug,z6s b,a.wdOf (by omega)]
   have t:=(a.wok i (by omega)).2
   rw [g,zh (fun _=>qg (by omega)),zh (fun _=>qg (by rw [z1d];exact b)),zh (fun _=>okw),z7z (fun _=>q1y (N:=N) (a.inc j i d u) (by omega) (by omega))]
   exact cf (by rw [p];rfl)
  ·have p:decide ((A.length:Int)<((z3r (A++B)).length:Int))=false:=decide_eq_false (by omega)
   rw [p,zh (fun h=>by simp at h),zh (fun h=>by simp at h),zh (fun h=>by simp at h),q3v (by rfl)]
   rfl
theorem ztb{N:Nat}{m:Mach}(e:MOk m)(o:400≤N)(p:m.rows.length≤6)(q:m.inputs≤3):z0z N m=some (z3r (rch m 0)):=by
 have c:=zwh e
 have g:=e.r2
 unfold z0z
 rw [qf (zqk e o p q)]
 generalize rch m 0=P at*
 have r:=c.le
 have s:yo N (ru m.rows.length P,z1e m.rows.length P) N [] 0=some (z3r P):=by
  refine bz (σ:=List Int) (fun F k st=>yo N (ru m.rows.length P,z1e m.rows.length P) F st (k:Int)) m.rows.length (fun k st=>st=z3r (rq k P)) _ (fun F k st i a=>?_) (fun F st a=>?_) N 0 _ (Nat.zero_le _) (by omega) (by unfold rq z3r;simp)
  ·subst a
   right
   refine⟨_,rfl,?_⟩
   have hixs:ix (z1e m.rows.length P) (k:Int)=occ P k:=by rw [ug,zak i]
   simp only [yo,hixs]
   rw [bu (by rw [z1d];omega)]
   refine(qf (x:=z3r (rq (k+1) P)) ?_).trans (zh (qo (by omega)))
   rw [zh (qg (by rw [z4q];exact i))]
   cases ho:occ P k
   ·rw [ct (b:= !false) rfl,zq1 ho]
   ·rw [cf (b:= !true) rfl]
    obtain⟨j,l,rfl⟩:=z9h.1 ho
    obtain⟨n,h⟩:=zge c l
    have hlen:=zl4 c (P.getD j default).st
    rw [qf (zw9 (by omega) c g l),n,h]
    rw [h] at hlen
    generalize rq (P.getD j default).st (P.take j)=A at*
    generalize rq (P.getD j default).st (P.drop (j+1))=B at*
    have d:(z3r A).length=A.length:=by simp [z3r]
    have t:(z3r B).length=B.length:=by simp [z3r]
    rw [zgq] at hlen⊢
    rw [List.length_append] at hlen
    have u:cut (z3r A++z3r B) 0 (A.length:Int)=z3r A:=by rw [zxe,←d,List.take_left]
    have v:cut (z3r A++z3r B) (A.length:Int) ((z3r A++z3r B).length:Int)=z3r B:=by
     unfold cut
     rw [Int.toNat_natCast,Int.toNat_natCast,←d,List.drop_left,List.take_of_length_le (by rw [List.length_append];omega)]
    have f: ∀ {X Y:List Int},X.length≤1000→Y.length≤1000→fits 8 X Y:=fun n h=>⟨by omega,by omega⟩
    have la:(z3r A++z3r B).length=A.length+B.length:=by rw [List.length_append];omega
    rw [zh ⟨by omega,by omega,by omega⟩,u,zh (f (by simp) (by omega)),List.nil_append,zh (f (by omega) (by simp)),zh ⟨by omega,by omega,by omega⟩,v,zh (f (by rw [List.length_append];simp;omega) (by omega))]
    rw [zgq,List.append_assoc];rfl
  ·subst a
   simp only [yo]
   rw [ym (by rw [z1d];omega),zsy c]
 rw [qf s]
theorem zl1{N:Nat}{m:Mach}(a:MOk m)(b:400≤N)(c:m.rows.length≤6)(d:m.inputs≤3):mr N m=some (zgw m):=by
 unfold mr
 rw [qf (ztb a b c d),qf (show lq N m (z3r (rch m 0))=some (zgw m) from by rw [←zux];exact zx4 a (ze4 (zwh a)) (by omega))]
end GV
end Go.Proofs.Ytdhccodneoebpaa

namespace Go.Proofs.Ytdhccodneoebpaa
namespace GV
set_option maxRecDepth 100000
theorem indexB{N:Nat}{s:List Bool}(b:s.length<N)(c:s.length≤4611686018427387904):z1x N s false=some (zk7 (fun x=>decide (false=x)) s):=by
 have h:gu N s false N 0=some (if(s.any fun x=>decide (false=x))=true then Ex.rt (zk7 (fun x=>decide (false=x)) s) else Ex.go ()):=by
  refine bz (σ:=Unit) (fun F k _=>gu N s false F (k:Int)) s.length (fun k _=>((s.take k).any fun x=>decide (false=x))=false) _ (fun F k _ a hi=>?_) (fun F _ hi=>?_) N 0 () (Nat.zero_le _) (by omega) (by simp)
  ·simp only [gu]
   rw [bu (by omega),zh (qg a),ug]
   cases hp:decide (false=s.getD k default)
   ·right
    refine⟨(),by rw [zes (fun x=>decide (false=x)) s k a,hi,hp];rfl,?_⟩
    rw [cf rfl,zh (qo (by omega))];rfl
   ·left
    rw [ct rfl,if_pos (List.any_eq_true.2 ⟨_,z0x a,hp⟩),zjv (fun x=>decide (false=x)) s k a hi hp]
  ·simp only [gu]
   rw [ym (by omega),if_neg (by rw [List.take_length] at hi;rw [hi];decide)]
 unfold z1x
 rw [qf h]
 by_cases ha:(s.any fun x=>decide (false=x))=true
 ·rw [if_pos ha];rfl
 ·rw [if_neg ha,zkp (fun x=>decide (false=x)) s (by simpa using ha)];rfl
theorem zti{N:Nat}{s:List Bool}(a:s.length<N)(b:s.length≤4611686018427387904):z0g N s false=some (s.contains false):=by
 unfold z0g
 rw [qf (indexB a b),zsw,zlv]
theorem zos{N:Nat}{m:Mach}(b:MOk m)(n:200≤N): ∀ (F:Nat) (X:List Bool) (s:Int),X.length=m.rows.length→SOk m s→X.count false<F→ ∃ Y,x9 N F s X m=some Y∧Vis m X s Y
 |0,X,s,_,_,h=>by omega
 |F+1,X,s,o,i,r=>by
  simp only [x9]
  by_cases hd:s= -1∨X.getD s.toNat default=true
  ·refine⟨X,?_,zv2 hd (by rcases i with h|h;exact .inl h;exact .inr h.1)⟩
   rcases i with h|h
   ·rw [zh (by rw [decide_eq_true h];intro e;cases e),ct (by rw [decide_eq_true h];rfl)]
   ·have a: ¬s= -1:=by omega
    have c:X.getD s.toNat default=true:=hd.resolve_left a
    rw [zh (fun _=>⟨h.1,by omega⟩),ct (by rw [zct,c];simp)]
  ·have a: ¬s= -1:=fun e=>hd (.inl e)
   have g:0≤s∧s<m.rows.length:=i.resolve_left a
   have c:X.getD s.toNat default=false:=by
    cases e:X.getD s.toNat default
    ·rfl
    ·exact absurd (.inr e) hd
   have d:s.toNat<X.length:=by omega
   have t:=b.r2;have p:=b.i2
   have hrow:=b.row s.toNat (by omega)
   have hcnt:=z98 d c
   rw [zh (fun _=>⟨g.1,by omega⟩),cf (by rw [zct,c,decide_eq_false a];rfl),zh ⟨g.1,by omega⟩,zh g]
   refine z0u (fun G k Y=>xy N (x9 N F) s m G (k:Int) Y) (m.rows.getD s.toNat default).length (fun k Y=>VisK m X s.toNat k Y∧Y.length=m.rows.length) (fun Y=>Vis m X s Y)
    (fun G k Y j hi=> .inr ?_) (fun G Y hi=>?_) N 0 (up X s true) (Nat.zero_le _) (by omega) ⟨zug d c,by simp [up,o]⟩
   ·simp only [xy]
    have l:k<(ix m.rows s).length:=j
    rw [bu (by omega),zh (qg l)]
    obtain⟨Z,q,f⟩:=zos b n F Y ((m.rows.getD s.toNat default).getD k default).to hi.2 (q42 b s k (by omega) j) (by
     have:=hi.1.cnt
     omega)
    refine⟨Z,⟨zt7 hi.1 (by omega) j f,by rw [f.len];exact hi.2⟩,Eq.trans (qf q) ?_⟩
    rw [zh (qo (by omega))];rfl
   ·simp only [xy]
    have e:(ix m.rows s).length=(m.rows.getD s.toNat default).length:=rfl
    rw [ym (by omega)]
    exact⟨Y,rfl,zx2 g.1 hi.1 (Nat.lt_irrefl _)⟩
theorem zm6{N:Nat}{m:Mach}(d:Small m)(b:200≤N):z1a N m=some ((if z4a m≠0 then false else connB m),z4a m):=by
 unfold z1a
 rw [qf (zpg d b)]
 by_cases h:z4a m≠0
 ·rw [bu h,if_pos h]
 ·rw [ym h,if_neg h]
  have a:MOk m:=(zed m).1 (by simpa using h)
  have i:=a.r2;have e:=a.r1
  obtain⟨Y,f,c⟩:=zos a b N (List.replicate m.rows.length false) 0 (by simp) (.inr ⟨by omega,by omega⟩) (by simp;omega)
  have g:Y.length=m.rows.length:=by rw [c.len];simp
  rw [zh ⟨by omega,by omega,by omega⟩,l8,qf f,qf (zti (by omega) (by omega)),←zxg a rfl c,show z4a m=0 by simpa using h]
end GV
end Go.Proofs.Ytdhccodneoebpaa
