
import Derived.Test.YtkcccdcloealfaaGreatBfs06
import Derived.Test.YtkcccdcloealfaaGreatSpec06k
set_option linter.unusedVariables false
set_option linter.unusedSimpArgs false
namespace Go.Proofs.YtkcccdcloealfaaGreat
namespace GV
def ou(m:Mach)(s i:Nat):Int:=((m.rows.getD s default).getD i default).out
def zdh(m:Mach)(p:Nat→Nat)(s:Nat):List (Int×Int):=(List.range m.inputs.toNat).map fun i=>(ou m s i,if ed m s i= -1 then-1 else(p (ed m s i).toNat:Int))
def zov(m:Mach)(p:Nat→Nat)(s:Nat):Nat×List (Int×Int):=(p s,zdh m p s)
def pkc(m:Mach):Nat→Nat→Nat
 |0=>fun _=>0
 |k+1=>fun s=>name (zov m (pkc m k)) s
def pL(m:Mach)(k:Nat):List Int:=(List.range m.rows.length).map fun s=>(pkc m k s:Int)
section
variable {m : Mach}
theorem zoa(k:Nat):(pL m k).length=m.rows.length:=by simp [pL]
theorem ztd{k s:Nat}(h:s<m.rows.length):(pL m k).getD s default=(pkc m k s:Int):=by simp [pL,List.getD_eq_getElem?_getD,h]
theorem q2m(k:Nat):pL m (k+1)=zw7 (zov m (pkc m k)) m.rows.length:=rfl
theorem q2j{p:Nat→Nat}{s t:Nat}:zdh m p s=zdh m p t↔ ∀ i,i<m.inputs.toNat→ou m s i=ou m t i∧(if ed m s i= -1 then-1 else(p (ed m s i).toNat:Int))=(if ed m t i= -1 then-1 else(p (ed m t i).toNat:Int)):=by
 unfold zdh
 rw [List.map_inj_left]
 constructor
 ·intro h i hi
  have:=h i (List.mem_range.2 hi)
  exact⟨congrArg Prod.fst this,congrArg Prod.snd this⟩
 ·intro h i hi
  obtain⟨a,b⟩:=h i (List.mem_range.1 hi)
  exact Prod.ext a b
theorem ze7(a:MOk m){s i:Nat}(b:s<m.rows.length)(hi:i<m.inputs.toNat):(ed m s i= -1↔ou m s i= -1)∧ -1≤ou m s i∧ou m s i<16:=by
 have c:=a.row s b
 have d:=a.o2
 rcases a.edge s i b (by omega) with h|h
 ·exact⟨⟨fun _=>h.2,fun _=>h.1⟩,by show-1≤((m.rows.getD s default).getD i default).out;omega,by show ((m.rows.getD s default).getD i default).out<16;omega⟩
 ·refine⟨⟨fun e=>?_,fun e=>?_⟩,?_,?_⟩
  ·have:((m.rows.getD s default).getD i default).to= -1:=e
   omega
  ·have:((m.rows.getD s default).getD i default).out= -1:=e
   omega
  ·show-1≤((m.rows.getD s default).getD i default).out;omega
  ·show ((m.rows.getD s default).getD i default).out<16;omega
theorem zr1{k s t:Nat}:pkc m (k+1) s=pkc m (k+1) t↔pkc m k s=pkc m k t∧zdh m (pkc m k) s=zdh m (pkc m k) t:=by
 show name _ s=name _ t↔_
 rw [zhr]
 unfold zov
 rw [Prod.mk.injEq]
theorem zkh(b:MOk m){k s t:Nat}(g:s<m.rows.length)(j:t<m.rows.length):pkc m (k+1) s=pkc m (k+1) t↔pkc m k s=pkc m k t∧ ∀ i,i<m.inputs.toNat→ou m s i=ou m t i∧(ed m s i≠ -1→ed m t i≠ -1→pkc m k (ed m s i).toNat=pkc m k (ed m t i).toNat):=by
 rw [zr1,q2j]
 refine and_congr_right fun _=>forall_congr' fun i=>forall_congr' fun hi=>?_
 refine and_congr_right fun c=>?_
 have d:=(ze7 b g hi).1
 have f:=(ze7 b j hi).1
 by_cases e:ed m s i= -1
 ·have a:ed m t i= -1:=f.2 (by rw [←c];exact d.1 e)
  rw [if_pos e,if_pos a]
  exact⟨fun _ h=>absurd e h,fun _=>rfl⟩
 ·have a:ed m t i≠ -1:=fun a=>e (d.2 (by rw [c];exact f.1 a))
  rw [if_neg e,if_neg a]
  exact⟨fun h _ _=>Int.ofNat.inj h,fun h=>congrArg Int.ofNat (h e a)⟩
theorem zhx{k s t:Nat}(h:pkc m (k+1) s=pkc m (k+1) t):pkc m k s=pkc m k t:=(zr1.1 h).1
def ziu(m:Mach)(k:Nat):Prop:= ∀ s t,s<m.rows.length→t<m.rows.length→pkc m k s=pkc m k t→pkc m (k+1) s=pkc m (k+1) t
theorem zho{k s:Nat}:name (pkc m k) s=pkc m k s:=by
 cases k with
 |zero=>
  show name (fun _:Nat=>(0:Nat)) s=0
  rw [show name (fun _:Nat=>(0:Nat)) s=name (fun _:Nat=>(0:Nat)) 0 from zhr.2 rfl,zn6]
 |succ k=>exact zb6 (n:=s+1) (fun a b _ _=>by show name _ a=name _ b↔_;exact zhr) (Nat.lt_succ_self s)
theorem znc{k:Nat}(h:ziu m k){s:Nat}(c:s<m.rows.length):pkc m (k+1) s=pkc m k s:=by
 rw [←zho (k:=k+1),←zho (k:=k)]
 exact zb6 (n:=m.rows.length) (fun a b d e=>⟨zhx,h a b d e⟩) c
theorem zru(k:Nat):pL m (k+1)=pL m k↔ziu m k:=by
 constructor
 ·intro h s t a c e
  have b: ∀ s,s<m.rows.length→pkc m (k+1) s=pkc m k s:=fun s a=>by
   have:=congrArg (fun l:List Int=>l.getD s default) h
   simp only [ztd a] at this
   omega
  rw [b s a,b t c,e]
 ·intro h
  unfold pL
  exact List.map_congr_left fun s a=>by rw [znc h (List.mem_range.1 a)]
theorem zno(b:MOk m){p q:Nat→Nat}(h: ∀ s,s<m.rows.length→p s=q s){s:Nat}(c:s<m.rows.length):zdh m p s=zdh m q s:=by
 unfold zdh
 refine List.map_congr_left fun i hi=>?_
 rcases z4r b c (List.mem_range.1 hi) with a|a
 ·rw [if_pos a,if_pos a]
 ·rw [h _ (by omega)]
theorem zai(c:MOk m){k:Nat}(h:ziu m k): ∀ j,k≤j→ ∀ s,s<m.rows.length→pkc m j s=pkc m k s
 |0,i,s,d=>by rw [show k=0 by omega]
 |j+1,i,s,d=>by
  by_cases e:k=j+1
  ·rw [e]
  ·have ih:=zai c h j (by omega)
   rw [←znc h d]
   show name _ s=name _ s
   refine zb6 (n:=m.rows.length) (fun a b f g=>?_) d
   unfold zov
   rw [ih a f,ih b g,zno c ih f,zno c ih g]
theorem q2r(a:MOk m){k j:Nat}(h:ziu m k)(b:k≤j):pL m j=pL m k:=by
 unfold pL
 exact List.map_congr_left fun s c=>by rw [zai a h j b s (List.mem_range.1 c)]
theorem zqg{κ κ':Type}[DecidableEq κ][DecidableEq κ']{f:Nat→κ}{g:Nat→κ'}: ∀ {n:Nat},(∀ u,u<n→z1v f u=true→z1v g u=true)→cntF f n≤cntF g n∧(cntF f n=cntF g n→ ∀ u,u<n→z1v f u=z1v g u)
 |0,_=>⟨Nat.le_refl _,fun _ u c=>by omega⟩
 |n+1,h=>by
  obtain⟨j,d⟩:=zqg (n:=n) (f:=f) (g:=g) fun u c=>h u (by omega)
  have i:=h n (by omega)
  have a:cntF f (n+1)=cntF f n+if z1v f n=true then 1 else 0:=rfl
  have b:cntF g (n+1)=cntF g n+if z1v g n=true then 1 else 0:=rfl
  cases hf:z1v f n<;>cases hg:z1v g n
  ·rw [hf] at a;rw [hg] at b
   simp only [Bool.false_eq_true,if_false] at a b
   refine⟨by omega,fun e u c=>?_⟩
   by_cases hu':u=n
   ·subst hu';rw [hf,hg]
   ·exact d (by omega) u (by omega)
  ·rw [hf] at a;rw [hg] at b
   simp only [Bool.false_eq_true,if_false,if_true] at a b
   exact⟨by omega,fun e=>by omega⟩
  ·rw [hf,hg] at i;exact absurd (i rfl) (by decide)
  ·rw [hf] at a;rw [hg] at b
   simp only [if_true] at a b
   refine⟨by omega,fun e u c=>?_⟩
   by_cases hu':u=n
   ·subst hu';rw [hf,hg]
   ·exact d (by omega) u (by omega)
theorem zp7{k:Nat}(h: ¬ziu m k):cntF (pkc m k) m.rows.length<cntF (pkc m (k+1)) m.rows.length:=by
 obtain⟨v,l⟩:=zqg (n:=m.rows.length) (f:=pkc m k) (g:=pkc m (k+1)) fun u w o=>oo.2 fun t a e=>oo.1 o t a (zhx e)
 rcases Nat.lt_or_ge (cntF (pkc m k) m.rows.length) (cntF (pkc m (k+1)) m.rows.length) with b|b
 ·exact b
 ·exfalso
  have p:=l (by omega)
  refine h fun s t x a e=>?_
  obtain⟨y,c,_⟩:=z4q (pkc m (k+1)) s
  obtain⟨z,d,_⟩:=z4q (pkc m (k+1)) t
  have i:=z7z (pkc m (k+1)) s
  have j:=z7z (pkc m (k+1)) t
  rw [←p _ (by omega)] at i j
  have q:pkc m k (z7v (pkc m (k+1)) s)=pkc m k (z7v (pkc m (k+1)) t):=by rw [zhx c,zhx d,e]
  have r:z7v (pkc m (k+1)) s=z7v (pkc m (k+1)) t:=by
   rw [←zci i,←zci j];exact zkm q
  rw [←c,r,d]
theorem zl9(a:1≤m.rows.length): ∀ k,(∀ j,j<k→ ¬ziu m j)→k+1≤cntF (pkc m k) m.rows.length
 |0,_=>by
  have:=za9 (pkc m 0) (show 0<m.rows.length by omega) (oo.2 fun t b=>by omega)
  omega
 |k+1,h=>by
  have c:=zl9 a k fun j d=>h j (by omega)
  have e:=zp7 (h k (by omega))
  omega
theorem zn2{p:Nat→Prop}: ∀ n,p n→ ∃ k,k≤n∧p k∧ ∀ j,j<k→ ¬p j
 |n,h=>by
  by_cases e: ∃ j,j<n∧p j
  ·obtain⟨j,b,a⟩:=e
   obtain⟨k,f,c,d⟩:=zn2 j a
   exact⟨k,by omega,c,d⟩
  ·exact⟨n,Nat.le_refl _,h,fun j b a=>e ⟨j,b,a⟩⟩
theorem zvr(c:MOk m): ∃ k,k<m.rows.length∧ziu m k∧ ∀ j,j<k→ ¬ziu m j:=by
 have d:=c.r1
 have e: ∃ k,k<m.rows.length∧ziu m k:=by
  refine Classical.byContradiction fun b=>?_
  have:=zl9 d m.rows.length fun j f a=>b ⟨j,f,a⟩
  have:=z9d (pkc m m.rows.length) m.rows.length
  omega
 obtain⟨n,b,a⟩:=e
 obtain⟨k,i,g,h⟩:=zn2 n a
 exact⟨k,by omega,g,h⟩
def cls(m:Mach)(s:Nat):Nat:=pkc m m.rows.length s
def z1k(m:Mach):List Int:=pL m m.rows.length
theorem zl3(a:MOk m):ziu m m.rows.length:=by
 obtain⟨k,f,b,_⟩:=zvr a
 intro s t c d e
 rw [zai a b _ (by omega) s c,zai a b _ (by omega) t d] at*
 exact e
theorem zkg(b:MOk m){s t:Nat}(c:s<m.rows.length)(d:t<m.rows.length)(h:cls m s=cls m t){i:Nat}(hi:i<m.inputs.toNat):ou m s i=ou m t i∧(ed m s i= -1↔ed m t i= -1)∧(ed m s i≠ -1→cls m (ed m s i).toNat=cls m (ed m t i).toNat):=by
 have j:=(zkh b c d).1 (zl3 b s t c d h)
 obtain⟨f,k⟩:=j.2 i hi
 have l:=(ze7 b c hi).1
 have n:=(ze7 b d hi).1
 have g:ed m s i= -1↔ed m t i= -1:=by rw [l,n,f]
 exact⟨f,g,fun a=>k a fun e=>a (g.2 e)⟩
/-! ### Responses-/
theorem zl2(m:Mach): ∀ w:List Int,z2x m (-1) w=List.replicate w.length (-1)
 | []=>rfl
 |c::w=>by
  show (z0h m (-1) c).out::z2x m (z0h m (-1) c).to w=_
  rw [show z0h m (-1) c=⟨-1,-1⟩ from rfl,zl2 m w];rfl
theorem z7n{s:Nat}(i:Nat)(w:List Int):z2x m (s:Int) ((i:Int)::w)=ou m s i::z2x m (ed m s i) w:=by
 show (z0h m (s:Int) (i:Int)).out::z2x m (z0h m (s:Int) (i:Int)).to w=_
 unfold z0h
 rw [if_neg (by omega)];rfl
theorem zmz{s:Nat}(i:Nat)(w:List Int):z0e m (s:Int) ((i:Int)::w)=z0e m (ed m s i) w:=by
 show z0e m (z0h m (s:Int) (i:Int)).to w=_
 unfold z0h
 rw [if_neg (by omega)];rfl
theorem zhc(a:MOk m): ∀ (k:Nat) {s t:Nat},s<m.rows.length→t<m.rows.length→(pkc m k s=pkc m k t↔ ∀ w,WOk m.inputs w→w.length≤k→z2x m (s:Int) w=z2x m (t:Int) w)
 |0,s,t,f,g=>⟨fun _ w _ d=>by
  have:w=[]:=List.length_eq_zero_iff.1 (by omega)
  subst this;rfl,fun _=>rfl⟩
 |k+1,s,t,f,g=>by
  rw [zkh a f g]
  constructor
  ·rintro⟨C,v⟩ w b d
   match w,b,d with
   | [],_,_=>rfl
   |c::w,b,d=>
    have x:0≤c∧c<m.inputs:=b 0 (by simp)
    obtain⟨i,rfl⟩:=Int.eq_ofNat_of_zero_le x.1
    have hi:i<m.inputs.toNat:=by omega
    obtain⟨q,y⟩:=v i hi
    have r:=(ze7 a f hi).1
    have u:=(ze7 a g hi).1
    rw [z7n,z7n,q]
    congr 1
    rcases z4r a f hi with e|e
    ·rw [e,u.2 (by rw [←q];exact r.1 e)]
    ·have l:ed m t i≠ -1:=fun n=>by have:=r.2 (by rw [q];exact u.1 n);omega
     have n:=(z4r a g hi).resolve_left l
     have:=(zhc a k (s:=(ed m s i).toNat) (t:=(ed m t i).toNat) (by omega) (by omega)).1 (y (by omega) l) w (fun j o=>b (j+1) (by simpa using o)) (by simpa using d)
     rwa [Int.toNat_of_nonneg e.1,Int.toNat_of_nonneg n.1] at this
  ·intro h
   refine⟨(zhc a k f g).2 fun w b d=>h w b (by omega),fun i hi=>?_⟩
   have p: ∀ w,WOk m.inputs w→WOk m.inputs ((i:Int)::w):=fun w b j o=>by
    cases j with
    |zero=>exact⟨by show 0≤(i:Int);omega,by show (i:Int)<m.inputs;omega⟩
    |succ j=>exact b j (by simpa using o)
   refine⟨?_,fun z n=>?_⟩
   ·have:=h [(i:Int)] (p [] fun j o=>by simp at o) (by simp)
    rw [z7n,z7n] at this
    exact(List.cons.inj this).1
   ·have A:=(z4r a f hi).resolve_left z
    have B:=(z4r a g hi).resolve_left n
    refine(zhc a k (by omega) (by omega)).2 fun w b d=>?_
    have:=h ((i:Int)::w) (p w b) (by simpa using d)
    rw [z7n,z7n] at this
    rw [Int.toNat_of_nonneg A.1,Int.toNat_of_nonneg B.1]
    exact(List.cons.inj this).2
theorem zpd(a:MOk m){s t:Nat}(b:s<m.rows.length)(c:t<m.rows.length):cls m s=cls m t↔ ∀ w,WOk m.inputs w→z2x m (s:Int) w=z2x m (t:Int) w:=by
 constructor
 ·intro h w d
  have e:pkc m (m.rows.length+w.length) s=pkc m (m.rows.length+w.length) t:=by
   rw [zai a (zl3 a) _ (by omega) s b,zai a (zl3 a) _ (by omega) t c];exact h
  exact(zhc a _ b c).1 e w d (by omega)
 ·intro h
  exact(zhc a _ b c).2 fun w d _=>h w d
end
end GV
end Go.Proofs.YtkcccdcloealfaaGreat

namespace Go.Proofs.YtkcccdcloealfaaGreat
namespace GV
theorem zgp{α:Type}{r:α→α→Prop}(hi: ∀ a,¬r a a)(d: ∀ a b,r a b→ ¬r b a): ∀ {X Y:List α},X.Pairwise r→Y.Pairwise r→(∀ a,a∈X↔a∈Y)→X=Y
 | [],[],_,_,_=>rfl
 | [],y::Y,_,_,h=>by have:=(h y).2 (by simp);simp at this
 |x::X,[],_,_,h=>by have:=(h x).1 (by simp);simp at this
 |x::X,y::Y,i,j,h=>by
  obtain⟨f,k⟩:=List.pairwise_cons.1 i
  obtain⟨g,l⟩:=List.pairwise_cons.1 j
  have e:x=y:=by
   rcases List.mem_cons.1 ((h x).1 (by simp)) with e|m
   ·exact e
   ·rcases List.mem_cons.1 ((h y).2 (by simp)) with e|n
    ·exact e.symm
    ·exact absurd (g x m) (d _ _ (f y n))
  subst e
  rw [zgp hi d k l fun a=>?_]
  constructor
  ·intro c
   rcases List.mem_cons.1 ((h a).1 (List.mem_cons_of_mem _ c)) with e|h'
   ·subst e;exact absurd (f _ c) (hi _)
   ·exact h'
  ·intro c
   rcases List.mem_cons.1 ((h a).2 (List.mem_cons_of_mem _ c)) with e|h'
   ·subst e;exact absurd (g _ c) (hi _)
   ·exact h'
theorem zn7{a b:List Int}(h:llt a b): ¬llt b a:=fun k=>zas _ (zah h k)
def zj2(P:List BE):List (List Int):=P.map (·.wd)
section
variable {m : Mach} {s0 : Nat} {P : List BE}
theorem getD_map{α β:Type}[Inhabited α][Inhabited β]{X:List α}{f:α→β}{k:Nat}(h:k<X.length):(X.map f).getD k default=f (X.getD k default):=by
 simp [List.getD_eq_getElem?_getD,h]
theorem zd4(h:Rch m s0 P):(zj2 P).Pairwise llt:=by
 unfold zj2
 rw [List.pairwise_iff_getElem]
 intro i j hi a b
 rw [List.length_map] at hi a
 have:=h.inc i j b a
 rw [List.getElem_map,List.getElem_map]
 simpa [List.getD_eq_getElem?_getD,hi,a] using this
theorem q2e{w:List Int}:w∈zj2 P↔ ∃ j,j<P.length∧(P.getD j default).wd=w:=by
 unfold zj2;rw [List.mem_map]
 constructor
 ·rintro⟨e,b,rfl⟩
  obtain⟨j,a,rfl⟩:=List.mem_iff_getElem.1 b
  exact⟨j,a,by simp [List.getD_eq_getElem?_getD,a]⟩
 ·rintro⟨j,a,rfl⟩;exact⟨_,z1t a,rfl⟩
def zsr(m:Mach)(s0:Nat)(w:List Int):Prop:=WOk m.inputs w∧z0e m s0 w≠ -1∧ ∀ v,WOk m.inputs v→z0e m s0 v=z0e m s0 w→lle w v
theorem zff(b:MOk m)(h:Rch m s0 P){w:List Int}:w∈zj2 P↔zsr m s0 w:=by
 rw [q2e]
 constructor
 ·rintro⟨j,a,rfl⟩
  refine⟨(h.wok j a).1,by rw [h.aft j a];omega,fun v c e=>h.min b a c (by rw [e,h.aft j a])⟩
 ·rintro⟨d,f,g⟩
  obtain⟨j,a,i,k⟩:=h.least b _ w rfl d f
  have l:=g _ (h.wok j a).1 (by rw [h.aft j a,i])
  refine⟨j,a,?_⟩
  rcases k with e|e
  ·exact e
  ·exact absurd e (zdf l)
theorem zzc(o:MOk m){P':List BE}(h:Rch m s0 P)(h':Rch m s0 P'):P=P':=by
 have p:zj2 P=zj2 P':=zgp zas (fun _ _=>zn7) (zd4 h) (zd4 h') fun w=>by rw [zff o h,zff o h']
 have s:P.length=P'.length:=by have:=congrArg List.length p;simpa [zj2] using this
 have d: ∀ j,j<P.length→(P.getD j default).wd=(P'.getD j default).wd:=fun j c=>by
  have:=congrArg (fun l:List (List Int)=>l.getD j default) p
  simp only [zj2] at this
  rw [getD_map (X:=P) c,getD_map (X:=P') (by omega)] at this
  exact this
 have k: ∀ j,j<P.length→(P.getD j default).st=(P'.getD j default).st:=fun j c=>by
  have e:=h.aft j c
  have n:=h'.aft j (by omega)
  rw [d j c,n] at e
  omega
 refine z0d s fun j c=>?_
 by_cases h0:j=0
 ·subst h0;rw [h.root,h'.root]
 ·obtain⟨q,i,D,hi,e,n,t,_⟩:=h.par j (by omega) c
  obtain⟨q',i',hq',hi',h1',h2',h3',_⟩:=h'.par j (by omega) (by omega)
  have r:=d j c
  rw [t,h3'] at r
  obtain⟨u,v⟩:=List.append_inj' r rfl
  have z:i=i':=by
   have:(i:Int)=(i':Int):=by simpa using v
   omega
  subst z
  have A:(P.getD q default).st=(P'.getD q' default).st:=by
   have B:=h.aft q (by omega)
   have C:=h'.aft q' (by omega)
   rw [u,C] at B
   omega
  have a:=d j c
  have b:=k j c
  rw [A] at e
  have f:(P.getD j default).par=(P'.getD j default).par:=by rw [e,h1']
  have g:(P.getD j default).inp=(P'.getD j default).inp:=by rw [n,h2']
  generalize P.getD j default=x at a b f g⊢
  generalize P'.getD j default=y at a b f g⊢
  cases x;cases y
  simp only at a b f g
  rw [a,b,f,g]
end
/-! ### Homomorphisms-/
def hI(h:Nat→Nat)(z:Int):Int:=if z= -1 then-1 else(h z.toNat:Int)
theorem zim(h:Nat→Nat):hI h (-1)= -1:=rfl
theorem z81(h:Nat→Nat)(s:Nat):hI h (s:Int)=(h s:Int):=by unfold hI;rw [if_neg (by omega),Int.toNat_natCast]
structure Hom (m q:Mach) (h:Nat→Nat):Prop where
 ok:MOk m
 ok':MOk q
 inp:q.inputs=m.inputs
 rng: ∀ s,s<m.rows.length→h s<q.rows.length
 out: ∀ s i,s<m.rows.length→i<m.inputs.toNat→ou q (h s) i=ou m s i
 to: ∀ s i,s<m.rows.length→i<m.inputs.toNat→ed q (h s) i=hI h (ed m s i)
section
variable {m q : Mach} {h : Nat → Nat}
theorem Hom.run(H:Hom m q h): ∀ (w:List Int) {s:Nat},s<m.rows.length→WOk m.inputs w→z2x q (h s:Int) w=z2x m (s:Int) w∧z0e q (h s:Int) w=hI h (z0e m (s:Int) w)
 | [],s,a,_=>⟨rfl,(z81 h s).symm⟩
 |c::w,s,a,b=>by
  have d:0≤c∧c<m.inputs:=b 0 (by simp)
  obtain⟨i,rfl⟩:=Int.eq_ofNat_of_zero_le d.1
  have hi:i<m.inputs.toNat:=by omega
  have hw':WOk m.inputs w:=fun j f=>b (j+1) (by simpa using f)
  rw [z7n,z7n,zmz,zmz,H.out s i a hi,H.to s i a hi]
  rcases z4r H.ok a hi with e|⟨g,o⟩
  ·rw [e,zim,zl2,zl2,zhf,zhf,zim];exact⟨rfl,rfl⟩
  ·obtain⟨t,k⟩:=Int.eq_ofNat_of_zero_le g
   rw [k,z81]
   obtain⟨l,n⟩:=H.run w (s:=t) (by omega) hw'
   rw [l,n];exact⟨rfl,rfl⟩
def q03(h:Nat→Nat)(e:BE):BE:=⟨h e.st,hI h e.par,e.inp,e.wd⟩
def z3g(h:Nat→Nat)(P:List BE)(j:Nat):Nat:=h (P.getD j default).st
def zct(h:Nat→Nat)(P:List BE):List BE:=(z2f (z3g h P) P.length).map fun j=>q03 h (P.getD j default)
theorem zr3{P:List BE}:(zct h P).length=cntF (z3g h P) P.length:=by unfold zct;rw [List.length_map,z4l]
theorem zry{P:List BE}{c:Nat}(a:c<cntF (z3g h P) P.length):(zct h P).getD c default=q03 h (P.getD ((z2f (z3g h P) P.length).getD c 0) default):=by
 unfold zct
 rw [List.getD_eq_getElem?_getD,List.getElem?_map]
 have:=(z4l (f:=z3g h P) P.length).symm▸a
 rw [List.getD_eq_getElem?_getD (l:=z2f _ _),List.getElem?_eq_getElem this]
 rfl
theorem zk0{P:List BE}{u:Nat}(a:u<P.length)(b:z1v (z3g h P) u=true):cntF (z3g h P) u<cntF (z3g h P) P.length∧(zct h P).getD (cntF (z3g h P) u) default=q03 h (P.getD u default):=by
 have c:=za9 (z3g h P) a b
 rw [zry c,zld a b]
 exact⟨c,rfl⟩
theorem q2b(H:Hom m q h){s0:Nat}(O:s0<m.rows.length){P:List BE}(a:Rch m s0 P):Rch q (h s0) (zct h P):=by
 have hm:=H.ok
 have hlen:=zr3 (h:=h) (P:=P)
 have cs: ∀ c,c<(zct h P).length→ ∃ u,u<P.length∧z1v (z3g h P) u=true∧cntF (z3g h P) u=c∧(zct h P).getD c default=q03 h (P.getD u default):=fun c k=>by
  rw [hlen] at k
  obtain⟨f,Q,R⟩:=z6f k
  exact⟨_,f,Q,R,zry k⟩
 have hmono: ∀ u v,u<P.length→v<P.length→lle (P.getD u default).wd (P.getD v default).wd→u≤v:=fun u v b n g=>by
  rcases Nat.lt_or_ge v u with f|f
  ·exact absurd (a.inc v u f b) (zdf g)
  ·exact f
 have f0:z1v (z3g h P) 0=true:=oo.2 fun t K=>by omega
 have rng: ∀ c,c<(zct h P).length→((zct h P).getD c default).st<q.rows.length:=fun c k=>by
  obtain⟨u,b,_,_,e⟩:=cs c k
  rw [e];exact H.rng _ (a.rng u b)
 have dis: ∀ i j,i<(zct h P).length→j<(zct h P).length→((zct h P).getD i default).st=((zct h P).getD j default).st→i=j:=fun i j hi d e=>by
  obtain⟨u,b,fu,rfl,eu⟩:=cs i hi
  obtain⟨v,n,fv,rfl,ev⟩:=cs j d
  rw [eu,ev] at e
  have:z7v (z3g h P) u=z7v (z3g h P) v:=zkm e
  rw [zci fu,zci fv] at this
  rw [this]
 refine⟨?_,?_,?_,rng,dis,fun j d=>?_,fun j S d=>?_,fun i j z d=>?_,fun c i k hi l=>?_⟩
 ·rw [hlen];have:=za9 (z3g h P) a.pos f0;omega
 ·have A:((zct h P).map (·.st)).Nodup:=by
   rw [List.nodup_iff_pairwise_ne,List.pairwise_iff_getElem]
   intro i j hi d z e
   rw [List.length_map] at hi d
   rw [List.getElem_map,List.getElem_map] at e
   have:=dis i j hi d (by simpa [List.getD_eq_getElem?_getD,d,hi] using e)
   omega
  have hsub:((zct h P).map (·.st))⊆List.range q.rows.length:=by
   intro x T
   obtain⟨e,U,rfl⟩:=List.mem_map.1 T
   obtain⟨j,d,rfl⟩:=List.mem_iff_getElem.1 U
   have:=rng j d
   rw [List.mem_range]
   simpa [List.getD_eq_getElem?_getD,d] using this
  have:=List.Nodup.length_le_of_subset A hsub
  simpa using this
 ·obtain⟨_,e⟩:=zk0 a.pos f0
  have V:(zct h P).getD 0 default=q03 h (P.getD 0 default):=e
  rw [V,a.root];rfl
 ·obtain⟨u,b,_,_,e⟩:=cs j d
  rw [e]
  show z0e q (h s0) (P.getD u default).wd=((h (P.getD u default).st:Nat):Int)
  rw [(H.run _ O (a.wok u b).1).2,a.aft u b,z81]
 ·obtain⟨u,b,fu,k,e⟩:=cs j d
  have B:0<u:=by
   rcases Nat.eq_zero_or_pos u with o|o
   ·subst o;have:cntF (z3g h P) 0=0:=rfl;omega
   ·exact o
  obtain⟨r,i,W,hi,X,Y,L,M⟩:=a.par u B b
  have fr:z1v (z3g h P) r=true:=oo.2 fun t K C=>by
   have heq':h (P.getD t default).st=h (P.getD r default).st:=C
   have D:=a.inc t r K (by omega)
   have E:=a.rng t (by omega)
   have F:=a.rng r (by omega)
   have w:hI h (ed m (P.getD t default).st i)=((h (P.getD u default).st:Nat):Int):=by
    rw [←H.to _ _ E hi,heq',H.to _ _ F hi,M,z81]
   have l:ed m (P.getD t default).st i≠ -1:=fun o=>by rw [o,zim] at w;omega
   obtain⟨v,n,p,g⟩:=a.cls t i (by omega) hi l
   have y:llt (P.getD v default).wd (P.getD u default).wd:=by rw [L];exact zot g (zm4 _ _ D)
   have G:v<u:=by
    have:=hmono v u n b (.inr y)
    rcases Nat.lt_or_ge v u with f|f
    ·exact f
    ·have:v=u:=by omega
     subst this;exact absurd y (zas _)
   refine oo.1 fu v G ?_
   show h (P.getD v default).st=h (P.getD u default).st
   rw [←p,z81] at w
   omega
  obtain⟨N,s⟩:=zk0 (by omega) fr
  refine⟨cntF (z3g h P) r,i,by rw [←k];exact za9 _ W fr,by rw [H.inp];exact hi,?_,?_,?_,?_⟩
  ·rw [e,s];show hI h (P.getD u default).par=_;rw [X,z81];rfl
  ·rw [e];exact Y
  ·rw [e,s];exact L
  ·rw [e,s]
   show ed q (h (P.getD r default).st) i=((h (P.getD u default).st:Nat):Int)
   rw [H.to _ _ (a.rng r (by omega)) hi,M,z81]
 ·obtain⟨u,b,fu,I,eu⟩:=cs i (by omega)
  obtain⟨v,n,fv,Z,ev⟩:=cs j d
  rw [eu,ev]
  refine a.inc u v ?_ n
  rcases Nat.lt_or_ge u v with f|f
  ·exact f
  ·have:=znj (z3g h P) f;omega
 ·obtain⟨u,b,fu,I,eu⟩:=cs c k
  rw [H.inp] at hi
  rw [eu] at l⊢
  have J:=a.rng u b
  have w:ed q (h (P.getD u default).st) i=hI h (ed m (P.getD u default).st i):=H.to _ _ J hi
  have hne':ed m (P.getD u default).st i≠ -1:=fun o=>l (by show ed q (h (P.getD u default).st) i= -1;rw [w,o];rfl)
  obtain⟨v,n,p,g⟩:=a.cls u i b hi hne'
  obtain⟨r1,r2,r3⟩:=z4q (z3g h P) v
  have fr:=z7z (z3g h P) v
  obtain⟨N,s⟩:=zk0 (h:=h) (u:=z7v (z3g h P) v) (by omega) fr
  refine⟨_,by rw [hlen];exact N,?_,?_⟩
  ·rw [s]
   show ((h (P.getD (z7v (z3g h P) v) default).st:Nat):Int)=ed q (h (P.getD u default).st) i
   have r2':h (P.getD (z7v (z3g h P) v) default).st=h (P.getD v default).st:=r2
   rw [w,←p,z81,r2']
  ·rw [s]
   show lle (P.getD (z7v (z3g h P) v) default).wd ((P.getD u default).wd++[(i:Int)])
   refine zms ?_ g
   by_cases e:z7v (z3g h P) v=v
   ·rw [e];exact .inl rfl
   ·exact .inr (a.inc _ _ (by omega) n)
theorem q52(H:Hom m q h){s0:Nat}(a:s0<m.rows.length):rch q (h s0)=zct h (rch m s0):=
 zzc H.ok' (zge H.ok' (H.rng _ a)) (q2b H a (zge H.ok a))
end
/-! ### Machines with the same responses-/
def Red(m:Mach):Prop:= ∀ s t,s<m.rows.length→t<m.rows.length→(∀ w,WOk m.inputs w→z2x m (s:Int) w=z2x m (t:Int) w)→s=t
def SameR(a b:Mach):Prop:=a.inputs=b.inputs∧a.outputs=b.outputs∧ ∀ w,WOk a.inputs w→z2x a 0 w=z2x b 0 w
theorem SameR.symm{a b:Mach}(h:SameR a b):SameR b a:=⟨h.1.symm,h.2.1.symm,fun w c=>(h.2.2 w (by rw [h.1];exact c)).symm⟩
theorem SameR.trans{a b c:Mach}(h:SameR a b)(k:SameR b c):SameR a c:=⟨h.1.trans k.1,h.2.1.trans k.2.1,fun w d=>(h.2.2 w d).trans (k.2.2 w (by rw [←h.1];exact d))⟩
theorem zaw{n:Int}{u v:List Int}(a:WOk n u)(b:WOk n v):WOk n (u++v):=fun k c=>by
 rw [List.length_append] at c
 by_cases h:k<u.length
 ·rw [List.getD_eq_getElem?_getD,List.getElem?_append_left h,←List.getD_eq_getElem?_getD];exact a k h
 ·rw [List.getD_eq_getElem?_getD,List.getElem?_append_right (by omega),←List.getD_eq_getElem?_getD];exact b _ (by omega)
theorem zvg{n:Int}{i:Nat}(h:i<n.toNat):WOk n [(i:Int)]:=fun k a=>by
 have:k=0:=by simpa using a
 subst this
 exact⟨by show 0≤(i:Int);omega,by show (i:Int)<n;omega⟩
theorem zc4(m:Mach)(s i:Nat):z0h m (s:Int) (i:Int)=⟨ed m s i,ou m s i⟩:=by
 unfold z0h;rw [if_neg (by omega)];rfl
section
variable {a b : Mach}
theorem zua{m:Mach}(a:MOk m){s:Int}(b:SOk m s){u:List Int}{i:Nat}(c:WOk m.inputs u)(hi:i<m.inputs.toNat):(z0e m s (u++[(i:Int)])= -1↔(z0h m (z0e m s u) (i:Int)).out= -1):=by
 rw [z5z]
 show (z0h m (z0e m s u) (i:Int)).to= -1↔_
 rcases zex m a s u b c with h|⟨d,f⟩
 ·rw [h];exact⟨fun _=>rfl,fun _=>rfl⟩
 ·obtain⟨t,e⟩:=Int.eq_ofNat_of_zero_le d
  rw [e,zc4]
  exact(ze7 a (by omega) hi).1
theorem zqe{m:Mach}{s:Int}{u:List Int}{i:Int}:z2x m s (u++[i])=z2x m s u++[(z0h m (z0e m s u) i).out]:=by rw [z5v];rfl
theorem zq0(h:SameR a b){u:List Int}{i:Nat}(d:WOk a.inputs u)(hi:i<a.inputs.toNat):(z0h a (z0e a 0 u) (i:Int)).out=(z0h b (z0e b 0 u) (i:Int)).out:=by
 have c:=h.2.2 (u++[(i:Int)]) (zaw d (zvg hi))
 rw [zqe,zqe] at c
 have:=List.append_inj_right' c rfl
 simpa using this
theorem zx4(b:MOk a):SOk a 0:= .inr ⟨by omega,by have:=b.r1;omega⟩
theorem zch(g:MOk a)(j:MOk b)(h:SameR a b){w:List Int}(k:WOk a.inputs w):z0e a 0 w= -1↔z0e b 0 w= -1:=by
 by_cases e:w=[]
 ·subst e;exact⟨fun h=>by simp [z0e] at h,fun h=>by simp [z0e] at h⟩
 ·obtain⟨u,c,rfl⟩: ∃ u c,w=u++[c]:=⟨w.dropLast,w.getLast e,(List.dropLast_concat_getLast _).symm⟩
  obtain⟨d,f,l⟩:=zq7 k
  obtain⟨i,rfl⟩:=Int.eq_ofNat_of_zero_le f
  have hi:i<a.inputs.toNat:=by omega
  rw [zua g (zx4 g) d hi,zua j (zx4 j) (by rw [←h.1];exact d) (by rw [←h.1];exact hi),zq0 h d hi]
theorem zqq(g:MOk a)(c:MOk b)(rb:Red b)(h:SameR a b){u v:List Int}(i:WOk a.inputs u)(j:WOk a.inputs v)(e:z0e a 0 u=z0e a 0 v):z0e b 0 u=z0e b 0 v:=by
 have k:WOk b.inputs u:=by rw [←h.1];exact i
 have l:WOk b.inputs v:=by rw [←h.1];exact j
 by_cases hn:z0e a 0 u= -1
 ·rw [(zch g c h i).1 hn,(zch g c h j).1 (by rw [←e];exact hn)]
 ·have m:=(zex b c 0 u (zx4 c) k).resolve_left fun d=>hn ((zch g c h i).2 d)
  have n:=(zex b c 0 v (zx4 c) l).resolve_left fun d=>hn (by rw [e];exact(zch g c h j).2 d)
  obtain⟨s,o⟩:=Int.eq_ofNat_of_zero_le m.1
  obtain⟨t,p⟩:=Int.eq_ofNat_of_zero_le n.1
  rw [o] at m⊢
  rw [p] at n⊢
  rw [rb s t (by omega) (by omega) fun x r=>?_]
  have f:WOk a.inputs x:=by rw [h.1];exact r
  have q:=h.2.2 (u++x) (zaw i f)
  have d:=h.2.2 (v++x) (zaw j f)
  rw [z5v,z5v,o] at q
  rw [z5v,z5v,p] at d
  have w:=(List.append_inj q (by rw [z4m,z4m])).2
  have y:=(List.append_inj d (by rw [z4m,z4m])).2
  rw [←w,←y,e]
theorem zlx(d:MOk a)(f:MOk b)(ra:Red a)(rb:Red b)(h:SameR a b){w:List Int}:zsr a 0 w→zsr b 0 w:=by
 rintro⟨c,i,j⟩
 refine⟨by rw [←h.1];exact c,fun e=>i ((zch d f h c).2 e),fun v g e=>j v (by rw [h.1];exact g) ?_⟩
 exact zqq f d ra h.symm g (by rw [←h.1];exact c) e
theorem zt1(c:MOk a)(d:MOk b)(ra:Red a)(rb:Red b)(h:SameR a b):zj2 (rch a 0)=zj2 (rch b 0):=
 zgp zas (fun _ _=>zn7) (zd4 (z7g c)) (zd4 (z7g d)) fun w=>by
  rw [zff c (z7g c),zff d (z7g d)]
  exact⟨zlx c d ra rb h,zlx d c rb ra h.symm⟩
theorem zsi(c:MOk a)(f:MOk b)(ra:Red a)(rb:Red b)(h:SameR a b):z8n a=z8n b:=by
 have d:=z7g c
 have m:=z7g f
 have q:=zt1 c f ra rb h
 have cP:=z2v d
 have cQ:=z2v m
 unfold z8n
 generalize rch a 0=P at d q cP⊢
 generalize rch b 0=Q at m q cQ⊢
 have I:P.length=Q.length:=by have:=congrArg List.length q;simpa [zj2] using this
 have n: ∀ j,j<P.length→(P.getD j default).wd=(Q.getD j default).wd:=fun j g=>by
  have:=congrArg (fun l:List (List Int)=>l.getD j default) q
  simp only [zj2] at this
  rw [getD_map (X:=P) g,getD_map (X:=Q) (by omega)] at this
  exact this
 have hrow: ∀ j,j<P.length→rowP a (z3s P) (P.getD j default).st=rowP b (z3s Q) (Q.getD j default).st:=fun j g=>by
  have r:=d.rng j g
  have s:=m.rng j (by omega)
  have w:=c.row _ r
  have x:=f.row _ s
  refine z0d ?_ fun i hi=>?_
  ·rw [zb3 c r,zb3 f s,h.1]
  ·rw [zb3 c r] at hi
   rw [z9u c r hi,z9u f s (by rw [←h.1];exact hi)]
   have t:=(d.wok j g).1
   have J:WOk b.inputs (P.getD j default).wd:=by rw [←h.1];exact t
   have y:z0e a 0 (P.getD j default).wd=_:=d.aft j g
   have u:z0e b 0 (Q.getD j default).wd=_:=m.aft j (by omega)
   rw [←n j g] at u
   have E:=zq0 h t hi
   rw [y,u,zc4,zc4] at E
   have z:z0e a 0 ((P.getD j default).wd++[(i:Int)])=ed a (P.getD j default).st i:=by
    rw [z5z,y];show (z0h a _ _).to=_;rw [zc4]
   have A:z0e b 0 ((P.getD j default).wd++[(i:Int)])=ed b (Q.getD j default).st i:=by
    rw [z5z,u];show (z0h b _ _).to=_;rw [zc4]
   have wi:=zaw t (zvg hi)
   have v:pos (z3s P) (ed a (P.getD j default).st i)=pos (z3s Q) (ed b (Q.getD j default).st i):=by
    by_cases e:ed a (P.getD j default).st i= -1
    ·have:=(zch c f h wi).1 (by rw [z];exact e)
     rw [A] at this
     rw [e,this];rfl
    ·obtain⟨k,o,p,_⟩:=d.cls j i g hi e
     have B:z0e b 0 ((P.getD j default).wd++[(i:Int)])=z0e b 0 (P.getD k default).wd:=zqq c f rb h wi (d.wok k o).1 (by rw [z,show z0e a 0 (P.getD k default).wd=_ from d.aft k o,p])
     have F:z0e b 0 (Q.getD k default).wd=_:=m.aft k (by omega)
     rw [A,n k o,F] at B
     rw [←p,B,z6k,z6k]
     have G:(z3s P).idxOf (P.getD k default).st=k:=by rw [←z9s P o];exact z5f cP.nd (by rw [z6x];exact o)
     have H:(z3s Q).idxOf (Q.getD k default).st=k:=by rw [←z9s Q (by omega)];exact z5f cQ.nd (by rw [z6x];omega)
     rw [G,H]
   rw [v]
   congr 1
 have hrows:(z3s P).map (rowP a (z3s P))=(z3s Q).map (rowP b (z3s Q)):=by
  have K:(z3s P).length=P.length:=z6x P
  have L:(z3s Q).length=Q.length:=z6x Q
  refine List.ext_getElem (by rw [List.length_map,List.length_map];omega) fun j C D=>?_
  rw [List.length_map] at C D
  have:=hrow j (by omega)
  rw [List.getElem_map,List.getElem_map]
  have w:(z3s P)[j]=(P.getD j default).st:=by rw [←z9s P (by omega)];simp [List.getD_eq_getElem?_getD,C]
  have x:(z3s Q)[j]=(Q.getD j default).st:=by rw [←z9s Q (by omega)];simp [List.getD_eq_getElem?_getD,D]
  rw [w,x];exact this
 unfold z13
 rw [hrows,h.1,h.2.1]
end
/-! ### The quotient-/
def z1q(m:Mach):Mach:=⟨m.inputs,m.outputs,(z2f (cls m) m.rows.length).map fun u=>(m.rows.getD u default).map fun e=>⟨hI (cls m) e.to,e.out⟩⟩
def l7(m:Mach):Mach:=z8n (z1q m)
section
variable {m : Mach}
theorem zd2:(z1q m).rows.length=cntF (cls m) m.rows.length:=by unfold z1q;rw [List.length_map,z4l]
theorem z9p(s:Nat):name (cls m) s=cls m s:=zho
theorem zcx{s:Nat}(a:s<m.rows.length):cls m s<cntF (cls m) m.rows.length:=by rw [←z9p];exact q3o a
theorem zou{c:Nat}(a:c<cntF (cls m) m.rows.length):(z1q m).rows.getD c default=(m.rows.getD ((z2f (cls m) m.rows.length).getD c 0) default).map fun e=>⟨hI (cls m) e.to,e.out⟩:=by
 unfold z1q
 dsimp only
 have:=(z4l (f:=cls m) m.rows.length).symm▸a
 rw [List.getD_eq_getElem?_getD,List.getElem?_map,List.getD_eq_getElem?_getD (l:=z2f _ _),List.getElem?_eq_getElem this]
 rfl
theorem zom(b:MOk m){c i:Nat}(a:c<cntF (cls m) m.rows.length)(hi:i<m.inputs.toNat):ed (z1q m) c i=hI (cls m) (ed m ((z2f (cls m) m.rows.length).getD c 0) i)∧ou (z1q m) c i=ou m ((z2f (cls m) m.rows.length).getD c 0) i:=by
 obtain⟨d,_,_⟩:=z6f a
 have e:=b.row _ d
 unfold ed ou
 rw [zou a,getD_map (by omega)]
 exact⟨rfl,rfl⟩
theorem zps(e:MOk m){s:Nat}(a:s<m.rows.length):(z2f (cls m) m.rows.length).getD (cls m s) 0<m.rows.length∧cls m ((z2f (cls m) m.rows.length).getD (cls m s) 0)=cls m s:=by
 obtain⟨b,c,d⟩:=z6f (zcx a)
 refine⟨b,?_⟩
 rw [←z9p,zae c,d]
theorem z8u(a:MOk m):MOk (z1q m):=by
 have e:=zd2 (m:=m)
 have k:=a.r1;have l:=a.r2;have n:=z9d (cls m) m.rows.length
 have o:=zcx (m:=m) (s:=0) (by omega)
 refine⟨a.i1,a.i2,a.o1,a.o2,by omega,by omega,fun s b=>?_,fun s i b hi=>?_⟩
 ·rw [e] at b
  obtain⟨c,_,_⟩:=z6f b
  rw [zou b,List.length_map]
  exact a.row _ c
 ·rw [e] at b
  obtain⟨c,_,_⟩:=z6f b
  rw [zou b] at hi⊢
  rw [List.length_map] at hi
  rw [getD_map hi]
  have p:=a.row _ c
  rcases a.edge _ i c hi with⟨d,f⟩|⟨d,f,g,h⟩
  ·left;rw [d,f];exact⟨rfl,rfl⟩
  ·right
   obtain⟨t,j⟩:=Int.eq_ofNat_of_zero_le d
   rw [j,z81]
   have:=zcx (m:=m) (s:=t) (by omega)
   exact⟨by show (0:Int)≤(cls m t:Int);omega,by show ((cls m t:Nat):Int)<((z1q m).rows.length:Int);omega,g,h⟩
theorem zf8(b:MOk m):Hom m (z1q m) (cls m):=by
 refine⟨b,z8u b,rfl,fun s a=>by rw [zd2];exact zcx a,fun s i a hi=>?_,fun s i a hi=>?_⟩
 ·obtain⟨c,d⟩:=zps b a
  rw [(zom b (zcx a) hi).2]
  exact(zkg b c a d hi).1
 ·obtain⟨c,d⟩:=zps b a
  obtain⟨j,f,h⟩:=zkg b c a d hi
  rw [(zom b (zcx a) hi).1]
  unfold hI
  by_cases e:ed m s i= -1
  ·rw [if_pos e,if_pos (f.2 e)]
  ·have g:ed m ((z2f (cls m) m.rows.length).getD (cls m s) 0) i≠ -1:=fun k=>e (f.1 k)
   rw [if_neg e,if_neg g,h g]
theorem zoy(a:MOk m):Red (z1q m):=by
 intro c d g i h
 rw [zd2] at g i
 obtain⟨b,j,k⟩:=z6f g
 obtain⟨e,l,n⟩:=z6f i
 generalize (z2f (cls m) m.rows.length).getD c 0=u at b j k
 generalize (z2f (cls m) m.rows.length).getD d 0=v at e l n
 have eu:cls m u=c:=by rw [←z9p,zae j,k]
 have ev:cls m v=d:=by rw [←z9p,zae l,n]
 rw [←eu,←ev]
 refine(zpd a b e).2 fun w f=>?_
 rw [←((zf8 a).run w b f).1,←((zf8 a).run w e f).1,eu,ev]
 exact h w f
theorem ze2:cls m 0=0:=by rw [←z9p,zn6]
theorem zkw(a:MOk m):SameR (z1q m) m:=⟨rfl,rfl,fun w b=>by
 have:=((zf8 a).run w (s:=0) (by have:=a.r1;omega) b).1
 rw [ze2] at this;exact this⟩
theorem zwn(a:MOk m):SameR (z8n m) m:=⟨rfl,rfl,fun w b=>zyu a b⟩
theorem zav(a:MOk m):MOk (l7 m):=zk5 (z8u a)
theorem zrd(a:MOk m):SameR (l7 m) m:=(zwn (z8u a)).trans (zkw a)
theorem zqh{a b:Mach}(c:MOk a)(d:MOk b)(h:SameR a b):l7 a=l7 b:=
 zsi (z8u c) (z8u d) (zoy c) (zoy d) (((zkw c).trans h).trans (zkw d).symm)
theorem zvj(a:MOk m):l7 (l7 m)=l7 m:=zqh (zav a) a (zrd a)
end
end GV
end Go.Proofs.YtkcccdcloealfaaGreat
