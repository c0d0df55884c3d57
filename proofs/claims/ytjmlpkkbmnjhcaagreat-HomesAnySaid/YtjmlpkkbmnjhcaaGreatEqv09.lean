
import Derived.Test.YtjmlpkkbmnjhcaaGreatShMap
import Derived.Test.YtjmlpkkbmnjhcaaGreatBfs06
set_option linter.unusedVariables false
set_option linter.unusedSimpArgs false
set_option linter.unusedSectionVars false
namespace Go.Proofs.YtjmlpkkbmnjhcaaGreat
namespace GV
section names
variable {κ κ' : Type} [DecidableEq κ] [DecidableEq κ']
def zcn(f:Nat→κ)(u:Nat):Bool:=(List.range u).all fun t=>decide (f t≠f u)
theorem zak{f:Nat→κ}{u:Nat}:zcn f u=true↔ ∀ t,t<u→f t≠f u:=by
 unfold zcn
 rw [List.all_eq_true]
 exact⟨fun h t a=>of_decide_eq_true (h t (List.mem_range.2 a)),fun h t a=>decide_eq_true (h t (List.mem_range.1 a))⟩
def cntF(f:Nat→κ):Nat→Nat
 |0=>0
 |u+1=>cntF f u+if zcn f u=true then 1 else 0
theorem zvo(f:Nat→κ): ∀ u,cntF f u≤u
 |0=>Nat.le_refl _
 |u+1=>by have:=zvo f u;unfold cntF;split<;>omega
theorem cntF_step(f:Nat→κ)(u:Nat):cntF f u≤cntF f (u+1):=by show _≤cntF f u+_;omega
theorem zwn(f:Nat→κ){u v:Nat}(h:u≤v):cntF f u≤cntF f v:=by
 induction v with
 |zero=>rw [show u=0 by omega];exact Nat.le_refl _
 |succ v ih=>
  by_cases e:u=v+1
  ·rw [e];exact Nat.le_refl _
  ·exact Nat.le_trans (ih (by omega)) (cntF_step f v)
theorem zpr(f:Nat→κ){u v:Nat}(h:u<v)(a:zcn f u=true):cntF f u<cntF f v:=by
 have b:=zwn f (show u+1≤v by omega)
 have c:cntF f (u+1)=cntF f u+1:=by show cntF f u+_=_;rw [if_pos a]
 omega
theorem zyh{f:Nat→κ}{u v:Nat}(a:zcn f u=true)(b:zcn f v=true)(h:cntF f u=cntF f v):u=v:=by
 rcases Nat.lt_trichotomy u v with e|e|e
 ·have:=zpr f e a;omega
 ·exact e
 ·have:=zpr f e b;omega
def zdz(f:Nat→κ)(s:Nat):Nat:=((List.range s).find? fun t=>decide (f t=f s)).getD s
theorem z8o(f:Nat→κ)(s:Nat):zdz f s≤s∧f (zdz f s)=f s∧ ∀ t,t<zdz f s→f t≠f s:=by
 unfold zdz
 cases h:(List.range s).find? fun t=>decide (f t=f s) with
 |none=>
  rw [List.find?_eq_none] at h
  exact⟨Nat.le_refl _,rfl,fun t a=>by simpa using h t (List.mem_range.2 a)⟩
 |some u=>
  obtain⟨c,i,d,b,e⟩:=List.find?_eq_some_iff_getElem.1 h
  rw [List.getElem_range] at b
  subst b
  rw [List.length_range] at d
  refine⟨by show i≤s;omega,by simpa using c,fun t a=>?_⟩
  have:=e t a
  rw [List.getElem_range] at this
  simpa using this
theorem zfn(f:Nat→κ)(s:Nat):zcn f (zdz f s)=true:=by
 obtain⟨d,a,b⟩:=z8o f s
 exact zak.2 fun t c=>by rw [a];exact b t c
theorem zsb{f:Nat→κ}{u s:Nat}(a:zcn f u=true)(h:f u=f s)(b:u≤s):zdz f s=u:=by
 obtain⟨g,c,d⟩:=z8o f s
 rcases Nat.lt_trichotomy (zdz f s) u with e|e|e
 ·exact absurd (c.trans h.symm) (zak.1 a _ e)
 ·exact e
 ·exact absurd h (d u e)
theorem zli{f:Nat→κ}{u:Nat}(a:zcn f u=true):zdz f u=u:=zsb a rfl (Nat.le_refl _)
theorem zsc{f:Nat→κ}{s t:Nat}(h:f s=f t):zdz f s=zdz f t:=by
 obtain⟨g,a,b⟩:=z8o f s
 obtain⟨i,c,d⟩:=z8o f t
 rcases Nat.lt_trichotomy (zdz f s) (zdz f t) with e|e|e
 ·exact absurd (a.trans h) (d _ e)
 ·exact e
 ·exact absurd (c.trans h.symm) (b _ e)
def name(f:Nat→κ)(s:Nat):Nat:=cntF f (zdz f s)
theorem zmj{f:Nat→κ}{s t:Nat}:name f s=name f t↔f s=f t:=by
 constructor
 ·intro h
  have:=zyh (zfn f s) (zfn f t) h
  rw [←(z8o f s).2.1,this,(z8o f t).2.1]
 ·intro h;unfold name;rw [zsc h]
theorem zxu(f:Nat→κ):name f 0=0:=by
 unfold name
 rw [zli (zak.2 fun t a=>by omega)];rfl
/-! Only which keys are equal counts. -/
theorem zl0{f:Nat→κ}{g:Nat→κ'}{n:Nat}(h: ∀ s t,s<n→t<n→(f s=f t↔g s=g t)){u:Nat}(b:u<n):zcn f u=zcn g u:=by
 rw [Bool.eq_iff_iff,zak,zak]
 exact⟨fun k t a e=>k t a ((h t u (by omega) b).2 e),fun k t a e=>k t a ((h t u (by omega) b).1 e)⟩
theorem zmb{f:Nat→κ}{g:Nat→κ'}{n:Nat}(h: ∀ s t,s<n→t<n→(f s=f t↔g s=g t)): ∀ {u:Nat},u≤n→cntF f u=cntF g u
 |0,_=>rfl
 |u+1,a=>by
  show cntF f u+_=cntF g u+_
  rw [zmb h (by omega),zl0 h (show u<n by omega)]
theorem zx7{f:Nat→κ}{g:Nat→κ'}{n:Nat}(h: ∀ s t,s<n→t<n→(f s=f t↔g s=g t)){s:Nat}(a:s<n):zdz f s=zdz g s:=by
 obtain⟨b,c,d⟩:=z8o g s
 refine zsb ?_ ((h _ _ (by omega) a).2 c) b
 rw [zl0 h (by omega)];exact zfn g s
theorem zh7{f:Nat→κ}{g:Nat→κ'}{n:Nat}(h: ∀ s t,s<n→t<n→(f s=f t↔g s=g t)){s:Nat}(a:s<n):name f s=name g s:=by
 have:=(z8o g s).1
 unfold name
 rw [zx7 h a,zmb h (by omega)]
/-! A map from keys to names,as the first k things are named. -/
end names
def q94{κ:Type}[DecidableEq κ](f:Nat→κ)(n:Nat):List Nat:=(List.range n).filter fun u=>zcn f u
section q94
variable {κ : Type} [DecidableEq κ] {f : Nat → κ}
end q94
end GV
end Go.Proofs.YtjmlpkkbmnjhcaaGreat

namespace Go.Proofs.YtjmlpkkbmnjhcaaGreat
namespace GV
def ou(m:Mach)(s i:Nat):Int:=((m.rows.getD s default).getD i default).out
def zp2(m:Mach)(p:Nat→Nat)(s:Nat):List (Int×Int):=(List.range m.inputs.toNat).map fun i=>(ou m s i,if ed m s i= -1 then-1 else(p (ed m s i).toNat:Int))
def q5f(m:Mach)(p:Nat→Nat)(s:Nat):Nat×List (Int×Int):=(p s,zp2 m p s)
def pkc(m:Mach):Nat→Nat→Nat
 |0=>fun _=>0
 |k+1=>fun s=>name (q5f m (pkc m k)) s
section
variable {m : Mach}
theorem q3c{p:Nat→Nat}{s t:Nat}:zp2 m p s=zp2 m p t↔ ∀ i,i<m.inputs.toNat→ou m s i=ou m t i∧(if ed m s i= -1 then-1 else(p (ed m s i).toNat:Int))=(if ed m t i= -1 then-1 else(p (ed m t i).toNat:Int)):=by
 unfold zp2
 rw [List.map_inj_left]
 constructor
 ·intro h i hi
  have:=h i (List.mem_range.2 hi)
  exact⟨congrArg Prod.fst this,congrArg Prod.snd this⟩
 ·intro h i hi
  obtain⟨a,b⟩:=h i (List.mem_range.1 hi)
  exact Prod.ext a b
theorem zux(a:MOk m){s i:Nat}(b:s<m.rows.length)(hi:i<m.inputs.toNat):(ed m s i= -1↔ou m s i= -1)∧ -1≤ou m s i∧ou m s i<16:=by
 have c:=a.row s b
 have d:=a.o2
 rcases a.edge s i b (by omega) with h|h
 ·exact⟨⟨fun _=>h.2,fun _=>h.1⟩,by show-1≤((m.rows.getD s default).getD i default).out;omega,by show ((m.rows.getD s default).getD i default).out<16;omega⟩
 ·refine⟨⟨fun e=>?_,fun e=>?_⟩,?_,?_⟩
  ·have:((m.rows.getD s default).getD i default).to= -1:=e
   omega
  ·have:((m.rows.getD s default).getD i default).out= -1:=e
   omega
  ·show-1≤((m.rows.getD s default).getD i default).out;omega
  ·show ((m.rows.getD s default).getD i default).out<16;omega
theorem zrd{k s t:Nat}:pkc m (k+1) s=pkc m (k+1) t↔pkc m k s=pkc m k t∧zp2 m (pkc m k) s=zp2 m (pkc m k) t:=by
 show name _ s=name _ t↔_
 rw [zmj]
 unfold q5f
 rw [Prod.mk.injEq]
theorem zyz(b:MOk m){k s t:Nat}(g:s<m.rows.length)(j:t<m.rows.length):pkc m (k+1) s=pkc m (k+1) t↔pkc m k s=pkc m k t∧ ∀ i,i<m.inputs.toNat→ou m s i=ou m t i∧(ed m s i≠ -1→ed m t i≠ -1→pkc m k (ed m s i).toNat=pkc m k (ed m t i).toNat):=by
 rw [zrd,q3c]
 refine and_congr_right fun _=>forall_congr' fun i=>forall_congr' fun hi=>?_
 refine and_congr_right fun c=>?_
 have d:=(zux b g hi).1
 have f:=(zux b j hi).1
 by_cases e:ed m s i= -1
 ·have a:ed m t i= -1:=f.2 (by rw [←c];exact d.1 e)
  rw [if_pos e,if_pos a]
  exact⟨fun _ h=>absurd e h,fun _=>rfl⟩
 ·have a:ed m t i≠ -1:=fun a=>e (d.2 (by rw [c];exact f.1 a))
  rw [if_neg e,if_neg a]
  exact⟨fun h _ _=>Int.ofNat.inj h,fun h=>congrArg Int.ofNat (h e a)⟩
theorem zfb{k s t:Nat}(h:pkc m (k+1) s=pkc m (k+1) t):pkc m k s=pkc m k t:=(zrd.1 h).1
theorem q60{k j s t:Nat}(a:k≤j)(h:pkc m j s=pkc m j t):pkc m k s=pkc m k t:=by
 induction j with
 |zero=>rw [show k=0 by omega];rfl
 |succ j ih=>
  by_cases e:k=j+1
  ·rw [e];exact h
  ·exact ih (by omega) (zfb h)
def zre(m:Mach)(k:Nat):Prop:= ∀ s t,s<m.rows.length→t<m.rows.length→pkc m k s=pkc m k t→pkc m (k+1) s=pkc m (k+1) t
theorem zqs{k s:Nat}:name (pkc m k) s=pkc m k s:=by
 cases k with
 |zero=>
  show name (fun _:Nat=>(0:Nat)) s=0
  rw [show name (fun _:Nat=>(0:Nat)) s=name (fun _:Nat=>(0:Nat)) 0 from zmj.2 rfl,zxu]
 |succ k=>exact zh7 (n:=s+1) (fun a b _ _=>by show name _ a=name _ b↔_;exact zmj) (Nat.lt_succ_self s)
theorem zxc{k:Nat}(h:zre m k){s:Nat}(c:s<m.rows.length):pkc m (k+1) s=pkc m k s:=by
 rw [←zqs (k:=k+1),←zqs (k:=k)]
 exact zh7 (n:=m.rows.length) (fun a b d e=>⟨zfb,h a b d e⟩) c
theorem zob(b:MOk m){p q:Nat→Nat}(h: ∀ s,s<m.rows.length→p s=q s){s:Nat}(c:s<m.rows.length):zp2 m p s=zp2 m q s:=by
 unfold zp2
 refine List.map_congr_left fun i hi=>?_
 rcases zny b c (List.mem_range.1 hi) with a|a
 ·rw [if_pos a,if_pos a]
 ·rw [h _ (by omega)]
theorem za1(c:MOk m){k:Nat}(h:zre m k): ∀ j,k≤j→ ∀ s,s<m.rows.length→pkc m j s=pkc m k s
 |0,i,s,d=>by rw [show k=0 by omega]
 |j+1,i,s,d=>by
  by_cases e:k=j+1
  ·rw [e]
  ·have ih:=za1 c h j (by omega)
   rw [←zxc h d]
   show name _ s=name _ s
   refine zh7 (n:=m.rows.length) (fun a b f g=>?_) d
   unfold q5f
   rw [ih a f,ih b g,zob c ih f,zob c ih g]
theorem zqn{κ κ':Type}[DecidableEq κ][DecidableEq κ']{f:Nat→κ}{g:Nat→κ'}: ∀ {n:Nat},(∀ u,u<n→zcn f u=true→zcn g u=true)→cntF f n≤cntF g n∧(cntF f n=cntF g n→ ∀ u,u<n→zcn f u=zcn g u)
 |0,_=>⟨Nat.le_refl _,fun _ u c=>by omega⟩
 |n+1,h=>by
  obtain⟨j,d⟩:=zqn (n:=n) (f:=f) (g:=g) fun u c=>h u (by omega)
  have i:=h n (by omega)
  have a:cntF f (n+1)=cntF f n+if zcn f n=true then 1 else 0:=rfl
  have b:cntF g (n+1)=cntF g n+if zcn g n=true then 1 else 0:=rfl
  cases hf:zcn f n<;>cases hg:zcn g n
  ·rw [hf] at a;rw [hg] at b
   simp only [Bool.false_eq_true,if_false] at a b
   refine⟨by omega,fun e u c=>?_⟩
   by_cases hu':u=n
   ·subst hu';rw [hf,hg]
   ·exact d (by omega) u (by omega)
  ·rw [hf] at a;rw [hg] at b
   simp only [Bool.false_eq_true,if_false,if_true] at a b
   exact⟨by omega,fun e=>by omega⟩
  ·rw [hf,hg] at i;exact absurd (i rfl) (by decide)
  ·rw [hf] at a;rw [hg] at b
   simp only [if_true] at a b
   refine⟨by omega,fun e u c=>?_⟩
   by_cases hu':u=n
   ·subst hu';rw [hf,hg]
   ·exact d (by omega) u (by omega)
theorem zpj{k:Nat}(h: ¬zre m k):cntF (pkc m k) m.rows.length<cntF (pkc m (k+1)) m.rows.length:=by
 obtain⟨r,j⟩:=zqn (n:=m.rows.length) (f:=pkc m k) (g:=pkc m (k+1)) fun u v l=>zak.2 fun t a e=>zak.1 l t a (zfb e)
 rcases Nat.lt_or_ge (cntF (pkc m k) m.rows.length) (cntF (pkc m (k+1)) m.rows.length) with b|b
 ·exact b
 ·exfalso
  have o:=j (by omega)
  refine h fun s t w a e=>?_
  obtain⟨x,c,_⟩:=z8o (pkc m (k+1)) s
  obtain⟨y,b2,_⟩:=z8o (pkc m (k+1)) t
  have d:=zfn (pkc m (k+1)) s
  have i:=zfn (pkc m (k+1)) t
  rw [←o _ (by omega)] at d i
  have p:pkc m k (zdz (pkc m (k+1)) s)=pkc m k (zdz (pkc m (k+1)) t):=by rw [zfb c,zfb b2,e]
  have q:zdz (pkc m (k+1)) s=zdz (pkc m (k+1)) t:=by
   rw [←zli d,←zli i];exact zsc p
  rw [←c,q,b2]
theorem zky(a:1≤m.rows.length): ∀ k,(∀ j,j<k→ ¬zre m j)→k+1≤cntF (pkc m k) m.rows.length
 |0,_=>by
  have:=zpr (pkc m 0) (show 0<m.rows.length by omega) (zak.2 fun t b=>by omega)
  omega
 |k+1,h=>by
  have c:=zky a k fun j d=>h j (by omega)
  have e:=zpj (h k (by omega))
  omega
theorem zn7{p:Nat→Prop}: ∀ n,p n→ ∃ k,k≤n∧p k∧ ∀ j,j<k→ ¬p j
 |n,h=>by
  by_cases e: ∃ j,j<n∧p j
  ·obtain⟨j,b,a⟩:=e
   obtain⟨k,f,c,d⟩:=zn7 j a
   exact⟨k,by omega,c,d⟩
  ·exact⟨n,Nat.le_refl _,h,fun j b a=>e ⟨j,b,a⟩⟩
theorem zvx(c:MOk m): ∃ k,k<m.rows.length∧zre m k∧ ∀ j,j<k→ ¬zre m j:=by
 have d:=c.r1
 have e: ∃ k,k<m.rows.length∧zre m k:=by
  refine Classical.byContradiction fun b=>?_
  have:=zky d m.rows.length fun j f a=>b ⟨j,f,a⟩
  have:=zvo (pkc m m.rows.length) m.rows.length
  omega
 obtain⟨n,b,a⟩:=e
 obtain⟨k,i,g,h⟩:=zn7 n a
 exact⟨k,by omega,g,h⟩
def cls(m:Mach)(s:Nat):Nat:=pkc m m.rows.length s
theorem zrw(a:MOk m):zre m m.rows.length:=by
 obtain⟨k,f,b,_⟩:=zvx a
 intro s t c d e
 rw [za1 a b _ (by omega) s c,za1 a b _ (by omega) t d] at*
 exact e
/-! ### Responses-/
theorem zba{s:Nat}(i:Nat)(w:List Int):yx m (s:Int) ((i:Int)::w)=ou m s i::yx m (ed m s i) w:=by
 show (z5c m (s:Int) (i:Int)).out::yx m (z5c m (s:Int) (i:Int)).to w=_
 unfold z5c
 rw [if_neg (by omega)];rfl
theorem zgc(a:MOk m): ∀ (k:Nat) {s t:Nat},s<m.rows.length→t<m.rows.length→(pkc m k s=pkc m k t↔ ∀ w,WOk m.inputs w→w.length≤k→yx m (s:Int) w=yx m (t:Int) w)
 |0,s,t,f,g=>⟨fun _ w _ d=>by
  have:w=[]:=List.length_eq_zero_iff.1 (by omega)
  subst this;rfl,fun _=>rfl⟩
 |k+1,s,t,f,g=>by
  rw [zyz a f g]
  constructor
  ·rintro⟨C,v⟩ w b d
   match w,b,d with
   | [],_,_=>rfl
   |c::w,b,d=>
    have x:0≤c∧c<m.inputs:=b 0 (by simp)
    obtain⟨i,rfl⟩:=Int.eq_ofNat_of_zero_le x.1
    have hi:i<m.inputs.toNat:=by omega
    obtain⟨q,y⟩:=v i hi
    have r:=(zux a f hi).1
    have u:=(zux a g hi).1
    rw [zba,zba,q]
    congr 1
    rcases zny a f hi with e|e
    ·rw [e,u.2 (by rw [←q];exact r.1 e)]
    ·have l:ed m t i≠ -1:=fun n=>by have:=r.2 (by rw [q];exact u.1 n);omega
     have n:=(zny a g hi).resolve_left l
     have:=(zgc a k (s:=(ed m s i).toNat) (t:=(ed m t i).toNat) (by omega) (by omega)).1 (y (by omega) l) w (fun j o=>b (j+1) (by simpa using o)) (by simpa using d)
     rwa [Int.toNat_of_nonneg e.1,Int.toNat_of_nonneg n.1] at this
  ·intro h
   refine⟨(zgc a k f g).2 fun w b d=>h w b (by omega),fun i hi=>?_⟩
   have p: ∀ w,WOk m.inputs w→WOk m.inputs ((i:Int)::w):=fun w b j o=>by
    cases j with
    |zero=>exact⟨by show 0≤(i:Int);omega,by show (i:Int)<m.inputs;omega⟩
    |succ j=>exact b j (by simpa using o)
   refine⟨?_,fun z n=>?_⟩
   ·have:=h [(i:Int)] (p [] fun j o=>by simp at o) (by simp)
    rw [zba,zba] at this
    exact(List.cons.inj this).1
   ·have A:=(zny a f hi).resolve_left z
    have B:=(zny a g hi).resolve_left n
    refine(zgc a k (by omega) (by omega)).2 fun w b d=>?_
    have:=h ((i:Int)::w) (p w b) (by simpa using d)
    rw [zba,zba] at this
    rw [Int.toNat_of_nonneg A.1,Int.toNat_of_nonneg B.1]
    exact(List.cons.inj this).2
theorem q2y(a:MOk m){s t:Nat}(b:s<m.rows.length)(c:t<m.rows.length):cls m s=cls m t↔ ∀ w,WOk m.inputs w→yx m (s:Int) w=yx m (t:Int) w:=by
 constructor
 ·intro h w d
  have e:pkc m (m.rows.length+w.length) s=pkc m (m.rows.length+w.length) t:=by
   rw [za1 a (zrw a) _ (by omega) s b,za1 a (zrw a) _ (by omega) t c];exact h
  exact(zgc a _ b c).1 e w d (by omega)
 ·intro h
  exact(zgc a _ b c).2 fun w d _=>h w d
end
end GV
end Go.Proofs.YtjmlpkkbmnjhcaaGreat
