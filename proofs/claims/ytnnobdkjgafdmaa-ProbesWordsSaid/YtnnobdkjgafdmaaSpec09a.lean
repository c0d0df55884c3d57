
import Derived.Test.YtnnobdkjgafdmaaShMap
import Derived.Test.YtnnobdkjgafdmaaSpec06g
set_option linter.unusedVariables false
set_option linter.unusedSimpArgs false
set_option linter.unusedSectionVars false
namespace Go.Proofs.Ytnnobdkjgafdmaa
namespace GV
section names
variable {κ κ' : Type} [DecidableEq κ] [DecidableEq κ']
def z0z(f:Nat→κ)(u:Nat):Bool:=(List.range u).all fun t=>decide (f t≠f u)
theorem af{f:Nat→κ}{u:Nat}:z0z f u=true↔ ∀ t,t<u→f t≠f u:=by
 unfold z0z
 rw [List.all_eq_true]
 exact⟨fun h t a=>of_decide_eq_true (h t (List.mem_range.2 a)),fun h t a=>decide_eq_true (h t (List.mem_range.1 a))⟩
def cntF(f:Nat→κ):Nat→Nat
 |0=>0
 |u+1=>cntF f u+if z0z f u=true then 1 else 0
theorem zbj(f:Nat→κ): ∀ u,cntF f u≤u
 |0=>Nat.le_refl _
 |u+1=>by have:=zbj f u;unfold cntF;split<;>omega
theorem cntF_step(f:Nat→κ)(u:Nat):cntF f u≤cntF f (u+1):=by show _≤cntF f u+_;omega
theorem zmg(f:Nat→κ){u v:Nat}(h:u≤v):cntF f u≤cntF f v:=by
 induction v with
 |zero=>rw [show u=0 by omega];exact Nat.le_refl _
 |succ v ih=>
  by_cases e:u=v+1
  ·rw [e];exact Nat.le_refl _
  ·exact Nat.le_trans (ih (by omega)) (cntF_step f v)
theorem z8j(f:Nat→κ){u v:Nat}(h:u<v)(a:z0z f u=true):cntF f u<cntF f v:=by
 have b:=zmg f (show u+1≤v by omega)
 have c:cntF f (u+1)=cntF f u+1:=by show cntF f u+_=_;rw [if_pos a]
 omega
theorem zyn{f:Nat→κ}{u v:Nat}(a:z0z f u=true)(b:z0z f v=true)(h:cntF f u=cntF f v):u=v:=by
 rcases Nat.lt_trichotomy u v with e|e|e
 ·have:=z8j f e a;omega
 ·exact e
 ·have:=z8j f e b;omega
theorem zlo(f:Nat→κ): ∀ {n c:Nat},c<cntF f n→ ∃ u,u<n∧z0z f u=true∧cntF f u=c
 |0,c,h=>by simp [cntF] at h
 |n+1,c,h=>by
  by_cases h1:c<cntF f n
  ·obtain⟨u,b,a⟩:=zlo f h1
   exact⟨u,by omega,a⟩
  ·have a:c<cntF f n+if z0z f n=true then 1 else 0:=h
   by_cases h3:z0z f n=true
   ·rw [if_pos h3] at a
    exact⟨n,by omega,h3,by omega⟩
   ·rw [if_neg h3] at a;omega
def z5q(f:Nat→κ)(s:Nat):Nat:=((List.range s).find? fun t=>decide (f t=f s)).getD s
theorem z2a(f:Nat→κ)(s:Nat):z5q f s≤s∧f (z5q f s)=f s∧ ∀ t,t<z5q f s→f t≠f s:=by
 unfold z5q
 cases h:(List.range s).find? fun t=>decide (f t=f s) with
 |none=>
  rw [List.find?_eq_none] at h
  exact⟨Nat.le_refl _,rfl,fun t a=>by simpa using h t (List.mem_range.2 a)⟩
 |some u=>
  obtain⟨c,i,d,b,e⟩:=List.find?_eq_some_iff_getElem.1 h
  rw [List.getElem_range] at b
  subst b
  rw [List.length_range] at d
  refine⟨by show i≤s;omega,by simpa using c,fun t a=>?_⟩
  have:=e t a
  rw [List.getElem_range] at this
  simpa using this
theorem z6e(f:Nat→κ)(s:Nat):z0z f (z5q f s)=true:=by
 obtain⟨d,a,b⟩:=z2a f s
 exact af.2 fun t c=>by rw [a];exact b t c
theorem zp7{f:Nat→κ}{u s:Nat}(a:z0z f u=true)(h:f u=f s)(b:u≤s):z5q f s=u:=by
 obtain⟨g,c,d⟩:=z2a f s
 rcases Nat.lt_trichotomy (z5q f s) u with e|e|e
 ·exact absurd (c.trans h.symm) (af.1 a _ e)
 ·exact e
 ·exact absurd h (d u e)
theorem zas{f:Nat→κ}{u:Nat}(a:z0z f u=true):z5q f u=u:=zp7 a rfl (Nat.le_refl _)
theorem zkz{f:Nat→κ}{s t:Nat}(h:f s=f t):z5q f s=z5q f t:=by
 obtain⟨g,a,b⟩:=z2a f s
 obtain⟨i,c,d⟩:=z2a f t
 rcases Nat.lt_trichotomy (z5q f s) (z5q f t) with e|e|e
 ·exact absurd (a.trans h) (d _ e)
 ·exact e
 ·exact absurd (c.trans h.symm) (b _ e)
def name(f:Nat→κ)(s:Nat):Nat:=cntF f (z5q f s)
theorem zf5{f:Nat→κ}{s t:Nat}:name f s=name f t↔f s=f t:=by
 constructor
 ·intro h
  have:=zyn (z6e f s) (z6e f t) h
  rw [←(z2a f s).2.1,this,(z2a f t).2.1]
 ·intro h;unfold name;rw [zkz h]
theorem q2d{f:Nat→κ}{s n:Nat}(h:s<n):name f s<cntF f n:=z8j f (Nat.lt_of_le_of_lt (z2a f s).1 h) (z6e f s)
theorem z8t{f:Nat→κ}{u:Nat}(h:z0z f u=true):name f u=cntF f u:=by unfold name;rw [zas h]
theorem zlp(f:Nat→κ):name f 0=0:=by
 unfold name
 rw [zas (af.2 fun t a=>by omega)];rfl
/-! Only which keys are equal counts. -/
theorem zj2{f:Nat→κ}{g:Nat→κ'}{n:Nat}(h: ∀ s t,s<n→t<n→(f s=f t↔g s=g t)){u:Nat}(b:u<n):z0z f u=z0z g u:=by
 rw [Bool.eq_iff_iff,af,af]
 exact⟨fun k t a e=>k t a ((h t u (by omega) b).2 e),fun k t a e=>k t a ((h t u (by omega) b).1 e)⟩
theorem zkc{f:Nat→κ}{g:Nat→κ'}{n:Nat}(h: ∀ s t,s<n→t<n→(f s=f t↔g s=g t)): ∀ {u:Nat},u≤n→cntF f u=cntF g u
 |0,_=>rfl
 |u+1,a=>by
  show cntF f u+_=cntF g u+_
  rw [zkc h (by omega),zj2 h (show u<n by omega)]
theorem zwe{f:Nat→κ}{g:Nat→κ'}{n:Nat}(h: ∀ s t,s<n→t<n→(f s=f t↔g s=g t)){s:Nat}(a:s<n):z5q f s=z5q g s:=by
 obtain⟨b,c,d⟩:=z2a g s
 refine zp7 ?_ ((h _ _ (by omega) a).2 c) b
 rw [zj2 h (by omega)];exact z6e g s
theorem zba{f:Nat→κ}{g:Nat→κ'}{n:Nat}(h: ∀ s t,s<n→t<n→(f s=f t↔g s=g t)){s:Nat}(a:s<n):name f s=name g s:=by
 have:=(z2a g s).1
 unfold name
 rw [zwe h a,zkc h (by omega)]
/-! A map from keys to names,as the first k things are named. -/
def nmM(f:Nat→κ):Nat→List (κ×Int)
 |0=>[]
 |k+1=>nmM f k++if z0z f k=true then [(f k,(cntF f k:Int))] else []
theorem zu4(f:Nat→κ): ∀ k,(nmM f k).length=cntF f k
 |0=>rfl
 |k+1=>by
  show (nmM f k++_).length=cntF f k+_
  rw [List.length_append,zu4 f k]
  split<;>rfl
theorem zpc{β:Type}{M M':List (κ×β)}{x:κ}:z6l (M++M') x=(z6l M x||z6l M' x):=by
 induction M with
 |nil=>rfl
 |cons p l ih=>
  show (if x=p.1 then true else z6l (l++M') x)=((if x=p.1 then true else z6l l x)||z6l M' x)
  split
  ·rfl
  ·exact ih
theorem zqo{β:Type}{z:β}{M M':List (κ×β)}{x:κ}:z5b z (M++M') x=if z6l M x=true then z5b z M x else z5b z M' x:=by
 induction M with
 |nil=>rfl
 |cons p l ih=>
  show (if x=p.1 then p.2 else z5b z (l++M') x)=if(if x=p.1 then true else z6l l x)=true then(if x=p.1 then p.2 else z5b z l x) else z5b z M' x
  by_cases h:x=p.1
  ·simp [h]
  ·simp only [if_neg h];exact ih
theorem zy4{β:Type}{M:List (κ×β)}{x:κ}{v:β}(h:z6l M x=false):z6t M x v=M++[(x,v)]:=by
 induction M with
 |nil=>rfl
 |cons p l ih=>
  unfold z6l at h
  by_cases e:x=p.1
  ·simp [e] at h
  ·rw [if_neg e] at h
   simp only [z6t,if_neg e,ih h,List.cons_append]
theorem zg2(f:Nat→κ)(x:κ): ∀ k,z6l (nmM f k) x=true↔ ∃ t,t<k∧f t=x
 |0=>⟨fun h=>by simp [nmM,z6l] at h,fun⟨t,c,_⟩=>by omega⟩
 |k+1=>by
  show z6l (nmM f k++_) x=true↔_
  rw [zpc,Bool.or_eq_true,zg2 f x k]
  constructor
  ·rintro(⟨t,c,h⟩|h)
   ·exact⟨t,by omega,h⟩
   ·split at h
    ·by_cases e:x=f k
     ·exact⟨k,by omega,e.symm⟩
     ·simp [z6l,e] at h
    ·simp [z6l] at h
  ·rintro⟨t,c,h⟩
   by_cases e: ∃ u,u<k∧f u=x
   ·exact .inl e
   ·have a:t=k:=by
     rcases Nat.lt_or_ge t k with d|d
     ·exact absurd ⟨t,d,h⟩ e
     ·omega
    subst a
    right
    rw [if_pos (af.2 fun u g b=>e ⟨u,g,b.trans h⟩)]
    simp [z6l,h]
theorem zt5(f:Nat→κ){s:Nat}: ∀ k,s<k→z5b 0 (nmM f k) (f s)=(name f s:Int)
 |0,h=>by omega
 |k+1,h=>by
  show z5b 0 (nmM f k++_) (f s)=_
  rw [zqo]
  by_cases e:z6l (nmM f k) (f s)=true
  ·rw [if_pos e]
   obtain⟨t,i,a⟩:=(zg2 f _ k).1 e
   rw [←a,zt5 f k i,zf5.2 a]
  ·rw [if_neg e]
   have d: ∀ u,u<k→f u≠f s:=fun u j c=>e ((zg2 f _ k).2 ⟨u,j,c⟩)
   have l:s=k:=by
    rcases Nat.lt_or_ge s k with g|g
    ·exact absurd rfl (d s g)
    ·omega
   subst l
   have b:=af.2 d
   rw [if_pos b,z8t b]
   simp [z5b]
theorem q2e(f:Nat→κ){k:Nat}(h:z6l (nmM f k) (f k)=false):z6t (nmM f k) (f k) ((nmM f k).length:Int)=nmM f (k+1):=by
 have a:z0z f k=true:=af.2 fun t c b=>by
  have:=(zg2 f (f k) k).2 ⟨t,c,b⟩
  rw [h] at this;cases this
 rw [zy4 h,zu4]
 show _=nmM f k++_
 rw [if_pos a]
theorem q0k(f:Nat→κ){k:Nat}(h:z6l (nmM f k) (f k)=true):nmM f (k+1)=nmM f k:=by
 obtain⟨t,b,a⟩:=(zg2 f _ k).1 h
 show nmM f k++_=_
 rw [if_neg (fun c=>af.1 c t b a),List.append_nil]
def zvm(f:Nat→κ)(n:Nat):List Int:=(List.range n).map fun s=>(name f s:Int)
theorem zsj{f:Nat→κ}{g:Nat→κ'}{n:Nat}(h: ∀ s t,s<n→t<n→(f s=f t↔g s=g t)):zvm f n=zvm g n:=by
 unfold zvm
 refine List.map_congr_left fun s a=>?_
 rw [zba h (List.mem_range.1 a)]
end names
def z6k{κ:Type}[DecidableEq κ](f:Nat→κ)(n:Nat):List Nat:=(List.range n).filter fun u=>z0z f u
section z6k
variable {κ : Type} [DecidableEq κ] {f : Nat → κ}
theorem zgr(n:Nat):z6k f (n+1)=z6k f n++if z0z f n=true then [n] else []:=by
 unfold z6k
 rw [List.range_succ,List.filter_append]
 congr 1
 by_cases h:z0z f n=true
 ·rw [if_pos h,List.filter_cons_of_pos h];rfl
 ·rw [if_neg h,List.filter_cons_of_neg h];rfl
theorem z4y: ∀ n,(z6k f n).length=cntF f n
 |0=>rfl
 |n+1=>by
  rw [zgr,List.length_append,z4y n]
  show _=cntF f n+_
  split<;>rfl
theorem zjy: ∀ {n u:Nat},u<n→z0z f u=true→(z6k f n).getD (cntF f u) 0=u
 |0,u,h,_=>by omega
 |n+1,u,h,a=>by
  rw [zgr]
  by_cases e:u=n
  ·subst e
   rw [if_pos a,List.getD_eq_getElem?_getD,←z4y u,List.getElem?_concat_length];rfl
  ·have b:=z8j f (show u<n by omega) a
   rw [List.getD_eq_getElem?_getD,List.getElem?_append_left (by rw [z4y];exact b),←List.getD_eq_getElem?_getD]
   exact zjy (by omega) a
theorem z5m{n c:Nat}(h:c<cntF f n):(z6k f n).getD c 0<n∧z0z f ((z6k f n).getD c 0)=true∧cntF f ((z6k f n).getD c 0)=c:=by
 obtain⟨u,a,b,rfl⟩:=zlo f h
 rw [zjy a b]
 exact⟨a,b,rfl⟩
end z6k
end GV
end Go.Proofs.Ytnnobdkjgafdmaa

namespace Go.Proofs.Ytnnobdkjgafdmaa
namespace GV
def ou(m:Mach)(s i:Nat):Int:=((m.rows.getD s default).getD i default).out
def zb3(m:Mach)(p:Nat→Nat)(s:Nat):List (Int×Int):=(List.range m.inputs.toNat).map fun i=>(ou m s i,if ed m s i= -1 then-1 else(p (ed m s i).toNat:Int))
def znl(m:Mach)(p:Nat→Nat)(s:Nat):Nat×List (Int×Int):=(p s,zb3 m p s)
def pkc(m:Mach):Nat→Nat→Nat
 |0=>fun _=>0
 |k+1=>fun s=>name (znl m (pkc m k)) s
def pL(m:Mach)(k:Nat):List Int:=(List.range m.rows.length).map fun s=>(pkc m k s:Int)
section
variable {m : Mach}
theorem zn5(k:Nat):(pL m k).length=m.rows.length:=by simp [pL]
theorem zsm{k s:Nat}(h:s<m.rows.length):(pL m k).getD s default=(pkc m k s:Int):=by simp [pL,List.getD_eq_getElem?_getD,h]
theorem q1s(k:Nat):pL m (k+1)=zvm (znl m (pkc m k)) m.rows.length:=rfl
theorem q1w{p:Nat→Nat}{s t:Nat}:zb3 m p s=zb3 m p t↔ ∀ i,i<m.inputs.toNat→ou m s i=ou m t i∧(if ed m s i= -1 then-1 else(p (ed m s i).toNat:Int))=(if ed m t i= -1 then-1 else(p (ed m t i).toNat:Int)):=by
 unfold zb3
 rw [List.map_inj_left]
 constructor
 ·intro h i hi
  have:=h i (List.mem_range.2 hi)
  exact⟨congrArg Prod.fst this,congrArg Prod.snd this⟩
 ·intro h i hi
  obtain⟨a,b⟩:=h i (List.mem_range.1 hi)
  exact Prod.ext a b
theorem zlz(a:MOk m){s i:Nat}(b:s<m.rows.length)(hi:i<m.inputs.toNat):(ed m s i= -1↔ou m s i= -1)∧ -1≤ou m s i∧ou m s i<16:=by
 have c:=a.row s b
 have d:=a.o2
 rcases a.edge s i b (by omega) with h|h
 ·exact⟨⟨fun _=>h.2,fun _=>h.1⟩,by show-1≤((m.rows.getD s default).getD i default).out;omega,by show ((m.rows.getD s default).getD i default).out<16;omega⟩
 ·refine⟨⟨fun e=>?_,fun e=>?_⟩,?_,?_⟩
  ·have:((m.rows.getD s default).getD i default).to= -1:=e
   omega
  ·have:((m.rows.getD s default).getD i default).out= -1:=e
   omega
  ·show-1≤((m.rows.getD s default).getD i default).out;omega
  ·show ((m.rows.getD s default).getD i default).out<16;omega
theorem zoz{k s t:Nat}:pkc m (k+1) s=pkc m (k+1) t↔pkc m k s=pkc m k t∧zb3 m (pkc m k) s=zb3 m (pkc m k) t:=by
 show name _ s=name _ t↔_
 rw [zf5]
 unfold znl
 rw [Prod.mk.injEq]
theorem zjm(b:MOk m){k s t:Nat}(g:s<m.rows.length)(j:t<m.rows.length):pkc m (k+1) s=pkc m (k+1) t↔pkc m k s=pkc m k t∧ ∀ i,i<m.inputs.toNat→ou m s i=ou m t i∧(ed m s i≠ -1→ed m t i≠ -1→pkc m k (ed m s i).toNat=pkc m k (ed m t i).toNat):=by
 rw [zoz,q1w]
 refine and_congr_right fun _=>forall_congr' fun i=>forall_congr' fun hi=>?_
 refine and_congr_right fun c=>?_
 have d:=(zlz b g hi).1
 have f:=(zlz b j hi).1
 by_cases e:ed m s i= -1
 ·have a:ed m t i= -1:=f.2 (by rw [←c];exact d.1 e)
  rw [if_pos e,if_pos a]
  exact⟨fun _ h=>absurd e h,fun _=>rfl⟩
 ·have a:ed m t i≠ -1:=fun a=>e (d.2 (by rw [c];exact f.1 a))
  rw [if_neg e,if_neg a]
  exact⟨fun h _ _=>Int.ofNat.inj h,fun h=>congrArg Int.ofNat (h e a)⟩
theorem zf0{k s t:Nat}(h:pkc m (k+1) s=pkc m (k+1) t):pkc m k s=pkc m k t:=(zoz.1 h).1
def zgu(m:Mach)(k:Nat):Prop:= ∀ s t,s<m.rows.length→t<m.rows.length→pkc m k s=pkc m k t→pkc m (k+1) s=pkc m (k+1) t
theorem zg3{k s:Nat}:name (pkc m k) s=pkc m k s:=by
 cases k with
 |zero=>
  show name (fun _:Nat=>(0:Nat)) s=0
  rw [show name (fun _:Nat=>(0:Nat)) s=name (fun _:Nat=>(0:Nat)) 0 from zf5.2 rfl,zlp]
 |succ k=>exact zba (n:=s+1) (fun a b _ _=>by show name _ a=name _ b↔_;exact zf5) (Nat.lt_succ_self s)
theorem zlv{k:Nat}(h:zgu m k){s:Nat}(c:s<m.rows.length):pkc m (k+1) s=pkc m k s:=by
 rw [←zg3 (k:=k+1),←zg3 (k:=k)]
 exact zba (n:=m.rows.length) (fun a b d e=>⟨zf0,h a b d e⟩) c
theorem zoq(k:Nat):pL m (k+1)=pL m k↔zgu m k:=by
 constructor
 ·intro h s t a c e
  have b: ∀ s,s<m.rows.length→pkc m (k+1) s=pkc m k s:=fun s a=>by
   have:=congrArg (fun l:List Int=>l.getD s default) h
   simp only [zsm a] at this
   omega
  rw [b s a,b t c,e]
 ·intro h
  unfold pL
  exact List.map_congr_left fun s a=>by rw [zlv h (List.mem_range.1 a)]
theorem zmt(b:MOk m){p q:Nat→Nat}(h: ∀ s,s<m.rows.length→p s=q s){s:Nat}(c:s<m.rows.length):zb3 m p s=zb3 m q s:=by
 unfold zb3
 refine List.map_congr_left fun i hi=>?_
 rcases z6n b c (List.mem_range.1 hi) with a|a
 ·rw [if_pos a,if_pos a]
 ·rw [h _ (by omega)]
theorem z8s(c:MOk m){k:Nat}(h:zgu m k): ∀ j,k≤j→ ∀ s,s<m.rows.length→pkc m j s=pkc m k s
 |0,i,s,d=>by rw [show k=0 by omega]
 |j+1,i,s,d=>by
  by_cases e:k=j+1
  ·rw [e]
  ·have ih:=z8s c h j (by omega)
   rw [←zlv h d]
   show name _ s=name _ s
   refine zba (n:=m.rows.length) (fun a b f g=>?_) d
   unfold znl
   rw [ih a f,ih b g,zmt c ih f,zmt c ih g]
theorem q2a(a:MOk m){k j:Nat}(h:zgu m k)(b:k≤j):pL m j=pL m k:=by
 unfold pL
 exact List.map_congr_left fun s c=>by rw [z8s a h j b s (List.mem_range.1 c)]
theorem zq3{κ κ':Type}[DecidableEq κ][DecidableEq κ']{f:Nat→κ}{g:Nat→κ'}: ∀ {n:Nat},(∀ u,u<n→z0z f u=true→z0z g u=true)→cntF f n≤cntF g n∧(cntF f n=cntF g n→ ∀ u,u<n→z0z f u=z0z g u)
 |0,_=>⟨Nat.le_refl _,fun _ u c=>by omega⟩
 |n+1,h=>by
  obtain⟨j,d⟩:=zq3 (n:=n) (f:=f) (g:=g) fun u c=>h u (by omega)
  have i:=h n (by omega)
  have a:cntF f (n+1)=cntF f n+if z0z f n=true then 1 else 0:=rfl
  have b:cntF g (n+1)=cntF g n+if z0z g n=true then 1 else 0:=rfl
  cases hf:z0z f n<;>cases hg:z0z g n
  ·rw [hf] at a;rw [hg] at b
   simp only [Bool.false_eq_true,if_false] at a b
   refine⟨by omega,fun e u c=>?_⟩
   by_cases hu':u=n
   ·subst hu';rw [hf,hg]
   ·exact d (by omega) u (by omega)
  ·rw [hf] at a;rw [hg] at b
   simp only [Bool.false_eq_true,if_false,if_true] at a b
   exact⟨by omega,fun e=>by omega⟩
  ·rw [hf,hg] at i;exact absurd (i rfl) (by decide)
  ·rw [hf] at a;rw [hg] at b
   simp only [if_true] at a b
   refine⟨by omega,fun e u c=>?_⟩
   by_cases hu':u=n
   ·subst hu';rw [hf,hg]
   ·exact d (by omega) u (by omega)
theorem znb{k:Nat}(h: ¬zgu m k):cntF (pkc m k) m.rows.length<cntF (pkc m (k+1)) m.rows.length:=by
 obtain⟨v,l⟩:=zq3 (n:=m.rows.length) (f:=pkc m k) (g:=pkc m (k+1)) fun u w o=>af.2 fun t a e=>af.1 o t a (zf0 e)
 rcases Nat.lt_or_ge (cntF (pkc m k) m.rows.length) (cntF (pkc m (k+1)) m.rows.length) with b|b
 ·exact b
 ·exfalso
  have p:=l (by omega)
  refine h fun s t x a e=>?_
  obtain⟨y,c,_⟩:=z2a (pkc m (k+1)) s
  obtain⟨z,d,_⟩:=z2a (pkc m (k+1)) t
  have i:=z6e (pkc m (k+1)) s
  have j:=z6e (pkc m (k+1)) t
  rw [←p _ (by omega)] at i j
  have q:pkc m k (z5q (pkc m (k+1)) s)=pkc m k (z5q (pkc m (k+1)) t):=by rw [zf0 c,zf0 d,e]
  have r:z5q (pkc m (k+1)) s=z5q (pkc m (k+1)) t:=by
   rw [←zas i,←zas j];exact zkz q
  rw [←c,r,d]
theorem zku(a:1≤m.rows.length): ∀ k,(∀ j,j<k→ ¬zgu m j)→k+1≤cntF (pkc m k) m.rows.length
 |0,_=>by
  have:=z8j (pkc m 0) (show 0<m.rows.length by omega) (af.2 fun t b=>by omega)
  omega
 |k+1,h=>by
  have c:=zku a k fun j d=>h j (by omega)
  have e:=znb (h k (by omega))
  omega
theorem zmk{p:Nat→Prop}: ∀ n,p n→ ∃ k,k≤n∧p k∧ ∀ j,j<k→ ¬p j
 |n,h=>by
  by_cases e: ∃ j,j<n∧p j
  ·obtain⟨j,b,a⟩:=e
   obtain⟨k,f,c,d⟩:=zmk j a
   exact⟨k,by omega,c,d⟩
  ·exact⟨n,Nat.le_refl _,h,fun j b a=>e ⟨j,b,a⟩⟩
theorem zt8(c:MOk m): ∃ k,k<m.rows.length∧zgu m k∧ ∀ j,j<k→ ¬zgu m j:=by
 have d:=c.r1
 have e: ∃ k,k<m.rows.length∧zgu m k:=by
  refine Classical.byContradiction fun b=>?_
  have:=zku d m.rows.length fun j f a=>b ⟨j,f,a⟩
  have:=zbj (pkc m m.rows.length) m.rows.length
  omega
 obtain⟨n,b,a⟩:=e
 obtain⟨k,i,g,h⟩:=zmk n a
 exact⟨k,by omega,g,h⟩
def cls(m:Mach)(s:Nat):Nat:=pkc m m.rows.length s
def z6m(m:Mach):List Int:=pL m m.rows.length
theorem zjk(a:MOk m):zgu m m.rows.length:=by
 obtain⟨k,f,b,_⟩:=zt8 a
 intro s t c d e
 rw [z8s a b _ (by omega) s c,z8s a b _ (by omega) t d] at*
 exact e
theorem zkx(b:MOk m){s t:Nat}(c:s<m.rows.length)(d:t<m.rows.length)(h:cls m s=cls m t){i:Nat}(hi:i<m.inputs.toNat):ou m s i=ou m t i∧(ed m s i= -1↔ed m t i= -1)∧(ed m s i≠ -1→cls m (ed m s i).toNat=cls m (ed m t i).toNat):=by
 have j:=(zjm b c d).1 (zjk b s t c d h)
 obtain⟨f,k⟩:=j.2 i hi
 have l:=(zlz b c hi).1
 have n:=(zlz b d hi).1
 have g:ed m s i= -1↔ed m t i= -1:=by rw [l,n,f]
 exact⟨f,g,fun a=>k a fun e=>a (g.2 e)⟩
/-! ### Responses-/
theorem zin(m:Mach): ∀ w:List Int,ig m (-1) w=List.replicate w.length (-1)
 | []=>rfl
 |c::w=>by
  show (l7 m (-1) c).out::ig m (l7 m (-1) c).to w=_
  rw [show l7 m (-1) c=⟨-1,-1⟩ from rfl,zin m w];rfl
theorem z5i{s:Nat}(i:Nat)(w:List Int):ig m (s:Int) ((i:Int)::w)=ou m s i::ig m (ed m s i) w:=by
 show (l7 m (s:Int) (i:Int)).out::ig m (l7 m (s:Int) (i:Int)).to w=_
 unfold l7
 rw [if_neg (by omega)];rfl
theorem zm9{s:Nat}(i:Nat)(w:List Int):z02 m (s:Int) ((i:Int)::w)=z02 m (ed m s i) w:=by
 show z02 m (l7 m (s:Int) (i:Int)).to w=_
 unfold l7
 rw [if_neg (by omega)];rfl
theorem zga(a:MOk m): ∀ (k:Nat) {s t:Nat},s<m.rows.length→t<m.rows.length→(pkc m k s=pkc m k t↔ ∀ w,WOk m.inputs w→w.length≤k→ig m (s:Int) w=ig m (t:Int) w)
 |0,s,t,f,g=>⟨fun _ w _ d=>by
  have:w=[]:=List.length_eq_zero_iff.1 (by omega)
  subst this;rfl,fun _=>rfl⟩
 |k+1,s,t,f,g=>by
  rw [zjm a f g]
  constructor
  ·rintro⟨C,v⟩ w b d
   match w,b,d with
   | [],_,_=>rfl
   |c::w,b,d=>
    have x:0≤c∧c<m.inputs:=b 0 (by simp)
    obtain⟨i,rfl⟩:=Int.eq_ofNat_of_zero_le x.1
    have hi:i<m.inputs.toNat:=by omega
    obtain⟨q,y⟩:=v i hi
    have r:=(zlz a f hi).1
    have u:=(zlz a g hi).1
    rw [z5i,z5i,q]
    congr 1
    rcases z6n a f hi with e|e
    ·rw [e,u.2 (by rw [←q];exact r.1 e)]
    ·have l:ed m t i≠ -1:=fun n=>by have:=r.2 (by rw [q];exact u.1 n);omega
     have n:=(z6n a g hi).resolve_left l
     have:=(zga a k (s:=(ed m s i).toNat) (t:=(ed m t i).toNat) (by omega) (by omega)).1 (y (by omega) l) w (fun j o=>b (j+1) (by simpa using o)) (by simpa using d)
     rwa [Int.toNat_of_nonneg e.1,Int.toNat_of_nonneg n.1] at this
  ·intro h
   refine⟨(zga a k f g).2 fun w b d=>h w b (by omega),fun i hi=>?_⟩
   have p: ∀ w,WOk m.inputs w→WOk m.inputs ((i:Int)::w):=fun w b j o=>by
    cases j with
    |zero=>exact⟨by show 0≤(i:Int);omega,by show (i:Int)<m.inputs;omega⟩
    |succ j=>exact b j (by simpa using o)
   refine⟨?_,fun z n=>?_⟩
   ·have:=h [(i:Int)] (p [] fun j o=>by simp at o) (by simp)
    rw [z5i,z5i] at this
    exact(List.cons.inj this).1
   ·have A:=(z6n a f hi).resolve_left z
    have B:=(z6n a g hi).resolve_left n
    refine(zga a k (by omega) (by omega)).2 fun w b d=>?_
    have:=h ((i:Int)::w) (p w b) (by simpa using d)
    rw [z5i,z5i] at this
    rw [Int.toNat_of_nonneg A.1,Int.toNat_of_nonneg B.1]
    exact(List.cons.inj this).2
theorem zua(a:MOk m){s t:Nat}(b:s<m.rows.length)(c:t<m.rows.length):cls m s=cls m t↔ ∀ w,WOk m.inputs w→ig m (s:Int) w=ig m (t:Int) w:=by
 constructor
 ·intro h w d
  have e:pkc m (m.rows.length+w.length) s=pkc m (m.rows.length+w.length) t:=by
   rw [z8s a (zjk a) _ (by omega) s b,z8s a (zjk a) _ (by omega) t c];exact h
  exact(zga a _ b c).1 e w d (by omega)
 ·intro h
  exact(zga a _ b c).2 fun w d _=>h w d
end
end GV
end Go.Proofs.Ytnnobdkjgafdmaa

namespace Go.Proofs.Ytnnobdkjgafdmaa
namespace GV
theorem zk4{α:Type}{r:α→α→Prop}(hi: ∀ a,¬r a a)(d: ∀ a b,r a b→ ¬r b a): ∀ {X Y:List α},X.Pairwise r→Y.Pairwise r→(∀ a,a∈X↔a∈Y)→X=Y
 | [],[],_,_,_=>rfl
 | [],y::Y,_,_,h=>by have:=(h y).2 (by simp);simp at this
 |x::X,[],_,_,h=>by have:=(h x).1 (by simp);simp at this
 |x::X,y::Y,i,j,h=>by
  obtain⟨f,k⟩:=List.pairwise_cons.1 i
  obtain⟨g,l⟩:=List.pairwise_cons.1 j
  have e:x=y:=by
   rcases List.mem_cons.1 ((h x).1 (by simp)) with e|m
   ·exact e
   ·rcases List.mem_cons.1 ((h y).2 (by simp)) with e|n
    ·exact e.symm
    ·exact absurd (g x m) (d _ _ (f y n))
  subst e
  rw [zk4 hi d k l fun a=>?_]
  constructor
  ·intro c
   rcases List.mem_cons.1 ((h a).1 (List.mem_cons_of_mem _ c)) with e|h'
   ·subst e;exact absurd (f _ c) (hi _)
   ·exact h'
  ·intro c
   rcases List.mem_cons.1 ((h a).2 (List.mem_cons_of_mem _ c)) with e|h'
   ·subst e;exact absurd (g _ c) (hi _)
   ·exact h'
theorem zwj{a b:List Int}(h:llt a b): ¬llt b a:=fun k=>zaw _ (z8r h k)
def znj(P:List BE):List (List Int):=P.map (·.wd)
section
variable {m : Mach} {s0 : Nat} {P : List BE}
theorem getD_map{α β:Type}[Inhabited α][Inhabited β]{X:List α}{f:α→β}{k:Nat}(h:k<X.length):(X.map f).getD k default=f (X.getD k default):=by
 simp [List.getD_eq_getElem?_getD,h]
theorem zii(h:Rch m s0 P):(znj P).Pairwise llt:=by
 unfold znj
 rw [List.pairwise_iff_getElem]
 intro i j hi a b
 rw [List.length_map] at hi a
 have:=h.inc i j b a
 rw [List.getElem_map,List.getElem_map]
 simpa [List.getD_eq_getElem?_getD,hi,a] using this
theorem q0n{w:List Int}:w∈znj P↔ ∃ j,j<P.length∧(P.getD j default).wd=w:=by
 unfold znj;rw [List.mem_map]
 constructor
 ·rintro⟨e,b,rfl⟩
  obtain⟨j,a,rfl⟩:=List.mem_iff_getElem.1 b
  exact⟨j,a,by simp [List.getD_eq_getElem?_getD,a]⟩
 ·rintro⟨j,a,rfl⟩;exact⟨_,z0n a,rfl⟩
def q3a(m:Mach)(s0:Nat)(w:List Int):Prop:=WOk m.inputs w∧z02 m s0 w≠ -1∧ ∀ v,WOk m.inputs v→z02 m s0 v=z02 m s0 w→lle w v
theorem zlk(b:MOk m)(h:Rch m s0 P){w:List Int}:w∈znj P↔q3a m s0 w:=by
 rw [q0n]
 constructor
 ·rintro⟨j,a,rfl⟩
  refine⟨(h.wok j a).1,by rw [h.aft j a];omega,fun v c e=>h.min b a c (by rw [e,h.aft j a])⟩
 ·rintro⟨d,f,g⟩
  obtain⟨j,a,i,k⟩:=h.least b _ w rfl d f
  have l:=g _ (h.wok j a).1 (by rw [h.aft j a,i])
  refine⟨j,a,?_⟩
  rcases k with e|e
  ·exact e
  ·exact absurd e (z9s l)
theorem zz2(o:MOk m){P':List BE}(h:Rch m s0 P)(h':Rch m s0 P'):P=P':=by
 have p:znj P=znj P':=zk4 zaw (fun _ _=>zwj) (zii h) (zii h') fun w=>by rw [zlk o h,zlk o h']
 have s:P.length=P'.length:=by have:=congrArg List.length p;simpa [znj] using this
 have d: ∀ j,j<P.length→(P.getD j default).wd=(P'.getD j default).wd:=fun j c=>by
  have:=congrArg (fun l:List (List Int)=>l.getD j default) p
  simp only [znj] at this
  rw [getD_map (X:=P) c,getD_map (X:=P') (by omega)] at this
  exact this
 have k: ∀ j,j<P.length→(P.getD j default).st=(P'.getD j default).st:=fun j c=>by
  have e:=h.aft j c
  have n:=h'.aft j (by omega)
  rw [d j c,n] at e
  omega
 refine z4g s fun j c=>?_
 by_cases h0:j=0
 ·subst h0;rw [h.root,h'.root]
 ·obtain⟨q,i,D,hi,e,n,t,_⟩:=h.par j (by omega) c
  obtain⟨q',i',hq',hi',h1',h2',h3',_⟩:=h'.par j (by omega) (by omega)
  have r:=d j c
  rw [t,h3'] at r
  obtain⟨u,v⟩:=List.append_inj' r rfl
  have z:i=i':=by
   have:(i:Int)=(i':Int):=by simpa using v
   omega
  subst z
  have A:(P.getD q default).st=(P'.getD q' default).st:=by
   have B:=h.aft q (by omega)
   have C:=h'.aft q' (by omega)
   rw [u,C] at B
   omega
  have a:=d j c
  have b:=k j c
  rw [A] at e
  have f:(P.getD j default).par=(P'.getD j default).par:=by rw [e,h1']
  have g:(P.getD j default).inp=(P'.getD j default).inp:=by rw [n,h2']
  generalize P.getD j default=x at a b f g⊢
  generalize P'.getD j default=y at a b f g⊢
  cases x;cases y
  simp only at a b f g
  rw [a,b,f,g]
end
/-! ### Homomorphisms-/
def hI(h:Nat→Nat)(z:Int):Int:=if z= -1 then-1 else(h z.toNat:Int)
theorem zo1(h:Nat→Nat):hI h (-1)= -1:=rfl
theorem z9t(h:Nat→Nat)(s:Nat):hI h (s:Int)=(h s:Int):=by unfold hI;rw [if_neg (by omega),Int.toNat_natCast]
structure Hom (m q:Mach) (h:Nat→Nat):Prop where
 ok:MOk m
 ok':MOk q
 inp:q.inputs=m.inputs
 rng: ∀ s,s<m.rows.length→h s<q.rows.length
 out: ∀ s i,s<m.rows.length→i<m.inputs.toNat→ou q (h s) i=ou m s i
 to: ∀ s i,s<m.rows.length→i<m.inputs.toNat→ed q (h s) i=hI h (ed m s i)
section
variable {m q : Mach} {h : Nat → Nat}
theorem Hom.run(H:Hom m q h): ∀ (w:List Int) {s:Nat},s<m.rows.length→WOk m.inputs w→ig q (h s:Int) w=ig m (s:Int) w∧z02 q (h s:Int) w=hI h (z02 m (s:Int) w)
 | [],s,a,_=>⟨rfl,(z9t h s).symm⟩
 |c::w,s,a,b=>by
  have d:0≤c∧c<m.inputs:=b 0 (by simp)
  obtain⟨i,rfl⟩:=Int.eq_ofNat_of_zero_le d.1
  have hi:i<m.inputs.toNat:=by omega
  have hw':WOk m.inputs w:=fun j f=>b (j+1) (by simpa using f)
  rw [z5i,z5i,zm9,zm9,H.out s i a hi,H.to s i a hi]
  rcases z6n H.ok a hi with e|⟨g,o⟩
  ·rw [e,zo1,zin,zin,zfp,zfp,zo1];exact⟨rfl,rfl⟩
  ·obtain⟨t,k⟩:=Int.eq_ofNat_of_zero_le g
   rw [k,z9t]
   obtain⟨l,n⟩:=H.run w (s:=t) (by omega) hw'
   rw [l,n];exact⟨rfl,rfl⟩
def zxs(h:Nat→Nat)(e:BE):BE:=⟨h e.st,hI h e.par,e.inp,e.wd⟩
def z0r(h:Nat→Nat)(P:List BE)(j:Nat):Nat:=h (P.getD j default).st
def zam(h:Nat→Nat)(P:List BE):List BE:=(z6k (z0r h P) P.length).map fun j=>zxs h (P.getD j default)
theorem zon{P:List BE}:(zam h P).length=cntF (z0r h P) P.length:=by unfold zam;rw [List.length_map,z4y]
theorem zpj{P:List BE}{c:Nat}(a:c<cntF (z0r h P) P.length):(zam h P).getD c default=zxs h (P.getD ((z6k (z0r h P) P.length).getD c 0) default):=by
 unfold zam
 rw [List.getD_eq_getElem?_getD,List.getElem?_map]
 have:=(z4y (f:=z0r h P) P.length).symm▸a
 rw [List.getD_eq_getElem?_getD (l:=z6k _ _),List.getElem?_eq_getElem this]
 rfl
theorem zi5{P:List BE}{u:Nat}(a:u<P.length)(b:z0z (z0r h P) u=true):cntF (z0r h P) u<cntF (z0r h P) P.length∧(zam h P).getD (cntF (z0r h P) u) default=zxs h (P.getD u default):=by
 have c:=z8j (z0r h P) a b
 rw [zpj c,zjy a b]
 exact⟨c,rfl⟩
theorem q1p(H:Hom m q h){s0:Nat}(O:s0<m.rows.length){P:List BE}(a:Rch m s0 P):Rch q (h s0) (zam h P):=by
 have hm:=H.ok
 have hlen:=zon (h:=h) (P:=P)
 have cs: ∀ c,c<(zam h P).length→ ∃ u,u<P.length∧z0z (z0r h P) u=true∧cntF (z0r h P) u=c∧(zam h P).getD c default=zxs h (P.getD u default):=fun c k=>by
  rw [hlen] at k
  obtain⟨f,Q,R⟩:=z5m k
  exact⟨_,f,Q,R,zpj k⟩
 have hmono: ∀ u v,u<P.length→v<P.length→lle (P.getD u default).wd (P.getD v default).wd→u≤v:=fun u v b n g=>by
  rcases Nat.lt_or_ge v u with f|f
  ·exact absurd (a.inc v u f b) (z9s g)
  ·exact f
 have f0:z0z (z0r h P) 0=true:=af.2 fun t K=>by omega
 have rng: ∀ c,c<(zam h P).length→((zam h P).getD c default).st<q.rows.length:=fun c k=>by
  obtain⟨u,b,_,_,e⟩:=cs c k
  rw [e];exact H.rng _ (a.rng u b)
 have dis: ∀ i j,i<(zam h P).length→j<(zam h P).length→((zam h P).getD i default).st=((zam h P).getD j default).st→i=j:=fun i j hi d e=>by
  obtain⟨u,b,fu,rfl,eu⟩:=cs i hi
  obtain⟨v,n,fv,rfl,ev⟩:=cs j d
  rw [eu,ev] at e
  have:z5q (z0r h P) u=z5q (z0r h P) v:=zkz e
  rw [zas fu,zas fv] at this
  rw [this]
 refine⟨?_,?_,?_,rng,dis,fun j d=>?_,fun j S d=>?_,fun i j z d=>?_,fun c i k hi l=>?_⟩
 ·rw [hlen];have:=z8j (z0r h P) a.pos f0;omega
 ·have A:((zam h P).map (·.st)).Nodup:=by
   rw [List.nodup_iff_pairwise_ne,List.pairwise_iff_getElem]
   intro i j hi d z e
   rw [List.length_map] at hi d
   rw [List.getElem_map,List.getElem_map] at e
   have:=dis i j hi d (by simpa [List.getD_eq_getElem?_getD,d,hi] using e)
   omega
  have hsub:((zam h P).map (·.st))⊆List.range q.rows.length:=by
   intro x T
   obtain⟨e,U,rfl⟩:=List.mem_map.1 T
   obtain⟨j,d,rfl⟩:=List.mem_iff_getElem.1 U
   have:=rng j d
   rw [List.mem_range]
   simpa [List.getD_eq_getElem?_getD,d] using this
  have:=List.Nodup.length_le_of_subset A hsub
  simpa using this
 ·obtain⟨_,e⟩:=zi5 a.pos f0
  have V:(zam h P).getD 0 default=zxs h (P.getD 0 default):=e
  rw [V,a.root];rfl
 ·obtain⟨u,b,_,_,e⟩:=cs j d
  rw [e]
  show z02 q (h s0) (P.getD u default).wd=((h (P.getD u default).st:Nat):Int)
  rw [(H.run _ O (a.wok u b).1).2,a.aft u b,z9t]
 ·obtain⟨u,b,fu,k,e⟩:=cs j d
  have B:0<u:=by
   rcases Nat.eq_zero_or_pos u with o|o
   ·subst o;have:cntF (z0r h P) 0=0:=rfl;omega
   ·exact o
  obtain⟨r,i,W,hi,X,Y,L,M⟩:=a.par u B b
  have fr:z0z (z0r h P) r=true:=af.2 fun t K C=>by
   have heq':h (P.getD t default).st=h (P.getD r default).st:=C
   have D:=a.inc t r K (by omega)
   have E:=a.rng t (by omega)
   have F:=a.rng r (by omega)
   have w:hI h (ed m (P.getD t default).st i)=((h (P.getD u default).st:Nat):Int):=by
    rw [←H.to _ _ E hi,heq',H.to _ _ F hi,M,z9t]
   have l:ed m (P.getD t default).st i≠ -1:=fun o=>by rw [o,zo1] at w;omega
   obtain⟨v,n,p,g⟩:=a.cls t i (by omega) hi l
   have y:llt (P.getD v default).wd (P.getD u default).wd:=by rw [L];exact zn0 g (zc4 _ _ D)
   have G:v<u:=by
    have:=hmono v u n b (.inr y)
    rcases Nat.lt_or_ge v u with f|f
    ·exact f
    ·have:v=u:=by omega
     subst this;exact absurd y (zaw _)
   refine af.1 fu v G ?_
   show h (P.getD v default).st=h (P.getD u default).st
   rw [←p,z9t] at w
   omega
  obtain⟨N,s⟩:=zi5 (by omega) fr
  refine⟨cntF (z0r h P) r,i,by rw [←k];exact z8j _ W fr,by rw [H.inp];exact hi,?_,?_,?_,?_⟩
  ·rw [e,s];show hI h (P.getD u default).par=_;rw [X,z9t];rfl
  ·rw [e];exact Y
  ·rw [e,s];exact L
  ·rw [e,s]
   show ed q (h (P.getD r default).st) i=((h (P.getD u default).st:Nat):Int)
   rw [H.to _ _ (a.rng r (by omega)) hi,M,z9t]
 ·obtain⟨u,b,fu,I,eu⟩:=cs i (by omega)
  obtain⟨v,n,fv,Z,ev⟩:=cs j d
  rw [eu,ev]
  refine a.inc u v ?_ n
  rcases Nat.lt_or_ge u v with f|f
  ·exact f
  ·have:=zmg (z0r h P) f;omega
 ·obtain⟨u,b,fu,I,eu⟩:=cs c k
  rw [H.inp] at hi
  rw [eu] at l⊢
  have J:=a.rng u b
  have w:ed q (h (P.getD u default).st) i=hI h (ed m (P.getD u default).st i):=H.to _ _ J hi
  have hne':ed m (P.getD u default).st i≠ -1:=fun o=>l (by show ed q (h (P.getD u default).st) i= -1;rw [w,o];rfl)
  obtain⟨v,n,p,g⟩:=a.cls u i b hi hne'
  obtain⟨r1,r2,r3⟩:=z2a (z0r h P) v
  have fr:=z6e (z0r h P) v
  obtain⟨N,s⟩:=zi5 (h:=h) (u:=z5q (z0r h P) v) (by omega) fr
  refine⟨_,by rw [hlen];exact N,?_,?_⟩
  ·rw [s]
   show ((h (P.getD (z5q (z0r h P) v) default).st:Nat):Int)=ed q (h (P.getD u default).st) i
   have r2':h (P.getD (z5q (z0r h P) v) default).st=h (P.getD v default).st:=r2
   rw [w,←p,z9t,r2']
  ·rw [s]
   show lle (P.getD (z5q (z0r h P) v) default).wd ((P.getD u default).wd++[(i:Int)])
   refine zd8 ?_ g
   by_cases e:z5q (z0r h P) v=v
   ·rw [e];exact .inl rfl
   ·exact .inr (a.inc _ _ (by omega) n)
theorem q43(H:Hom m q h){s0:Nat}(a:s0<m.rows.length):rch q (h s0)=zam h (rch m s0):=
 zz2 H.ok' (zgl H.ok' (H.rng _ a)) (q1p H a (zgl H.ok a))
end
/-! ### Machines with the same responses-/
def Red(m:Mach):Prop:= ∀ s t,s<m.rows.length→t<m.rows.length→(∀ w,WOk m.inputs w→ig m (s:Int) w=ig m (t:Int) w)→s=t
def SameR(a b:Mach):Prop:=a.inputs=b.inputs∧a.outputs=b.outputs∧ ∀ w,WOk a.inputs w→ig a 0 w=ig b 0 w
theorem SameR.symm{a b:Mach}(h:SameR a b):SameR b a:=⟨h.1.symm,h.2.1.symm,fun w c=>(h.2.2 w (by rw [h.1];exact c)).symm⟩
theorem SameR.trans{a b c:Mach}(h:SameR a b)(k:SameR b c):SameR a c:=⟨h.1.trans k.1,h.2.1.trans k.2.1,fun w d=>(h.2.2 w d).trans (k.2.2 w (by rw [←h.1];exact d))⟩
section
variable {a b : Mach}
end
/-! ### The quotient-/
def z5r(m:Mach):Mach:=⟨m.inputs,m.outputs,(z6k (cls m) m.rows.length).map fun u=>(m.rows.getD u default).map fun e=>⟨hI (cls m) e.to,e.out⟩⟩
def z9g(m:Mach):Mach:=q55 (z5r m)
section
variable {m : Mach}
theorem zfl:(z5r m).rows.length=cntF (cls m) m.rows.length:=by unfold z5r;rw [List.length_map,z4y]
theorem zau(s:Nat):name (cls m) s=cls m s:=zg3
theorem ze5{s:Nat}(a:s<m.rows.length):cls m s<cntF (cls m) m.rows.length:=by rw [←zau];exact q2d a
theorem zn9{c:Nat}(a:c<cntF (cls m) m.rows.length):(z5r m).rows.getD c default=(m.rows.getD ((z6k (cls m) m.rows.length).getD c 0) default).map fun e=>⟨hI (cls m) e.to,e.out⟩:=by
 unfold z5r
 dsimp only
 have:=(z4y (f:=cls m) m.rows.length).symm▸a
 rw [List.getD_eq_getElem?_getD,List.getElem?_map,List.getD_eq_getElem?_getD (l:=z6k _ _),List.getElem?_eq_getElem this]
 rfl
theorem zn6(b:MOk m){c i:Nat}(a:c<cntF (cls m) m.rows.length)(hi:i<m.inputs.toNat):ed (z5r m) c i=hI (cls m) (ed m ((z6k (cls m) m.rows.length).getD c 0) i)∧ou (z5r m) c i=ou m ((z6k (cls m) m.rows.length).getD c 0) i:=by
 obtain⟨d,_,_⟩:=z5m a
 have e:=b.row _ d
 unfold ed ou
 rw [zn9 a,getD_map (by omega)]
 exact⟨rfl,rfl⟩
theorem znf(e:MOk m){s:Nat}(a:s<m.rows.length):(z6k (cls m) m.rows.length).getD (cls m s) 0<m.rows.length∧cls m ((z6k (cls m) m.rows.length).getD (cls m s) 0)=cls m s:=by
 obtain⟨b,c,d⟩:=z5m (ze5 a)
 refine⟨b,?_⟩
 rw [←zau,z8t c,d]
theorem zcr(a:MOk m):MOk (z5r m):=by
 have e:=zfl (m:=m)
 have k:=a.r1;have l:=a.r2;have n:=zbj (cls m) m.rows.length
 have o:=ze5 (m:=m) (s:=0) (by omega)
 refine⟨a.i1,a.i2,a.o1,a.o2,by omega,by omega,fun s b=>?_,fun s i b hi=>?_⟩
 ·rw [e] at b
  obtain⟨c,_,_⟩:=z5m b
  rw [zn9 b,List.length_map]
  exact a.row _ c
 ·rw [e] at b
  obtain⟨c,_,_⟩:=z5m b
  rw [zn9 b] at hi⊢
  rw [List.length_map] at hi
  rw [getD_map hi]
  have p:=a.row _ c
  rcases a.edge _ i c hi with⟨d,f⟩|⟨d,f,g,h⟩
  ·left;rw [d,f];exact⟨rfl,rfl⟩
  ·right
   obtain⟨t,j⟩:=Int.eq_ofNat_of_zero_le d
   rw [j,z9t]
   have:=ze5 (m:=m) (s:=t) (by omega)
   exact⟨by show (0:Int)≤(cls m t:Int);omega,by show ((cls m t:Nat):Int)<((z5r m).rows.length:Int);omega,g,h⟩
theorem zi7(b:MOk m):Hom m (z5r m) (cls m):=by
 refine⟨b,zcr b,rfl,fun s a=>by rw [zfl];exact ze5 a,fun s i a hi=>?_,fun s i a hi=>?_⟩
 ·obtain⟨c,d⟩:=znf b a
  rw [(zn6 b (ze5 a) hi).2]
  exact(zkx b c a d hi).1
 ·obtain⟨c,d⟩:=znf b a
  obtain⟨j,f,h⟩:=zkx b c a d hi
  rw [(zn6 b (ze5 a) hi).1]
  unfold hI
  by_cases e:ed m s i= -1
  ·rw [if_pos e,if_pos (f.2 e)]
  ·have g:ed m ((z6k (cls m) m.rows.length).getD (cls m s) 0) i≠ -1:=fun k=>e (f.1 k)
   rw [if_neg e,if_neg g,h g]
theorem q1y(a:MOk m):Red (z5r m):=by
 intro c d g i h
 rw [zfl] at g i
 obtain⟨b,j,k⟩:=z5m g
 obtain⟨e,l,n⟩:=z5m i
 generalize (z6k (cls m) m.rows.length).getD c 0=u at b j k
 generalize (z6k (cls m) m.rows.length).getD d 0=v at e l n
 have eu:cls m u=c:=by rw [←zau,z8t j,k]
 have ev:cls m v=d:=by rw [←zau,z8t l,n]
 rw [←eu,←ev]
 refine(zua a b e).2 fun w f=>?_
 rw [←((zi7 a).run w b f).1,←((zi7 a).run w e f).1,eu,ev]
 exact h w f
theorem zp2:cls m 0=0:=by rw [←zau,zlp]
theorem zrv(a:MOk m):MOk (z9g m):=q20 (zcr a)
end
end GV
end Go.Proofs.Ytnnobdkjgafdmaa

namespace Go.Proofs.Ytnnobdkjgafdmaa
namespace GV
set_option maxRecDepth 100000
/-! ### Signatures-/
def sgL(m:Mach)(p:Nat→Nat)(s:Nat):List (Int×Int):=zb3 m p s++List.replicate (16-m.inputs.toNat) (0,0)
theorem zaa{m:Mach}{p:Nat→Nat}{s:Nat}:(zb3 m p s).length=m.inputs.toNat:=by simp [zb3]
theorem zo6{m:Mach}(a:MOk m){p:Nat→Nat}{s:Nat}:(sgL m p s).length=16:=by
 have:=a.i2
 unfold sgL
 rw [List.length_append,zaa,List.length_replicate];omega
theorem zx0{m:Mach}{p:Nat→Nat}{s i:Nat}(hi:i<m.inputs.toNat):(zb3 m p s).getD i default=(ou m s i,if ed m s i= -1 then-1 else(p (ed m s i).toNat:Int)):=by
 simp [zb3,List.getD_eq_getElem?_getD,hi]
structure PR (m:Mach) (p:List Int) (f:Nat→Nat):Prop where
 len:p.length=m.rows.length
 get: ∀ s,s<m.rows.length→p.getD s default=(f s:Int)
theorem q64{m:Mach}(k:Nat):PR m (pL m k) (pkc m k):=⟨zn5 k,fun s a=>zsm a⟩
theorem zjo{α:Type}{X:List α}{n k:Nat}{z y:α}(a:X.length=k)(b:k<n):(X++List.replicate (n-k) z).set k y=(X++[y])++List.replicate (n-(k+1)) z:=q1c a b
theorem q28{N:Nat}{m:Mach}(a:MOk m)(z:200≤N){p:List Int}{f:Nat→Nat}(j:PR m p f){s:Nat}(c:s<m.rows.length): ∃ X:Arr 16 (Int×Int),z6g N m p (s:Int)=some X∧X.1=sgL m f s:=by
 have n:=a.i1;have o:=a.i2;have q:=a.r2
 have hrow:=a.row s c
 obtain⟨X,r,e⟩: ∃ X:Arr 16 (Int×Int),dx N m p (s:Int) N 0 (ah 16 (List.replicate 16 (((0:Int),(0:Int)):(Int×Int))))=some X∧X.1=sgL m f s:=by
  refine z0m (σ:=Arr 16 (Int×Int)) (fun F k X=>dx N m p (s:Int) F (k:Int) X) m.inputs.toNat (fun k X=>X.1=(zb3 m f s).take k++List.replicate (16-k) (0,0)) _ (fun F k X d hi=> .inr ?_) (fun F X hi=>?_) N 0 _ (Nat.zero_le _) (by omega) (by rw [zac (by simp)];rfl)
  ·have g:X.1.length=16:=X.2
   have i:((zb3 m f s).take k).length=k:=by rw [List.length_take,zaa];omega
   have hset: ∀ y,X.1.set k y=((zb3 m f s).take k++[y])++List.replicate (16-(k+1)) (0,0):=fun y=>by rw [hi];exact zjo i (by omega)
   have hnext:(zb3 m f s).take (k+1)=(zb3 m f s).take k++[(ou m s k,if ed m s k= -1 then-1 else(f (ed m s k).toNat:Int))]:=by
    rw [ze4 _ k (by rw [zaa];exact d),zx0 d]
   have t: ∀ Y:Arr 16 (Int×Int),Y=(if ed m s k= -1 then sw X (k:Int) (ou m s k,-1) else sw (sw X (k:Int) (ou m s k,-1)) (k:Int) (((ix (sw X (k:Int) (ou m s k,-1)).1 (k:Int)).1,(ix p (ed m s k)))))→
    dx N m p (s:Int) (F+1) (k:Int) X=dx N m p (s:Int) F ((k+1:Nat):Int) Y:=fun Y l=>by
    simp only [dx]
    rw [bq (show (k:Int)<((ix m.rows (s:Int)).length:Int) by rw [su];omega)]
    refine(qg (x:=Y) ?_).trans (by rw [zl (j6 (by omega))];rfl)
    rw [zl (show okI (ix m.rows (s:Int)) (k:Int) from jf (show k<(m.rows.getD s default).length by omega)),zl (jf (show k<X.1.length by omega))]
    show (bif decide (ed m s k≠ -1) then _ else _)=_
    by_cases hc:ed m s k= -1
    ·rw [xh (fun h=>h hc),l,if_pos hc];rfl
    ·have b:=(z6n a c d).resolve_left hc
     have A:=j.len
     rw [bq hc,l,if_neg hc]
     refine(zl (show okI p (ed m s k) from⟨b.1,by omega⟩)).trans ?_
     refine(zl (show okI (sw X (k:Int) (ou m s k,-1)).1 (k:Int) from jf (by rw [(sw X (k:Int) (ou m s k,-1)).2];omega))).trans ?_
     rfl
   refine⟨_,?_,t _ rfl⟩
   by_cases hc:ed m s k= -1
   ·rw [if_pos hc,hnext,if_pos hc]
    exact hset _
   ·have b:=(z6n a c d).resolve_left hc
    rw [if_neg hc,hnext,if_neg hc]
    have u:(sw X (k:Int) (ou m s k,-1)).1=X.1.set k (ou m s k,-1):=rfl
    have v:(ix (sw X (k:Int) (ou m s k,-1)).1 (k:Int)).1=ou m s k:=by
     rw [u,su]
     simp [List.getD_eq_getElem?_getD,g,show k<16 by omega]
    have w:ix p (ed m s k)=(f (ed m s k).toNat:Int):=j.get _ (by omega)
    rw [v,w]
    show ((X.1.set k (ou m s k,-1)).set k (ou m s k,(f (ed m s k).toNat:Int)))=_
    rw [List.set_set]
    exact hset _
  ·simp only [dx]
   rw [xh (show¬((m.inputs.toNat:Nat):Int)<((ix m.rows (s:Int)).length:Int) by rw [su];omega)]
   refine⟨X,rfl,?_⟩
   rw [hi,List.take_of_length_le (by rw [zaa];exact Nat.le_refl _)];rfl
 refine⟨X,?_,e⟩
 unfold z6g
 rw [zl (jf c),qg r]
/-! ### A round-/
def zef(m:Mach)(f:Nat→Nat)(s:Nat):Sc:=⟨(f s:Int),ah 16 (sgL m f s)⟩
theorem zx4{m:Mach}(a:MOk m){f:Nat→Nat}{s t:Nat}:zef m f s=zef m f t↔znl m f s=znl m f t:=by
 unfold zef znl
 rw [Sc.mk.injEq,Prod.mk.injEq]
 refine and_congr (by omega) ?_
 constructor
 ·intro h
  have b:=congrArg Subtype.val h
  rw [zac (zo6 a),zac (zo6 a)] at b
  exact(List.append_inj b (by rw [zaa,zaa])).1
 ·intro h
  unfold sgL
  rw [h]
theorem zsi{N:Nat}{m:Mach}(d:MOk m)(o:200≤N){p:List Int}{f:Nat→Nat}(i:PR m p f):z3k N m p=some (zvm (znl m f) m.rows.length):=by
 have q:=d.r2;have r:=i.len
 have u:dm N m p N 0 ([]:List (Sc×Int)) (mk (p.length:Int) (0:Int))=some (zvm (zef m f) m.rows.length):=by
  refine cz (σ:=List (Sc×Int)×List Int) (fun F k st=>dm N m p F (k:Int) st.1 st.2) m.rows.length
   (fun k st=>st.1=nmM (zef m f) k∧st.2=(List.range k).map (fun s=>(name (zef m f) s:Int))++List.replicate (m.rows.length-k) 0) _ (fun F k st j hi=> .inr ?_) (fun F st hi=>?_) N 0 ([],mk (p.length:Int) (0:Int)) (Nat.zero_le _) (by omega) ⟨rfl,by rw [r,zcw];simp⟩
  ·obtain⟨M,X⟩:=st
   obtain⟨e,a⟩:=hi
   dsimp only at e a⊢
   subst e;subst a
   obtain⟨A,v,l⟩:=q28 (N:=N) d o i j
   have n:A=ah 16 (sgL m f k):=Subtype.ext (by rw [l,zac (zo6 d)])
   have hkey:(⟨ix p (k:Int),A⟩:Sc)=zef m f k:=by unfold zef;rw [n,su,i.get k j]
   have c:((List.range k).map (fun s=>(name (zef m f) s:Int))).length=k:=by simp
   refine⟨(nmM (zef m f) (k+1),(List.range (k+1)).map (fun s=>(name (zef m f) s:Int))++List.replicate (m.rows.length-(k+1)) 0),⟨rfl,rfl⟩,?_⟩
   simp only [dm]
   rw [bq (by omega),zl (jf (by omega)),qg v,hkey]
   refine(qg (x:=nmM (zef m f) (k+1)) ?_).trans ?_
   ·cases h:z6l (nmM (zef m f) k) (zef m f k)
    ·exact(ct (b:= !false) rfl).trans (by rw [q2e _ h])
    ·exact(cf (b:= !true) rfl).trans (by rw [q0k _ h])
   ·rw [zl (jf (by rw [List.length_append,c,List.length_replicate];omega)),zl (j6 (by omega)),zt5 _ _ (Nat.lt_succ_self k),zen,zjo c j,z6s]
    rfl
  ·obtain⟨M,X⟩:=st
   obtain⟨e,a⟩:=hi
   dsimp only at e a⊢
   subst a
   simp only [dm]
   rw [xh (by omega),Nat.sub_self,List.replicate_zero,List.append_nil];rfl
 unfold z3k
 rw [zl ⟨by omega,by omega,by omega⟩,qg u,zsj (f:=zef m f) (g:=znl m f) fun s t _ _=>zx4 d]
theorem zux{N:Nat}{a b:List Int}(f:a.length<N)(g:a.length≤4611686018427387904):slices_Equal_int N a b=some (decide (a=b)):=by
 unfold slices_Equal_int
 by_cases h:(a.length:Int)≠b.length
 ·rw [bq h,decide_eq_false (fun e=>h (by rw [e]))]
 ·rw [xh h]
  have hl':a.length=b.length:=by omega
  have c:p9 N a b N 0=some (if a=b then Ex.go () else Ex.rt false):=by
   refine cz (σ:=Unit) (fun F k _=>p9 N a b F (k:Int)) a.length (fun k _=> ∀ j,j<k→a.getD j default=b.getD j default) _ (fun F k _ d hi=>?_) (fun F _ hi=>?_) N 0 () (Nat.zero_le _) (by omega) (fun j i=>by omega)
   ·simp only [p9]
    rw [bq (by omega),zl (jf d),zl (jf (by omega)),su,su]
    by_cases he:a.getD k default=b.getD k default
    ·right
     refine⟨(),zxo hi he,Eq.trans (xh (fun h=>h he)) ?_⟩
     rw [zl (j6 (by omega))];rfl
    ·left
     refine Eq.trans (bq he) ?_
     rw [if_neg (fun e=>he (by rw [e]))]
   ·simp only [p9]
    rw [xh (by omega),if_pos (z4g hl' hi)]
  rw [qg c]
  by_cases he:a=b
  ·rw [if_pos he,decide_eq_true he];rfl
  ·rw [if_neg he,decide_eq_false he];rfl
theorem zha{N:Nat}{m:Mach}(f:MOk m)(n:200≤N){a:Nat}(b:zgu m a)(hmin: ∀ i,i<a→ ¬zgu m i)(g:a<m.rows.length): ∀ (d j F:Nat) (l:List Int),j+d=a→d<F→
 oh N ((List Int)×Int) (fun k c=>gd (in64 (c.2+1))<|some (true,(k,c.2+1))) m F (l,(j:Int)-1) (pL m j)=some (pL m a,(a:Int))
 |d,j,0,l,_,p=>by omega
 |d,j,F+1,l,s,p=>by
  have q:=f.r2
  have r:(j:Int)-1+1=j:=by omega
  simp only [oh]
  rw [zl (j6 (by omega)),zst,r,ct rfl,qg (zsi f n (q64 j)),←q1s,qg (zux (by rw [zn5];omega) (by rw [zn5];omega))]
  by_cases h:zgu m j
  ·have:j=a:=by
    rcases Nat.lt_or_ge j a with o|o
    ·exact absurd h (hmin j o)
    ·omega
   subst this
   rw [bq ((zoq j).2 h).symm]
  ·have t:d≠0:=fun e=>by
    have:j=a:=by omega
    rw [this] at h;exact h b
   rw [xh (fun e=>h ((zoq j).1 e.symm))]
   have:=zha f n b hmin g (d-1) (j+1) F (pL m j) (by omega) (by omega)
   rw [show (((j+1:Nat):Int)-1)=(j:Int) by omega] at this
   exact this
theorem zrm{N:Nat}{m:Mach}(a:MOk m)(c:200≤N): ∃ j:Nat,z3o N m=some (z6m m,(j:Int),0):=by
 have e:=a.r1;have f:=a.r2
 obtain⟨b,g,d,h⟩:=zt8 a
 refine⟨b,?_⟩
 have key:=zha (N:=N) a c d h g b 0 N [] (by omega) (by omega)
 have i:pL m 0=mk (m.rows.length:Int) (0:Int):=by
  unfold pL
  rw [zcw]
  show (List.range m.rows.length).map (fun _=>((0:Nat):Int))=_
  rw [List.map_const',List.length_range];rfl
 unfold z3o
 rw [qg (q4e a c),xh (by simp),qg (show z6i N m=some m from rfl)]
 refine(qg (x:=(pL m b,(b:Int))) ?_).trans ?_
 ·unfold z4k
  rw [zl ⟨by omega,by omega,by omega⟩,←i]
  exact key
 ·rw [show z6m m=pL m b from q2a a d (by omega)]
/-! ### The reference-/
def apB(m:Mach)(k s t i:Nat):Bool:=decide (ou m s i≠ou m t i)||(((decide (0≤ed m s i))&&(decide (0≤ed m t i)))&&decide (pkc m k (ed m s i).toNat≠pkc m k (ed m t i).toNat))
def z6q(m:Mach)(k s:Nat):List Bool:=(List.range m.rows.length).map fun t=>decide (pkc m k s≠pkc m k t)
def z4i(m:Mach)(k:Nat):List (List Bool):=(List.range m.rows.length).map (z6q m k)
section ref
variable {N : Nat} {m : Mach}
theorem zc6(k:Nat):(z4i m k).length=m.rows.length:=by simp [z4i]
theorem zal(k s:Nat):(z6q m k s).length=m.rows.length:=by simp [z6q]
theorem zg5{k s:Nat}(a:s<m.rows.length):(z4i m k).getD s default=z6q m k s:=by simp [z4i,List.getD_eq_getElem?_getD,a]
theorem zg0{k s t:Nat}(a:t<m.rows.length):(z6q m k s).getD t default=decide (pkc m k s≠pkc m k t):=by simp [z6q,List.getD_eq_getElem?_getD,a]
theorem apart_eq(a:MOk m)(A:200≤N){k s t:Nat}(c:s<m.rows.length)(d:t<m.rows.length):z0q N m (z4i m k) (s:Int) (t:Int)=some (if((List.range m.inputs.toNat).any (apB m k s t))=true then 1 else 0):=by
 have q:=a.i1;have r:=a.i2
 have u:=a.row s c;have v:=a.row t d
 have w:um N m (z4i m k) (s:Int) (t:Int) N 0=some (if((List.range m.inputs.toNat).any (apB m k s t))=true then Ex.rt 1 else Ex.go ()):=by
  refine cz (σ:=Unit) (fun F i _=>um N m (z4i m k) (s:Int) (t:Int) F (i:Int)) m.inputs.toNat (fun i _=> ∀ j,j<i→apB m k s t j=false) _ (fun F i _ hi f=>?_) (fun F _ f=>?_) N 0 () (Nat.zero_le _) (by omega) (fun j g=>by omega)
  ·have x:=z6n a c hi
   have y:=z6n a d hi
   have hbody:(um N m (z4i m k) (s:Int) (t:Int) (F+1) (i:Int))=bif apB m k s t i then some (Ex.rt 1) else um N m (z4i m k) (s:Int) (t:Int) F ((i+1:Nat):Int):=by
    simp only [um]
    rw [bq (by omega),zl (jf c),zl (show okI (ix m.rows (s:Int)) (i:Int) from jf (show i<(m.rows.getD s default).length by omega)),zl (jf d),zl (show okI (ix m.rows (t:Int)) (i:Int) from jf (show i<(m.rows.getD t default).length by omega))]
    have n: ∀ {p:Prop},(0≤ed m s i→0≤ed m t i→p)→(((true&&((decide (ou m s i≠ou m t i))==false))&&(((decide (0≤ed m s i))&&(decide (0≤ed m t i)))==true))=true→p):=fun h e=>by
     simp only [Bool.and_eq_true,beq_iff_eq,decide_eq_true_eq] at e
     exact h e.2.1 e.2.2
    refine(zl (n fun l o=>?_)).trans ?_
    ·exact⟨l,by show ed m s i<_;rw [zc6];omega⟩
    refine(zl (n fun l o=>?_)).trans ?_
    ·have e:ix (z4i m k) (ed m s i)=z6q m k (ed m s i).toNat:=zg5 (by omega)
     show okI (ix (z4i m k) (ed m s i)) (ed m t i)
     rw [e]
     exact⟨o,by rw [zal];omega⟩
    show (bif (decide (ou m s i≠ou m t i))||(((decide (0≤ed m s i))&&(decide (0≤ed m t i)))&&(ix (ix (z4i m k) (ed m s i)) (ed m t i))) then _ else _)=_
    have b:((decide (ou m s i≠ou m t i))||(((decide (0≤ed m s i))&&(decide (0≤ed m t i)))&&(ix (ix (z4i m k) (ed m s i)) (ed m t i))))=apB m k s t i:=by
     unfold apB
     by_cases l:0≤ed m s i∧0≤ed m t i
     ·have e:ix (z4i m k) (ed m s i)=z6q m k (ed m s i).toNat:=zg5 (by omega)
      have z:ix (z6q m k (ed m s i).toNat) (ed m t i)=decide (pkc m k (ed m s i).toNat≠pkc m k (ed m t i).toNat):=zg0 (by omega)
      rw [e,z]
     ·have:((decide (0≤ed m s i))&&(decide (0≤ed m t i)))=false:=by
       rw [Bool.and_eq_false_iff,decide_eq_false_iff_not,decide_eq_false_iff_not];omega
      rw [this,Bool.false_and,Bool.false_and]
    rw [b]
    cases apB m k s t i
    ·rw [cf rfl,cf rfl,zl (j6 (by omega))];rfl
    ·rw [ct rfl,ct rfl]
   rw [hbody]
   cases b:apB m k s t i
   ·right
    refine⟨(),fun j g=>?_,rfl⟩
    by_cases e:j=i
    ·rw [e];exact b
    ·exact f j (by omega)
   ·left
    rw [ct rfl,if_pos (List.any_eq_true.2 ⟨i,List.mem_range.2 hi,b⟩)]
  ·simp only [um]
   rw [xh (by omega),if_neg]
   rw [Bool.not_eq_true,List.any_eq_false]
   intro j g
   rw [f j (List.mem_range.1 g)];decide
 unfold z0q
 rw [qg w]
 split<;>rfl
theorem zs5(c:MOk m){k s t:Nat}(e:s<m.rows.length)(f:t<m.rows.length):(decide (pkc m k s≠pkc m k t)||(List.range m.inputs.toNat).any (apB m k s t))=decide (pkc m (k+1) s≠pkc m (k+1) t):=by
 rw [Bool.eq_iff_iff,Bool.or_eq_true,decide_eq_true_eq,decide_eq_true_eq,List.any_eq_true,ne_eq,ne_eq,zjm c e f]
 constructor
 ·rintro(h|⟨i,hi,h⟩) ⟨b,g⟩
  ·exact h b
  ·have hi':=List.mem_range.1 hi
   obtain⟨j,l⟩:=g i hi'
   unfold apB at h
   rw [Bool.or_eq_true,Bool.and_eq_true,Bool.and_eq_true,decide_eq_true_eq,decide_eq_true_eq,decide_eq_true_eq,decide_eq_true_eq] at h
   rcases h with h|⟨⟨n,o⟩,p⟩
   ·exact h j
   ·exact p (l (by omega) (by omega))
 ·intro h
  by_cases b:pkc m k s=pkc m k t
  ·right
   refine Classical.byContradiction fun q=>h ⟨b,fun i hi=>?_⟩
   have a:apB m k s t i≠true:=fun r=>q ⟨i,List.mem_range.2 hi,r⟩
   unfold apB at a
   rw [ne_eq,Bool.or_eq_true,Bool.and_eq_true,Bool.and_eq_true,decide_eq_true_eq,decide_eq_true_eq,decide_eq_true_eq,decide_eq_true_eq] at a
   have u:=z6n c e hi
   have v:=z6n c f hi
   refine⟨Classical.byContradiction fun d=>a (.inl d),fun n o=>Classical.byContradiction fun d=>a (.inr ⟨⟨by omega,by omega⟩,d⟩)⟩
  ·exact .inl b
theorem zyv:z4i m 0=List.replicate m.rows.length (List.replicate m.rows.length false):=by
 unfold z4i z6q
 show (List.range m.rows.length).map (fun s=>(List.range m.rows.length).map fun t=>decide ((0:Nat)≠0))=_
 rw [show decide ((0:Nat)≠0)=false from rfl,List.map_const',List.map_const',List.length_range]
theorem zr2(d:MOk m)(g:200≤N){k s:Nat}(c:s<m.rows.length){Y:List (List Bool)}(e:Y.length=s):yg N m (z4i m k) (s:Int) N 0 (Y++[mk (m.rows.length:Int) false])=some (Y++[z6q m (k+1) s]):=by
 have h:=d.r2
 refine cz (σ:=List (List Bool)) (fun F t st=>yg N m (z4i m k) (s:Int) F (t:Int) st) m.rows.length (fun t st=>st=Y++[(z6q m (k+1) s).take t++List.replicate (m.rows.length-t) false]) _ (fun F t st a hi=> .inr ?_) (fun F st hi=>?_) N 0 _ (Nat.zero_le _) (by omega) (by rw [zcw];rfl)
 ·subst hi
  have b:((z6q m (k+1) s).take t).length=t:=by rw [List.length_take,zal];omega
  have hget:(Y++[(z6q m (k+1) s).take t++List.replicate (m.rows.length-t) false]).getD s default=(z6q m (k+1) s).take t++List.replicate (m.rows.length-t) false:=by
   rw [List.getD_eq_getElem?_getD,←e,List.getElem?_concat_length];rfl
  have f:((z6q m (k+1) s).take t++List.replicate (m.rows.length-t) false).length=m.rows.length:=by rw [List.length_append,b,List.length_replicate];omega
  refine⟨_,rfl,?_⟩
  simp only [yg]
  rw [bq (by omega),zl (jf (by rw [List.length_append,e];simp)),zl (jf (by rw [zc6];exact c))]
  have i:ix (z4i m k) (s:Int)=z6q m k s:=zg5 c
  have j:ix (z6q m k s) (t:Int)=decide (pkc m k s≠pkc m k t):=zg0 a
  rw [i,zl (jf (by rw [zal];exact a)),j]
  refine(zih (fun _=>apart_eq d g c a)).trans ?_
  have l:ix (Y++[(z6q m (k+1) s).take t++List.replicate (m.rows.length-t) false]) (s:Int)=_:=hget
  rw [l,zl (jf (by rw [f];exact a)),zl (j6 (by omega))]
  have hval:(decide (pkc m k s≠pkc m k t)||(decide (((bif (true&&(decide (pkc m k s≠pkc m k t)==false)) then some (if((List.range m.inputs.toNat).any (apB m k s t))=true then(1:Int) else 0) else none).getD default)=1)))=decide (pkc m (k+1) s≠pkc m (k+1) t):=by
   rw [←zs5 d c a]
   cases decide (pkc m k s≠pkc m k t)
   ·cases (List.range m.inputs.toNat).any (apB m k s t)<;>rfl
   ·rfl
  rw [hval,zen,zen,zjo b a]
  have hnext:(z6q m (k+1) s).take (t+1)=(z6q m (k+1) s).take t++[decide (pkc m (k+1) s≠pkc m (k+1) t)]:=by
   rw [ze4 _ t (by rw [zal];exact a),zg0 a]
  rw [hnext]
  have hset: ∀ z,(Y++[(z6q m (k+1) s).take t++List.replicate (m.rows.length-t) false]).set s z=Y++[z]:=fun z=>by
   rw [List.set_append_right _ _ (by omega),e,Nat.sub_self];rfl
  rw [hset]
  rfl
 ·subst hi
  simp only [yg]
  rw [xh (by omega),Nat.sub_self,List.replicate_zero,List.append_nil,List.take_of_length_le (by rw [zal];exact Nat.le_refl _)]
theorem zvt(a:MOk m)(c:200≤N){k:Nat}(h:k≤100):ib N m (k:Int)=some (z4i m k):=by
 have d:=a.r2
 have e:yj N m N ([]:List (List Bool)) 0=some (z4i m 0):=by
  refine cz (σ:=List (List Bool)) (fun F s st=>yj N m F st (s:Int)) m.rows.length (fun s st=>st=List.replicate s (List.replicate m.rows.length false)) _ (fun F s st b hi=> .inr ?_) (fun F st hi=>?_) N 0 [] (Nat.zero_le _) (by omega) rfl
  ·subst hi
   refine⟨_,rfl,?_⟩
   simp only [yj]
   rw [bq (by omega),zl ⟨by omega,by omega,by omega⟩,zl ⟨by simp;omega,by simp;omega⟩,zl (j6 (by omega)),zcw,List.replicate_succ'];rfl
  ·subst hi
   simp only [yj]
   rw [xh (by omega),zyv]
 have f:yc N m (k:Int) N (z4i m 0) 0=some (z4i m k):=by
  refine cz (σ:=List (List Bool)) (fun F j st=>yc N m (k:Int) F st (j:Int)) k (fun j st=>st=z4i m j) _ (fun F j st i hi=> .inr ?_) (fun F st hi=>?_) N 0 _ (Nat.zero_le _) (by omega) rfl
  ·subst hi
   refine⟨_,rfl,?_⟩
   have g:yf N m (z4i m j) N ([]:List (List Bool)) 0=some (z4i m (j+1)):=by
    refine cz (σ:=List (List Bool)) (fun F s st=>yf N m (z4i m j) F st (s:Int)) m.rows.length (fun s st=>st=(List.range s).map (z6q m (j+1))) _ (fun F s st b hi=> .inr ?_) (fun F st hi=>?_) N 0 [] (Nat.zero_le _) (by omega) rfl
    ·subst hi
     refine⟨_,rfl,?_⟩
     simp only [yf]
     rw [bq (by omega)]
     refine(qg (x:=(List.range s).map (z6q m (j+1))++[z6q m (j+1) s]) ?_).trans ?_
     ·rw [zl ⟨by omega,by omega,by omega⟩,zl ⟨by simp;omega,by simp;omega⟩]
      exact zr2 a c b (by simp)
     ·rw [zl (j6 (by omega)),z6s];rfl
    ·subst hi
     simp only [yf]
     rw [xh (by omega)];rfl
   simp only [yc]
   rw [bq (by omega),qg g,zl (j6 (by omega))];rfl
  ·subst hi
   simp only [yc]
   rw [xh (by omega)]
 unfold ib
 rw [qg e,qg f]
theorem zoc(r:MOk m)(I:200≤N)(k:Nat):mi N (z4i m k)=some (pL m k):=by
 have w:=r.r2
 have hname: ∀ s,name (pkc m k) s=pkc m k s:=fun s=>zg3
 have o: ∀ s,s<m.rows.length→ ∃ v,kw N (z4i m k) ((List.range s).map fun u=>(pkc m k u:Int)) (s:Int) N (-1) 0=some v∧((v= -1∧z0z (pkc m k) s=true)∨(v=(pkc m k s:Int)∧z0z (pkc m k) s=false)):=fun s i=>by
  refine z0m (σ:=Int) (fun F t v=>kw N (z4i m k) ((List.range s).map fun u=>(pkc m k u:Int)) (s:Int) F v (t:Int)) s (fun t v=>(v= -1∧ ∀ u,u<t→pkc m k u≠pkc m k s)∨(v=(pkc m k s:Int)∧ ∃ u,u<t∧pkc m k u=pkc m k s)) _ (fun F t v z hi=> .inr ?_) (fun F v hi=>?_) N 0 (-1) (Nat.zero_le _) (by omega) (.inl ⟨rfl,fun u j=>by omega⟩)
  ·have A:ix (z4i m k) (s:Int)=z6q m k s:=zg5 i
   have B:ix (z6q m k s) (t:Int)=decide (pkc m k s≠pkc m k t):=zg0 (by omega)
   have C:ix ((List.range s).map fun u=>(pkc m k u:Int)) (t:Int)=(pkc m k t:Int):=by rw [su];simp [List.getD_eq_getElem?_getD,z]
   have D: ∀ y,y=(if pkc m k s=pkc m k t then(pkc m k t:Int) else v)→kw N (z4i m k) ((List.range s).map fun u=>(pkc m k u:Int)) (s:Int) (F+1) v (t:Int)=kw N (z4i m k) ((List.range s).map fun u=>(pkc m k u:Int)) (s:Int) F y ((t+1:Nat):Int):=fun y q=>by
    simp only [kw]
    rw [bq (by omega)]
    refine(qg (x:=y) ?_).trans (by rw [zl (j6 (by omega))];rfl)
    rw [zl (jf (by rw [zc6];exact i)),A,zl (jf (by rw [zal];omega)),B]
    by_cases a:pkc m k s=pkc m k t
    ·rw [decide_eq_false (fun h=>h a)]
     refine(ct (b:= !false) rfl).trans ?_
     rw [zl (jf (by simp;omega)),C,q,if_pos a]
    ·rw [decide_eq_true a]
     refine(cf (b:= !true) rfl).trans ?_
     rw [q,if_neg a]
   refine⟨_,?_,D _ rfl⟩
   by_cases a:pkc m k s=pkc m k t
   ·rw [if_pos a];exact .inr ⟨by rw [a],t,by omega,a.symm⟩
   ·rw [if_neg a]
    rcases hi with⟨d,f⟩|⟨d,u,j,f⟩
    ·refine .inl ⟨d,fun u j=>?_⟩
     by_cases e:u=t
     ·subst e;exact fun h=>a h.symm
     ·exact f u (by omega)
    ·exact .inr ⟨d,u,by omega,f⟩
  ·simp only [kw]
   rw [xh (by omega)]
   refine⟨v,rfl,?_⟩
   rcases hi with⟨d,f⟩|⟨d,u,j,f⟩
   ·exact .inl ⟨d,af.2 f⟩
   ·refine .inr ⟨d,?_⟩
    rw [←Bool.not_eq_true,af]
    exact fun h=>h u j f
 have E:ul N (z4i m k) N ([]:List Int) 0 0=some (pL m k):=by
  refine cz (σ:=List Int×Int) (fun F s st=>ul N (z4i m k) F st.1 st.2 (s:Int)) m.rows.length (fun s st=>st.1=((List.range s).map fun u=>(pkc m k u:Int))∧st.2=(cntF (pkc m k) s:Int)) _ (fun F s st i hi=> .inr ?_) (fun F st hi=>?_) N 0 ([],0) (Nat.zero_le _) (by omega) ⟨rfl,rfl⟩
  ·obtain⟨l,c⟩:=st
   obtain⟨g,a⟩:=hi
   dsimp only at g a⊢
   subst g;subst a
   obtain⟨v,G,p⟩:=o s i
   have H:=zbj (pkc m k) s
   have hstep:cntF (pkc m k) (s+1)=cntF (pkc m k) s+if z0z (pkc m k) s=true then 1 else 0:=rfl
   refine⟨((List.range (s+1)).map fun u=>(pkc m k u:Int),(cntF (pkc m k) (s+1):Int)),⟨rfl,rfl⟩,?_⟩
   simp only [ul]
   rw [bq (by rw [zc6];omega),qg G]
   refine(qg (x:=((cntF (pkc m k) (s+1):Int),(pkc m k s:Int))) ?_).trans ?_
   ·rcases p with⟨rfl,n⟩|⟨rfl,n⟩
    ·rw [n,if_pos rfl] at hstep
     rw [bq (by decide),zl (j6 (by omega)),hstep,←hname s,z8t n];rfl
    ·rw [n,if_neg (by decide)] at hstep
     rw [xh (by omega),hstep];rfl
   ·rw [zl ⟨by simp;omega,by simp;omega⟩,zl (j6 (by omega)),z6s];rfl
  ·obtain⟨l,c⟩:=st
   obtain⟨g,a⟩:=hi
   dsimp only at g a⊢
   subst g
   simp only [ul]
   rw [xh (by rw [zc6];omega)];rfl
 unfold mi
 rw [qg E]
theorem zhm(a:MOk m)(c:200≤N):oq N m=some (z6m m):=by
 have d:=a.r2
 unfold oq z1l
 rw [qg (show (bd (ib N m (m.rows.length:Int)) fun e=>bd (mi N e) fun b=>some b)=some (z6m m) from by rw [qg (zvt a c (by omega)),qg (zoc a c _)];rfl)]
end ref
end GV
end Go.Proofs.Ytnnobdkjgafdmaa
