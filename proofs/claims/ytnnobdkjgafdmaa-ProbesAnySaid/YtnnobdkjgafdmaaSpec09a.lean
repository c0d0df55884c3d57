
import Derived.Test.YtnnobdkjgafdmaaShMap
import Derived.Test.YtnnobdkjgafdmaaSpec06g
set_option linter.unusedVariables false
set_option linter.unusedSimpArgs false
set_option linter.unusedSectionVars false
namespace Go.Proofs.Ytnnobdkjgafdmaa
namespace GV
section names
variable {κ κ' : Type} [DecidableEq κ] [DecidableEq κ']
def z2q(f:Nat→κ)(u:Nat):Bool:=(List.range u).all fun t=>decide (f t≠f u)
theorem ll{f:Nat→κ}{u:Nat}:z2q f u=true↔ ∀ t,t<u→f t≠f u:=by
 unfold z2q
 rw [List.all_eq_true]
 exact⟨fun h t a=>of_decide_eq_true (h t (List.mem_range.2 a)),fun h t a=>decide_eq_true (h t (List.mem_range.1 a))⟩
def cntF(f:Nat→κ):Nat→Nat
 |0=>0
 |u+1=>cntF f u+if z2q f u=true then 1 else 0
theorem zg3(f:Nat→κ): ∀ u,cntF f u≤u
 |0=>Nat.le_refl _
 |u+1=>by have:=zg3 f u;unfold cntF;split<;>omega
theorem cntF_step(f:Nat→κ)(u:Nat):cntF f u≤cntF f (u+1):=by show _≤cntF f u+_;omega
theorem zsw(f:Nat→κ){u v:Nat}(h:u≤v):cntF f u≤cntF f v:=by
 induction v with
 |zero=>rw [show u=0 by omega];exact Nat.le_refl _
 |succ v ih=>
  by_cases e:u=v+1
  ·rw [e];exact Nat.le_refl _
  ·exact Nat.le_trans (ih (by omega)) (cntF_step f v)
theorem zga(f:Nat→κ){u v:Nat}(h:u<v)(a:z2q f u=true):cntF f u<cntF f v:=by
 have b:=zsw f (show u+1≤v by omega)
 have c:cntF f (u+1)=cntF f u+1:=by show cntF f u+_=_;rw [if_pos a]
 omega
theorem zvu{f:Nat→κ}{u v:Nat}(a:z2q f u=true)(b:z2q f v=true)(h:cntF f u=cntF f v):u=v:=by
 rcases Nat.lt_trichotomy u v with e|e|e
 ·have:=zga f e a;omega
 ·exact e
 ·have:=zga f e b;omega
def z7q(f:Nat→κ)(s:Nat):Nat:=((List.range s).find? fun t=>decide (f t=f s)).getD s
theorem z2r(f:Nat→κ)(s:Nat):z7q f s≤s∧f (z7q f s)=f s∧ ∀ t,t<z7q f s→f t≠f s:=by
 unfold z7q
 cases h:(List.range s).find? fun t=>decide (f t=f s) with
 |none=>
  rw [List.find?_eq_none] at h
  exact⟨Nat.le_refl _,rfl,fun t a=>by simpa using h t (List.mem_range.2 a)⟩
 |some u=>
  obtain⟨c,i,d,b,e⟩:=List.find?_eq_some_iff_getElem.1 h
  rw [List.getElem_range] at b
  subst b
  rw [List.length_range] at d
  refine⟨by show i≤s;omega,by simpa using c,fun t a=>?_⟩
  have:=e t a
  rw [List.getElem_range] at this
  simpa using this
theorem z8u(f:Nat→κ)(s:Nat):z2q f (z7q f s)=true:=by
 obtain⟨d,a,b⟩:=z2r f s
 exact ll.2 fun t c=>by rw [a];exact b t c
theorem zmq{f:Nat→κ}{u s:Nat}(a:z2q f u=true)(h:f u=f s)(b:u≤s):z7q f s=u:=by
 obtain⟨g,c,d⟩:=z2r f s
 rcases Nat.lt_trichotomy (z7q f s) u with e|e|e
 ·exact absurd (c.trans h.symm) (ll.1 a _ e)
 ·exact e
 ·exact absurd h (d u e)
theorem zdc{f:Nat→κ}{u:Nat}(a:z2q f u=true):z7q f u=u:=zmq a rfl (Nat.le_refl _)
theorem zo2{f:Nat→κ}{s t:Nat}(h:f s=f t):z7q f s=z7q f t:=by
 obtain⟨g,a,b⟩:=z2r f s
 obtain⟨i,c,d⟩:=z2r f t
 rcases Nat.lt_trichotomy (z7q f s) (z7q f t) with e|e|e
 ·exact absurd (a.trans h) (d _ e)
 ·exact e
 ·exact absurd (c.trans h.symm) (b _ e)
def name(f:Nat→κ)(s:Nat):Nat:=cntF f (z7q f s)
theorem zd0{f:Nat→κ}{s t:Nat}:name f s=name f t↔f s=f t:=by
 constructor
 ·intro h
  have:=zvu (z8u f s) (z8u f t) h
  rw [←(z2r f s).2.1,this,(z2r f t).2.1]
 ·intro h;unfold name;rw [zo2 h]
theorem zej{f:Nat→κ}{u:Nat}(h:z2q f u=true):name f u=cntF f u:=by unfold name;rw [zdc h]
theorem zjf(f:Nat→κ):name f 0=0:=by
 unfold name
 rw [zdc (ll.2 fun t a=>by omega)];rfl
/-! Only which keys are equal counts. -/
theorem zit{f:Nat→κ}{g:Nat→κ'}{n:Nat}(h: ∀ s t,s<n→t<n→(f s=f t↔g s=g t)){u:Nat}(b:u<n):z2q f u=z2q g u:=by
 rw [Bool.eq_iff_iff,ll,ll]
 exact⟨fun k t a e=>k t a ((h t u (by omega) b).2 e),fun k t a e=>k t a ((h t u (by omega) b).1 e)⟩
theorem zia{f:Nat→κ}{g:Nat→κ'}{n:Nat}(h: ∀ s t,s<n→t<n→(f s=f t↔g s=g t)): ∀ {u:Nat},u≤n→cntF f u=cntF g u
 |0,_=>rfl
 |u+1,a=>by
  show cntF f u+_=cntF g u+_
  rw [zia h (by omega),zit h (show u<n by omega)]
theorem zsl{f:Nat→κ}{g:Nat→κ'}{n:Nat}(h: ∀ s t,s<n→t<n→(f s=f t↔g s=g t)){s:Nat}(a:s<n):z7q f s=z7q g s:=by
 obtain⟨b,c,d⟩:=z2r g s
 refine zmq ?_ ((h _ _ (by omega) a).2 c) b
 rw [zit h (by omega)];exact z8u g s
theorem z9q{f:Nat→κ}{g:Nat→κ'}{n:Nat}(h: ∀ s t,s<n→t<n→(f s=f t↔g s=g t)){s:Nat}(a:s<n):name f s=name g s:=by
 have:=(z2r g s).1
 unfold name
 rw [zsl h a,zia h (by omega)]
/-! A map from keys to names,as the first k things are named. -/
def nmM(f:Nat→κ):Nat→List (κ×Int)
 |0=>[]
 |k+1=>nmM f k++if z2q f k=true then [(f k,(cntF f k:Int))] else []
theorem zqj(f:Nat→κ): ∀ k,(nmM f k).length=cntF f k
 |0=>rfl
 |k+1=>by
  show (nmM f k++_).length=cntF f k+_
  rw [List.length_append,zqj f k]
  split<;>rfl
theorem zm6{β:Type}{M M':List (κ×β)}{x:κ}:z4l (M++M') x=(z4l M x||z4l M' x):=by
 induction M with
 |nil=>rfl
 |cons p l ih=>
  show (if x=p.1 then true else z4l (l++M') x)=((if x=p.1 then true else z4l l x)||z4l M' x)
  split
  ·rfl
  ·exact ih
theorem znd{β:Type}{z:β}{M M':List (κ×β)}{x:κ}:z3s z (M++M') x=if z4l M x=true then z3s z M x else z3s z M' x:=by
 induction M with
 |nil=>rfl
 |cons p l ih=>
  show (if x=p.1 then p.2 else z3s z (l++M') x)=if(if x=p.1 then true else z4l l x)=true then(if x=p.1 then p.2 else z3s z l x) else z3s z M' x
  by_cases h:x=p.1
  ·simp [h]
  ·simp only [if_neg h];exact ih
theorem zwg{β:Type}{M:List (κ×β)}{x:κ}{v:β}(h:z4l M x=false):z5m M x v=M++[(x,v)]:=by
 induction M with
 |nil=>rfl
 |cons p l ih=>
  unfold z4l at h
  by_cases e:x=p.1
  ·simp [e] at h
  ·rw [if_neg e] at h
   simp only [z5m,if_neg e,ih h,List.cons_append]
theorem zda(f:Nat→κ)(x:κ): ∀ k,z4l (nmM f k) x=true↔ ∃ t,t<k∧f t=x
 |0=>⟨fun h=>by simp [nmM,z4l] at h,fun⟨t,c,_⟩=>by omega⟩
 |k+1=>by
  show z4l (nmM f k++_) x=true↔_
  rw [zm6,Bool.or_eq_true,zda f x k]
  constructor
  ·rintro(⟨t,c,h⟩|h)
   ·exact⟨t,by omega,h⟩
   ·split at h
    ·by_cases e:x=f k
     ·exact⟨k,by omega,e.symm⟩
     ·simp [z4l,e] at h
    ·simp [z4l] at h
  ·rintro⟨t,c,h⟩
   by_cases e: ∃ u,u<k∧f u=x
   ·exact .inl e
   ·have a:t=k:=by
     rcases Nat.lt_or_ge t k with d|d
     ·exact absurd ⟨t,d,h⟩ e
     ·omega
    subst a
    right
    rw [if_pos (ll.2 fun u g b=>e ⟨u,g,b.trans h⟩)]
    simp [z4l,h]
theorem zqm(f:Nat→κ){s:Nat}: ∀ k,s<k→z3s 0 (nmM f k) (f s)=(name f s:Int)
 |0,h=>by omega
 |k+1,h=>by
  show z3s 0 (nmM f k++_) (f s)=_
  rw [znd]
  by_cases e:z4l (nmM f k) (f s)=true
  ·rw [if_pos e]
   obtain⟨t,i,a⟩:=(zda f _ k).1 e
   rw [←a,zqm f k i,zd0.2 a]
  ·rw [if_neg e]
   have d: ∀ u,u<k→f u≠f s:=fun u j c=>e ((zda f _ k).2 ⟨u,j,c⟩)
   have l:s=k:=by
    rcases Nat.lt_or_ge s k with g|g
    ·exact absurd rfl (d s g)
    ·omega
   subst l
   have b:=ll.2 d
   rw [if_pos b,zej b]
   simp [z3s]
theorem zx5(f:Nat→κ){k:Nat}(h:z4l (nmM f k) (f k)=false):z5m (nmM f k) (f k) ((nmM f k).length:Int)=nmM f (k+1):=by
 have a:z2q f k=true:=ll.2 fun t c b=>by
  have:=(zda f (f k) k).2 ⟨t,c,b⟩
  rw [h] at this;cases this
 rw [zwg h,zqj]
 show _=nmM f k++_
 rw [if_pos a]
theorem zxz(f:Nat→κ){k:Nat}(h:z4l (nmM f k) (f k)=true):nmM f (k+1)=nmM f k:=by
 obtain⟨t,b,a⟩:=(zda f _ k).1 h
 show nmM f k++_=_
 rw [if_neg (fun c=>ll.1 c t b a),List.append_nil]
def zs3(f:Nat→κ)(n:Nat):List Int:=(List.range n).map fun s=>(name f s:Int)
theorem zoq{f:Nat→κ}{g:Nat→κ'}{n:Nat}(h: ∀ s t,s<n→t<n→(f s=f t↔g s=g t)):zs3 f n=zs3 g n:=by
 unfold zs3
 refine List.map_congr_left fun s a=>?_
 rw [z9q h (List.mem_range.1 a)]
end names
def q1f{κ:Type}[DecidableEq κ](f:Nat→κ)(n:Nat):List Nat:=(List.range n).filter fun u=>z2q f u
section q1f
variable {κ : Type} [DecidableEq κ] {f : Nat → κ}
end q1f
end GV
end Go.Proofs.Ytnnobdkjgafdmaa

namespace Go.Proofs.Ytnnobdkjgafdmaa
namespace GV
def ou(m:Mach)(s i:Nat):Int:=((m.rows.getD s default).getD i default).out
def z9b(m:Mach)(p:Nat→Nat)(s:Nat):List (Int×Int):=(List.range m.inputs.toNat).map fun i=>(ou m s i,if ed m s i= -1 then-1 else(p (ed m s i).toNat:Int))
def zko(m:Mach)(p:Nat→Nat)(s:Nat):Nat×List (Int×Int):=(p s,z9b m p s)
def pkc(m:Mach):Nat→Nat→Nat
 |0=>fun _=>0
 |k+1=>fun s=>name (zko m (pkc m k)) s
def pL(m:Mach)(k:Nat):List Int:=(List.range m.rows.length).map fun s=>(pkc m k s:Int)
section
variable {m : Mach}
theorem zlh(k:Nat):(pL m k).length=m.rows.length:=by simp [pL]
theorem zpy{k s:Nat}(h:s<m.rows.length):(pL m k).getD s default=(pkc m k s:Int):=by simp [pL,List.getD_eq_getElem?_getD,h]
theorem zyo(k:Nat):pL m (k+1)=zs3 (zko m (pkc m k)) m.rows.length:=rfl
theorem zy1{p:Nat→Nat}{s t:Nat}:z9b m p s=z9b m p t↔ ∀ i,i<m.inputs.toNat→ou m s i=ou m t i∧(if ed m s i= -1 then-1 else(p (ed m s i).toNat:Int))=(if ed m t i= -1 then-1 else(p (ed m t i).toNat:Int)):=by
 unfold z9b
 rw [List.map_inj_left]
 constructor
 ·intro h i hi
  have:=h i (List.mem_range.2 hi)
  exact⟨congrArg Prod.fst this,congrArg Prod.snd this⟩
 ·intro h i hi
  obtain⟨a,b⟩:=h i (List.mem_range.1 hi)
  exact Prod.ext a b
theorem zyq(a:MOk m){s i:Nat}(b:s<m.rows.length)(hi:i<m.inputs.toNat):(ed m s i= -1↔ou m s i= -1)∧ -1≤ou m s i∧ou m s i<16:=by
 have c:=a.row s b
 have d:=a.o2
 rcases a.edge s i b (by omega) with h|h
 ·exact⟨⟨fun _=>h.2,fun _=>h.1⟩,by show-1≤((m.rows.getD s default).getD i default).out;omega,by show ((m.rows.getD s default).getD i default).out<16;omega⟩
 ·refine⟨⟨fun e=>?_,fun e=>?_⟩,?_,?_⟩
  ·have:((m.rows.getD s default).getD i default).to= -1:=e
   omega
  ·have:((m.rows.getD s default).getD i default).out= -1:=e
   omega
  ·show-1≤((m.rows.getD s default).getD i default).out;omega
  ·show ((m.rows.getD s default).getD i default).out<16;omega
theorem zn7{k s t:Nat}:pkc m (k+1) s=pkc m (k+1) t↔pkc m k s=pkc m k t∧z9b m (pkc m k) s=z9b m (pkc m k) t:=by
 show name _ s=name _ t↔_
 rw [zd0]
 unfold zko
 rw [Prod.mk.injEq]
theorem ztw(b:MOk m){k s t:Nat}(g:s<m.rows.length)(j:t<m.rows.length):pkc m (k+1) s=pkc m (k+1) t↔pkc m k s=pkc m k t∧ ∀ i,i<m.inputs.toNat→ou m s i=ou m t i∧(ed m s i≠ -1→ed m t i≠ -1→pkc m k (ed m s i).toNat=pkc m k (ed m t i).toNat):=by
 rw [zn7,zy1]
 refine and_congr_right fun _=>forall_congr' fun i=>forall_congr' fun hi=>?_
 refine and_congr_right fun c=>?_
 have d:=(zyq b g hi).1
 have f:=(zyq b j hi).1
 by_cases e:ed m s i= -1
 ·have a:ed m t i= -1:=f.2 (by rw [←c];exact d.1 e)
  rw [if_pos e,if_pos a]
  exact⟨fun _ h=>absurd e h,fun _=>rfl⟩
 ·have a:ed m t i≠ -1:=fun a=>e (d.2 (by rw [c];exact f.1 a))
  rw [if_neg e,if_neg a]
  exact⟨fun h _ _=>Int.ofNat.inj h,fun h=>congrArg Int.ofNat (h e a)⟩
theorem zdv{k s t:Nat}(h:pkc m (k+1) s=pkc m (k+1) t):pkc m k s=pkc m k t:=(zn7.1 h).1
def zfz(m:Mach)(k:Nat):Prop:= ∀ s t,s<m.rows.length→t<m.rows.length→pkc m k s=pkc m k t→pkc m (k+1) s=pkc m (k+1) t
theorem zdx{k s:Nat}:name (pkc m k) s=pkc m k s:=by
 cases k with
 |zero=>
  show name (fun _:Nat=>(0:Nat)) s=0
  rw [show name (fun _:Nat=>(0:Nat)) s=name (fun _:Nat=>(0:Nat)) 0 from zd0.2 rfl,zjf]
 |succ k=>exact z9q (n:=s+1) (fun a b _ _=>by show name _ a=name _ b↔_;exact zd0) (Nat.lt_succ_self s)
theorem zjg{k:Nat}(h:zfz m k){s:Nat}(c:s<m.rows.length):pkc m (k+1) s=pkc m k s:=by
 rw [←zdx (k:=k+1),←zdx (k:=k)]
 exact z9q (n:=m.rows.length) (fun a b d e=>⟨zdv,h a b d e⟩) c
theorem zmk(k:Nat):pL m (k+1)=pL m k↔zfz m k:=by
 constructor
 ·intro h s t a c e
  have b: ∀ s,s<m.rows.length→pkc m (k+1) s=pkc m k s:=fun s a=>by
   have:=congrArg (fun l:List Int=>l.getD s default) h
   simp only [zpy a] at this
   omega
  rw [b s a,b t c,e]
 ·intro h
  unfold pL
  exact List.map_congr_left fun s a=>by rw [zjg h (List.mem_range.1 a)]
theorem zjz(b:MOk m){p q:Nat→Nat}(h: ∀ s,s<m.rows.length→p s=q s){s:Nat}(c:s<m.rows.length):z9b m p s=z9b m q s:=by
 unfold z9b
 refine List.map_congr_left fun i hi=>?_
 rcases zdo b c (List.mem_range.1 hi) with a|a
 ·rw [if_pos a,if_pos a]
 ·rw [h _ (by omega)]
theorem zjl(c:MOk m){k:Nat}(h:zfz m k): ∀ j,k≤j→ ∀ s,s<m.rows.length→pkc m j s=pkc m k s
 |0,i,s,d=>by rw [show k=0 by omega]
 |j+1,i,s,d=>by
  by_cases e:k=j+1
  ·rw [e]
  ·have ih:=zjl c h j (by omega)
   rw [←zjg h d]
   show name _ s=name _ s
   refine z9q (n:=m.rows.length) (fun a b f g=>?_) d
   unfold zko
   rw [ih a f,ih b g,zjz c ih f,zjz c ih g]
theorem zy3(a:MOk m){k j:Nat}(h:zfz m k)(b:k≤j):pL m j=pL m k:=by
 unfold pL
 exact List.map_congr_left fun s c=>by rw [zjl a h j b s (List.mem_range.1 c)]
theorem zmj{κ κ':Type}[DecidableEq κ][DecidableEq κ']{f:Nat→κ}{g:Nat→κ'}: ∀ {n:Nat},(∀ u,u<n→z2q f u=true→z2q g u=true)→cntF f n≤cntF g n∧(cntF f n=cntF g n→ ∀ u,u<n→z2q f u=z2q g u)
 |0,_=>⟨Nat.le_refl _,fun _ u c=>by omega⟩
 |n+1,h=>by
  obtain⟨j,d⟩:=zmj (n:=n) (f:=f) (g:=g) fun u c=>h u (by omega)
  have i:=h n (by omega)
  have a:cntF f (n+1)=cntF f n+if z2q f n=true then 1 else 0:=rfl
  have b:cntF g (n+1)=cntF g n+if z2q g n=true then 1 else 0:=rfl
  cases hf:z2q f n<;>cases hg:z2q g n
  ·rw [hf] at a;rw [hg] at b
   simp only [Bool.false_eq_true,if_false] at a b
   refine⟨by omega,fun e u c=>?_⟩
   by_cases hu':u=n
   ·subst hu';rw [hf,hg]
   ·exact d (by omega) u (by omega)
  ·rw [hf] at a;rw [hg] at b
   simp only [Bool.false_eq_true,if_false,if_true] at a b
   exact⟨by omega,fun e=>by omega⟩
  ·rw [hf,hg] at i;exact absurd (i rfl) (by decide)
  ·rw [hf] at a;rw [hg] at b
   simp only [if_true] at a b
   refine⟨by omega,fun e u c=>?_⟩
   by_cases hu':u=n
   ·subst hu';rw [hf,hg]
   ·exact d (by omega) u (by omega)
theorem zle{k:Nat}(h: ¬zfz m k):cntF (pkc m k) m.rows.length<cntF (pkc m (k+1)) m.rows.length:=by
 obtain⟨v,l⟩:=zmj (n:=m.rows.length) (f:=pkc m k) (g:=pkc m (k+1)) fun u w o=>ll.2 fun t a e=>ll.1 o t a (zdv e)
 rcases Nat.lt_or_ge (cntF (pkc m k) m.rows.length) (cntF (pkc m (k+1)) m.rows.length) with b|b
 ·exact b
 ·exfalso
  have p:=l (by omega)
  refine h fun s t x a e=>?_
  obtain⟨y,c,_⟩:=z2r (pkc m (k+1)) s
  obtain⟨z,d,_⟩:=z2r (pkc m (k+1)) t
  have i:=z8u (pkc m (k+1)) s
  have j:=z8u (pkc m (k+1)) t
  rw [←p _ (by omega)] at i j
  have q:pkc m k (z7q (pkc m (k+1)) s)=pkc m k (z7q (pkc m (k+1)) t):=by rw [zdv c,zdv d,e]
  have r:z7q (pkc m (k+1)) s=z7q (pkc m (k+1)) t:=by
   rw [←zdc i,←zdc j];exact zo2 q
  rw [←c,r,d]
theorem zgt(a:1≤m.rows.length): ∀ k,(∀ j,j<k→ ¬zfz m j)→k+1≤cntF (pkc m k) m.rows.length
 |0,_=>by
  have:=zga (pkc m 0) (show 0<m.rows.length by omega) (ll.2 fun t b=>by omega)
  omega
 |k+1,h=>by
  have c:=zgt a k fun j d=>h j (by omega)
  have e:=zle (h k (by omega))
  omega
theorem zkb{p:Nat→Prop}: ∀ n,p n→ ∃ k,k≤n∧p k∧ ∀ j,j<k→ ¬p j
 |n,h=>by
  by_cases e: ∃ j,j<n∧p j
  ·obtain⟨j,b,a⟩:=e
   obtain⟨k,f,c,d⟩:=zkb j a
   exact⟨k,by omega,c,d⟩
  ·exact⟨n,Nat.le_refl _,h,fun j b a=>e ⟨j,b,a⟩⟩
theorem zxu(c:MOk m): ∃ k,k<m.rows.length∧zfz m k∧ ∀ j,j<k→ ¬zfz m j:=by
 have d:=c.r1
 have e: ∃ k,k<m.rows.length∧zfz m k:=by
  refine Classical.byContradiction fun b=>?_
  have:=zgt d m.rows.length fun j f a=>b ⟨j,f,a⟩
  have:=zg3 (pkc m m.rows.length) m.rows.length
  omega
 obtain⟨n,b,a⟩:=e
 obtain⟨k,i,g,h⟩:=zkb n a
 exact⟨k,by omega,g,h⟩
def cls(m:Mach)(s:Nat):Nat:=pkc m m.rows.length s
def z97(m:Mach):List Int:=pL m m.rows.length
/-! ### Responses-/
theorem zir(m:Mach): ∀ w:List Int,z05 m (-1) w=List.replicate w.length (-1)
 | []=>rfl
 |c::w=>by
  show (z1h m (-1) c).out::z05 m (z1h m (-1) c).to w=_
  rw [show z1h m (-1) c=⟨-1,-1⟩ from rfl,zir m w];rfl
theorem zk7{s:Nat}(i:Nat)(w:List Int):z05 m (s:Int) ((i:Int)::w)=ou m s i::z05 m (ed m s i) w:=by
 show (z1h m (s:Int) (i:Int)).out::z05 m (z1h m (s:Int) (i:Int)).to w=_
 unfold z1h
 rw [if_neg (by omega)];rfl
theorem zjd{s:Nat}(i:Nat)(w:List Int):z1s m (s:Int) ((i:Int)::w)=z1s m (ed m s i) w:=by
 show z1s m (z1h m (s:Int) (i:Int)).to w=_
 unfold z1h
 rw [if_neg (by omega)];rfl
end
end GV
end Go.Proofs.Ytnnobdkjgafdmaa

namespace Go.Proofs.Ytnnobdkjgafdmaa
namespace GV
section
variable {m : Mach} {s0 : Nat} {P : List BE}
end
/-! ### Homomorphisms-/
def hI(h:Nat→Nat)(z:Int):Int:=if z= -1 then-1 else(h z.toNat:Int)
theorem zux(h:Nat→Nat):hI h (-1)= -1:=rfl
theorem zv9(h:Nat→Nat)(s:Nat):hI h (s:Int)=(h s:Int):=by unfold hI;rw [if_neg (by omega),Int.toNat_natCast]
structure Hom (m q:Mach) (h:Nat→Nat):Prop where
 ok:MOk m
 ok':MOk q
 inp:q.inputs=m.inputs
 rng: ∀ s,s<m.rows.length→h s<q.rows.length
 out: ∀ s i,s<m.rows.length→i<m.inputs.toNat→ou q (h s) i=ou m s i
 to: ∀ s i,s<m.rows.length→i<m.inputs.toNat→ed q (h s) i=hI h (ed m s i)
section
variable {m q : Mach} {h : Nat → Nat}
theorem Hom.run(H:Hom m q h): ∀ (w:List Int) {s:Nat},s<m.rows.length→WOk m.inputs w→z05 q (h s:Int) w=z05 m (s:Int) w∧z1s q (h s:Int) w=hI h (z1s m (s:Int) w)
 | [],s,a,_=>⟨rfl,(zv9 h s).symm⟩
 |c::w,s,a,b=>by
  have d:0≤c∧c<m.inputs:=b 0 (by simp)
  obtain⟨i,rfl⟩:=Int.eq_ofNat_of_zero_le d.1
  have hi:i<m.inputs.toNat:=by omega
  have hw':WOk m.inputs w:=fun j f=>b (j+1) (by simpa using f)
  rw [zk7,zk7,zjd,zjd,H.out s i a hi,H.to s i a hi]
  rcases zdo H.ok a hi with e|⟨g,o⟩
  ·rw [e,zux,zir,zir,zds,zds,zux];exact⟨rfl,rfl⟩
  ·obtain⟨t,k⟩:=Int.eq_ofNat_of_zero_le g
   rw [k,zv9]
   obtain⟨l,n⟩:=H.run w (s:=t) (by omega) hw'
   rw [l,n];exact⟨rfl,rfl⟩
end
/-! ### Machines with the same responses-/
def SameR(a b:Mach):Prop:=a.inputs=b.inputs∧a.outputs=b.outputs∧ ∀ w,WOk a.inputs w→z05 a 0 w=z05 b 0 w
theorem SameR.symm{a b:Mach}(h:SameR a b):SameR b a:=⟨h.1.symm,h.2.1.symm,fun w c=>(h.2.2 w (by rw [h.1];exact c)).symm⟩
theorem SameR.trans{a b c:Mach}(h:SameR a b)(k:SameR b c):SameR a c:=⟨h.1.trans k.1,h.2.1.trans k.2.1,fun w d=>(h.2.2 w d).trans (k.2.2 w (by rw [←h.1];exact d))⟩
section
variable {a b : Mach}
end
/-! ### The quotient-/
section
variable {m : Mach}
theorem zn2(s:Nat):name (cls m) s=cls m s:=zdx
theorem zvf:cls m 0=0:=by rw [←zn2,zjf]
end
end GV
end Go.Proofs.Ytnnobdkjgafdmaa

namespace Go.Proofs.Ytnnobdkjgafdmaa
namespace GV
set_option maxRecDepth 100000
/-! ### Signatures-/
def sgL(m:Mach)(p:Nat→Nat)(s:Nat):List (Int×Int):=z9b m p s++List.replicate (16-m.inputs.toNat) (0,0)
theorem z8q{m:Mach}{p:Nat→Nat}{s:Nat}:(z9b m p s).length=m.inputs.toNat:=by simp [z9b]
theorem zli{m:Mach}(a:MOk m){p:Nat→Nat}{s:Nat}:(sgL m p s).length=16:=by
 have:=a.i2
 unfold sgL
 rw [List.length_append,z8q,List.length_replicate];omega
theorem zvj{m:Mach}{p:Nat→Nat}{s i:Nat}(hi:i<m.inputs.toNat):(z9b m p s).getD i default=(ou m s i,if ed m s i= -1 then-1 else(p (ed m s i).toNat:Int)):=by
 simp [z9b,List.getD_eq_getElem?_getD,hi]
structure PR (m:Mach) (p:List Int) (f:Nat→Nat):Prop where
 len:p.length=m.rows.length
 get: ∀ s,s<m.rows.length→p.getD s default=(f s:Int)
theorem q20{m:Mach}(k:Nat):PR m (pL m k) (pkc m k):=⟨zlh k,fun s a=>zpy a⟩
theorem zil{α:Type}{X:List α}{n k:Nat}{z y:α}(a:X.length=k)(b:k<n):(X++List.replicate (n-k) z).set k y=(X++[y])++List.replicate (n-(k+1)) z:=zx6 a b
theorem zyn{N:Nat}{m:Mach}(a:MOk m)(z:200≤N){p:List Int}{f:Nat→Nat}(j:PR m p f){s:Nat}(c:s<m.rows.length): ∃ X:Arr 16 (Int×Int),z4v N m p (s:Int)=some X∧X.1=sgL m f s:=by
 have n:=a.i1;have o:=a.i2;have q:=a.r2
 have hrow:=a.row s c
 obtain⟨X,r,e⟩: ∃ X:Arr 16 (Int×Int),dh N m p (s:Int) N 0 (mr 16 (List.replicate 16 (((0:Int),(0:Int)):(Int×Int))))=some X∧X.1=sgL m f s:=by
  refine z4q (σ:=Arr 16 (Int×Int)) (fun F k X=>dh N m p (s:Int) F (k:Int) X) m.inputs.toNat (fun k X=>X.1=(z9b m f s).take k++List.replicate (16-k) (0,0)) _ (fun F k X d hi=> .inr ?_) (fun F X hi=>?_) N 0 _ (Nat.zero_le _) (by omega) (by rw [z8s (by simp)];rfl)
  ·have g:X.1.length=16:=X.2
   have i:((z9b m f s).take k).length=k:=by rw [List.length_take,z8q];omega
   have hset: ∀ y,X.1.set k y=((z9b m f s).take k++[y])++List.replicate (16-(k+1)) (0,0):=fun y=>by rw [hi];exact zil i (by omega)
   have hnext:(z9b m f s).take (k+1)=(z9b m f s).take k++[(ou m s k,if ed m s k= -1 then-1 else(f (ed m s k).toNat:Int))]:=by
    rw [zim _ k (by rw [z8q];exact d),zvj d]
   have t: ∀ Y:Arr 16 (Int×Int),Y=(if ed m s k= -1 then ah X (k:Int) (ou m s k,-1) else ah (ah X (k:Int) (ou m s k,-1)) (k:Int) (((ix (ah X (k:Int) (ou m s k,-1)).1 (k:Int)).1,(ix p (ed m s k)))))→
    dh N m p (s:Int) (F+1) (k:Int) X=dh N m p (s:Int) F ((k+1:Nat):Int) Y:=fun Y l=>by
    simp only [dh]
    rw [xu (show (k:Int)<((ix m.rows (s:Int)).length:Int) by rw [z0g];omega)]
    refine(qc (x:=Y) ?_).trans (by rw [zl (jb (by omega))];rfl)
    rw [zl (show okI (ix m.rows (s:Int)) (k:Int) from jk (show k<(m.rows.getD s default).length by omega)),zl (jk (show k<X.1.length by omega))]
    show (bif decide (ed m s k≠ -1) then _ else _)=_
    by_cases hc:ed m s k= -1
    ·rw [yo (fun h=>h hc),l,if_pos hc];rfl
    ·have b:=(zdo a c d).resolve_left hc
     have A:=j.len
     rw [xu hc,l,if_neg hc]
     refine(zl (show okI p (ed m s k) from⟨b.1,by omega⟩)).trans ?_
     refine(zl (show okI (ah X (k:Int) (ou m s k,-1)).1 (k:Int) from jk (by rw [(ah X (k:Int) (ou m s k,-1)).2];omega))).trans ?_
     rfl
   refine⟨_,?_,t _ rfl⟩
   by_cases hc:ed m s k= -1
   ·rw [if_pos hc,hnext,if_pos hc]
    exact hset _
   ·have b:=(zdo a c d).resolve_left hc
    rw [if_neg hc,hnext,if_neg hc]
    have u:(ah X (k:Int) (ou m s k,-1)).1=X.1.set k (ou m s k,-1):=rfl
    have v:(ix (ah X (k:Int) (ou m s k,-1)).1 (k:Int)).1=ou m s k:=by
     rw [u,z0g]
     simp [List.getD_eq_getElem?_getD,g,show k<16 by omega]
    have w:ix p (ed m s k)=(f (ed m s k).toNat:Int):=j.get _ (by omega)
    rw [v,w]
    show ((X.1.set k (ou m s k,-1)).set k (ou m s k,(f (ed m s k).toNat:Int)))=_
    rw [List.set_set]
    exact hset _
  ·simp only [dh]
   rw [yo (show¬((m.inputs.toNat:Nat):Int)<((ix m.rows (s:Int)).length:Int) by rw [z0g];omega)]
   refine⟨X,rfl,?_⟩
   rw [hi,List.take_of_length_le (by rw [z8q];exact Nat.le_refl _)];rfl
 refine⟨X,?_,e⟩
 unfold z4v
 rw [zl (jk c),qc r]
/-! ### A round-/
def zc8(m:Mach)(f:Nat→Nat)(s:Nat):Sd:=⟨(f s:Int),mr 16 (sgL m f s)⟩
theorem zwv{m:Mach}(a:MOk m){f:Nat→Nat}{s t:Nat}:zc8 m f s=zc8 m f t↔zko m f s=zko m f t:=by
 unfold zc8 zko
 rw [Sd.mk.injEq,Prod.mk.injEq]
 refine and_congr (by omega) ?_
 constructor
 ·intro h
  have b:=congrArg Subtype.val h
  rw [z8s (zli a),z8s (zli a)] at b
  exact(List.append_inj b (by rw [z8q,z8q])).1
 ·intro h
  unfold sgL
  rw [h]
theorem zq1{N:Nat}{m:Mach}(d:MOk m)(o:200≤N){p:List Int}{f:Nat→Nat}(i:PR m p f):z2f N m p=some (zs3 (zko m f) m.rows.length):=by
 have q:=d.r2;have r:=i.len
 have u:pu N m p N 0 ([]:List (Sd×Int)) (mk (p.length:Int) (0:Int))=some (zs3 (zc8 m f) m.rows.length):=by
  refine oh (σ:=List (Sd×Int)×List Int) (fun F k st=>pu N m p F (k:Int) st.1 st.2) m.rows.length
   (fun k st=>st.1=nmM (zc8 m f) k∧st.2=(List.range k).map (fun s=>(name (zc8 m f) s:Int))++List.replicate (m.rows.length-k) 0) _ (fun F k st j hi=> .inr ?_) (fun F st hi=>?_) N 0 ([],mk (p.length:Int) (0:Int)) (Nat.zero_le _) (by omega) ⟨rfl,by rw [r,zef];simp⟩
  ·obtain⟨M,X⟩:=st
   obtain⟨e,a⟩:=hi
   dsimp only at e a⊢
   subst e;subst a
   obtain⟨A,v,l⟩:=zyn (N:=N) d o i j
   have n:A=mr 16 (sgL m f k):=Subtype.ext (by rw [l,z8s (zli d)])
   have hkey:(⟨ix p (k:Int),A⟩:Sd)=zc8 m f k:=by unfold zc8;rw [n,z0g,i.get k j]
   have c:((List.range k).map (fun s=>(name (zc8 m f) s:Int))).length=k:=by simp
   refine⟨(nmM (zc8 m f) (k+1),(List.range (k+1)).map (fun s=>(name (zc8 m f) s:Int))++List.replicate (m.rows.length-(k+1)) 0),⟨rfl,rfl⟩,?_⟩
   simp only [pu]
   rw [xu (by omega),zl (jk (by omega)),qc v,hkey]
   refine(qc (x:=nmM (zc8 m f) (k+1)) ?_).trans ?_
   ·cases h:z4l (nmM (zc8 m f) k) (zc8 m f k)
    ·exact(ct (b:= !false) rfl).trans (by rw [zx5 _ h])
    ·exact(cf (b:= !true) rfl).trans (by rw [zxz _ h])
   ·rw [zl (jk (by rw [List.length_append,c,List.length_replicate];omega)),zl (jb (by omega)),zqm _ _ (Nat.lt_succ_self k),z9n,zil c j,zc1]
    rfl
  ·obtain⟨M,X⟩:=st
   obtain⟨e,a⟩:=hi
   dsimp only at e a⊢
   subst a
   simp only [pu]
   rw [yo (by omega),Nat.sub_self,List.replicate_zero,List.append_nil];rfl
 unfold z2f
 rw [zl ⟨by omega,by omega,by omega⟩,qc u,zoq (f:=zc8 m f) (g:=zko m f) fun s t _ _=>zwv d]
theorem zt4{N:Nat}{a b:List Int}(f:a.length<N)(g:a.length≤4611686018427387904):slices_Equal_int N a b=some (decide (a=b)):=by
 unfold slices_Equal_int
 by_cases h:(a.length:Int)≠b.length
 ·rw [xu h,decide_eq_false (fun e=>h (by rw [e]))]
 ·rw [yo h]
  have hl':a.length=b.length:=by omega
  have c:bi N a b N 0=some (if a=b then Ex.go () else Ex.rt false):=by
   refine oh (σ:=Unit) (fun F k _=>bi N a b F (k:Int)) a.length (fun k _=> ∀ j,j<k→a.getD j default=b.getD j default) _ (fun F k _ d hi=>?_) (fun F _ hi=>?_) N 0 () (Nat.zero_le _) (by omega) (fun j i=>by omega)
   ·simp only [bi]
    rw [xu (by omega),zl (jk d),zl (jk (by omega)),z0g,z0g]
    by_cases he:a.getD k default=b.getD k default
    ·right
     refine⟨(),zo5 hi he,Eq.trans (yo (fun h=>h he)) ?_⟩
     rw [zl (jb (by omega))];rfl
    ·left
     refine Eq.trans (xu he) ?_
     rw [if_neg (fun e=>he (by rw [e]))]
   ·simp only [bi]
    rw [yo (by omega),if_pos (zha hl' hi)]
  rw [qc c]
  by_cases he:a=b
  ·rw [if_pos he,decide_eq_true he];rfl
  ·rw [if_neg he,decide_eq_false he];rfl
theorem zfq{N:Nat}{m:Mach}(f:MOk m)(n:200≤N){a:Nat}(b:zfz m a)(hmin: ∀ i,i<a→ ¬zfz m i)(g:a<m.rows.length): ∀ (d j F:Nat) (l:List Int),j+d=a→d<F→
 tu N ((List Int)×Int) (fun k c=>gd (in64 (c.2+1))<|some (true,(k,c.2+1))) m F (l,(j:Int)-1) (pL m j)=some (pL m a,(a:Int))
 |d,j,0,l,_,p=>by omega
 |d,j,F+1,l,s,p=>by
  have q:=f.r2
  have r:(j:Int)-1+1=j:=by omega
  simp only [tu]
  rw [zl (jb (by omega)),zcb,r,ct rfl,qc (zq1 f n (q20 j)),←zyo,qc (zt4 (by rw [zlh];omega) (by rw [zlh];omega))]
  by_cases h:zfz m j
  ·have:j=a:=by
    rcases Nat.lt_or_ge j a with o|o
    ·exact absurd h (hmin j o)
    ·omega
   subst this
   rw [xu ((zmk j).2 h).symm]
  ·have t:d≠0:=fun e=>by
    have:j=a:=by omega
    rw [this] at h;exact h b
   rw [yo (fun e=>h ((zmk j).1 e.symm))]
   have:=zfq f n b hmin g (d-1) (j+1) F (pL m j) (by omega) (by omega)
   rw [show (((j+1:Nat):Int)-1)=(j:Int) by omega] at this
   exact this
theorem zoc{N:Nat}{m:Mach}(a:MOk m)(c:200≤N): ∃ j:Nat,z2e N m=some (z97 m,(j:Int),0):=by
 have e:=a.r1;have f:=a.r2
 obtain⟨b,g,d,h⟩:=zxu a
 refine⟨b,?_⟩
 have key:=zfq (N:=N) a c d h g b 0 N [] (by omega) (by omega)
 have i:pL m 0=mk (m.rows.length:Int) (0:Int):=by
  unfold pL
  rw [zef]
  show (List.range m.rows.length).map (fun _=>((0:Nat):Int))=_
  rw [List.map_const',List.length_range];rfl
 unfold z2e
 rw [qc (q0q a c),yo (by simp),qc (show z4m N m=some m from rfl)]
 refine(qc (x:=(pL m b,(b:Int))) ?_).trans ?_
 ·unfold z3j
  rw [zl ⟨by omega,by omega,by omega⟩,←i]
  exact key
 ·rw [show z97 m=pL m b from zy3 a d (by omega)]
/-! ### The reference-/
def apB(m:Mach)(k s t i:Nat):Bool:=decide (ou m s i≠ou m t i)||(((decide (0≤ed m s i))&&(decide (0≤ed m t i)))&&decide (pkc m k (ed m s i).toNat≠pkc m k (ed m t i).toNat))
def z5g(m:Mach)(k s:Nat):List Bool:=(List.range m.rows.length).map fun t=>decide (pkc m k s≠pkc m k t)
def z3c(m:Mach)(k:Nat):List (List Bool):=(List.range m.rows.length).map (z5g m k)
section ref
variable {N : Nat} {m : Mach}
theorem zb6(k:Nat):(z3c m k).length=m.rows.length:=by simp [z3c]
theorem z8n(k s:Nat):(z5g m k s).length=m.rows.length:=by simp [z5g]
theorem zdm{k s:Nat}(a:s<m.rows.length):(z3c m k).getD s default=z5g m k s:=by simp [z3c,List.getD_eq_getElem?_getD,a]
theorem zdk{k s t:Nat}(a:t<m.rows.length):(z5g m k s).getD t default=decide (pkc m k s≠pkc m k t):=by simp [z5g,List.getD_eq_getElem?_getD,a]
theorem apart_eq(a:MOk m)(A:200≤N){k s t:Nat}(c:s<m.rows.length)(d:t<m.rows.length):z0b N m (z3c m k) (s:Int) (t:Int)=some (if((List.range m.inputs.toNat).any (apB m k s t))=true then 1 else 0):=by
 have q:=a.i1;have r:=a.i2
 have u:=a.row s c;have v:=a.row t d
 have w:uk N m (z3c m k) (s:Int) (t:Int) N 0=some (if((List.range m.inputs.toNat).any (apB m k s t))=true then Ex.rt 1 else Ex.go ()):=by
  refine oh (σ:=Unit) (fun F i _=>uk N m (z3c m k) (s:Int) (t:Int) F (i:Int)) m.inputs.toNat (fun i _=> ∀ j,j<i→apB m k s t j=false) _ (fun F i _ hi f=>?_) (fun F _ f=>?_) N 0 () (Nat.zero_le _) (by omega) (fun j g=>by omega)
  ·have x:=zdo a c hi
   have y:=zdo a d hi
   have hbody:(uk N m (z3c m k) (s:Int) (t:Int) (F+1) (i:Int))=bif apB m k s t i then some (Ex.rt 1) else uk N m (z3c m k) (s:Int) (t:Int) F ((i+1:Nat):Int):=by
    simp only [uk]
    rw [xu (by omega),zl (jk c),zl (show okI (ix m.rows (s:Int)) (i:Int) from jk (show i<(m.rows.getD s default).length by omega)),zl (jk d),zl (show okI (ix m.rows (t:Int)) (i:Int) from jk (show i<(m.rows.getD t default).length by omega))]
    have n: ∀ {p:Prop},(0≤ed m s i→0≤ed m t i→p)→(((true&&((decide (ou m s i≠ou m t i))==false))&&(((decide (0≤ed m s i))&&(decide (0≤ed m t i)))==true))=true→p):=fun h e=>by
     simp only [Bool.and_eq_true,beq_iff_eq,decide_eq_true_eq] at e
     exact h e.2.1 e.2.2
    refine(zl (n fun l o=>?_)).trans ?_
    ·exact⟨l,by show ed m s i<_;rw [zb6];omega⟩
    refine(zl (n fun l o=>?_)).trans ?_
    ·have e:ix (z3c m k) (ed m s i)=z5g m k (ed m s i).toNat:=zdm (by omega)
     show okI (ix (z3c m k) (ed m s i)) (ed m t i)
     rw [e]
     exact⟨o,by rw [z8n];omega⟩
    show (bif (decide (ou m s i≠ou m t i))||(((decide (0≤ed m s i))&&(decide (0≤ed m t i)))&&(ix (ix (z3c m k) (ed m s i)) (ed m t i))) then _ else _)=_
    have b:((decide (ou m s i≠ou m t i))||(((decide (0≤ed m s i))&&(decide (0≤ed m t i)))&&(ix (ix (z3c m k) (ed m s i)) (ed m t i))))=apB m k s t i:=by
     unfold apB
     by_cases l:0≤ed m s i∧0≤ed m t i
     ·have e:ix (z3c m k) (ed m s i)=z5g m k (ed m s i).toNat:=zdm (by omega)
      have z:ix (z5g m k (ed m s i).toNat) (ed m t i)=decide (pkc m k (ed m s i).toNat≠pkc m k (ed m t i).toNat):=zdk (by omega)
      rw [e,z]
     ·have:((decide (0≤ed m s i))&&(decide (0≤ed m t i)))=false:=by
       rw [Bool.and_eq_false_iff,decide_eq_false_iff_not,decide_eq_false_iff_not];omega
      rw [this,Bool.false_and,Bool.false_and]
    rw [b]
    cases apB m k s t i
    ·rw [cf rfl,cf rfl,zl (jb (by omega))];rfl
    ·rw [ct rfl,ct rfl]
   rw [hbody]
   cases b:apB m k s t i
   ·right
    refine⟨(),fun j g=>?_,rfl⟩
    by_cases e:j=i
    ·rw [e];exact b
    ·exact f j (by omega)
   ·left
    rw [ct rfl,if_pos (List.any_eq_true.2 ⟨i,List.mem_range.2 hi,b⟩)]
  ·simp only [uk]
   rw [yo (by omega),if_neg]
   rw [Bool.not_eq_true,List.any_eq_false]
   intro j g
   rw [f j (List.mem_range.1 g)];decide
 unfold z0b
 rw [qc w]
 split<;>rfl
theorem zov(c:MOk m){k s t:Nat}(e:s<m.rows.length)(f:t<m.rows.length):(decide (pkc m k s≠pkc m k t)||(List.range m.inputs.toNat).any (apB m k s t))=decide (pkc m (k+1) s≠pkc m (k+1) t):=by
 rw [Bool.eq_iff_iff,Bool.or_eq_true,decide_eq_true_eq,decide_eq_true_eq,List.any_eq_true,ne_eq,ne_eq,ztw c e f]
 constructor
 ·rintro(h|⟨i,hi,h⟩) ⟨b,g⟩
  ·exact h b
  ·have hi':=List.mem_range.1 hi
   obtain⟨j,l⟩:=g i hi'
   unfold apB at h
   rw [Bool.or_eq_true,Bool.and_eq_true,Bool.and_eq_true,decide_eq_true_eq,decide_eq_true_eq,decide_eq_true_eq,decide_eq_true_eq] at h
   rcases h with h|⟨⟨n,o⟩,p⟩
   ·exact h j
   ·exact p (l (by omega) (by omega))
 ·intro h
  by_cases b:pkc m k s=pkc m k t
  ·right
   refine Classical.byContradiction fun q=>h ⟨b,fun i hi=>?_⟩
   have a:apB m k s t i≠true:=fun r=>q ⟨i,List.mem_range.2 hi,r⟩
   unfold apB at a
   rw [ne_eq,Bool.or_eq_true,Bool.and_eq_true,Bool.and_eq_true,decide_eq_true_eq,decide_eq_true_eq,decide_eq_true_eq,decide_eq_true_eq] at a
   have u:=zdo c e hi
   have v:=zdo c f hi
   refine⟨Classical.byContradiction fun d=>a (.inl d),fun n o=>Classical.byContradiction fun d=>a (.inr ⟨⟨by omega,by omega⟩,d⟩)⟩
  ·exact .inl b
theorem zvg:z3c m 0=List.replicate m.rows.length (List.replicate m.rows.length false):=by
 unfold z3c z5g
 show (List.range m.rows.length).map (fun s=>(List.range m.rows.length).map fun t=>decide ((0:Nat)≠0))=_
 rw [show decide ((0:Nat)≠0)=false from rfl,List.map_const',List.map_const',List.length_range]
theorem zpv(d:MOk m)(g:200≤N){k s:Nat}(c:s<m.rows.length){Y:List (List Bool)}(e:Y.length=s):ym N m (z3c m k) (s:Int) N 0 (Y++[mk (m.rows.length:Int) false])=some (Y++[z5g m (k+1) s]):=by
 have h:=d.r2
 refine oh (σ:=List (List Bool)) (fun F t st=>ym N m (z3c m k) (s:Int) F (t:Int) st) m.rows.length (fun t st=>st=Y++[(z5g m (k+1) s).take t++List.replicate (m.rows.length-t) false]) _ (fun F t st a hi=> .inr ?_) (fun F st hi=>?_) N 0 _ (Nat.zero_le _) (by omega) (by rw [zef];rfl)
 ·subst hi
  have b:((z5g m (k+1) s).take t).length=t:=by rw [List.length_take,z8n];omega
  have hget:(Y++[(z5g m (k+1) s).take t++List.replicate (m.rows.length-t) false]).getD s default=(z5g m (k+1) s).take t++List.replicate (m.rows.length-t) false:=by
   rw [List.getD_eq_getElem?_getD,←e,List.getElem?_concat_length];rfl
  have f:((z5g m (k+1) s).take t++List.replicate (m.rows.length-t) false).length=m.rows.length:=by rw [List.length_append,b,List.length_replicate];omega
  refine⟨_,rfl,?_⟩
  simp only [ym]
  rw [xu (by omega),zl (jk (by rw [List.length_append,e];simp)),zl (jk (by rw [zb6];exact c))]
  have i:ix (z3c m k) (s:Int)=z5g m k s:=zdm c
  have j:ix (z5g m k s) (t:Int)=decide (pkc m k s≠pkc m k t):=zdk a
  rw [i,zl (jk (by rw [z8n];exact a)),j]
  refine(zpr (fun _=>apart_eq d g c a)).trans ?_
  have l:ix (Y++[(z5g m (k+1) s).take t++List.replicate (m.rows.length-t) false]) (s:Int)=_:=hget
  rw [l,zl (jk (by rw [f];exact a)),zl (jb (by omega))]
  have hval:(decide (pkc m k s≠pkc m k t)||(decide (((bif (true&&(decide (pkc m k s≠pkc m k t)==false)) then some (if((List.range m.inputs.toNat).any (apB m k s t))=true then(1:Int) else 0) else none).getD default)=1)))=decide (pkc m (k+1) s≠pkc m (k+1) t):=by
   rw [←zov d c a]
   cases decide (pkc m k s≠pkc m k t)
   ·cases (List.range m.inputs.toNat).any (apB m k s t)<;>rfl
   ·rfl
  rw [hval,z9n,z9n,zil b a]
  have hnext:(z5g m (k+1) s).take (t+1)=(z5g m (k+1) s).take t++[decide (pkc m (k+1) s≠pkc m (k+1) t)]:=by
   rw [zim _ t (by rw [z8n];exact a),zdk a]
  rw [hnext]
  have hset: ∀ z,(Y++[(z5g m (k+1) s).take t++List.replicate (m.rows.length-t) false]).set s z=Y++[z]:=fun z=>by
   rw [List.set_append_right _ _ (by omega),e,Nat.sub_self];rfl
  rw [hset]
  rfl
 ·subst hi
  simp only [ym]
  rw [yo (by omega),Nat.sub_self,List.replicate_zero,List.append_nil,List.take_of_length_le (by rw [z8n];exact Nat.le_refl _)]
theorem zsg(a:MOk m)(c:200≤N){k:Nat}(h:k≤100):av N m (k:Int)=some (z3c m k):=by
 have d:=a.r2
 have e:yh N m N ([]:List (List Bool)) 0=some (z3c m 0):=by
  refine oh (σ:=List (List Bool)) (fun F s st=>yh N m F st (s:Int)) m.rows.length (fun s st=>st=List.replicate s (List.replicate m.rows.length false)) _ (fun F s st b hi=> .inr ?_) (fun F st hi=>?_) N 0 [] (Nat.zero_le _) (by omega) rfl
  ·subst hi
   refine⟨_,rfl,?_⟩
   simp only [yh]
   rw [xu (by omega),zl ⟨by omega,by omega,by omega⟩,zl ⟨by simp;omega,by simp;omega⟩,zl (jb (by omega)),zef,List.replicate_succ'];rfl
  ·subst hi
   simp only [yh]
   rw [yo (by omega),zvg]
 have f:yg N m (k:Int) N (z3c m 0) 0=some (z3c m k):=by
  refine oh (σ:=List (List Bool)) (fun F j st=>yg N m (k:Int) F st (j:Int)) k (fun j st=>st=z3c m j) _ (fun F j st i hi=> .inr ?_) (fun F st hi=>?_) N 0 _ (Nat.zero_le _) (by omega) rfl
  ·subst hi
   refine⟨_,rfl,?_⟩
   have g:vv N m (z3c m j) N ([]:List (List Bool)) 0=some (z3c m (j+1)):=by
    refine oh (σ:=List (List Bool)) (fun F s st=>vv N m (z3c m j) F st (s:Int)) m.rows.length (fun s st=>st=(List.range s).map (z5g m (j+1))) _ (fun F s st b hi=> .inr ?_) (fun F st hi=>?_) N 0 [] (Nat.zero_le _) (by omega) rfl
    ·subst hi
     refine⟨_,rfl,?_⟩
     simp only [vv]
     rw [xu (by omega)]
     refine(qc (x:=(List.range s).map (z5g m (j+1))++[z5g m (j+1) s]) ?_).trans ?_
     ·rw [zl ⟨by omega,by omega,by omega⟩,zl ⟨by simp;omega,by simp;omega⟩]
      exact zpv a c b (by simp)
     ·rw [zl (jb (by omega)),zc1];rfl
    ·subst hi
     simp only [vv]
     rw [yo (by omega)];rfl
   simp only [yg]
   rw [xu (by omega),qc g,zl (jb (by omega))];rfl
  ·subst hi
   simp only [yg]
   rw [yo (by omega)]
 unfold av
 rw [qc e,qc f]
theorem zkj(r:MOk m)(I:200≤N)(k:Nat):ma N (z3c m k)=some (pL m k):=by
 have w:=r.r2
 have hname: ∀ s,name (pkc m k) s=pkc m k s:=fun s=>zdx
 have o: ∀ s,s<m.rows.length→ ∃ v,kz N (z3c m k) ((List.range s).map fun u=>(pkc m k u:Int)) (s:Int) N (-1) 0=some v∧((v= -1∧z2q (pkc m k) s=true)∨(v=(pkc m k s:Int)∧z2q (pkc m k) s=false)):=fun s i=>by
  refine z4q (σ:=Int) (fun F t v=>kz N (z3c m k) ((List.range s).map fun u=>(pkc m k u:Int)) (s:Int) F v (t:Int)) s (fun t v=>(v= -1∧ ∀ u,u<t→pkc m k u≠pkc m k s)∨(v=(pkc m k s:Int)∧ ∃ u,u<t∧pkc m k u=pkc m k s)) _ (fun F t v z hi=> .inr ?_) (fun F v hi=>?_) N 0 (-1) (Nat.zero_le _) (by omega) (.inl ⟨rfl,fun u j=>by omega⟩)
  ·have A:ix (z3c m k) (s:Int)=z5g m k s:=zdm i
   have B:ix (z5g m k s) (t:Int)=decide (pkc m k s≠pkc m k t):=zdk (by omega)
   have C:ix ((List.range s).map fun u=>(pkc m k u:Int)) (t:Int)=(pkc m k t:Int):=by rw [z0g];simp [List.getD_eq_getElem?_getD,z]
   have D: ∀ y,y=(if pkc m k s=pkc m k t then(pkc m k t:Int) else v)→kz N (z3c m k) ((List.range s).map fun u=>(pkc m k u:Int)) (s:Int) (F+1) v (t:Int)=kz N (z3c m k) ((List.range s).map fun u=>(pkc m k u:Int)) (s:Int) F y ((t+1:Nat):Int):=fun y q=>by
    simp only [kz]
    rw [xu (by omega)]
    refine(qc (x:=y) ?_).trans (by rw [zl (jb (by omega))];rfl)
    rw [zl (jk (by rw [zb6];exact i)),A,zl (jk (by rw [z8n];omega)),B]
    by_cases a:pkc m k s=pkc m k t
    ·rw [decide_eq_false (fun h=>h a)]
     refine(ct (b:= !false) rfl).trans ?_
     rw [zl (jk (by simp;omega)),C,q,if_pos a]
    ·rw [decide_eq_true a]
     refine(cf (b:= !true) rfl).trans ?_
     rw [q,if_neg a]
   refine⟨_,?_,D _ rfl⟩
   by_cases a:pkc m k s=pkc m k t
   ·rw [if_pos a];exact .inr ⟨by rw [a],t,by omega,a.symm⟩
   ·rw [if_neg a]
    rcases hi with⟨d,f⟩|⟨d,u,j,f⟩
    ·refine .inl ⟨d,fun u j=>?_⟩
     by_cases e:u=t
     ·subst e;exact fun h=>a h.symm
     ·exact f u (by omega)
    ·exact .inr ⟨d,u,by omega,f⟩
  ·simp only [kz]
   rw [yo (by omega)]
   refine⟨v,rfl,?_⟩
   rcases hi with⟨d,f⟩|⟨d,u,j,f⟩
   ·exact .inl ⟨d,ll.2 f⟩
   ·refine .inr ⟨d,?_⟩
    rw [←Bool.not_eq_true,ll]
    exact fun h=>h u j f
 have E:um N (z3c m k) N ([]:List Int) 0 0=some (pL m k):=by
  refine oh (σ:=List Int×Int) (fun F s st=>um N (z3c m k) F st.1 st.2 (s:Int)) m.rows.length (fun s st=>st.1=((List.range s).map fun u=>(pkc m k u:Int))∧st.2=(cntF (pkc m k) s:Int)) _ (fun F s st i hi=> .inr ?_) (fun F st hi=>?_) N 0 ([],0) (Nat.zero_le _) (by omega) ⟨rfl,rfl⟩
  ·obtain⟨l,c⟩:=st
   obtain⟨g,a⟩:=hi
   dsimp only at g a⊢
   subst g;subst a
   obtain⟨v,G,p⟩:=o s i
   have H:=zg3 (pkc m k) s
   have hstep:cntF (pkc m k) (s+1)=cntF (pkc m k) s+if z2q (pkc m k) s=true then 1 else 0:=rfl
   refine⟨((List.range (s+1)).map fun u=>(pkc m k u:Int),(cntF (pkc m k) (s+1):Int)),⟨rfl,rfl⟩,?_⟩
   simp only [um]
   rw [xu (by rw [zb6];omega),qc G]
   refine(qc (x:=((cntF (pkc m k) (s+1):Int),(pkc m k s:Int))) ?_).trans ?_
   ·rcases p with⟨rfl,n⟩|⟨rfl,n⟩
    ·rw [n,if_pos rfl] at hstep
     rw [xu (by decide),zl (jb (by omega)),hstep,←hname s,zej n];rfl
    ·rw [n,if_neg (by decide)] at hstep
     rw [yo (by omega),hstep];rfl
   ·rw [zl ⟨by simp;omega,by simp;omega⟩,zl (jb (by omega)),zc1];rfl
  ·obtain⟨l,c⟩:=st
   obtain⟨g,a⟩:=hi
   dsimp only at g a⊢
   subst g
   simp only [um]
   rw [yo (by rw [zb6];omega)];rfl
 unfold ma
 rw [qc E]
theorem zmu(a:MOk m)(c:200≤N):fo N m=some (z97 m):=by
 have d:=a.r2
 unfold fo z13
 rw [qc (show (bd (av N m (m.rows.length:Int)) fun e=>bd (ma N e) fun b=>some b)=some (z97 m) from by rw [qc (zsg a c (by omega)),qc (zkj a c _)];rfl)]
end ref
end GV
end Go.Proofs.Ytnnobdkjgafdmaa
