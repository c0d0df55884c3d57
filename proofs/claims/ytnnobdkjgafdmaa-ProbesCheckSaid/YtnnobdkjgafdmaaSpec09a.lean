
import Derived.Test.YtnnobdkjgafdmaaShMap
import Derived.Test.YtnnobdkjgafdmaaSpec06g
set_option linter.unusedVariables false
set_option linter.unusedSimpArgs false
set_option linter.unusedSectionVars false
namespace Go.Proofs.Ytnnobdkjgafdmaa
namespace GV
section names
variable {κ κ' : Type} [DecidableEq κ] [DecidableEq κ']
def z0s(f:Nat→κ)(u:Nat):Bool:=(List.range u).all fun t=>decide (f t≠f u)
theorem ae{f:Nat→κ}{u:Nat}:z0s f u=true↔ ∀ t,t<u→f t≠f u:=by
 unfold z0s
 rw [List.all_eq_true]
 exact⟨fun h t a=>of_decide_eq_true (h t (List.mem_range.2 a)),fun h t a=>decide_eq_true (h t (List.mem_range.1 a))⟩
def cntF(f:Nat→κ):Nat→Nat
 |0=>0
 |u+1=>cntF f u+if z0s f u=true then 1 else 0
theorem zbb(f:Nat→κ): ∀ u,cntF f u≤u
 |0=>Nat.le_refl _
 |u+1=>by have:=zbb f u;unfold cntF;split<;>omega
theorem cntF_step(f:Nat→κ)(u:Nat):cntF f u≤cntF f (u+1):=by show _≤cntF f u+_;omega
theorem zkw(f:Nat→κ){u v:Nat}(h:u≤v):cntF f u≤cntF f v:=by
 induction v with
 |zero=>rw [show u=0 by omega];exact Nat.le_refl _
 |succ v ih=>
  by_cases e:u=v+1
  ·rw [e];exact Nat.le_refl _
  ·exact Nat.le_trans (ih (by omega)) (cntF_step f v)
theorem z7w(f:Nat→κ){u v:Nat}(h:u<v)(a:z0s f u=true):cntF f u<cntF f v:=by
 have b:=zkw f (show u+1≤v by omega)
 have c:cntF f (u+1)=cntF f u+1:=by show cntF f u+_=_;rw [if_pos a]
 omega
theorem zwg{f:Nat→κ}{u v:Nat}(a:z0s f u=true)(b:z0s f v=true)(h:cntF f u=cntF f v):u=v:=by
 rcases Nat.lt_trichotomy u v with e|e|e
 ·have:=z7w f e a;omega
 ·exact e
 ·have:=z7w f e b;omega
theorem zl2(f:Nat→κ): ∀ {n c:Nat},c<cntF f n→ ∃ u,u<n∧z0s f u=true∧cntF f u=c
 |0,c,h=>by simp [cntF] at h
 |n+1,c,h=>by
  by_cases h1:c<cntF f n
  ·obtain⟨u,b,a⟩:=zl2 f h1
   exact⟨u,by omega,a⟩
  ·have a:c<cntF f n+if z0s f n=true then 1 else 0:=h
   by_cases h3:z0s f n=true
   ·rw [if_pos h3] at a
    exact⟨n,by omega,h3,by omega⟩
   ·rw [if_neg h3] at a;omega
def z5f(f:Nat→κ)(s:Nat):Nat:=((List.range s).find? fun t=>decide (f t=f s)).getD s
theorem z1c(f:Nat→κ)(s:Nat):z5f f s≤s∧f (z5f f s)=f s∧ ∀ t,t<z5f f s→f t≠f s:=by
 unfold z5f
 cases h:(List.range s).find? fun t=>decide (f t=f s) with
 |none=>
  rw [List.find?_eq_none] at h
  exact⟨Nat.le_refl _,rfl,fun t a=>by simpa using h t (List.mem_range.2 a)⟩
 |some u=>
  obtain⟨c,i,d,b,e⟩:=List.find?_eq_some_iff_getElem.1 h
  rw [List.getElem_range] at b
  subst b
  rw [List.length_range] at d
  refine⟨by show i≤s;omega,by simpa using c,fun t a=>?_⟩
  have:=e t a
  rw [List.getElem_range] at this
  simpa using this
theorem z5l(f:Nat→κ)(s:Nat):z0s f (z5f f s)=true:=by
 obtain⟨d,a,b⟩:=z1c f s
 exact ae.2 fun t c=>by rw [a];exact b t c
theorem zp4{f:Nat→κ}{u s:Nat}(a:z0s f u=true)(h:f u=f s)(b:u≤s):z5f f s=u:=by
 obtain⟨g,c,d⟩:=z1c f s
 rcases Nat.lt_trichotomy (z5f f s) u with e|e|e
 ·exact absurd (c.trans h.symm) (ae.1 a _ e)
 ·exact e
 ·exact absurd h (d u e)
theorem z9w{f:Nat→κ}{u:Nat}(a:z0s f u=true):z5f f u=u:=zp4 a rfl (Nat.le_refl _)
theorem zim{f:Nat→κ}{s t:Nat}(h:f s=f t):z5f f s=z5f f t:=by
 obtain⟨g,a,b⟩:=z1c f s
 obtain⟨i,c,d⟩:=z1c f t
 rcases Nat.lt_trichotomy (z5f f s) (z5f f t) with e|e|e
 ·exact absurd (a.trans h) (d _ e)
 ·exact e
 ·exact absurd (c.trans h.symm) (b _ e)
def name(f:Nat→κ)(s:Nat):Nat:=cntF f (z5f f s)
theorem zeq{f:Nat→κ}{s t:Nat}:name f s=name f t↔f s=f t:=by
 constructor
 ·intro h
  have:=zwg (z5l f s) (z5l f t) h
  rw [←(z1c f s).2.1,this,(z1c f t).2.1]
 ·intro h;unfold name;rw [zim h]
theorem zys{f:Nat→κ}{s n:Nat}(h:s<n):name f s<cntF f n:=z7w f (Nat.lt_of_le_of_lt (z1c f s).1 h) (z5l f s)
theorem z8d{f:Nat→κ}{u:Nat}(h:z0s f u=true):name f u=cntF f u:=by unfold name;rw [z9w h]
theorem zlb(f:Nat→κ):name f 0=0:=by
 unfold name
 rw [z9w (ae.2 fun t a=>by omega)];rfl
/-! Only which keys are equal counts. -/
theorem zjo{f:Nat→κ}{g:Nat→κ'}{n:Nat}(h: ∀ s t,s<n→t<n→(f s=f t↔g s=g t)){u:Nat}(b:u<n):z0s f u=z0s g u:=by
 rw [Bool.eq_iff_iff,ae,ae]
 exact⟨fun k t a e=>k t a ((h t u (by omega) b).2 e),fun k t a e=>k t a ((h t u (by omega) b).1 e)⟩
theorem zjj{f:Nat→κ}{g:Nat→κ'}{n:Nat}(h: ∀ s t,s<n→t<n→(f s=f t↔g s=g t)): ∀ {u:Nat},u≤n→cntF f u=cntF g u
 |0,_=>rfl
 |u+1,a=>by
  show cntF f u+_=cntF g u+_
  rw [zjj h (by omega),zjo h (show u<n by omega)]
theorem ztb{f:Nat→κ}{g:Nat→κ'}{n:Nat}(h: ∀ s t,s<n→t<n→(f s=f t↔g s=g t)){s:Nat}(a:s<n):z5f f s=z5f g s:=by
 obtain⟨b,c,d⟩:=z1c g s
 refine zp4 ?_ ((h _ _ (by omega) a).2 c) b
 rw [zjo h (by omega)];exact z5l g s
theorem zaj{f:Nat→κ}{g:Nat→κ'}{n:Nat}(h: ∀ s t,s<n→t<n→(f s=f t↔g s=g t)){s:Nat}(a:s<n):name f s=name g s:=by
 have:=(z1c g s).1
 unfold name
 rw [ztb h a,zjj h (by omega)]
/-! A map from keys to names,as the first k things are named. -/
def nmM(f:Nat→κ):Nat→List (κ×Int)
 |0=>[]
 |k+1=>nmM f k++if z0s f k=true then [(f k,(cntF f k:Int))] else []
theorem zre(f:Nat→κ): ∀ k,(nmM f k).length=cntF f k
 |0=>rfl
 |k+1=>by
  show (nmM f k++_).length=cntF f k+_
  rw [List.length_append,zre f k]
  split<;>rfl
theorem znk{β:Type}{M M':List (κ×β)}{x:κ}:z5m (M++M') x=(z5m M x||z5m M' x):=by
 induction M with
 |nil=>rfl
 |cons p l ih=>
  show (if x=p.1 then true else z5m (l++M') x)=((if x=p.1 then true else z5m l x)||z5m M' x)
  split
  ·rfl
  ·exact ih
theorem zo1{β:Type}{z:β}{M M':List (κ×β)}{x:κ}:z8m z (M++M') x=if z5m M x=true then z8m z M x else z8m z M' x:=by
 induction M with
 |nil=>rfl
 |cons p l ih=>
  show (if x=p.1 then p.2 else z8m z (l++M') x)=if(if x=p.1 then true else z5m l x)=true then(if x=p.1 then p.2 else z8m z l x) else z8m z M' x
  by_cases h:x=p.1
  ·simp [h]
  ·simp only [if_neg h];exact ih
theorem zw8{β:Type}{M:List (κ×β)}{x:κ}{v:β}(h:z5m M x=false):zac M x v=M++[(x,v)]:=by
 induction M with
 |nil=>rfl
 |cons p l ih=>
  unfold z5m at h
  by_cases e:x=p.1
  ·simp [e] at h
  ·rw [if_neg e] at h
   simp only [zac,if_neg e,ih h,List.cons_append]
theorem zf4(f:Nat→κ)(x:κ): ∀ k,z5m (nmM f k) x=true↔ ∃ t,t<k∧f t=x
 |0=>⟨fun h=>by simp [nmM,z5m] at h,fun⟨t,c,_⟩=>by omega⟩
 |k+1=>by
  show z5m (nmM f k++_) x=true↔_
  rw [znk,Bool.or_eq_true,zf4 f x k]
  constructor
  ·rintro(⟨t,c,h⟩|h)
   ·exact⟨t,by omega,h⟩
   ·split at h
    ·by_cases e:x=f k
     ·exact⟨k,by omega,e.symm⟩
     ·simp [z5m,e] at h
    ·simp [z5m] at h
  ·rintro⟨t,c,h⟩
   by_cases e: ∃ u,u<k∧f u=x
   ·exact .inl e
   ·have a:t=k:=by
     rcases Nat.lt_or_ge t k with d|d
     ·exact absurd ⟨t,d,h⟩ e
     ·omega
    subst a
    right
    rw [if_pos (ae.2 fun u g b=>e ⟨u,g,b.trans h⟩)]
    simp [z5m,h]
theorem zrw(f:Nat→κ){s:Nat}: ∀ k,s<k→z8m 0 (nmM f k) (f s)=(name f s:Int)
 |0,h=>by omega
 |k+1,h=>by
  show z8m 0 (nmM f k++_) (f s)=_
  rw [zo1]
  by_cases e:z5m (nmM f k) (f s)=true
  ·rw [if_pos e]
   obtain⟨t,i,a⟩:=(zf4 f _ k).1 e
   rw [←a,zrw f k i,zeq.2 a]
  ·rw [if_neg e]
   have d: ∀ u,u<k→f u≠f s:=fun u j c=>e ((zf4 f _ k).2 ⟨u,j,c⟩)
   have l:s=k:=by
    rcases Nat.lt_or_ge s k with g|g
    ·exact absurd rfl (d s g)
    ·omega
   subst l
   have b:=ae.2 d
   rw [if_pos b,z8d b]
   simp [z8m]
theorem zyz(f:Nat→κ){k:Nat}(h:z5m (nmM f k) (f k)=false):zac (nmM f k) (f k) ((nmM f k).length:Int)=nmM f (k+1):=by
 have a:z0s f k=true:=ae.2 fun t c b=>by
  have:=(zf4 f (f k) k).2 ⟨t,c,b⟩
  rw [h] at this;cases this
 rw [zw8 h,zre]
 show _=nmM f k++_
 rw [if_pos a]
theorem zxv(f:Nat→κ){k:Nat}(h:z5m (nmM f k) (f k)=true):nmM f (k+1)=nmM f k:=by
 obtain⟨t,b,a⟩:=(zf4 f _ k).1 h
 show nmM f k++_=_
 rw [if_neg (fun c=>ae.1 c t b a),List.append_nil]
def ztz(f:Nat→κ)(n:Nat):List Int:=(List.range n).map fun s=>(name f s:Int)
theorem zpu{f:Nat→κ}{g:Nat→κ'}{n:Nat}(h: ∀ s t,s<n→t<n→(f s=f t↔g s=g t)):ztz f n=ztz g n:=by
 unfold ztz
 refine List.map_congr_left fun s a=>?_
 rw [zaj h (List.mem_range.1 a)]
end names
def z5k{κ:Type}[DecidableEq κ](f:Nat→κ)(n:Nat):List Nat:=(List.range n).filter fun u=>z0s f u
section z5k
variable {κ : Type} [DecidableEq κ] {f : Nat → κ}
theorem zgl(n:Nat):z5k f (n+1)=z5k f n++if z0s f n=true then [n] else []:=by
 unfold z5k
 rw [List.range_succ,List.filter_append]
 congr 1
 by_cases h:z0s f n=true
 ·rw [if_pos h,List.filter_cons_of_pos h];rfl
 ·rw [if_neg h,List.filter_cons_of_neg h];rfl
theorem z4m: ∀ n,(z5k f n).length=cntF f n
 |0=>rfl
 |n+1=>by
  rw [zgl,List.length_append,z4m n]
  show _=cntF f n+_
  split<;>rfl
theorem zj6: ∀ {n u:Nat},u<n→z0s f u=true→(z5k f n).getD (cntF f u) 0=u
 |0,u,h,_=>by omega
 |n+1,u,h,a=>by
  rw [zgl]
  by_cases e:u=n
  ·subst e
   rw [if_pos a,List.getD_eq_getElem?_getD,←z4m u,List.getElem?_concat_length];rfl
  ·have b:=z7w f (show u<n by omega) a
   rw [List.getD_eq_getElem?_getD,List.getElem?_append_left (by rw [z4m];exact b),←List.getD_eq_getElem?_getD]
   exact zj6 (by omega) a
theorem z5a{n c:Nat}(h:c<cntF f n):(z5k f n).getD c 0<n∧z0s f ((z5k f n).getD c 0)=true∧cntF f ((z5k f n).getD c 0)=c:=by
 obtain⟨u,a,b,rfl⟩:=zl2 f h
 rw [zj6 a b]
 exact⟨a,b,rfl⟩
end z5k
end GV
end Go.Proofs.Ytnnobdkjgafdmaa

namespace Go.Proofs.Ytnnobdkjgafdmaa
namespace GV
def ou(m:Mach)(s i:Nat):Int:=((m.rows.getD s default).getD i default).out
def zb7(m:Mach)(p:Nat→Nat)(s:Nat):List (Int×Int):=(List.range m.inputs.toNat).map fun i=>(ou m s i,if ed m s i= -1 then-1 else(p (ed m s i).toNat:Int))
def zmm(m:Mach)(p:Nat→Nat)(s:Nat):Nat×List (Int×Int):=(p s,zb7 m p s)
def pkc(m:Mach):Nat→Nat→Nat
 |0=>fun _=>0
 |k+1=>fun s=>name (zmm m (pkc m k)) s
def pL(m:Mach)(k:Nat):List Int:=(List.range m.rows.length).map fun s=>(pkc m k s:Int)
section
variable {m : Mach}
theorem zlz(k:Nat):(pL m k).length=m.rows.length:=by simp [pL]
theorem zqr{k s:Nat}(h:s<m.rows.length):(pL m k).getD s default=(pkc m k s:Int):=by simp [pL,List.getD_eq_getElem?_getD,h]
theorem zy2(k:Nat):pL m (k+1)=ztz (zmm m (pkc m k)) m.rows.length:=rfl
theorem zyx{p:Nat→Nat}{s t:Nat}:zb7 m p s=zb7 m p t↔ ∀ i,i<m.inputs.toNat→ou m s i=ou m t i∧(if ed m s i= -1 then-1 else(p (ed m s i).toNat:Int))=(if ed m t i= -1 then-1 else(p (ed m t i).toNat:Int)):=by
 unfold zb7
 rw [List.map_inj_left]
 constructor
 ·intro h i hi
  have:=h i (List.mem_range.2 hi)
  exact⟨congrArg Prod.fst this,congrArg Prod.snd this⟩
 ·intro h i hi
  obtain⟨a,b⟩:=h i (List.mem_range.1 hi)
  exact Prod.ext a b
theorem zlg(a:MOk m){s i:Nat}(b:s<m.rows.length)(hi:i<m.inputs.toNat):(ed m s i= -1↔ou m s i= -1)∧ -1≤ou m s i∧ou m s i<16:=by
 have c:=a.row s b
 have d:=a.o2
 rcases a.edge s i b (by omega) with h|h
 ·exact⟨⟨fun _=>h.2,fun _=>h.1⟩,by show-1≤((m.rows.getD s default).getD i default).out;omega,by show ((m.rows.getD s default).getD i default).out<16;omega⟩
 ·refine⟨⟨fun e=>?_,fun e=>?_⟩,?_,?_⟩
  ·have:((m.rows.getD s default).getD i default).to= -1:=e
   omega
  ·have:((m.rows.getD s default).getD i default).out= -1:=e
   omega
  ·show-1≤((m.rows.getD s default).getD i default).out;omega
  ·show ((m.rows.getD s default).getD i default).out<16;omega
theorem zoc{k s t:Nat}:pkc m (k+1) s=pkc m (k+1) t↔pkc m k s=pkc m k t∧zb7 m (pkc m k) s=zb7 m (pkc m k) t:=by
 show name _ s=name _ t↔_
 rw [zeq]
 unfold zmm
 rw [Prod.mk.injEq]
theorem zhy(b:MOk m){k s t:Nat}(g:s<m.rows.length)(j:t<m.rows.length):pkc m (k+1) s=pkc m (k+1) t↔pkc m k s=pkc m k t∧ ∀ i,i<m.inputs.toNat→ou m s i=ou m t i∧(ed m s i≠ -1→ed m t i≠ -1→pkc m k (ed m s i).toNat=pkc m k (ed m t i).toNat):=by
 rw [zoc,zyx]
 refine and_congr_right fun _=>forall_congr' fun i=>forall_congr' fun hi=>?_
 refine and_congr_right fun c=>?_
 have d:=(zlg b g hi).1
 have f:=(zlg b j hi).1
 by_cases e:ed m s i= -1
 ·have a:ed m t i= -1:=f.2 (by rw [←c];exact d.1 e)
  rw [if_pos e,if_pos a]
  exact⟨fun _ h=>absurd e h,fun _=>rfl⟩
 ·have a:ed m t i≠ -1:=fun a=>e (d.2 (by rw [c];exact f.1 a))
  rw [if_neg e,if_neg a]
  exact⟨fun h _ _=>Int.ofNat.inj h,fun h=>congrArg Int.ofNat (h e a)⟩
theorem zet{k s t:Nat}(h:pkc m (k+1) s=pkc m (k+1) t):pkc m k s=pkc m k t:=(zoc.1 h).1
def zfy(m:Mach)(k:Nat):Prop:= ∀ s t,s<m.rows.length→t<m.rows.length→pkc m k s=pkc m k t→pkc m (k+1) s=pkc m (k+1) t
theorem zfu{k s:Nat}:name (pkc m k) s=pkc m k s:=by
 cases k with
 |zero=>
  show name (fun _:Nat=>(0:Nat)) s=0
  rw [show name (fun _:Nat=>(0:Nat)) s=name (fun _:Nat=>(0:Nat)) 0 from zeq.2 rfl,zlb]
 |succ k=>exact zaj (n:=s+1) (fun a b _ _=>by show name _ a=name _ b↔_;exact zeq) (Nat.lt_succ_self s)
theorem zli{k:Nat}(h:zfy m k){s:Nat}(c:s<m.rows.length):pkc m (k+1) s=pkc m k s:=by
 rw [←zfu (k:=k+1),←zfu (k:=k)]
 exact zaj (n:=m.rows.length) (fun a b d e=>⟨zet,h a b d e⟩) c
theorem zo6(k:Nat):pL m (k+1)=pL m k↔zfy m k:=by
 constructor
 ·intro h s t a c e
  have b: ∀ s,s<m.rows.length→pkc m (k+1) s=pkc m k s:=fun s a=>by
   have:=congrArg (fun l:List Int=>l.getD s default) h
   simp only [zqr a] at this
   omega
  rw [b s a,b t c,e]
 ·intro h
  unfold pL
  exact List.map_congr_left fun s a=>by rw [zli h (List.mem_range.1 a)]
theorem zkl(b:MOk m){p q:Nat→Nat}(h: ∀ s,s<m.rows.length→p s=q s){s:Nat}(c:s<m.rows.length):zb7 m p s=zb7 m q s:=by
 unfold zb7
 refine List.map_congr_left fun i hi=>?_
 rcases z6b b c (List.mem_range.1 hi) with a|a
 ·rw [if_pos a,if_pos a]
 ·rw [h _ (by omega)]
theorem z8a(c:MOk m){k:Nat}(h:zfy m k): ∀ j,k≤j→ ∀ s,s<m.rows.length→pkc m j s=pkc m k s
 |0,i,s,d=>by rw [show k=0 by omega]
 |j+1,i,s,d=>by
  by_cases e:k=j+1
  ·rw [e]
  ·have ih:=z8a c h j (by omega)
   rw [←zli h d]
   show name _ s=name _ s
   refine zaj (n:=m.rows.length) (fun a b f g=>?_) d
   unfold zmm
   rw [ih a f,ih b g,zkl c ih f,zkl c ih g]
theorem zyl(a:MOk m){k j:Nat}(h:zfy m k)(b:k≤j):pL m j=pL m k:=by
 unfold pL
 exact List.map_congr_left fun s c=>by rw [z8a a h j b s (List.mem_range.1 c)]
theorem zo7{κ κ':Type}[DecidableEq κ][DecidableEq κ']{f:Nat→κ}{g:Nat→κ'}: ∀ {n:Nat},(∀ u,u<n→z0s f u=true→z0s g u=true)→cntF f n≤cntF g n∧(cntF f n=cntF g n→ ∀ u,u<n→z0s f u=z0s g u)
 |0,_=>⟨Nat.le_refl _,fun _ u c=>by omega⟩
 |n+1,h=>by
  obtain⟨j,d⟩:=zo7 (n:=n) (f:=f) (g:=g) fun u c=>h u (by omega)
  have i:=h n (by omega)
  have a:cntF f (n+1)=cntF f n+if z0s f n=true then 1 else 0:=rfl
  have b:cntF g (n+1)=cntF g n+if z0s g n=true then 1 else 0:=rfl
  cases hf:z0s f n<;>cases hg:z0s g n
  ·rw [hf] at a;rw [hg] at b
   simp only [Bool.false_eq_true,if_false] at a b
   refine⟨by omega,fun e u c=>?_⟩
   by_cases hu':u=n
   ·subst hu';rw [hf,hg]
   ·exact d (by omega) u (by omega)
  ·rw [hf] at a;rw [hg] at b
   simp only [Bool.false_eq_true,if_false,if_true] at a b
   exact⟨by omega,fun e=>by omega⟩
  ·rw [hf,hg] at i;exact absurd (i rfl) (by decide)
  ·rw [hf] at a;rw [hg] at b
   simp only [if_true] at a b
   refine⟨by omega,fun e u c=>?_⟩
   by_cases hu':u=n
   ·subst hu';rw [hf,hg]
   ·exact d (by omega) u (by omega)
theorem zly{k:Nat}(h: ¬zfy m k):cntF (pkc m k) m.rows.length<cntF (pkc m (k+1)) m.rows.length:=by
 obtain⟨v,l⟩:=zo7 (n:=m.rows.length) (f:=pkc m k) (g:=pkc m (k+1)) fun u w o=>ae.2 fun t a e=>ae.1 o t a (zet e)
 rcases Nat.lt_or_ge (cntF (pkc m k) m.rows.length) (cntF (pkc m (k+1)) m.rows.length) with b|b
 ·exact b
 ·exfalso
  have p:=l (by omega)
  refine h fun s t x a e=>?_
  obtain⟨y,c,_⟩:=z1c (pkc m (k+1)) s
  obtain⟨z,d,_⟩:=z1c (pkc m (k+1)) t
  have i:=z5l (pkc m (k+1)) s
  have j:=z5l (pkc m (k+1)) t
  rw [←p _ (by omega)] at i j
  have q:pkc m k (z5f (pkc m (k+1)) s)=pkc m k (z5f (pkc m (k+1)) t):=by rw [zet c,zet d,e]
  have r:z5f (pkc m (k+1)) s=z5f (pkc m (k+1)) t:=by
   rw [←z9w i,←z9w j];exact zim q
  rw [←c,r,d]
theorem zi1(a:1≤m.rows.length): ∀ k,(∀ j,j<k→ ¬zfy m j)→k+1≤cntF (pkc m k) m.rows.length
 |0,_=>by
  have:=z7w (pkc m 0) (show 0<m.rows.length by omega) (ae.2 fun t b=>by omega)
  omega
 |k+1,h=>by
  have c:=zi1 a k fun j d=>h j (by omega)
  have e:=zly (h k (by omega))
  omega
theorem zla{p:Nat→Prop}: ∀ n,p n→ ∃ k,k≤n∧p k∧ ∀ j,j<k→ ¬p j
 |n,h=>by
  by_cases e: ∃ j,j<n∧p j
  ·obtain⟨j,b,a⟩:=e
   obtain⟨k,f,c,d⟩:=zla j a
   exact⟨k,by omega,c,d⟩
  ·exact⟨n,Nat.le_refl _,h,fun j b a=>e ⟨j,b,a⟩⟩
theorem zsg(c:MOk m): ∃ k,k<m.rows.length∧zfy m k∧ ∀ j,j<k→ ¬zfy m j:=by
 have d:=c.r1
 have e: ∃ k,k<m.rows.length∧zfy m k:=by
  refine Classical.byContradiction fun b=>?_
  have:=zi1 d m.rows.length fun j f a=>b ⟨j,f,a⟩
  have:=zbb (pkc m m.rows.length) m.rows.length
  omega
 obtain⟨n,b,a⟩:=e
 obtain⟨k,i,g,h⟩:=zla n a
 exact⟨k,by omega,g,h⟩
def cls(m:Mach)(s:Nat):Nat:=pkc m m.rows.length s
def z5y(m:Mach):List Int:=pL m m.rows.length
theorem zia(a:MOk m):zfy m m.rows.length:=by
 obtain⟨k,f,b,_⟩:=zsg a
 intro s t c d e
 rw [z8a a b _ (by omega) s c,z8a a b _ (by omega) t d] at*
 exact e
theorem zic(b:MOk m){s t:Nat}(c:s<m.rows.length)(d:t<m.rows.length)(h:cls m s=cls m t){i:Nat}(hi:i<m.inputs.toNat):ou m s i=ou m t i∧(ed m s i= -1↔ed m t i= -1)∧(ed m s i≠ -1→cls m (ed m s i).toNat=cls m (ed m t i).toNat):=by
 have j:=(zhy b c d).1 (zia b s t c d h)
 obtain⟨f,k⟩:=j.2 i hi
 have l:=(zlg b c hi).1
 have n:=(zlg b d hi).1
 have g:ed m s i= -1↔ed m t i= -1:=by rw [l,n,f]
 exact⟨f,g,fun a=>k a fun e=>a (g.2 e)⟩
/-! ### Responses-/
theorem zji(m:Mach): ∀ w:List Int,z9j m (-1) w=List.replicate w.length (-1)
 | []=>rfl
 |c::w=>by
  show (l7 m (-1) c).out::z9j m (l7 m (-1) c).to w=_
  rw [show l7 m (-1) c=⟨-1,-1⟩ from rfl,zji m w];rfl
theorem z5e{s:Nat}(i:Nat)(w:List Int):z9j m (s:Int) ((i:Int)::w)=ou m s i::z9j m (ed m s i) w:=by
 show (l7 m (s:Int) (i:Int)).out::z9j m (l7 m (s:Int) (i:Int)).to w=_
 unfold l7
 rw [if_neg (by omega)];rfl
theorem zkr{s:Nat}(i:Nat)(w:List Int):z3o m (s:Int) ((i:Int)::w)=z3o m (ed m s i) w:=by
 show z3o m (l7 m (s:Int) (i:Int)).to w=_
 unfold l7
 rw [if_neg (by omega)];rfl
theorem zej(a:MOk m): ∀ (k:Nat) {s t:Nat},s<m.rows.length→t<m.rows.length→(pkc m k s=pkc m k t↔ ∀ w,WOk m.inputs w→w.length≤k→z9j m (s:Int) w=z9j m (t:Int) w)
 |0,s,t,f,g=>⟨fun _ w _ d=>by
  have:w=[]:=List.length_eq_zero_iff.1 (by omega)
  subst this;rfl,fun _=>rfl⟩
 |k+1,s,t,f,g=>by
  rw [zhy a f g]
  constructor
  ·rintro⟨C,v⟩ w b d
   match w,b,d with
   | [],_,_=>rfl
   |c::w,b,d=>
    have x:0≤c∧c<m.inputs:=b 0 (by simp)
    obtain⟨i,rfl⟩:=Int.eq_ofNat_of_zero_le x.1
    have hi:i<m.inputs.toNat:=by omega
    obtain⟨q,y⟩:=v i hi
    have r:=(zlg a f hi).1
    have u:=(zlg a g hi).1
    rw [z5e,z5e,q]
    congr 1
    rcases z6b a f hi with e|e
    ·rw [e,u.2 (by rw [←q];exact r.1 e)]
    ·have l:ed m t i≠ -1:=fun n=>by have:=r.2 (by rw [q];exact u.1 n);omega
     have n:=(z6b a g hi).resolve_left l
     have:=(zej a k (s:=(ed m s i).toNat) (t:=(ed m t i).toNat) (by omega) (by omega)).1 (y (by omega) l) w (fun j o=>b (j+1) (by simpa using o)) (by simpa using d)
     rwa [Int.toNat_of_nonneg e.1,Int.toNat_of_nonneg n.1] at this
  ·intro h
   refine⟨(zej a k f g).2 fun w b d=>h w b (by omega),fun i hi=>?_⟩
   have p: ∀ w,WOk m.inputs w→WOk m.inputs ((i:Int)::w):=fun w b j o=>by
    cases j with
    |zero=>exact⟨by show 0≤(i:Int);omega,by show (i:Int)<m.inputs;omega⟩
    |succ j=>exact b j (by simpa using o)
   refine⟨?_,fun z n=>?_⟩
   ·have:=h [(i:Int)] (p [] fun j o=>by simp at o) (by simp)
    rw [z5e,z5e] at this
    exact(List.cons.inj this).1
   ·have A:=(z6b a f hi).resolve_left z
    have B:=(z6b a g hi).resolve_left n
    refine(zej a k (by omega) (by omega)).2 fun w b d=>?_
    have:=h ((i:Int)::w) (p w b) (by simpa using d)
    rw [z5e,z5e] at this
    rw [Int.toNat_of_nonneg A.1,Int.toNat_of_nonneg B.1]
    exact(List.cons.inj this).2
theorem zs8(a:MOk m){s t:Nat}(b:s<m.rows.length)(c:t<m.rows.length):cls m s=cls m t↔ ∀ w,WOk m.inputs w→z9j m (s:Int) w=z9j m (t:Int) w:=by
 constructor
 ·intro h w d
  have e:pkc m (m.rows.length+w.length) s=pkc m (m.rows.length+w.length) t:=by
   rw [z8a a (zia a) _ (by omega) s b,z8a a (zia a) _ (by omega) t c];exact h
  exact(zej a _ b c).1 e w d (by omega)
 ·intro h
  exact(zej a _ b c).2 fun w d _=>h w d
end
end GV
end Go.Proofs.Ytnnobdkjgafdmaa

namespace Go.Proofs.Ytnnobdkjgafdmaa
namespace GV
theorem zk2{α:Type}{r:α→α→Prop}(hi: ∀ a,¬r a a)(d: ∀ a b,r a b→ ¬r b a): ∀ {X Y:List α},X.Pairwise r→Y.Pairwise r→(∀ a,a∈X↔a∈Y)→X=Y
 | [],[],_,_,_=>rfl
 | [],y::Y,_,_,h=>by have:=(h y).2 (by simp);simp at this
 |x::X,[],_,_,h=>by have:=(h x).1 (by simp);simp at this
 |x::X,y::Y,i,j,h=>by
  obtain⟨f,k⟩:=List.pairwise_cons.1 i
  obtain⟨g,l⟩:=List.pairwise_cons.1 j
  have e:x=y:=by
   rcases List.mem_cons.1 ((h x).1 (by simp)) with e|m
   ·exact e
   ·rcases List.mem_cons.1 ((h y).2 (by simp)) with e|n
    ·exact e.symm
    ·exact absurd (g x m) (d _ _ (f y n))
  subst e
  rw [zk2 hi d k l fun a=>?_]
  constructor
  ·intro c
   rcases List.mem_cons.1 ((h a).1 (List.mem_cons_of_mem _ c)) with e|h'
   ·subst e;exact absurd (f _ c) (hi _)
   ·exact h'
  ·intro c
   rcases List.mem_cons.1 ((h a).2 (List.mem_cons_of_mem _ c)) with e|h'
   ·subst e;exact absurd (g _ c) (hi _)
   ·exact h'
theorem zt1{a b:List Int}(h:llt a b): ¬llt b a:=fun k=>zb0 _ (z8c h k)
def zm6(P:List BE):List (List Int):=P.map (·.wd)
section
variable {m : Mach} {s0 : Nat} {P : List BE}
theorem getD_map{α β:Type}[Inhabited α][Inhabited β]{X:List α}{f:α→β}{k:Nat}(h:k<X.length):(X.map f).getD k default=f (X.getD k default):=by
 simp [List.getD_eq_getElem?_getD,h]
theorem zhu(h:Rch m s0 P):(zm6 P).Pairwise llt:=by
 unfold zm6
 rw [List.pairwise_iff_getElem]
 intro i j hi a b
 rw [List.length_map] at hi a
 have:=h.inc i j b a
 rw [List.getElem_map,List.getElem_map]
 simpa [List.getD_eq_getElem?_getD,hi,a] using this
theorem zy5{w:List Int}:w∈zm6 P↔ ∃ j,j<P.length∧(P.getD j default).wd=w:=by
 unfold zm6;rw [List.mem_map]
 constructor
 ·rintro⟨e,b,rfl⟩
  obtain⟨j,a,rfl⟩:=List.mem_iff_getElem.1 b
  exact⟨j,a,by simp [List.getD_eq_getElem?_getD,a]⟩
 ·rintro⟨j,a,rfl⟩;exact⟨_,fo a,rfl⟩
def q0s(m:Mach)(s0:Nat)(w:List Int):Prop:=WOk m.inputs w∧z3o m s0 w≠ -1∧ ∀ v,WOk m.inputs v→z3o m s0 v=z3o m s0 w→lle w v
theorem zko(b:MOk m)(h:Rch m s0 P){w:List Int}:w∈zm6 P↔q0s m s0 w:=by
 rw [zy5]
 constructor
 ·rintro⟨j,a,rfl⟩
  refine⟨(h.wok j a).1,by rw [h.aft j a];omega,fun v c e=>h.min b a c (by rw [e,h.aft j a])⟩
 ·rintro⟨d,f,g⟩
  obtain⟨j,a,i,k⟩:=h.least b _ w rfl d f
  have l:=g _ (h.wok j a).1 (by rw [h.aft j a,i])
  refine⟨j,a,?_⟩
  rcases k with e|e
  ·exact e
  ·exact absurd e (zau l)
theorem zv1(o:MOk m){P':List BE}(h:Rch m s0 P)(h':Rch m s0 P'):P=P':=by
 have p:zm6 P=zm6 P':=zk2 zb0 (fun _ _=>zt1) (zhu h) (zhu h') fun w=>by rw [zko o h,zko o h']
 have s:P.length=P'.length:=by have:=congrArg List.length p;simpa [zm6] using this
 have d: ∀ j,j<P.length→(P.getD j default).wd=(P'.getD j default).wd:=fun j c=>by
  have:=congrArg (fun l:List (List Int)=>l.getD j default) p
  simp only [zm6] at this
  rw [getD_map (X:=P) c,getD_map (X:=P') (by omega)] at this
  exact this
 have k: ∀ j,j<P.length→(P.getD j default).st=(P'.getD j default).st:=fun j c=>by
  have e:=h.aft j c
  have n:=h'.aft j (by omega)
  rw [d j c,n] at e
  omega
 refine z3k s fun j c=>?_
 by_cases h0:j=0
 ·subst h0;rw [h.root,h'.root]
 ·obtain⟨q,i,D,hi,e,n,t,_⟩:=h.par j (by omega) c
  obtain⟨q',i',hq',hi',h1',h2',h3',_⟩:=h'.par j (by omega) (by omega)
  have r:=d j c
  rw [t,h3'] at r
  obtain⟨u,v⟩:=List.append_inj' r rfl
  have z:i=i':=by
   have:(i:Int)=(i':Int):=by simpa using v
   omega
  subst z
  have A:(P.getD q default).st=(P'.getD q' default).st:=by
   have B:=h.aft q (by omega)
   have C:=h'.aft q' (by omega)
   rw [u,C] at B
   omega
  have a:=d j c
  have b:=k j c
  rw [A] at e
  have f:(P.getD j default).par=(P'.getD j default).par:=by rw [e,h1']
  have g:(P.getD j default).inp=(P'.getD j default).inp:=by rw [n,h2']
  generalize P.getD j default=x at a b f g⊢
  generalize P'.getD j default=y at a b f g⊢
  cases x;cases y
  simp only at a b f g
  rw [a,b,f,g]
end
/-! ### Homomorphisms-/
def hI(h:Nat→Nat)(z:Int):Int:=if z= -1 then-1 else(h z.toNat:Int)
theorem zm0(h:Nat→Nat):hI h (-1)= -1:=rfl
theorem z9m(h:Nat→Nat)(s:Nat):hI h (s:Int)=(h s:Int):=by unfold hI;rw [if_neg (by omega),Int.toNat_natCast]
structure Hom (m q:Mach) (h:Nat→Nat):Prop where
 ok:MOk m
 ok':MOk q
 inp:q.inputs=m.inputs
 rng: ∀ s,s<m.rows.length→h s<q.rows.length
 out: ∀ s i,s<m.rows.length→i<m.inputs.toNat→ou q (h s) i=ou m s i
 to: ∀ s i,s<m.rows.length→i<m.inputs.toNat→ed q (h s) i=hI h (ed m s i)
section
variable {m q : Mach} {h : Nat → Nat}
theorem Hom.run(H:Hom m q h): ∀ (w:List Int) {s:Nat},s<m.rows.length→WOk m.inputs w→z9j q (h s:Int) w=z9j m (s:Int) w∧z3o q (h s:Int) w=hI h (z3o m (s:Int) w)
 | [],s,a,_=>⟨rfl,(z9m h s).symm⟩
 |c::w,s,a,b=>by
  have d:0≤c∧c<m.inputs:=b 0 (by simp)
  obtain⟨i,rfl⟩:=Int.eq_ofNat_of_zero_le d.1
  have hi:i<m.inputs.toNat:=by omega
  have hw':WOk m.inputs w:=fun j f=>b (j+1) (by simpa using f)
  rw [z5e,z5e,zkr,zkr,H.out s i a hi,H.to s i a hi]
  rcases z6b H.ok a hi with e|⟨g,o⟩
  ·rw [e,zm0,zji,zji,zfw,zfw,zm0];exact⟨rfl,rfl⟩
  ·obtain⟨t,k⟩:=Int.eq_ofNat_of_zero_le g
   rw [k,z9m]
   obtain⟨l,n⟩:=H.run w (s:=t) (by omega) hw'
   rw [l,n];exact⟨rfl,rfl⟩
def zv9(h:Nat→Nat)(e:BE):BE:=⟨h e.st,hI h e.par,e.inp,e.wd⟩
def z0a(h:Nat→Nat)(P:List BE)(j:Nat):Nat:=h (P.getD j default).st
def za6(h:Nat→Nat)(P:List BE):List BE:=(z5k (z0a h P) P.length).map fun j=>zv9 h (P.getD j default)
theorem zox{P:List BE}:(za6 h P).length=cntF (z0a h P) P.length:=by unfold za6;rw [List.length_map,z4m]
theorem zo9{P:List BE}{c:Nat}(a:c<cntF (z0a h P) P.length):(za6 h P).getD c default=zv9 h (P.getD ((z5k (z0a h P) P.length).getD c 0) default):=by
 unfold za6
 rw [List.getD_eq_getElem?_getD,List.getElem?_map]
 have:=(z4m (f:=z0a h P) P.length).symm▸a
 rw [List.getD_eq_getElem?_getD (l:=z5k _ _),List.getElem?_eq_getElem this]
 rfl
theorem zhh{P:List BE}{u:Nat}(a:u<P.length)(b:z0s (z0a h P) u=true):cntF (z0a h P) u<cntF (z0a h P) P.length∧(za6 h P).getD (cntF (z0a h P) u) default=zv9 h (P.getD u default):=by
 have c:=z7w (z0a h P) a b
 rw [zo9 c,zj6 a b]
 exact⟨c,rfl⟩
theorem zy1(H:Hom m q h){s0:Nat}(O:s0<m.rows.length){P:List BE}(a:Rch m s0 P):Rch q (h s0) (za6 h P):=by
 have hm:=H.ok
 have hlen:=zox (h:=h) (P:=P)
 have cs: ∀ c,c<(za6 h P).length→ ∃ u,u<P.length∧z0s (z0a h P) u=true∧cntF (z0a h P) u=c∧(za6 h P).getD c default=zv9 h (P.getD u default):=fun c k=>by
  rw [hlen] at k
  obtain⟨f,Q,R⟩:=z5a k
  exact⟨_,f,Q,R,zo9 k⟩
 have hmono: ∀ u v,u<P.length→v<P.length→lle (P.getD u default).wd (P.getD v default).wd→u≤v:=fun u v b n g=>by
  rcases Nat.lt_or_ge v u with f|f
  ·exact absurd (a.inc v u f b) (zau g)
  ·exact f
 have f0:z0s (z0a h P) 0=true:=ae.2 fun t K=>by omega
 have rng: ∀ c,c<(za6 h P).length→((za6 h P).getD c default).st<q.rows.length:=fun c k=>by
  obtain⟨u,b,_,_,e⟩:=cs c k
  rw [e];exact H.rng _ (a.rng u b)
 have dis: ∀ i j,i<(za6 h P).length→j<(za6 h P).length→((za6 h P).getD i default).st=((za6 h P).getD j default).st→i=j:=fun i j hi d e=>by
  obtain⟨u,b,fu,rfl,eu⟩:=cs i hi
  obtain⟨v,n,fv,rfl,ev⟩:=cs j d
  rw [eu,ev] at e
  have:z5f (z0a h P) u=z5f (z0a h P) v:=zim e
  rw [z9w fu,z9w fv] at this
  rw [this]
 refine⟨?_,?_,?_,rng,dis,fun j d=>?_,fun j S d=>?_,fun i j z d=>?_,fun c i k hi l=>?_⟩
 ·rw [hlen];have:=z7w (z0a h P) a.pos f0;omega
 ·have A:((za6 h P).map (·.st)).Nodup:=by
   rw [List.nodup_iff_pairwise_ne,List.pairwise_iff_getElem]
   intro i j hi d z e
   rw [List.length_map] at hi d
   rw [List.getElem_map,List.getElem_map] at e
   have:=dis i j hi d (by simpa [List.getD_eq_getElem?_getD,d,hi] using e)
   omega
  have hsub:((za6 h P).map (·.st))⊆List.range q.rows.length:=by
   intro x T
   obtain⟨e,U,rfl⟩:=List.mem_map.1 T
   obtain⟨j,d,rfl⟩:=List.mem_iff_getElem.1 U
   have:=rng j d
   rw [List.mem_range]
   simpa [List.getD_eq_getElem?_getD,d] using this
  have:=List.Nodup.length_le_of_subset A hsub
  simpa using this
 ·obtain⟨_,e⟩:=zhh a.pos f0
  have V:(za6 h P).getD 0 default=zv9 h (P.getD 0 default):=e
  rw [V,a.root];rfl
 ·obtain⟨u,b,_,_,e⟩:=cs j d
  rw [e]
  show z3o q (h s0) (P.getD u default).wd=((h (P.getD u default).st:Nat):Int)
  rw [(H.run _ O (a.wok u b).1).2,a.aft u b,z9m]
 ·obtain⟨u,b,fu,k,e⟩:=cs j d
  have B:0<u:=by
   rcases Nat.eq_zero_or_pos u with o|o
   ·subst o;have:cntF (z0a h P) 0=0:=rfl;omega
   ·exact o
  obtain⟨r,i,W,hi,X,Y,L,M⟩:=a.par u B b
  have fr:z0s (z0a h P) r=true:=ae.2 fun t K C=>by
   have heq':h (P.getD t default).st=h (P.getD r default).st:=C
   have D:=a.inc t r K (by omega)
   have E:=a.rng t (by omega)
   have F:=a.rng r (by omega)
   have w:hI h (ed m (P.getD t default).st i)=((h (P.getD u default).st:Nat):Int):=by
    rw [←H.to _ _ E hi,heq',H.to _ _ F hi,M,z9m]
   have l:ed m (P.getD t default).st i≠ -1:=fun o=>by rw [o,zm0] at w;omega
   obtain⟨v,n,p,g⟩:=a.cls t i (by omega) hi l
   have y:llt (P.getD v default).wd (P.getD u default).wd:=by rw [L];exact zma g (zih _ _ D)
   have G:v<u:=by
    have:=hmono v u n b (.inr y)
    rcases Nat.lt_or_ge v u with f|f
    ·exact f
    ·have:v=u:=by omega
     subst this;exact absurd y (zb0 _)
   refine ae.1 fu v G ?_
   show h (P.getD v default).st=h (P.getD u default).st
   rw [←p,z9m] at w
   omega
  obtain⟨N,s⟩:=zhh (by omega) fr
  refine⟨cntF (z0a h P) r,i,by rw [←k];exact z7w _ W fr,by rw [H.inp];exact hi,?_,?_,?_,?_⟩
  ·rw [e,s];show hI h (P.getD u default).par=_;rw [X,z9m];rfl
  ·rw [e];exact Y
  ·rw [e,s];exact L
  ·rw [e,s]
   show ed q (h (P.getD r default).st) i=((h (P.getD u default).st:Nat):Int)
   rw [H.to _ _ (a.rng r (by omega)) hi,M,z9m]
 ·obtain⟨u,b,fu,I,eu⟩:=cs i (by omega)
  obtain⟨v,n,fv,Z,ev⟩:=cs j d
  rw [eu,ev]
  refine a.inc u v ?_ n
  rcases Nat.lt_or_ge u v with f|f
  ·exact f
  ·have:=zkw (z0a h P) f;omega
 ·obtain⟨u,b,fu,I,eu⟩:=cs c k
  rw [H.inp] at hi
  rw [eu] at l⊢
  have J:=a.rng u b
  have w:ed q (h (P.getD u default).st) i=hI h (ed m (P.getD u default).st i):=H.to _ _ J hi
  have hne':ed m (P.getD u default).st i≠ -1:=fun o=>l (by show ed q (h (P.getD u default).st) i= -1;rw [w,o];rfl)
  obtain⟨v,n,p,g⟩:=a.cls u i b hi hne'
  obtain⟨r1,r2,r3⟩:=z1c (z0a h P) v
  have fr:=z5l (z0a h P) v
  obtain⟨N,s⟩:=zhh (h:=h) (u:=z5f (z0a h P) v) (by omega) fr
  refine⟨_,by rw [hlen];exact N,?_,?_⟩
  ·rw [s]
   show ((h (P.getD (z5f (z0a h P) v) default).st:Nat):Int)=ed q (h (P.getD u default).st) i
   have r2':h (P.getD (z5f (z0a h P) v) default).st=h (P.getD v default).st:=r2
   rw [w,←p,z9m,r2']
  ·rw [s]
   show lle (P.getD (z5f (z0a h P) v) default).wd ((P.getD u default).wd++[(i:Int)])
   refine zlc ?_ g
   by_cases e:z5f (z0a h P) v=v
   ·rw [e];exact .inl rfl
   ·exact .inr (a.inc _ _ (by omega) n)
theorem q0w(H:Hom m q h){s0:Nat}(a:s0<m.rows.length):rch q (h s0)=za6 h (rch m s0):=
 zv1 H.ok' (zg0 H.ok' (H.rng _ a)) (zy1 H a (zg0 H.ok a))
end
/-! ### Machines with the same responses-/
def Red(m:Mach):Prop:= ∀ s t,s<m.rows.length→t<m.rows.length→(∀ w,WOk m.inputs w→z9j m (s:Int) w=z9j m (t:Int) w)→s=t
def SameR(a b:Mach):Prop:=a.inputs=b.inputs∧a.outputs=b.outputs∧ ∀ w,WOk a.inputs w→z9j a 0 w=z9j b 0 w
theorem SameR.symm{a b:Mach}(h:SameR a b):SameR b a:=⟨h.1.symm,h.2.1.symm,fun w c=>(h.2.2 w (by rw [h.1];exact c)).symm⟩
theorem SameR.trans{a b c:Mach}(h:SameR a b)(k:SameR b c):SameR a c:=⟨h.1.trans k.1,h.2.1.trans k.2.1,fun w d=>(h.2.2 w d).trans (k.2.2 w (by rw [←h.1];exact d))⟩
section
variable {a b : Mach}
end
/-! ### The quotient-/
def z5g(m:Mach):Mach:=⟨m.inputs,m.outputs,(z5k (cls m) m.rows.length).map fun u=>(m.rows.getD u default).map fun e=>⟨hI (cls m) e.to,e.out⟩⟩
def z8x(m:Mach):Mach:=q2t (z5g m)
section
variable {m : Mach}
theorem zem:(z5g m).rows.length=cntF (cls m) m.rows.length:=by unfold z5g;rw [List.length_map,z4m]
theorem z9s(s:Nat):name (cls m) s=cls m s:=zfu
theorem ze4{s:Nat}(a:s<m.rows.length):cls m s<cntF (cls m) m.rows.length:=by rw [←z9s];exact zys a
theorem zmw{c:Nat}(a:c<cntF (cls m) m.rows.length):(z5g m).rows.getD c default=(m.rows.getD ((z5k (cls m) m.rows.length).getD c 0) default).map fun e=>⟨hI (cls m) e.to,e.out⟩:=by
 unfold z5g
 dsimp only
 have:=(z4m (f:=cls m) m.rows.length).symm▸a
 rw [List.getD_eq_getElem?_getD,List.getElem?_map,List.getD_eq_getElem?_getD (l:=z5k _ _),List.getElem?_eq_getElem this]
 rfl
theorem zmn(b:MOk m){c i:Nat}(a:c<cntF (cls m) m.rows.length)(hi:i<m.inputs.toNat):ed (z5g m) c i=hI (cls m) (ed m ((z5k (cls m) m.rows.length).getD c 0) i)∧ou (z5g m) c i=ou m ((z5k (cls m) m.rows.length).getD c 0) i:=by
 obtain⟨d,_,_⟩:=z5a a
 have e:=b.row _ d
 unfold ed ou
 rw [zmw a,getD_map (by omega)]
 exact⟨rfl,rfl⟩
theorem zm1(e:MOk m){s:Nat}(a:s<m.rows.length):(z5k (cls m) m.rows.length).getD (cls m s) 0<m.rows.length∧cls m ((z5k (cls m) m.rows.length).getD (cls m s) 0)=cls m s:=by
 obtain⟨b,c,d⟩:=z5a (ze4 a)
 refine⟨b,?_⟩
 rw [←z9s,z8d c,d]
theorem zcq(a:MOk m):MOk (z5g m):=by
 have e:=zem (m:=m)
 have k:=a.r1;have l:=a.r2;have n:=zbb (cls m) m.rows.length
 have o:=ze4 (m:=m) (s:=0) (by omega)
 refine⟨a.i1,a.i2,a.o1,a.o2,by omega,by omega,fun s b=>?_,fun s i b hi=>?_⟩
 ·rw [e] at b
  obtain⟨c,_,_⟩:=z5a b
  rw [zmw b,List.length_map]
  exact a.row _ c
 ·rw [e] at b
  obtain⟨c,_,_⟩:=z5a b
  rw [zmw b] at hi⊢
  rw [List.length_map] at hi
  rw [getD_map hi]
  have p:=a.row _ c
  rcases a.edge _ i c hi with⟨d,f⟩|⟨d,f,g,h⟩
  ·left;rw [d,f];exact⟨rfl,rfl⟩
  ·right
   obtain⟨t,j⟩:=Int.eq_ofNat_of_zero_le d
   rw [j,z9m]
   have:=ze4 (m:=m) (s:=t) (by omega)
   exact⟨by show (0:Int)≤(cls m t:Int);omega,by show ((cls m t:Nat):Int)<((z5g m).rows.length:Int);omega,g,h⟩
theorem zhl(b:MOk m):Hom m (z5g m) (cls m):=by
 refine⟨b,zcq b,rfl,fun s a=>by rw [zem];exact ze4 a,fun s i a hi=>?_,fun s i a hi=>?_⟩
 ·obtain⟨c,d⟩:=zm1 b a
  rw [(zmn b (ze4 a) hi).2]
  exact(zic b c a d hi).1
 ·obtain⟨c,d⟩:=zm1 b a
  obtain⟨j,f,h⟩:=zic b c a d hi
  rw [(zmn b (ze4 a) hi).1]
  unfold hI
  by_cases e:ed m s i= -1
  ·rw [if_pos e,if_pos (f.2 e)]
  ·have g:ed m ((z5k (cls m) m.rows.length).getD (cls m s) 0) i≠ -1:=fun k=>e (f.1 k)
   rw [if_neg e,if_neg g,h g]
theorem zxp(a:MOk m):Red (z5g m):=by
 intro c d g i h
 rw [zem] at g i
 obtain⟨b,j,k⟩:=z5a g
 obtain⟨e,l,n⟩:=z5a i
 generalize (z5k (cls m) m.rows.length).getD c 0=u at b j k
 generalize (z5k (cls m) m.rows.length).getD d 0=v at e l n
 have eu:cls m u=c:=by rw [←z9s,z8d j,k]
 have ev:cls m v=d:=by rw [←z9s,z8d l,n]
 rw [←eu,←ev]
 refine(zs8 a b e).2 fun w f=>?_
 rw [←((zhl a).run w b f).1,←((zhl a).run w e f).1,eu,ev]
 exact h w f
theorem znn:cls m 0=0:=by rw [←z9s,zlb]
theorem zr0(a:MOk m):MOk (z8x m):=zy3 (zcq a)
end
end GV
end Go.Proofs.Ytnnobdkjgafdmaa

namespace Go.Proofs.Ytnnobdkjgafdmaa
namespace GV
set_option maxRecDepth 100000
/-! ### Signatures-/
def sgL(m:Mach)(p:Nat→Nat)(s:Nat):List (Int×Int):=zb7 m p s++List.replicate (16-m.inputs.toNat) (0,0)
theorem zaa{m:Mach}{p:Nat→Nat}{s:Nat}:(zb7 m p s).length=m.inputs.toNat:=by simp [zb7]
theorem zm4{m:Mach}(a:MOk m){p:Nat→Nat}{s:Nat}:(sgL m p s).length=16:=by
 have:=a.i2
 unfold sgL
 rw [List.length_append,zaa,List.length_replicate];omega
theorem zx4{m:Mach}{p:Nat→Nat}{s i:Nat}(hi:i<m.inputs.toNat):(zb7 m p s).getD i default=(ou m s i,if ed m s i= -1 then-1 else(p (ed m s i).toNat:Int)):=by
 simp [zb7,List.getD_eq_getElem?_getD,hi]
structure PR (m:Mach) (p:List Int) (f:Nat→Nat):Prop where
 len:p.length=m.rows.length
 get: ∀ s,s<m.rows.length→p.getD s default=(f s:Int)
theorem q36{m:Mach}(k:Nat):PR m (pL m k) (pkc m k):=⟨zlz k,fun s a=>zqr a⟩
theorem zjc{α:Type}{X:List α}{n k:Nat}{z y:α}(a:X.length=k)(b:k<n):(X++List.replicate (n-k) z).set k y=(X++[y])++List.replicate (n-(k+1)) z:=zxr a b
theorem zxz{N:Nat}{m:Mach}(a:MOk m)(z:200≤N){p:List Int}{f:Nat→Nat}(j:PR m p f){s:Nat}(c:s<m.rows.length): ∃ X:Arr 16 (Int×Int),z5h N m p (s:Int)=some X∧X.1=sgL m f s:=by
 have n:=a.i1;have o:=a.i2;have q:=a.r2
 have hrow:=a.row s c
 obtain⟨X,r,e⟩: ∃ X:Arr 16 (Int×Int),dw N m p (s:Int) N 0 (ah 16 (List.replicate 16 (((0:Int),(0:Int)):(Int×Int))))=some X∧X.1=sgL m f s:=by
  refine z1z (σ:=Arr 16 (Int×Int)) (fun F k X=>dw N m p (s:Int) F (k:Int) X) m.inputs.toNat (fun k X=>X.1=(zb7 m f s).take k++List.replicate (16-k) (0,0)) _ (fun F k X d hi=> .inr ?_) (fun F X hi=>?_) N 0 _ (Nat.zero_le _) (by omega) (by rw [zd3 (by simp)];rfl)
  ·have g:X.1.length=16:=X.2
   have i:((zb7 m f s).take k).length=k:=by rw [List.length_take,zaa];omega
   have hset: ∀ y,X.1.set k y=((zb7 m f s).take k++[y])++List.replicate (16-(k+1)) (0,0):=fun y=>by rw [hi];exact zjc i (by omega)
   have hnext:(zb7 m f s).take (k+1)=(zb7 m f s).take k++[(ou m s k,if ed m s k= -1 then-1 else(f (ed m s k).toNat:Int))]:=by
    rw [ze5 _ k (by rw [zaa];exact d),zx4 d]
   have t: ∀ Y:Arr 16 (Int×Int),Y=(if ed m s k= -1 then l8 X (k:Int) (ou m s k,-1) else l8 (l8 X (k:Int) (ou m s k,-1)) (k:Int) (((ix (l8 X (k:Int) (ou m s k,-1)).1 (k:Int)).1,(ix p (ed m s k)))))→
    dw N m p (s:Int) (F+1) (k:Int) X=dw N m p (s:Int) F ((k+1:Nat):Int) Y:=fun Y l=>by
    simp only [dw]
    rw [pq (show (k:Int)<((ix m.rows (s:Int)).length:Int) by rw [af];omega)]
    refine(qz (x:=Y) ?_).trans (by rw [zy (jl (by omega))];rfl)
    rw [zy (show okI (ix m.rows (s:Int)) (k:Int) from jk (show k<(m.rows.getD s default).length by omega)),zy (jk (show k<X.1.length by omega))]
    show (bif decide (ed m s k≠ -1) then _ else _)=_
    by_cases hc:ed m s k= -1
    ·rw [bn (fun h=>h hc),l,if_pos hc];rfl
    ·have b:=(z6b a c d).resolve_left hc
     have A:=j.len
     rw [pq hc,l,if_neg hc]
     refine(zy (show okI p (ed m s k) from⟨b.1,by omega⟩)).trans ?_
     refine(zy (show okI (l8 X (k:Int) (ou m s k,-1)).1 (k:Int) from jk (by rw [(l8 X (k:Int) (ou m s k,-1)).2];omega))).trans ?_
     rfl
   refine⟨_,?_,t _ rfl⟩
   by_cases hc:ed m s k= -1
   ·rw [if_pos hc,hnext,if_pos hc]
    exact hset _
   ·have b:=(z6b a c d).resolve_left hc
    rw [if_neg hc,hnext,if_neg hc]
    have u:(l8 X (k:Int) (ou m s k,-1)).1=X.1.set k (ou m s k,-1):=rfl
    have v:(ix (l8 X (k:Int) (ou m s k,-1)).1 (k:Int)).1=ou m s k:=by
     rw [u,af]
     simp [List.getD_eq_getElem?_getD,g,show k<16 by omega]
    have w:ix p (ed m s k)=(f (ed m s k).toNat:Int):=j.get _ (by omega)
    rw [v,w]
    show ((X.1.set k (ou m s k,-1)).set k (ou m s k,(f (ed m s k).toNat:Int)))=_
    rw [List.set_set]
    exact hset _
  ·simp only [dw]
   rw [bn (show¬((m.inputs.toNat:Nat):Int)<((ix m.rows (s:Int)).length:Int) by rw [af];omega)]
   refine⟨X,rfl,?_⟩
   rw [hi,List.take_of_length_le (by rw [zaa];exact Nat.le_refl _)];rfl
 refine⟨X,?_,e⟩
 unfold z5h
 rw [zy (jk c),qz r]
/-! ### A round-/
def zdy(m:Mach)(f:Nat→Nat)(s:Nat):Sc:=⟨(f s:Int),ah 16 (sgL m f s)⟩
theorem zxg{m:Mach}(a:MOk m){f:Nat→Nat}{s t:Nat}:zdy m f s=zdy m f t↔zmm m f s=zmm m f t:=by
 unfold zdy zmm
 rw [Sc.mk.injEq,Prod.mk.injEq]
 refine and_congr (by omega) ?_
 constructor
 ·intro h
  have b:=congrArg Subtype.val h
  rw [zd3 (zm4 a),zd3 (zm4 a)] at b
  exact(List.append_inj b (by rw [zaa,zaa])).1
 ·intro h
  unfold sgL
  rw [h]
theorem zq0{N:Nat}{m:Mach}(d:MOk m)(o:200≤N){p:List Int}{f:Nat→Nat}(i:PR m p f):z2o N m p=some (ztz (zmm m f) m.rows.length):=by
 have q:=d.r2;have r:=i.len
 have u:df N m p N 0 ([]:List (Sc×Int)) (mk (p.length:Int) (0:Int))=some (ztz (zdy m f) m.rows.length):=by
  refine mr (σ:=List (Sc×Int)×List Int) (fun F k st=>df N m p F (k:Int) st.1 st.2) m.rows.length
   (fun k st=>st.1=nmM (zdy m f) k∧st.2=(List.range k).map (fun s=>(name (zdy m f) s:Int))++List.replicate (m.rows.length-k) 0) _ (fun F k st j hi=> .inr ?_) (fun F st hi=>?_) N 0 ([],mk (p.length:Int) (0:Int)) (Nat.zero_le _) (by omega) ⟨rfl,by rw [r,zco];simp⟩
  ·obtain⟨M,X⟩:=st
   obtain⟨e,a⟩:=hi
   dsimp only at e a⊢
   subst e;subst a
   obtain⟨A,v,l⟩:=zxz (N:=N) d o i j
   have n:A=ah 16 (sgL m f k):=Subtype.ext (by rw [l,zd3 (zm4 d)])
   have hkey:(⟨ix p (k:Int),A⟩:Sc)=zdy m f k:=by unfold zdy;rw [n,af,i.get k j]
   have c:((List.range k).map (fun s=>(name (zdy m f) s:Int))).length=k:=by simp
   refine⟨(nmM (zdy m f) (k+1),(List.range (k+1)).map (fun s=>(name (zdy m f) s:Int))++List.replicate (m.rows.length-(k+1)) 0),⟨rfl,rfl⟩,?_⟩
   simp only [df]
   rw [pq (by omega),zy (jk (by omega)),qz v,hkey]
   refine(qz (x:=nmM (zdy m f) (k+1)) ?_).trans ?_
   ·cases h:z5m (nmM (zdy m f) k) (zdy m f k)
    ·exact(ct (b:= !false) rfl).trans (by rw [zyz _ h])
    ·exact(cf (b:= !true) rfl).trans (by rw [zxv _ h])
   ·rw [zy (jk (by rw [List.length_append,c,List.length_replicate];omega)),zy (jl (by omega)),zrw _ _ (Nat.lt_succ_self k),zdo,zjc c j,z6q]
    rfl
  ·obtain⟨M,X⟩:=st
   obtain⟨e,a⟩:=hi
   dsimp only at e a⊢
   subst a
   simp only [df]
   rw [bn (by omega),Nat.sub_self,List.replicate_zero,List.append_nil];rfl
 unfold z2o
 rw [zy ⟨by omega,by omega,by omega⟩,qz u,zpu (f:=zdy m f) (g:=zmm m f) fun s t _ _=>zxg d]
theorem ztm{N:Nat}{a b:List Int}(f:a.length<N)(g:a.length≤4611686018427387904):slices_Equal_int N a b=some (decide (a=b)):=by
 unfold slices_Equal_int
 by_cases h:(a.length:Int)≠b.length
 ·rw [pq h,decide_eq_false (fun e=>h (by rw [e]))]
 ·rw [bn h]
  have hl':a.length=b.length:=by omega
  have c:bv N a b N 0=some (if a=b then Ex.go () else Ex.rt false):=by
   refine mr (σ:=Unit) (fun F k _=>bv N a b F (k:Int)) a.length (fun k _=> ∀ j,j<k→a.getD j default=b.getD j default) _ (fun F k _ d hi=>?_) (fun F _ hi=>?_) N 0 () (Nat.zero_le _) (by omega) (fun j i=>by omega)
   ·simp only [bv]
    rw [pq (by omega),zy (jk d),zy (jk (by omega)),af,af]
    by_cases he:a.getD k default=b.getD k default
    ·right
     refine⟨(),zw2 hi he,Eq.trans (bn (fun h=>h he)) ?_⟩
     rw [zy (jl (by omega))];rfl
    ·left
     refine Eq.trans (pq he) ?_
     rw [if_neg (fun e=>he (by rw [e]))]
   ·simp only [bv]
    rw [bn (by omega),if_pos (z3k hl' hi)]
  rw [qz c]
  by_cases he:a=b
  ·rw [if_pos he,decide_eq_true he];rfl
  ·rw [if_neg he,decide_eq_false he];rfl
theorem zgr{N:Nat}{m:Mach}(f:MOk m)(n:200≤N){a:Nat}(b:zfy m a)(hmin: ∀ i,i<a→ ¬zfy m i)(g:a<m.rows.length): ∀ (d j F:Nat) (l:List Int),j+d=a→d<F→
 oh N ((List Int)×Int) (fun k c=>gd (in64 (c.2+1))<|some (true,(k,c.2+1))) m F (l,(j:Int)-1) (pL m j)=some (pL m a,(a:Int))
 |d,j,0,l,_,p=>by omega
 |d,j,F+1,l,s,p=>by
  have q:=f.r2
  have r:(j:Int)-1+1=j:=by omega
  simp only [oh]
  rw [zy (jl (by omega)),zki,r,ct rfl,qz (zq0 f n (q36 j)),←zy2,qz (ztm (by rw [zlz];omega) (by rw [zlz];omega))]
  by_cases h:zfy m j
  ·have:j=a:=by
    rcases Nat.lt_or_ge j a with o|o
    ·exact absurd h (hmin j o)
    ·omega
   subst this
   rw [pq ((zo6 j).2 h).symm]
  ·have t:d≠0:=fun e=>by
    have:j=a:=by omega
    rw [this] at h;exact h b
   rw [bn (fun e=>h ((zo6 j).1 e.symm))]
   have:=zgr f n b hmin g (d-1) (j+1) F (pL m j) (by omega) (by omega)
   rw [show (((j+1:Nat):Int)-1)=(j:Int) by omega] at this
   exact this
theorem zpp{N:Nat}{m:Mach}(a:MOk m)(c:200≤N): ∃ j:Nat,z2q N m=some (z5y m,(j:Int),0):=by
 have e:=a.r1;have f:=a.r2
 obtain⟨b,g,d,h⟩:=zsg a
 refine⟨b,?_⟩
 have key:=zgr (N:=N) a c d h g b 0 N [] (by omega) (by omega)
 have i:pL m 0=mk (m.rows.length:Int) (0:Int):=by
  unfold pL
  rw [zco]
  show (List.range m.rows.length).map (fun _=>((0:Nat):Int))=_
  rw [List.map_const',List.length_range];rfl
 unfold z2q
 rw [qz (q0m a c),bn (by simp),qz (show z5s N m=some m from rfl)]
 refine(qz (x:=(pL m b,(b:Int))) ?_).trans ?_
 ·unfold z4a
  rw [zy ⟨by omega,by omega,by omega⟩,←i]
  exact key
 ·rw [show z5y m=pL m b from zyl a d (by omega)]
/-! ### The reference-/
def apB(m:Mach)(k s t i:Nat):Bool:=decide (ou m s i≠ou m t i)||(((decide (0≤ed m s i))&&(decide (0≤ed m t i)))&&decide (pkc m k (ed m s i).toNat≠pkc m k (ed m t i).toNat))
def z6o(m:Mach)(k s:Nat):List Bool:=(List.range m.rows.length).map fun t=>decide (pkc m k s≠pkc m k t)
def z3j(m:Mach)(k:Nat):List (List Bool):=(List.range m.rows.length).map (z6o m k)
section ref
variable {N : Nat} {m : Mach}
theorem zcg(k:Nat):(z3j m k).length=m.rows.length:=by simp [z3j]
theorem z9q(k s:Nat):(z6o m k s).length=m.rows.length:=by simp [z6o]
theorem zfp{k s:Nat}(a:s<m.rows.length):(z3j m k).getD s default=z6o m k s:=by simp [z3j,List.getD_eq_getElem?_getD,a]
theorem zfe{k s t:Nat}(a:t<m.rows.length):(z6o m k s).getD t default=decide (pkc m k s≠pkc m k t):=by simp [z6o,List.getD_eq_getElem?_getD,a]
theorem apart_eq(a:MOk m)(A:200≤N){k s t:Nat}(c:s<m.rows.length)(d:t<m.rows.length):z05 N m (z3j m k) (s:Int) (t:Int)=some (if((List.range m.inputs.toNat).any (apB m k s t))=true then 1 else 0):=by
 have q:=a.i1;have r:=a.i2
 have u:=a.row s c;have v:=a.row t d
 have w:uq N m (z3j m k) (s:Int) (t:Int) N 0=some (if((List.range m.inputs.toNat).any (apB m k s t))=true then Ex.rt 1 else Ex.go ()):=by
  refine mr (σ:=Unit) (fun F i _=>uq N m (z3j m k) (s:Int) (t:Int) F (i:Int)) m.inputs.toNat (fun i _=> ∀ j,j<i→apB m k s t j=false) _ (fun F i _ hi f=>?_) (fun F _ f=>?_) N 0 () (Nat.zero_le _) (by omega) (fun j g=>by omega)
  ·have x:=z6b a c hi
   have y:=z6b a d hi
   have hbody:(uq N m (z3j m k) (s:Int) (t:Int) (F+1) (i:Int))=bif apB m k s t i then some (Ex.rt 1) else uq N m (z3j m k) (s:Int) (t:Int) F ((i+1:Nat):Int):=by
    simp only [uq]
    rw [pq (by omega),zy (jk c),zy (show okI (ix m.rows (s:Int)) (i:Int) from jk (show i<(m.rows.getD s default).length by omega)),zy (jk d),zy (show okI (ix m.rows (t:Int)) (i:Int) from jk (show i<(m.rows.getD t default).length by omega))]
    have n: ∀ {p:Prop},(0≤ed m s i→0≤ed m t i→p)→(((true&&((decide (ou m s i≠ou m t i))==false))&&(((decide (0≤ed m s i))&&(decide (0≤ed m t i)))==true))=true→p):=fun h e=>by
     simp only [Bool.and_eq_true,beq_iff_eq,decide_eq_true_eq] at e
     exact h e.2.1 e.2.2
    refine(zy (n fun l o=>?_)).trans ?_
    ·exact⟨l,by show ed m s i<_;rw [zcg];omega⟩
    refine(zy (n fun l o=>?_)).trans ?_
    ·have e:ix (z3j m k) (ed m s i)=z6o m k (ed m s i).toNat:=zfp (by omega)
     show okI (ix (z3j m k) (ed m s i)) (ed m t i)
     rw [e]
     exact⟨o,by rw [z9q];omega⟩
    show (bif (decide (ou m s i≠ou m t i))||(((decide (0≤ed m s i))&&(decide (0≤ed m t i)))&&(ix (ix (z3j m k) (ed m s i)) (ed m t i))) then _ else _)=_
    have b:((decide (ou m s i≠ou m t i))||(((decide (0≤ed m s i))&&(decide (0≤ed m t i)))&&(ix (ix (z3j m k) (ed m s i)) (ed m t i))))=apB m k s t i:=by
     unfold apB
     by_cases l:0≤ed m s i∧0≤ed m t i
     ·have e:ix (z3j m k) (ed m s i)=z6o m k (ed m s i).toNat:=zfp (by omega)
      have z:ix (z6o m k (ed m s i).toNat) (ed m t i)=decide (pkc m k (ed m s i).toNat≠pkc m k (ed m t i).toNat):=zfe (by omega)
      rw [e,z]
     ·have:((decide (0≤ed m s i))&&(decide (0≤ed m t i)))=false:=by
       rw [Bool.and_eq_false_iff,decide_eq_false_iff_not,decide_eq_false_iff_not];omega
      rw [this,Bool.false_and,Bool.false_and]
    rw [b]
    cases apB m k s t i
    ·rw [cf rfl,cf rfl,zy (jl (by omega))];rfl
    ·rw [ct rfl,ct rfl]
   rw [hbody]
   cases b:apB m k s t i
   ·right
    refine⟨(),fun j g=>?_,rfl⟩
    by_cases e:j=i
    ·rw [e];exact b
    ·exact f j (by omega)
   ·left
    rw [ct rfl,if_pos (List.any_eq_true.2 ⟨i,List.mem_range.2 hi,b⟩)]
  ·simp only [uq]
   rw [bn (by omega),if_neg]
   rw [Bool.not_eq_true,List.any_eq_false]
   intro j g
   rw [f j (List.mem_range.1 g)];decide
 unfold z05
 rw [qz w]
 split<;>rfl
theorem zps(c:MOk m){k s t:Nat}(e:s<m.rows.length)(f:t<m.rows.length):(decide (pkc m k s≠pkc m k t)||(List.range m.inputs.toNat).any (apB m k s t))=decide (pkc m (k+1) s≠pkc m (k+1) t):=by
 rw [Bool.eq_iff_iff,Bool.or_eq_true,decide_eq_true_eq,decide_eq_true_eq,List.any_eq_true,ne_eq,ne_eq,zhy c e f]
 constructor
 ·rintro(h|⟨i,hi,h⟩) ⟨b,g⟩
  ·exact h b
  ·have hi':=List.mem_range.1 hi
   obtain⟨j,l⟩:=g i hi'
   unfold apB at h
   rw [Bool.or_eq_true,Bool.and_eq_true,Bool.and_eq_true,decide_eq_true_eq,decide_eq_true_eq,decide_eq_true_eq,decide_eq_true_eq] at h
   rcases h with h|⟨⟨n,o⟩,p⟩
   ·exact h j
   ·exact p (l (by omega) (by omega))
 ·intro h
  by_cases b:pkc m k s=pkc m k t
  ·right
   refine Classical.byContradiction fun q=>h ⟨b,fun i hi=>?_⟩
   have a:apB m k s t i≠true:=fun r=>q ⟨i,List.mem_range.2 hi,r⟩
   unfold apB at a
   rw [ne_eq,Bool.or_eq_true,Bool.and_eq_true,Bool.and_eq_true,decide_eq_true_eq,decide_eq_true_eq,decide_eq_true_eq,decide_eq_true_eq] at a
   have u:=z6b c e hi
   have v:=z6b c f hi
   refine⟨Classical.byContradiction fun d=>a (.inl d),fun n o=>Classical.byContradiction fun d=>a (.inr ⟨⟨by omega,by omega⟩,d⟩)⟩
  ·exact .inl b
theorem zuw:z3j m 0=List.replicate m.rows.length (List.replicate m.rows.length false):=by
 unfold z3j z6o
 show (List.range m.rows.length).map (fun s=>(List.range m.rows.length).map fun t=>decide ((0:Nat)≠0))=_
 rw [show decide ((0:Nat)≠0)=false from rfl,List.map_const',List.map_const',List.length_range]
theorem zq5(d:MOk m)(g:200≤N){k s:Nat}(c:s<m.rows.length){Y:List (List Bool)}(e:Y.length=s):y5 N m (z3j m k) (s:Int) N 0 (Y++[mk (m.rows.length:Int) false])=some (Y++[z6o m (k+1) s]):=by
 have h:=d.r2
 refine mr (σ:=List (List Bool)) (fun F t st=>y5 N m (z3j m k) (s:Int) F (t:Int) st) m.rows.length (fun t st=>st=Y++[(z6o m (k+1) s).take t++List.replicate (m.rows.length-t) false]) _ (fun F t st a hi=> .inr ?_) (fun F st hi=>?_) N 0 _ (Nat.zero_le _) (by omega) (by rw [zco];rfl)
 ·subst hi
  have b:((z6o m (k+1) s).take t).length=t:=by rw [List.length_take,z9q];omega
  have hget:(Y++[(z6o m (k+1) s).take t++List.replicate (m.rows.length-t) false]).getD s default=(z6o m (k+1) s).take t++List.replicate (m.rows.length-t) false:=by
   rw [List.getD_eq_getElem?_getD,←e,List.getElem?_concat_length];rfl
  have f:((z6o m (k+1) s).take t++List.replicate (m.rows.length-t) false).length=m.rows.length:=by rw [List.length_append,b,List.length_replicate];omega
  refine⟨_,rfl,?_⟩
  simp only [y5]
  rw [pq (by omega),zy (jk (by rw [List.length_append,e];simp)),zy (jk (by rw [zcg];exact c))]
  have i:ix (z3j m k) (s:Int)=z6o m k s:=zfp c
  have j:ix (z6o m k s) (t:Int)=decide (pkc m k s≠pkc m k t):=zfe a
  rw [i,zy (jk (by rw [z9q];exact a)),j]
  refine(zmp (fun _=>apart_eq d g c a)).trans ?_
  have l:ix (Y++[(z6o m (k+1) s).take t++List.replicate (m.rows.length-t) false]) (s:Int)=_:=hget
  rw [l,zy (jk (by rw [f];exact a)),zy (jl (by omega))]
  have hval:(decide (pkc m k s≠pkc m k t)||(decide (((bif (true&&(decide (pkc m k s≠pkc m k t)==false)) then some (if((List.range m.inputs.toNat).any (apB m k s t))=true then(1:Int) else 0) else none).getD default)=1)))=decide (pkc m (k+1) s≠pkc m (k+1) t):=by
   rw [←zps d c a]
   cases decide (pkc m k s≠pkc m k t)
   ·cases (List.range m.inputs.toNat).any (apB m k s t)<;>rfl
   ·rfl
  rw [hval,zdo,zdo,zjc b a]
  have hnext:(z6o m (k+1) s).take (t+1)=(z6o m (k+1) s).take t++[decide (pkc m (k+1) s≠pkc m (k+1) t)]:=by
   rw [ze5 _ t (by rw [z9q];exact a),zfe a]
  rw [hnext]
  have hset: ∀ z,(Y++[(z6o m (k+1) s).take t++List.replicate (m.rows.length-t) false]).set s z=Y++[z]:=fun z=>by
   rw [List.set_append_right _ _ (by omega),e,Nat.sub_self];rfl
  rw [hset]
  rfl
 ·subst hi
  simp only [y5]
  rw [bn (by omega),Nat.sub_self,List.replicate_zero,List.append_nil,List.take_of_length_le (by rw [z9q];exact Nat.le_refl _)]
theorem ztk(a:MOk m)(c:200≤N){k:Nat}(h:k≤100):ak N m (k:Int)=some (z3j m k):=by
 have d:=a.r2
 have e:ym N m N ([]:List (List Bool)) 0=some (z3j m 0):=by
  refine mr (σ:=List (List Bool)) (fun F s st=>ym N m F st (s:Int)) m.rows.length (fun s st=>st=List.replicate s (List.replicate m.rows.length false)) _ (fun F s st b hi=> .inr ?_) (fun F st hi=>?_) N 0 [] (Nat.zero_le _) (by omega) rfl
  ·subst hi
   refine⟨_,rfl,?_⟩
   simp only [ym]
   rw [pq (by omega),zy ⟨by omega,by omega,by omega⟩,zy ⟨by simp;omega,by simp;omega⟩,zy (jl (by omega)),zco,List.replicate_succ'];rfl
  ·subst hi
   simp only [ym]
   rw [bn (by omega),zuw]
 have f:yj N m (k:Int) N (z3j m 0) 0=some (z3j m k):=by
  refine mr (σ:=List (List Bool)) (fun F j st=>yj N m (k:Int) F st (j:Int)) k (fun j st=>st=z3j m j) _ (fun F j st i hi=> .inr ?_) (fun F st hi=>?_) N 0 _ (Nat.zero_le _) (by omega) rfl
  ·subst hi
   refine⟨_,rfl,?_⟩
   have g:yl N m (z3j m j) N ([]:List (List Bool)) 0=some (z3j m (j+1)):=by
    refine mr (σ:=List (List Bool)) (fun F s st=>yl N m (z3j m j) F st (s:Int)) m.rows.length (fun s st=>st=(List.range s).map (z6o m (j+1))) _ (fun F s st b hi=> .inr ?_) (fun F st hi=>?_) N 0 [] (Nat.zero_le _) (by omega) rfl
    ·subst hi
     refine⟨_,rfl,?_⟩
     simp only [yl]
     rw [pq (by omega)]
     refine(qz (x:=(List.range s).map (z6o m (j+1))++[z6o m (j+1) s]) ?_).trans ?_
     ·rw [zy ⟨by omega,by omega,by omega⟩,zy ⟨by simp;omega,by simp;omega⟩]
      exact zq5 a c b (by simp)
     ·rw [zy (jl (by omega)),z6q];rfl
    ·subst hi
     simp only [yl]
     rw [bn (by omega)];rfl
   simp only [yj]
   rw [pq (by omega),qz g,zy (jl (by omega))];rfl
  ·subst hi
   simp only [yj]
   rw [bn (by omega)]
 unfold ak
 rw [qz e,qz f]
theorem zmr(r:MOk m)(I:200≤N)(k:Nat):mg N (z3j m k)=some (pL m k):=by
 have w:=r.r2
 have hname: ∀ s,name (pkc m k) s=pkc m k s:=fun s=>zfu
 have o: ∀ s,s<m.rows.length→ ∃ v,u7 N (z3j m k) ((List.range s).map fun u=>(pkc m k u:Int)) (s:Int) N (-1) 0=some v∧((v= -1∧z0s (pkc m k) s=true)∨(v=(pkc m k s:Int)∧z0s (pkc m k) s=false)):=fun s i=>by
  refine z1z (σ:=Int) (fun F t v=>u7 N (z3j m k) ((List.range s).map fun u=>(pkc m k u:Int)) (s:Int) F v (t:Int)) s (fun t v=>(v= -1∧ ∀ u,u<t→pkc m k u≠pkc m k s)∨(v=(pkc m k s:Int)∧ ∃ u,u<t∧pkc m k u=pkc m k s)) _ (fun F t v z hi=> .inr ?_) (fun F v hi=>?_) N 0 (-1) (Nat.zero_le _) (by omega) (.inl ⟨rfl,fun u j=>by omega⟩)
  ·have A:ix (z3j m k) (s:Int)=z6o m k s:=zfp i
   have B:ix (z6o m k s) (t:Int)=decide (pkc m k s≠pkc m k t):=zfe (by omega)
   have C:ix ((List.range s).map fun u=>(pkc m k u:Int)) (t:Int)=(pkc m k t:Int):=by rw [af];simp [List.getD_eq_getElem?_getD,z]
   have D: ∀ y,y=(if pkc m k s=pkc m k t then(pkc m k t:Int) else v)→u7 N (z3j m k) ((List.range s).map fun u=>(pkc m k u:Int)) (s:Int) (F+1) v (t:Int)=u7 N (z3j m k) ((List.range s).map fun u=>(pkc m k u:Int)) (s:Int) F y ((t+1:Nat):Int):=fun y q=>by
    simp only [u7]
    rw [pq (by omega)]
    refine(qz (x:=y) ?_).trans (by rw [zy (jl (by omega))];rfl)
    rw [zy (jk (by rw [zcg];exact i)),A,zy (jk (by rw [z9q];omega)),B]
    by_cases a:pkc m k s=pkc m k t
    ·rw [decide_eq_false (fun h=>h a)]
     refine(ct (b:= !false) rfl).trans ?_
     rw [zy (jk (by simp;omega)),C,q,if_pos a]
    ·rw [decide_eq_true a]
     refine(cf (b:= !true) rfl).trans ?_
     rw [q,if_neg a]
   refine⟨_,?_,D _ rfl⟩
   by_cases a:pkc m k s=pkc m k t
   ·rw [if_pos a];exact .inr ⟨by rw [a],t,by omega,a.symm⟩
   ·rw [if_neg a]
    rcases hi with⟨d,f⟩|⟨d,u,j,f⟩
    ·refine .inl ⟨d,fun u j=>?_⟩
     by_cases e:u=t
     ·subst e;exact fun h=>a h.symm
     ·exact f u (by omega)
    ·exact .inr ⟨d,u,by omega,f⟩
  ·simp only [u7]
   rw [bn (by omega)]
   refine⟨v,rfl,?_⟩
   rcases hi with⟨d,f⟩|⟨d,u,j,f⟩
   ·exact .inl ⟨d,ae.2 f⟩
   ·refine .inr ⟨d,?_⟩
    rw [←Bool.not_eq_true,ae]
    exact fun h=>h u j f
 have E:uu N (z3j m k) N ([]:List Int) 0 0=some (pL m k):=by
  refine mr (σ:=List Int×Int) (fun F s st=>uu N (z3j m k) F st.1 st.2 (s:Int)) m.rows.length (fun s st=>st.1=((List.range s).map fun u=>(pkc m k u:Int))∧st.2=(cntF (pkc m k) s:Int)) _ (fun F s st i hi=> .inr ?_) (fun F st hi=>?_) N 0 ([],0) (Nat.zero_le _) (by omega) ⟨rfl,rfl⟩
  ·obtain⟨l,c⟩:=st
   obtain⟨g,a⟩:=hi
   dsimp only at g a⊢
   subst g;subst a
   obtain⟨v,G,p⟩:=o s i
   have H:=zbb (pkc m k) s
   have hstep:cntF (pkc m k) (s+1)=cntF (pkc m k) s+if z0s (pkc m k) s=true then 1 else 0:=rfl
   refine⟨((List.range (s+1)).map fun u=>(pkc m k u:Int),(cntF (pkc m k) (s+1):Int)),⟨rfl,rfl⟩,?_⟩
   simp only [uu]
   rw [pq (by rw [zcg];omega),qz G]
   refine(qz (x:=((cntF (pkc m k) (s+1):Int),(pkc m k s:Int))) ?_).trans ?_
   ·rcases p with⟨rfl,n⟩|⟨rfl,n⟩
    ·rw [n,if_pos rfl] at hstep
     rw [pq (by decide),zy (jl (by omega)),hstep,←hname s,z8d n];rfl
    ·rw [n,if_neg (by decide)] at hstep
     rw [bn (by omega),hstep];rfl
   ·rw [zy ⟨by simp;omega,by simp;omega⟩,zy (jl (by omega)),z6q];rfl
  ·obtain⟨l,c⟩:=st
   obtain⟨g,a⟩:=hi
   dsimp only at g a⊢
   subst g
   simp only [uu]
   rw [bn (by rw [zcg];omega)];rfl
 unfold mg
 rw [qz E]
theorem zh1(a:MOk m)(c:200≤N):oq N m=some (z5y m):=by
 have d:=a.r2
 unfold oq z1d
 rw [qz (show (bd (ak N m (m.rows.length:Int)) fun e=>bd (mg N e) fun b=>some b)=some (z5y m) from by rw [qz (ztk a c (by omega)),qz (zmr a c _)];rfl)]
end ref
end GV
end Go.Proofs.Ytnnobdkjgafdmaa
