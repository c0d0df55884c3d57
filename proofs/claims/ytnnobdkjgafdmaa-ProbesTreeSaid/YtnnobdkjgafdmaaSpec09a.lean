
import Derived.Test.YtnnobdkjgafdmaaShMap
import Derived.Test.YtnnobdkjgafdmaaSpec06g
set_option linter.unusedVariables false
set_option linter.unusedSimpArgs false
set_option linter.unusedSectionVars false
namespace Go.Proofs.Ytnnobdkjgafdmaa
namespace GV
section names
variable {κ κ' : Type} [DecidableEq κ] [DecidableEq κ']
def z2x(f:Nat→κ)(u:Nat):Bool:=(List.range u).all fun t=>decide (f t≠f u)
theorem z09{f:Nat→κ}{u:Nat}:z2x f u=true↔ ∀ t,t<u→f t≠f u:=by
 unfold z2x
 rw [List.all_eq_true]
 exact⟨fun h t a=>of_decide_eq_true (h t (List.mem_range.2 a)),fun h t a=>decide_eq_true (h t (List.mem_range.1 a))⟩
def cntF(f:Nat→κ):Nat→Nat
 |0=>0
 |u+1=>cntF f u+if z2x f u=true then 1 else 0
theorem zcz(f:Nat→κ): ∀ u,cntF f u≤u
 |0=>Nat.le_refl _
 |u+1=>by have:=zcz f u;unfold cntF;split<;>omega
theorem cntF_step(f:Nat→κ)(u:Nat):cntF f u≤cntF f (u+1):=by show _≤cntF f u+_;omega
theorem zp2(f:Nat→κ){u v:Nat}(h:u≤v):cntF f u≤cntF f v:=by
 induction v with
 |zero=>rw [show u=0 by omega];exact Nat.le_refl _
 |succ v ih=>
  by_cases e:u=v+1
  ·rw [e];exact Nat.le_refl _
  ·exact Nat.le_trans (ih (by omega)) (cntF_step f v)
theorem zaa(f:Nat→κ){u v:Nat}(h:u<v)(a:z2x f u=true):cntF f u<cntF f v:=by
 have b:=zp2 f (show u+1≤v by omega)
 have c:cntF f (u+1)=cntF f u+1:=by show cntF f u+_=_;rw [if_pos a]
 omega
theorem q4y{f:Nat→κ}{u v:Nat}(a:z2x f u=true)(b:z2x f v=true)(h:cntF f u=cntF f v):u=v:=by
 rcases Nat.lt_trichotomy u v with e|e|e
 ·have:=zaa f e a;omega
 ·exact e
 ·have:=zaa f e b;omega
theorem zol(f:Nat→κ): ∀ {n c:Nat},c<cntF f n→ ∃ u,u<n∧z2x f u=true∧cntF f u=c
 |0,c,h=>by simp [cntF] at h
 |n+1,c,h=>by
  by_cases h1:c<cntF f n
  ·obtain⟨u,b,a⟩:=zol f h1
   exact⟨u,by omega,a⟩
  ·have a:c<cntF f n+if z2x f n=true then 1 else 0:=h
   by_cases h3:z2x f n=true
   ·rw [if_pos h3] at a
    exact⟨n,by omega,h3,by omega⟩
   ·rw [if_neg h3] at a;omega
def z7x(f:Nat→κ)(s:Nat):Nat:=((List.range s).find? fun t=>decide (f t=f s)).getD s
theorem z4e(f:Nat→κ)(s:Nat):z7x f s≤s∧f (z7x f s)=f s∧ ∀ t,t<z7x f s→f t≠f s:=by
 unfold z7x
 cases h:(List.range s).find? fun t=>decide (f t=f s) with
 |none=>
  rw [List.find?_eq_none] at h
  exact⟨Nat.le_refl _,rfl,fun t a=>by simpa using h t (List.mem_range.2 a)⟩
 |some u=>
  obtain⟨c,i,d,b,e⟩:=List.find?_eq_some_iff_getElem.1 h
  rw [List.getElem_range] at b
  subst b
  rw [List.length_range] at d
  refine⟨by show i≤s;omega,by simpa using c,fun t a=>?_⟩
  have:=e t a
  rw [List.getElem_range] at this
  simpa using this
theorem z8o(f:Nat→κ)(s:Nat):z2x f (z7x f s)=true:=by
 obtain⟨d,a,b⟩:=z4e f s
 exact z09.2 fun t c=>by rw [a];exact b t c
theorem zte{f:Nat→κ}{u s:Nat}(a:z2x f u=true)(h:f u=f s)(b:u≤s):z7x f s=u:=by
 obtain⟨g,c,d⟩:=z4e f s
 rcases Nat.lt_trichotomy (z7x f s) u with e|e|e
 ·exact absurd (c.trans h.symm) (z09.1 a _ e)
 ·exact e
 ·exact absurd h (d u e)
theorem zcw{f:Nat→κ}{u:Nat}(a:z2x f u=true):z7x f u=u:=zte a rfl (Nat.le_refl _)
theorem zn3{f:Nat→κ}{s t:Nat}(h:f s=f t):z7x f s=z7x f t:=by
 obtain⟨g,a,b⟩:=z4e f s
 obtain⟨i,c,d⟩:=z4e f t
 rcases Nat.lt_trichotomy (z7x f s) (z7x f t) with e|e|e
 ·exact absurd (a.trans h) (d _ e)
 ·exact e
 ·exact absurd (c.trans h.symm) (b _ e)
def name(f:Nat→κ)(s:Nat):Nat:=cntF f (z7x f s)
theorem zil{f:Nat→κ}{s t:Nat}:name f s=name f t↔f s=f t:=by
 constructor
 ·intro h
  have:=q4y (z8o f s) (z8o f t) h
  rw [←(z4e f s).2.1,this,(z4e f t).2.1]
 ·intro h;unfold name;rw [zn3 h]
theorem q5x{f:Nat→κ}{s n:Nat}(h:s<n):name f s<cntF f n:=zaa f (Nat.lt_of_le_of_lt (z4e f s).1 h) (z8o f s)
theorem zah{f:Nat→κ}{u:Nat}(h:z2x f u=true):name f u=cntF f u:=by unfold name;rw [zcw h]
theorem zp7(f:Nat→κ):name f 0=0:=by
 unfold name
 rw [zcw (z09.2 fun t a=>by omega)];rfl
/-! Only which keys are equal counts. -/
theorem zng{f:Nat→κ}{g:Nat→κ'}{n:Nat}(h: ∀ s t,s<n→t<n→(f s=f t↔g s=g t)){u:Nat}(b:u<n):z2x f u=z2x g u:=by
 rw [Bool.eq_iff_iff,z09,z09]
 exact⟨fun k t a e=>k t a ((h t u (by omega) b).2 e),fun k t a e=>k t a ((h t u (by omega) b).1 e)⟩
theorem zlp{f:Nat→κ}{g:Nat→κ'}{n:Nat}(h: ∀ s t,s<n→t<n→(f s=f t↔g s=g t)): ∀ {u:Nat},u≤n→cntF f u=cntF g u
 |0,_=>rfl
 |u+1,a=>by
  show cntF f u+_=cntF g u+_
  rw [zlp h (by omega),zng h (show u<n by omega)]
theorem zzj{f:Nat→κ}{g:Nat→κ'}{n:Nat}(h: ∀ s t,s<n→t<n→(f s=f t↔g s=g t)){s:Nat}(a:s<n):z7x f s=z7x g s:=by
 obtain⟨b,c,d⟩:=z4e g s
 refine zte ?_ ((h _ _ (by omega) a).2 c) b
 rw [zng h (by omega)];exact z8o g s
theorem zdn{f:Nat→κ}{g:Nat→κ'}{n:Nat}(h: ∀ s t,s<n→t<n→(f s=f t↔g s=g t)){s:Nat}(a:s<n):name f s=name g s:=by
 have:=(z4e g s).1
 unfold name
 rw [zzj h a,zlp h (by omega)]
/-! A map from keys to names,as the first k things are named. -/
def nmM(f:Nat→κ):Nat→List (κ×Int)
 |0=>[]
 |k+1=>nmM f k++if z2x f k=true then [(f k,(cntF f k:Int))] else []
theorem zyg(f:Nat→κ): ∀ k,(nmM f k).length=cntF f k
 |0=>rfl
 |k+1=>by
  show (nmM f k++_).length=cntF f k+_
  rw [List.length_append,zyg f k]
  split<;>rfl
theorem zrp{β:Type}{M M':List (κ×β)}{x:κ}:z8d (M++M') x=(z8d M x||z8d M' x):=by
 induction M with
 |nil=>rfl
 |cons p l ih=>
  show (if x=p.1 then true else z8d (l++M') x)=((if x=p.1 then true else z8d l x)||z8d M' x)
  split
  ·rfl
  ·exact ih
theorem ztu{β:Type}{z:β}{M M':List (κ×β)}{x:κ}:z7i z (M++M') x=if z8d M x=true then z7i z M x else z7i z M' x:=by
 induction M with
 |nil=>rfl
 |cons p l ih=>
  show (if x=p.1 then p.2 else z7i z (l++M') x)=if(if x=p.1 then true else z8d l x)=true then(if x=p.1 then p.2 else z7i z l x) else z7i z M' x
  by_cases h:x=p.1
  ·simp [h]
  ·simp only [if_neg h];exact ih
theorem q36{β:Type}{M:List (κ×β)}{x:κ}{v:β}(h:z8d M x=false):z8z M x v=M++[(x,v)]:=by
 induction M with
 |nil=>rfl
 |cons p l ih=>
  unfold z8d at h
  by_cases e:x=p.1
  ·simp [e] at h
  ·rw [if_neg e] at h
   simp only [z8z,if_neg e,ih h,List.cons_append]
theorem zha(f:Nat→κ)(x:κ): ∀ k,z8d (nmM f k) x=true↔ ∃ t,t<k∧f t=x
 |0=>⟨fun h=>by simp [nmM,z8d] at h,fun⟨t,c,_⟩=>by omega⟩
 |k+1=>by
  show z8d (nmM f k++_) x=true↔_
  rw [zrp,Bool.or_eq_true,zha f x k]
  constructor
  ·rintro(⟨t,c,h⟩|h)
   ·exact⟨t,by omega,h⟩
   ·split at h
    ·by_cases e:x=f k
     ·exact⟨k,by omega,e.symm⟩
     ·simp [z8d,e] at h
    ·simp [z8d] at h
  ·rintro⟨t,c,h⟩
   by_cases e: ∃ u,u<k∧f u=x
   ·exact .inl e
   ·have a:t=k:=by
     rcases Nat.lt_or_ge t k with d|d
     ·exact absurd ⟨t,d,h⟩ e
     ·omega
    subst a
    right
    rw [if_pos (z09.2 fun u g b=>e ⟨u,g,b.trans h⟩)]
    simp [z8d,h]
theorem zxt(f:Nat→κ){s:Nat}: ∀ k,s<k→z7i 0 (nmM f k) (f s)=(name f s:Int)
 |0,h=>by omega
 |k+1,h=>by
  show z7i 0 (nmM f k++_) (f s)=_
  rw [ztu]
  by_cases e:z8d (nmM f k) (f s)=true
  ·rw [if_pos e]
   obtain⟨t,g,hts⟩:=(zha f _ k).1 e
   rw [←hts,zxt f k g,zil.2 hts]
  ·rw [if_neg e]
   have c: ∀ u,u<k→f u≠f s:=fun u i b=>e ((zha f _ k).2 ⟨u,i,b⟩)
   have j:s=k:=by
    rcases Nat.lt_or_ge s k with d|d
    ·exact absurd rfl (c s d)
    ·omega
   subst j
   have a:=z09.2 c
   rw [if_pos a,zah a]
   simp [z7i]
theorem q6a(f:Nat→κ){k:Nat}(h:z8d (nmM f k) (f k)=false):z8z (nmM f k) (f k) ((nmM f k).length:Int)=nmM f (k+1):=by
 have a:z2x f k=true:=z09.2 fun t c b=>by
  have:=(zha f (f k) k).2 ⟨t,c,b⟩
  rw [h] at this;cases this
 rw [q36 h,zyg]
 show _=nmM f k++_
 rw [if_pos a]
theorem q6c(f:Nat→κ){k:Nat}(h:z8d (nmM f k) (f k)=true):nmM f (k+1)=nmM f k:=by
 obtain⟨t,a,hts⟩:=(zha f _ k).1 h
 show nmM f k++_=_
 rw [if_neg (fun b=>z09.1 b t a hts),List.append_nil]
def q0x(f:Nat→κ)(n:Nat):List Int:=(List.range n).map fun s=>(name f s:Int)
theorem zwm{f:Nat→κ}{g:Nat→κ'}{n:Nat}(h: ∀ s t,s<n→t<n→(f s=f t↔g s=g t)):q0x f n=q0x g n:=by
 unfold q0x
 refine List.map_congr_left fun s a=>?_
 rw [zdn h (List.mem_range.1 a)]
end names
def z8c{κ:Type}[DecidableEq κ](f:Nat→κ)(n:Nat):List Nat:=(List.range n).filter fun u=>z2x f u
section z8c
variable {κ : Type} [DecidableEq κ] {f : Nat → κ}
theorem zjo(n:Nat):z8c f (n+1)=z8c f n++if z2x f n=true then [n] else []:=by
 unfold z8c
 rw [List.range_succ,List.filter_append]
 congr 1
 by_cases h:z2x f n=true
 ·rw [if_pos h,List.filter_cons_of_pos h];rfl
 ·rw [if_neg h,List.filter_cons_of_neg h];rfl
theorem z6x: ∀ n,(z8c f n).length=cntF f n
 |0=>rfl
 |n+1=>by
  rw [zjo,List.length_append,z6x n]
  show _=cntF f n+_
  split<;>rfl
theorem zmo: ∀ {n u:Nat},u<n→z2x f u=true→(z8c f n).getD (cntF f u) 0=u
 |0,u,h,_=>by omega
 |n+1,u,h,a=>by
  rw [zjo]
  by_cases e:u=n
  ·subst e
   rw [if_pos a,List.getD_eq_getElem?_getD,←z6x u,List.getElem?_concat_length];rfl
  ·have b:=zaa f (show u<n by omega) a
   rw [List.getD_eq_getElem?_getD,List.getElem?_append_left (by rw [z6x];exact b),←List.getD_eq_getElem?_getD]
   exact zmo (by omega) a
theorem z7o{n c:Nat}(h:c<cntF f n):(z8c f n).getD c 0<n∧z2x f ((z8c f n).getD c 0)=true∧cntF f ((z8c f n).getD c 0)=c:=by
 obtain⟨u,a,b,rfl⟩:=zol f h
 rw [zmo a b]
 exact⟨a,b,rfl⟩
end z8c
end GV
end Go.Proofs.Ytnnobdkjgafdmaa

namespace Go.Proofs.Ytnnobdkjgafdmaa
namespace GV
def ou(m:Mach)(s i:Nat):Int:=((m.rows.getD s default).getD i default).out
def zdc(m:Mach)(p:Nat→Nat)(s:Nat):List (Int×Int):=(List.range m.inputs.toNat).map fun i=>(ou m s i,if ed m s i= -1 then-1 else(p (ed m s i).toNat:Int))
def zqz(m:Mach)(p:Nat→Nat)(s:Nat):Nat×List (Int×Int):=(p s,zdc m p s)
def pkc(m:Mach):Nat→Nat→Nat
 |0=>fun _=>0
 |k+1=>fun s=>name (zqz m (pkc m k)) s
def pL(m:Mach)(k:Nat):List Int:=(List.range m.rows.length).map fun s=>(pkc m k s:Int)
section
variable {m : Mach}
theorem zqb(k:Nat):(pL m k).length=m.rows.length:=by simp [pL]
theorem zvp{k s:Nat}(h:s<m.rows.length):(pL m k).getD s default=(pkc m k s:Int):=by simp [pL,List.getD_eq_getElem?_getD,h]
theorem q6w(k:Nat):pL m (k+1)=q0x (zqz m (pkc m k)) m.rows.length:=rfl
theorem q5i{p:Nat→Nat}{s t:Nat}:zdc m p s=zdc m p t↔ ∀ i,i<m.inputs.toNat→ou m s i=ou m t i∧(if ed m s i= -1 then-1 else(p (ed m s i).toNat:Int))=(if ed m t i= -1 then-1 else(p (ed m t i).toNat:Int)):=by
 unfold zdc
 rw [List.map_inj_left]
 constructor
 ·intro h i hi
  have:=h i (List.mem_range.2 hi)
  exact⟨congrArg Prod.fst this,congrArg Prod.snd this⟩
 ·intro h i hi
  obtain⟨a,b⟩:=h i (List.mem_range.1 hi)
  exact Prod.ext a b
theorem zp5(a:MOk m){s i:Nat}(b:s<m.rows.length)(hi:i<m.inputs.toNat):(ed m s i= -1↔ou m s i= -1)∧ -1≤ou m s i∧ou m s i<16:=by
 have c:=a.row s b
 have d:=a.o2
 rcases a.edge s i b (by omega) with h|h
 ·exact⟨⟨fun _=>h.2,fun _=>h.1⟩,by show-1≤((m.rows.getD s default).getD i default).out;omega,by show ((m.rows.getD s default).getD i default).out<16;omega⟩
 ·refine⟨⟨fun e=>?_,fun e=>?_⟩,?_,?_⟩
  ·have:((m.rows.getD s default).getD i default).to= -1:=e
   omega
  ·have:((m.rows.getD s default).getD i default).out= -1:=e
   omega
  ·show-1≤((m.rows.getD s default).getD i default).out;omega
  ·show ((m.rows.getD s default).getD i default).out<16;omega
theorem zsc{k s t:Nat}:pkc m (k+1) s=pkc m (k+1) t↔pkc m k s=pkc m k t∧zdc m (pkc m k) s=zdc m (pkc m k) t:=by
 show name _ s=name _ t↔_
 rw [zil]
 unfold zqz
 rw [Prod.mk.injEq]
theorem zmh(b:MOk m){k s t:Nat}(g:s<m.rows.length)(j:t<m.rows.length):pkc m (k+1) s=pkc m (k+1) t↔pkc m k s=pkc m k t∧ ∀ i,i<m.inputs.toNat→ou m s i=ou m t i∧(ed m s i≠ -1→ed m t i≠ -1→pkc m k (ed m s i).toNat=pkc m k (ed m t i).toNat):=by
 rw [zsc,q5i]
 refine and_congr_right fun _=>forall_congr' fun i=>forall_congr' fun hi=>?_
 refine and_congr_right fun c=>?_
 have d:=(zp5 b g hi).1
 have f:=(zp5 b j hi).1
 by_cases e:ed m s i= -1
 ·have a:ed m t i= -1:=f.2 (by rw [←c];exact d.1 e)
  rw [if_pos e,if_pos a]
  exact⟨fun _ h=>absurd e h,fun _=>rfl⟩
 ·have a:ed m t i≠ -1:=fun a=>e (d.2 (by rw [c];exact f.1 a))
  rw [if_neg e,if_neg a]
  exact⟨fun h _ _=>Int.ofNat.inj h,fun h=>congrArg Int.ofNat (h e a)⟩
theorem zhk{k s t:Nat}(h:pkc m (k+1) s=pkc m (k+1) t):pkc m k s=pkc m k t:=(zsc.1 h).1
def zjg(m:Mach)(k:Nat):Prop:= ∀ s t,s<m.rows.length→t<m.rows.length→pkc m k s=pkc m k t→pkc m (k+1) s=pkc m (k+1) t
theorem zi2{k s:Nat}:name (pkc m k) s=pkc m k s:=by
 cases k with
 |zero=>
  show name (fun _:Nat=>(0:Nat)) s=0
  rw [show name (fun _:Nat=>(0:Nat)) s=name (fun _:Nat=>(0:Nat)) 0 from zil.2 rfl,zp7]
 |succ k=>exact zdn (n:=s+1) (fun a b _ _=>by show name _ a=name _ b↔_;exact zil) (Nat.lt_succ_self s)
theorem zos{k:Nat}(h:zjg m k){s:Nat}(c:s<m.rows.length):pkc m (k+1) s=pkc m k s:=by
 rw [←zi2 (k:=k+1),←zi2 (k:=k)]
 exact zdn (n:=m.rows.length) (fun a b d e=>⟨zhk,h a b d e⟩) c
theorem zth(k:Nat):pL m (k+1)=pL m k↔zjg m k:=by
 constructor
 ·intro h s t a c e
  have b: ∀ s,s<m.rows.length→pkc m (k+1) s=pkc m k s:=fun s a=>by
   have:=congrArg (fun l:List Int=>l.getD s default) h
   simp only [zvp a] at this
   omega
  rw [b s a,b t c,e]
 ·intro h
  unfold pL
  exact List.map_congr_left fun s a=>by rw [zos h (List.mem_range.1 a)]
theorem zph(b:MOk m){p q:Nat→Nat}(h: ∀ s,s<m.rows.length→p s=q s){s:Nat}(c:s<m.rows.length):zdc m p s=zdc m q s:=by
 unfold zdc
 refine List.map_congr_left fun i hi=>?_
 rcases z8w b c (List.mem_range.1 hi) with a|a
 ·rw [if_pos a,if_pos a]
 ·rw [h _ (by omega)]
theorem zal(c:MOk m){k:Nat}(h:zjg m k): ∀ j,k≤j→ ∀ s,s<m.rows.length→pkc m j s=pkc m k s
 |0,i,s,d=>by rw [show k=0 by omega]
 |j+1,i,s,d=>by
  by_cases e:k=j+1
  ·rw [e]
  ·have ih:=zal c h j (by omega)
   rw [←zos h d]
   show name _ s=name _ s
   refine zdn (n:=m.rows.length) (fun a b f g=>?_) d
   unfold zqz
   rw [ih a f,ih b g,zph c ih f,zph c ih g]
theorem q5v(a:MOk m){k j:Nat}(h:zjg m k)(b:k≤j):pL m j=pL m k:=by
 unfold pL
 exact List.map_congr_left fun s c=>by rw [zal a h j b s (List.mem_range.1 c)]
theorem zsg{κ κ':Type}[DecidableEq κ][DecidableEq κ']{f:Nat→κ}{g:Nat→κ'}: ∀ {n:Nat},(∀ u,u<n→z2x f u=true→z2x g u=true)→cntF f n≤cntF g n∧(cntF f n=cntF g n→ ∀ u,u<n→z2x f u=z2x g u)
 |0,_=>⟨Nat.le_refl _,fun _ u c=>by omega⟩
 |n+1,h=>by
  obtain⟨j,d⟩:=zsg (n:=n) (f:=f) (g:=g) fun u c=>h u (by omega)
  have i:=h n (by omega)
  have a:cntF f (n+1)=cntF f n+if z2x f n=true then 1 else 0:=rfl
  have b:cntF g (n+1)=cntF g n+if z2x g n=true then 1 else 0:=rfl
  cases hf:z2x f n<;>cases hg:z2x g n
  ·rw [hf] at a;rw [hg] at b
   simp only [Bool.false_eq_true,if_false] at a b
   refine⟨by omega,fun e u c=>?_⟩
   by_cases hu':u=n
   ·subst hu';rw [hf,hg]
   ·exact d (by omega) u (by omega)
  ·rw [hf] at a;rw [hg] at b
   simp only [Bool.false_eq_true,if_false,if_true] at a b
   exact⟨by omega,fun e=>by omega⟩
  ·rw [hf,hg] at i;exact absurd (i rfl) (by decide)
  ·rw [hf] at a;rw [hg] at b
   simp only [if_true] at a b
   refine⟨by omega,fun e u c=>?_⟩
   by_cases hu':u=n
   ·subst hu';rw [hf,hg]
   ·exact d (by omega) u (by omega)
theorem zqn{k:Nat}(h: ¬zjg m k):cntF (pkc m k) m.rows.length<cntF (pkc m (k+1)) m.rows.length:=by
 obtain⟨v,l⟩:=zsg (n:=m.rows.length) (f:=pkc m k) (g:=pkc m (k+1)) fun u w o=>z09.2 fun t a e=>z09.1 o t a (zhk e)
 rcases Nat.lt_or_ge (cntF (pkc m k) m.rows.length) (cntF (pkc m (k+1)) m.rows.length) with b|b
 ·exact b
 ·exfalso
  have p:=l (by omega)
  refine h fun s t x a e=>?_
  obtain⟨y,c,_⟩:=z4e (pkc m (k+1)) s
  obtain⟨z,d,_⟩:=z4e (pkc m (k+1)) t
  have i:=z8o (pkc m (k+1)) s
  have j:=z8o (pkc m (k+1)) t
  rw [←p _ (by omega)] at i j
  have q:pkc m k (z7x (pkc m (k+1)) s)=pkc m k (z7x (pkc m (k+1)) t):=by rw [zhk c,zhk d,e]
  have r:z7x (pkc m (k+1)) s=z7x (pkc m (k+1)) t:=by
   rw [←zcw i,←zcw j];exact zn3 q
  rw [←c,r,d]
theorem zly(a:1≤m.rows.length): ∀ k,(∀ j,j<k→ ¬zjg m j)→k+1≤cntF (pkc m k) m.rows.length
 |0,_=>by
  have:=zaa (pkc m 0) (show 0<m.rows.length by omega) (z09.2 fun t b=>by omega)
  omega
 |k+1,h=>by
  have c:=zly a k fun j d=>h j (by omega)
  have e:=zqn (h k (by omega))
  omega
theorem zp0{p:Nat→Prop}: ∀ n,p n→ ∃ k,k≤n∧p k∧ ∀ j,j<k→ ¬p j
 |n,h=>by
  by_cases e: ∃ j,j<n∧p j
  ·obtain⟨j,b,a⟩:=e
   obtain⟨k,f,c,d⟩:=zp0 j a
   exact⟨k,by omega,c,d⟩
  ·exact⟨n,Nat.le_refl _,h,fun j b a=>e ⟨j,b,a⟩⟩
theorem zyn(c:MOk m): ∃ k,k<m.rows.length∧zjg m k∧ ∀ j,j<k→ ¬zjg m j:=by
 have d:=c.r1
 have e: ∃ k,k<m.rows.length∧zjg m k:=by
  refine Classical.byContradiction fun b=>?_
  have:=zly d m.rows.length fun j f a=>b ⟨j,f,a⟩
  have:=zcz (pkc m m.rows.length) m.rows.length
  omega
 obtain⟨n,b,a⟩:=e
 obtain⟨k,i,g,h⟩:=zp0 n a
 exact⟨k,by omega,g,h⟩
def cls(m:Mach)(s:Nat):Nat:=pkc m m.rows.length s
def z8s(m:Mach):List Int:=pL m m.rows.length
theorem zma(a:MOk m):zjg m m.rows.length:=by
 obtain⟨k,f,b,_⟩:=zyn a
 intro s t c d e
 rw [zal a b _ (by omega) s c,zal a b _ (by omega) t d] at*
 exact e
theorem zne(b:MOk m){s t:Nat}(c:s<m.rows.length)(d:t<m.rows.length)(h:cls m s=cls m t){i:Nat}(hi:i<m.inputs.toNat):ou m s i=ou m t i∧(ed m s i= -1↔ed m t i= -1)∧(ed m s i≠ -1→cls m (ed m s i).toNat=cls m (ed m t i).toNat):=by
 have j:=(zmh b c d).1 (zma b s t c d h)
 obtain⟨f,k⟩:=j.2 i hi
 have l:=(zp5 b c hi).1
 have n:=(zp5 b d hi).1
 have g:ed m s i= -1↔ed m t i= -1:=by rw [l,n,f]
 exact⟨f,g,fun a=>k a fun e=>a (g.2 e)⟩
/-! ### Responses-/
theorem zmi(m:Mach): ∀ w:List Int,z1p m (-1) w=List.replicate w.length (-1)
 | []=>rfl
 |c::w=>by
  show (z1l m (-1) c).out::z1p m (z1l m (-1) c).to w=_
  rw [show z1l m (-1) c=⟨-1,-1⟩ from rfl,zmi m w];rfl
theorem z7q{s:Nat}(i:Nat)(w:List Int):z1p m (s:Int) ((i:Int)::w)=ou m s i::z1p m (ed m s i) w:=by
 show (z1l m (s:Int) (i:Int)).out::z1p m (z1l m (s:Int) (i:Int)).to w=_
 unfold z1l
 rw [if_neg (by omega)];rfl
theorem zpj{s:Nat}(i:Nat)(w:List Int):z2s m (s:Int) ((i:Int)::w)=z2s m (ed m s i) w:=by
 show z2s m (z1l m (s:Int) (i:Int)).to w=_
 unfold z1l
 rw [if_neg (by omega)];rfl
theorem zi7(a:MOk m): ∀ (k:Nat) {s t:Nat},s<m.rows.length→t<m.rows.length→(pkc m k s=pkc m k t↔ ∀ w,WOk m.inputs w→w.length≤k→z1p m (s:Int) w=z1p m (t:Int) w)
 |0,s,t,f,g=>⟨fun _ w _ d=>by
  have:w=[]:=List.length_eq_zero_iff.1 (by omega)
  subst this;rfl,fun _=>rfl⟩
 |k+1,s,t,f,g=>by
  rw [zmh a f g]
  constructor
  ·rintro⟨C,v⟩ w b d
   match w,b,d with
   | [],_,_=>rfl
   |c::w,b,d=>
    have x:0≤c∧c<m.inputs:=b 0 (by simp)
    obtain⟨i,rfl⟩:=Int.eq_ofNat_of_zero_le x.1
    have hi:i<m.inputs.toNat:=by omega
    obtain⟨q,y⟩:=v i hi
    have r:=(zp5 a f hi).1
    have u:=(zp5 a g hi).1
    rw [z7q,z7q,q]
    congr 1
    rcases z8w a f hi with e|e
    ·rw [e,u.2 (by rw [←q];exact r.1 e)]
    ·have l:ed m t i≠ -1:=fun n=>by have:=r.2 (by rw [q];exact u.1 n);omega
     have n:=(z8w a g hi).resolve_left l
     have:=(zi7 a k (s:=(ed m s i).toNat) (t:=(ed m t i).toNat) (by omega) (by omega)).1 (y (by omega) l) w (fun j o=>b (j+1) (by simpa using o)) (by simpa using d)
     rwa [Int.toNat_of_nonneg e.1,Int.toNat_of_nonneg n.1] at this
  ·intro h
   refine⟨(zi7 a k f g).2 fun w b d=>h w b (by omega),fun i hi=>?_⟩
   have p: ∀ w,WOk m.inputs w→WOk m.inputs ((i:Int)::w):=fun w b j o=>by
    cases j with
    |zero=>exact⟨by show 0≤(i:Int);omega,by show (i:Int)<m.inputs;omega⟩
    |succ j=>exact b j (by simpa using o)
   refine⟨?_,fun z n=>?_⟩
   ·have:=h [(i:Int)] (p [] fun j o=>by simp at o) (by simp)
    rw [z7q,z7q] at this
    exact(List.cons.inj this).1
   ·have A:=(z8w a f hi).resolve_left z
    have B:=(z8w a g hi).resolve_left n
    refine(zi7 a k (by omega) (by omega)).2 fun w b d=>?_
    have:=h ((i:Int)::w) (p w b) (by simpa using d)
    rw [z7q,z7q] at this
    rw [Int.toNat_of_nonneg A.1,Int.toNat_of_nonneg B.1]
    exact(List.cons.inj this).2
theorem zwy(a:MOk m){s t:Nat}(b:s<m.rows.length)(c:t<m.rows.length):cls m s=cls m t↔ ∀ w,WOk m.inputs w→z1p m (s:Int) w=z1p m (t:Int) w:=by
 constructor
 ·intro h w d
  have e:pkc m (m.rows.length+w.length) s=pkc m (m.rows.length+w.length) t:=by
   rw [zal a (zma a) _ (by omega) s b,zal a (zma a) _ (by omega) t c];exact h
  exact(zi7 a _ b c).1 e w d (by omega)
 ·intro h
  exact(zi7 a _ b c).2 fun w d _=>h w d
end
end GV
end Go.Proofs.Ytnnobdkjgafdmaa

namespace Go.Proofs.Ytnnobdkjgafdmaa
namespace GV
theorem zn0{α:Type}{r:α→α→Prop}(hi: ∀ a,¬r a a)(d: ∀ a b,r a b→ ¬r b a): ∀ {X Y:List α},X.Pairwise r→Y.Pairwise r→(∀ a,a∈X↔a∈Y)→X=Y
 | [],[],_,_,_=>rfl
 | [],y::Y,_,_,h=>by have:=(h y).2 (by simp);simp at this
 |x::X,[],_,_,h=>by have:=(h x).1 (by simp);simp at this
 |x::X,y::Y,i,j,h=>by
  obtain⟨f,k⟩:=List.pairwise_cons.1 i
  obtain⟨g,l⟩:=List.pairwise_cons.1 j
  have e:x=y:=by
   rcases List.mem_cons.1 ((h x).1 (by simp)) with e|m
   ·exact e
   ·rcases List.mem_cons.1 ((h y).2 (by simp)) with e|n
    ·exact e.symm
    ·exact absurd (g x m) (d _ _ (f y n))
  subst e
  rw [zn0 hi d k l fun a=>?_]
  constructor
  ·intro c
   rcases List.mem_cons.1 ((h a).1 (List.mem_cons_of_mem _ c)) with e|h'
   ·subst e;exact absurd (f _ c) (hi _)
   ·exact h'
  ·intro c
   rcases List.mem_cons.1 ((h a).2 (List.mem_cons_of_mem _ c)) with e|h'
   ·subst e;exact absurd (g _ c) (hi _)
   ·exact h'
theorem q0u{a b:List Int}(h:llt a b): ¬llt b a:=fun k=>zdm _ (zan h k)
def zra(P:List BE):List (List Int):=P.map (·.wd)
section
variable {m : Mach} {s0 : Nat} {P : List BE}
theorem getD_map{α β:Type}[Inhabited α][Inhabited β]{X:List α}{f:α→β}{k:Nat}(h:k<X.length):(X.map f).getD k default=f (X.getD k default):=by
 simp [List.getD_eq_getElem?_getD,h]
theorem znp(h:Rch m s0 P):(zra P).Pairwise llt:=by
 unfold zra
 rw [List.pairwise_iff_getElem]
 intro i j hi a b
 rw [List.length_map] at hi a
 have:=h.inc i j b a
 rw [List.getElem_map,List.getElem_map]
 simpa [List.getD_eq_getElem?_getD,hi,a] using this
theorem q76{w:List Int}:w∈zra P↔ ∃ j,j<P.length∧(P.getD j default).wd=w:=by
 unfold zra;rw [List.mem_map]
 constructor
 ·rintro⟨e,b,rfl⟩
  obtain⟨j,a,rfl⟩:=List.mem_iff_getElem.1 b
  exact⟨j,a,by simp [List.getD_eq_getElem?_getD,a]⟩
 ·rintro⟨j,a,rfl⟩;exact⟨_,z19 a,rfl⟩
def q8b(m:Mach)(s0:Nat)(w:List Int):Prop:=WOk m.inputs w∧z2s m s0 w≠ -1∧ ∀ v,WOk m.inputs v→z2s m s0 v=z2s m s0 w→lle w v
theorem zpi(b:MOk m)(h:Rch m s0 P){w:List Int}:w∈zra P↔q8b m s0 w:=by
 rw [q76]
 constructor
 ·rintro⟨j,a,rfl⟩
  refine⟨(h.wok j a).1,by rw [h.aft j a];omega,fun v c e=>h.min b a c (by rw [e,h.aft j a])⟩
 ·rintro⟨d,f,g⟩
  obtain⟨j,a,i,k⟩:=h.least b _ w rfl d f
  have l:=g _ (h.wok j a).1 (by rw [h.aft j a,i])
  refine⟨j,a,?_⟩
  rcases k with e|e
  ·exact e
  ·exact absurd e (zdg l)
theorem q33(o:MOk m){P':List BE}(h:Rch m s0 P)(h':Rch m s0 P'):P=P':=by
 have p:zra P=zra P':=zn0 zdm (fun _ _=>q0u) (znp h) (znp h') fun w=>by rw [zpi o h,zpi o h']
 have s:P.length=P'.length:=by have:=congrArg List.length p;simpa [zra] using this
 have d: ∀ j,j<P.length→(P.getD j default).wd=(P'.getD j default).wd:=fun j c=>by
  have:=congrArg (fun l:List (List Int)=>l.getD j default) p
  simp only [zra] at this
  rw [getD_map (X:=P) c,getD_map (X:=P') (by omega)] at this
  exact this
 have k: ∀ j,j<P.length→(P.getD j default).st=(P'.getD j default).st:=fun j c=>by
  have e:=h.aft j c
  have n:=h'.aft j (by omega)
  rw [d j c,n] at e
  omega
 refine z3c s fun j c=>?_
 by_cases h0:j=0
 ·subst h0;rw [h.root,h'.root]
 ·obtain⟨q,i,D,hi,e,n,t,_⟩:=h.par j (by omega) c
  obtain⟨q',i',hq',hi',h1',h2',h3',_⟩:=h'.par j (by omega) (by omega)
  have r:=d j c
  rw [t,h3'] at r
  obtain⟨u,v⟩:=List.append_inj' r rfl
  have z:i=i':=by
   have:(i:Int)=(i':Int):=by simpa using v
   omega
  subst z
  have A:(P.getD q default).st=(P'.getD q' default).st:=by
   have B:=h.aft q (by omega)
   have C:=h'.aft q' (by omega)
   rw [u,C] at B
   omega
  have a:=d j c
  have b:=k j c
  rw [A] at e
  have f:(P.getD j default).par=(P'.getD j default).par:=by rw [e,h1']
  have g:(P.getD j default).inp=(P'.getD j default).inp:=by rw [n,h2']
  generalize P.getD j default=x at a b f g⊢
  generalize P'.getD j default=y at a b f g⊢
  cases x;cases y
  simp only at a b f g
  rw [a,b,f,g]
end
/-! ### Homomorphisms-/
def hI(h:Nat→Nat)(z:Int):Int:=if z= -1 then-1 else(h z.toNat:Int)
theorem zq8(h:Nat→Nat):hI h (-1)= -1:=rfl
theorem zbx(h:Nat→Nat)(s:Nat):hI h (s:Int)=(h s:Int):=by unfold hI;rw [if_neg (by omega),Int.toNat_natCast]
structure Hom (m q:Mach) (h:Nat→Nat):Prop where
 ok:MOk m
 ok':MOk q
 inp:q.inputs=m.inputs
 rng: ∀ s,s<m.rows.length→h s<q.rows.length
 out: ∀ s i,s<m.rows.length→i<m.inputs.toNat→ou q (h s) i=ou m s i
 to: ∀ s i,s<m.rows.length→i<m.inputs.toNat→ed q (h s) i=hI h (ed m s i)
section
variable {m q : Mach} {h : Nat → Nat}
theorem Hom.run(H:Hom m q h): ∀ (w:List Int) {s:Nat},s<m.rows.length→WOk m.inputs w→z1p q (h s:Int) w=z1p m (s:Int) w∧z2s q (h s:Int) w=hI h (z2s m (s:Int) w)
 | [],s,a,_=>⟨rfl,(zbx h s).symm⟩
 |c::w,s,a,b=>by
  have d:0≤c∧c<m.inputs:=b 0 (by simp)
  obtain⟨i,rfl⟩:=Int.eq_ofNat_of_zero_le d.1
  have hi:i<m.inputs.toNat:=by omega
  have hw':WOk m.inputs w:=fun j f=>b (j+1) (by simpa using f)
  rw [z7q,z7q,zpj,zpj,H.out s i a hi,H.to s i a hi]
  rcases z8w H.ok a hi with e|⟨g,o⟩
  ·rw [e,zq8,zmi,zmi,zhx,zhx,zq8];exact⟨rfl,rfl⟩
  ·obtain⟨t,k⟩:=Int.eq_ofNat_of_zero_le g
   rw [k,zbx]
   obtain⟨l,n⟩:=H.run w (s:=t) (by omega) hw'
   rw [l,n];exact⟨rfl,rfl⟩
def q2g(h:Nat→Nat)(e:BE):BE:=⟨h e.st,hI h e.par,e.inp,e.wd⟩
def z2h(h:Nat→Nat)(P:List BE)(j:Nat):Nat:=h (P.getD j default).st
def zc6(h:Nat→Nat)(P:List BE):List BE:=(z8c (z2h h P) P.length).map fun j=>q2g h (P.getD j default)
theorem zto{P:List BE}:(zc6 h P).length=cntF (z2h h P) P.length:=by unfold zc6;rw [List.length_map,z6x]
theorem zrk{P:List BE}{c:Nat}(a:c<cntF (z2h h P) P.length):(zc6 h P).getD c default=q2g h (P.getD ((z8c (z2h h P) P.length).getD c 0) default):=by
 unfold zc6
 rw [List.getD_eq_getElem?_getD,List.getElem?_map]
 have:=(z6x (f:=z2h h P) P.length).symm▸a
 rw [List.getD_eq_getElem?_getD (l:=z8c _ _),List.getElem?_eq_getElem this]
 rfl
theorem zl7{P:List BE}{u:Nat}(a:u<P.length)(b:z2x (z2h h P) u=true):cntF (z2h h P) u<cntF (z2h h P) P.length∧(zc6 h P).getD (cntF (z2h h P) u) default=q2g h (P.getD u default):=by
 have c:=zaa (z2h h P) a b
 rw [zrk c,zmo a b]
 exact⟨c,rfl⟩
theorem q5n(H:Hom m q h){s0:Nat}(O:s0<m.rows.length){P:List BE}(a:Rch m s0 P):Rch q (h s0) (zc6 h P):=by
 have hm:=H.ok
 have hlen:=zto (h:=h) (P:=P)
 have cs: ∀ c,c<(zc6 h P).length→ ∃ u,u<P.length∧z2x (z2h h P) u=true∧cntF (z2h h P) u=c∧(zc6 h P).getD c default=q2g h (P.getD u default):=fun c k=>by
  rw [hlen] at k
  obtain⟨f,Q,R⟩:=z7o k
  exact⟨_,f,Q,R,zrk k⟩
 have hmono: ∀ u v,u<P.length→v<P.length→lle (P.getD u default).wd (P.getD v default).wd→u≤v:=fun u v b n g=>by
  rcases Nat.lt_or_ge v u with f|f
  ·exact absurd (a.inc v u f b) (zdg g)
  ·exact f
 have f0:z2x (z2h h P) 0=true:=z09.2 fun t K=>by omega
 have rng: ∀ c,c<(zc6 h P).length→((zc6 h P).getD c default).st<q.rows.length:=fun c k=>by
  obtain⟨u,b,_,_,e⟩:=cs c k
  rw [e];exact H.rng _ (a.rng u b)
 have dis: ∀ i j,i<(zc6 h P).length→j<(zc6 h P).length→((zc6 h P).getD i default).st=((zc6 h P).getD j default).st→i=j:=fun i j hi d e=>by
  obtain⟨u,b,fu,rfl,eu⟩:=cs i hi
  obtain⟨v,n,fv,rfl,ev⟩:=cs j d
  rw [eu,ev] at e
  have:z7x (z2h h P) u=z7x (z2h h P) v:=zn3 e
  rw [zcw fu,zcw fv] at this
  rw [this]
 refine⟨?_,?_,?_,rng,dis,fun j d=>?_,fun j S d=>?_,fun i j z d=>?_,fun c i k hi l=>?_⟩
 ·rw [hlen];have:=zaa (z2h h P) a.pos f0;omega
 ·have A:((zc6 h P).map (·.st)).Nodup:=by
   rw [List.nodup_iff_pairwise_ne,List.pairwise_iff_getElem]
   intro i j hi d z e
   rw [List.length_map] at hi d
   rw [List.getElem_map,List.getElem_map] at e
   have:=dis i j hi d (by simpa [List.getD_eq_getElem?_getD,d,hi] using e)
   omega
  have hsub:((zc6 h P).map (·.st))⊆List.range q.rows.length:=by
   intro x T
   obtain⟨e,U,rfl⟩:=List.mem_map.1 T
   obtain⟨j,d,rfl⟩:=List.mem_iff_getElem.1 U
   have:=rng j d
   rw [List.mem_range]
   simpa [List.getD_eq_getElem?_getD,d] using this
  have:=List.Nodup.length_le_of_subset A hsub
  simpa using this
 ·obtain⟨_,e⟩:=zl7 a.pos f0
  have V:(zc6 h P).getD 0 default=q2g h (P.getD 0 default):=e
  rw [V,a.root];rfl
 ·obtain⟨u,b,_,_,e⟩:=cs j d
  rw [e]
  show z2s q (h s0) (P.getD u default).wd=((h (P.getD u default).st:Nat):Int)
  rw [(H.run _ O (a.wok u b).1).2,a.aft u b,zbx]
 ·obtain⟨u,b,fu,k,e⟩:=cs j d
  have B:0<u:=by
   rcases Nat.eq_zero_or_pos u with o|o
   ·subst o;have:cntF (z2h h P) 0=0:=rfl;omega
   ·exact o
  obtain⟨r,i,W,hi,X,Y,L,M⟩:=a.par u B b
  have fr:z2x (z2h h P) r=true:=z09.2 fun t K C=>by
   have heq':h (P.getD t default).st=h (P.getD r default).st:=C
   have D:=a.inc t r K (by omega)
   have E:=a.rng t (by omega)
   have F:=a.rng r (by omega)
   have w:hI h (ed m (P.getD t default).st i)=((h (P.getD u default).st:Nat):Int):=by
    rw [←H.to _ _ E hi,heq',H.to _ _ F hi,M,zbx]
   have l:ed m (P.getD t default).st i≠ -1:=fun o=>by rw [o,zq8] at w;omega
   obtain⟨v,n,p,g⟩:=a.cls t i (by omega) hi l
   have y:llt (P.getD v default).wd (P.getD u default).wd:=by rw [L];exact zr7 g (zie _ _ D)
   have G:v<u:=by
    have:=hmono v u n b (.inr y)
    rcases Nat.lt_or_ge v u with f|f
    ·exact f
    ·have:v=u:=by omega
     subst this;exact absurd y (zdm _)
   refine z09.1 fu v G ?_
   show h (P.getD v default).st=h (P.getD u default).st
   rw [←p,zbx] at w
   omega
  obtain⟨N,s⟩:=zl7 (by omega) fr
  refine⟨cntF (z2h h P) r,i,by rw [←k];exact zaa _ W fr,by rw [H.inp];exact hi,?_,?_,?_,?_⟩
  ·rw [e,s];show hI h (P.getD u default).par=_;rw [X,zbx];rfl
  ·rw [e];exact Y
  ·rw [e,s];exact L
  ·rw [e,s]
   show ed q (h (P.getD r default).st) i=((h (P.getD u default).st:Nat):Int)
   rw [H.to _ _ (a.rng r (by omega)) hi,M,zbx]
 ·obtain⟨u,b,fu,I,eu⟩:=cs i (by omega)
  obtain⟨v,n,fv,Z,ev⟩:=cs j d
  rw [eu,ev]
  refine a.inc u v ?_ n
  rcases Nat.lt_or_ge u v with f|f
  ·exact f
  ·have:=zp2 (z2h h P) f;omega
 ·obtain⟨u,b,fu,I,eu⟩:=cs c k
  rw [H.inp] at hi
  rw [eu] at l⊢
  have J:=a.rng u b
  have w:ed q (h (P.getD u default).st) i=hI h (ed m (P.getD u default).st i):=H.to _ _ J hi
  have hne':ed m (P.getD u default).st i≠ -1:=fun o=>l (by show ed q (h (P.getD u default).st) i= -1;rw [w,o];rfl)
  obtain⟨v,n,p,g⟩:=a.cls u i b hi hne'
  obtain⟨r1,r2,r3⟩:=z4e (z2h h P) v
  have fr:=z8o (z2h h P) v
  obtain⟨N,s⟩:=zl7 (h:=h) (u:=z7x (z2h h P) v) (by omega) fr
  refine⟨_,by rw [hlen];exact N,?_,?_⟩
  ·rw [s]
   show ((h (P.getD (z7x (z2h h P) v) default).st:Nat):Int)=ed q (h (P.getD u default).st) i
   have r2':h (P.getD (z7x (z2h h P) v) default).st=h (P.getD v default).st:=r2
   rw [w,←p,zbx,r2']
  ·rw [s]
   show lle (P.getD (z7x (z2h h P) v) default).wd ((P.getD u default).wd++[(i:Int)])
   refine zfg ?_ g
   by_cases e:z7x (z2h h P) v=v
   ·rw [e];exact .inl rfl
   ·exact .inr (a.inc _ _ (by omega) n)
theorem q84(H:Hom m q h){s0:Nat}(a:s0<m.rows.length):rch q (h s0)=zc6 h (rch m s0):=
 q33 H.ok' (zji H.ok' (H.rng _ a)) (q5n H a (zji H.ok a))
end
/-! ### Machines with the same responses-/
def Red(m:Mach):Prop:= ∀ s t,s<m.rows.length→t<m.rows.length→(∀ w,WOk m.inputs w→z1p m (s:Int) w=z1p m (t:Int) w)→s=t
def SameR(a b:Mach):Prop:=a.inputs=b.inputs∧a.outputs=b.outputs∧ ∀ w,WOk a.inputs w→z1p a 0 w=z1p b 0 w
theorem SameR.symm{a b:Mach}(h:SameR a b):SameR b a:=⟨h.1.symm,h.2.1.symm,fun w c=>(h.2.2 w (by rw [h.1];exact c)).symm⟩
theorem SameR.trans{a b c:Mach}(h:SameR a b)(k:SameR b c):SameR a c:=⟨h.1.trans k.1,h.2.1.trans k.2.1,fun w d=>(h.2.2 w d).trans (k.2.2 w (by rw [←h.1];exact d))⟩
section
variable {a b : Mach}
end
/-! ### The quotient-/
def z7w(m:Mach):Mach:=⟨m.inputs,m.outputs,(z8c (cls m) m.rows.length).map fun u=>(m.rows.getD u default).map fun e=>⟨hI (cls m) e.to,e.out⟩⟩
def zbh(m:Mach):Mach:=qbf (z7w m)
section
variable {m : Mach}
theorem zio:(z7w m).rows.length=cntF (cls m) m.rows.length:=by unfold z7w;rw [List.length_map,z6x]
theorem zcg(s:Nat):name (cls m) s=cls m s:=zi2
theorem zge{s:Nat}(a:s<m.rows.length):cls m s<cntF (cls m) m.rows.length:=by rw [←zcg];exact q5x a
theorem zre{c:Nat}(a:c<cntF (cls m) m.rows.length):(z7w m).rows.getD c default=(m.rows.getD ((z8c (cls m) m.rows.length).getD c 0) default).map fun e=>⟨hI (cls m) e.to,e.out⟩:=by
 unfold z7w
 dsimp only
 have:=(z6x (f:=cls m) m.rows.length).symm▸a
 rw [List.getD_eq_getElem?_getD,List.getElem?_map,List.getD_eq_getElem?_getD (l:=z8c _ _),List.getElem?_eq_getElem this]
 rfl
theorem zrf(b:MOk m){c i:Nat}(a:c<cntF (cls m) m.rows.length)(hi:i<m.inputs.toNat):ed (z7w m) c i=hI (cls m) (ed m ((z8c (cls m) m.rows.length).getD c 0) i)∧ou (z7w m) c i=ou m ((z8c (cls m) m.rows.length).getD c 0) i:=by
 obtain⟨d,_,_⟩:=z7o a
 have e:=b.row _ d
 unfold ed ou
 rw [zre a,getD_map (by omega)]
 exact⟨rfl,rfl⟩
theorem zqj(e:MOk m){s:Nat}(a:s<m.rows.length):(z8c (cls m) m.rows.length).getD (cls m s) 0<m.rows.length∧cls m ((z8c (cls m) m.rows.length).getD (cls m s) 0)=cls m s:=by
 obtain⟨b,c,d⟩:=z7o (zge a)
 refine⟨b,?_⟩
 rw [←zcg,zah c,d]
theorem zeh(a:MOk m):MOk (z7w m):=by
 have e:=zio (m:=m)
 have k:=a.r1;have l:=a.r2;have n:=zcz (cls m) m.rows.length
 have o:=zge (m:=m) (s:=0) (by omega)
 refine⟨a.i1,a.i2,a.o1,a.o2,by omega,by omega,fun s b=>?_,fun s i b hi=>?_⟩
 ·rw [e] at b
  obtain⟨c,_,_⟩:=z7o b
  rw [zre b,List.length_map]
  exact a.row _ c
 ·rw [e] at b
  obtain⟨c,_,_⟩:=z7o b
  rw [zre b] at hi⊢
  rw [List.length_map] at hi
  rw [getD_map hi]
  have p:=a.row _ c
  rcases a.edge _ i c hi with⟨d,f⟩|⟨d,f,g,h⟩
  ·left;rw [d,f];exact⟨rfl,rfl⟩
  ·right
   obtain⟨t,j⟩:=Int.eq_ofNat_of_zero_le d
   rw [j,zbx]
   have:=zge (m:=m) (s:=t) (by omega)
   exact⟨by show (0:Int)≤(cls m t:Int);omega,by show ((cls m t:Nat):Int)<((z7w m).rows.length:Int);omega,g,h⟩
theorem zkt(b:MOk m):Hom m (z7w m) (cls m):=by
 refine⟨b,zeh b,rfl,fun s a=>by rw [zio];exact zge a,fun s i a hi=>?_,fun s i a hi=>?_⟩
 ·obtain⟨c,d⟩:=zqj b a
  rw [(zrf b (zge a) hi).2]
  exact(zne b c a d hi).1
 ·obtain⟨c,d⟩:=zqj b a
  obtain⟨j,f,h⟩:=zne b c a d hi
  rw [(zrf b (zge a) hi).1]
  unfold hI
  by_cases e:ed m s i= -1
  ·rw [if_pos e,if_pos (f.2 e)]
  ·have g:ed m ((z8c (cls m) m.rows.length).getD (cls m s) 0) i≠ -1:=fun k=>e (f.1 k)
   rw [if_neg e,if_neg g,h g]
theorem q6v(a:MOk m):Red (z7w m):=by
 intro c d g i h
 rw [zio] at g i
 obtain⟨b,j,k⟩:=z7o g
 obtain⟨e,l,n⟩:=z7o i
 generalize (z8c (cls m) m.rows.length).getD c 0=u at b j k
 generalize (z8c (cls m) m.rows.length).getD d 0=v at e l n
 have eu:cls m u=c:=by rw [←zcg,zah j,k]
 have ev:cls m v=d:=by rw [←zcg,zah l,n]
 rw [←eu,←ev]
 refine(zwy a b e).2 fun w f=>?_
 rw [←((zkt a).run w b f).1,←((zkt a).run w e f).1,eu,ev]
 exact h w f
theorem zry:cls m 0=0:=by rw [←zcg,zp7]
theorem zwq(a:MOk m):MOk (zbh m):=q6d (zeh a)
end
end GV
end Go.Proofs.Ytnnobdkjgafdmaa

namespace Go.Proofs.Ytnnobdkjgafdmaa
namespace GV
set_option maxRecDepth 100000
/-! ### Signatures-/
def sgL(m:Mach)(p:Nat→Nat)(s:Nat):List (Int×Int):=zdc m p s++List.replicate (16-m.inputs.toNat) (0,0)
theorem zc7{m:Mach}{p:Nat→Nat}{s:Nat}:(zdc m p s).length=m.inputs.toNat:=by simp [zdc]
theorem zqy{m:Mach}(a:MOk m){p:Nat→Nat}{s:Nat}:(sgL m p s).length=16:=by
 have:=a.i2
 unfold sgL
 rw [List.length_append,zc7,List.length_replicate];omega
theorem q27{m:Mach}{p:Nat→Nat}{s i:Nat}(hi:i<m.inputs.toNat):(zdc m p s).getD i default=(ou m s i,if ed m s i= -1 then-1 else(p (ed m s i).toNat:Int)):=by
 simp [zdc,List.getD_eq_getElem?_getD,hi]
structure PR (m:Mach) (p:List Int) (f:Nat→Nat):Prop where
 len:p.length=m.rows.length
 get: ∀ s,s<m.rows.length→p.getD s default=(f s:Int)
theorem qb9{m:Mach}(k:Nat):PR m (pL m k) (pkc m k):=⟨zqb k,fun s a=>zvp a⟩
theorem zna{α:Type}{X:List α}{n k:Nat}{z y:α}(a:X.length=k)(b:k<n):(X++List.replicate (n-k) z).set k y=(X++[y])++List.replicate (n-(k+1)) z:=q5j a b
theorem q6j{N:Nat}{m:Mach}(a:MOk m)(z:200≤N){p:List Int}{f:Nat→Nat}(j:PR m p f){s:Nat}(c:s<m.rows.length): ∃ X:Arr 16 (Int×Int),z8g N m p (s:Int)=some X∧X.1=sgL m f s:=by
 have n:=a.i1;have o:=a.i2;have q:=a.r2
 have hrow:=a.row s c
 obtain⟨X,r,e⟩: ∃ X:Arr 16 (Int×Int),ay N m p (s:Int) N 0 (lq 16 (List.replicate 16 (((0:Int),(0:Int)):(Int×Int))))=some X∧X.1=sgL m f s:=by
  refine z4v (σ:=Arr 16 (Int×Int)) (fun F k X=>ay N m p (s:Int) F (k:Int) X) m.inputs.toNat (fun k X=>X.1=(zdc m f s).take k++List.replicate (16-k) (0,0)) _ (fun F k X d hi=> .inr ?_) (fun F X hi=>?_) N 0 _ (Nat.zero_le _) (by omega) (by rw [zcp (by simp)];rfl)
  ·have g:X.1.length=16:=X.2
   have i:((zdc m f s).take k).length=k:=by rw [List.length_take,zc7];omega
   have hset: ∀ y,X.1.set k y=((zdc m f s).take k++[y])++List.replicate (16-(k+1)) (0,0):=fun y=>by rw [hi];exact zna i (by omega)
   have hnext:(zdc m f s).take (k+1)=(zdc m f s).take k++[(ou m s k,if ed m s k= -1 then-1 else(f (ed m s k).toNat:Int))]:=by
    rw [zgn _ k (by rw [zc7];exact d),q27 d]
   have t: ∀ Y:Arr 16 (Int×Int),Y=(if ed m s k= -1 then z0g X (k:Int) (ou m s k,-1) else z0g (z0g X (k:Int) (ou m s k,-1)) (k:Int) (((ix (z0g X (k:Int) (ou m s k,-1)).1 (k:Int)).1,(ix p (ed m s k)))))→
    ay N m p (s:Int) (F+1) (k:Int) X=ay N m p (s:Int) F ((k+1:Nat):Int) Y:=fun Y l=>by
    simp only [ay]
    rw [wu (show (k:Int)<((ix m.rows (s:Int)).length:Int) by rw [yn];omega)]
    refine(qc (x:=Y) ?_).trans (by rw [ze (qm (by omega))];rfl)
    rw [ze (show okI (ix m.rows (s:Int)) (k:Int) from qy (show k<(m.rows.getD s default).length by omega)),ze (qy (show k<X.1.length by omega))]
    show (bif decide (ed m s k≠ -1) then _ else _)=_
    by_cases hc:ed m s k= -1
    ·rw [um (fun h=>h hc),l,if_pos hc];rfl
    ·have b:=(z8w a c d).resolve_left hc
     have A:=j.len
     rw [wu hc,l,if_neg hc]
     refine(ze (show okI p (ed m s k) from⟨b.1,by omega⟩)).trans ?_
     refine(ze (show okI (z0g X (k:Int) (ou m s k,-1)).1 (k:Int) from qy (by rw [(z0g X (k:Int) (ou m s k,-1)).2];omega))).trans ?_
     rfl
   refine⟨_,?_,t _ rfl⟩
   by_cases hc:ed m s k= -1
   ·rw [if_pos hc,hnext,if_pos hc]
    exact hset _
   ·have b:=(z8w a c d).resolve_left hc
    rw [if_neg hc,hnext,if_neg hc]
    have u:(z0g X (k:Int) (ou m s k,-1)).1=X.1.set k (ou m s k,-1):=rfl
    have v:(ix (z0g X (k:Int) (ou m s k,-1)).1 (k:Int)).1=ou m s k:=by
     rw [u,yn]
     simp [List.getD_eq_getElem?_getD,g,show k<16 by omega]
    have w:ix p (ed m s k)=(f (ed m s k).toNat:Int):=j.get _ (by omega)
    rw [v,w]
    show ((X.1.set k (ou m s k,-1)).set k (ou m s k,(f (ed m s k).toNat:Int)))=_
    rw [List.set_set]
    exact hset _
  ·simp only [ay]
   rw [um (show¬((m.inputs.toNat:Nat):Int)<((ix m.rows (s:Int)).length:Int) by rw [yn];omega)]
   refine⟨X,rfl,?_⟩
   rw [hi,List.take_of_length_le (by rw [zc7];exact Nat.le_refl _)];rfl
 refine⟨X,?_,e⟩
 unfold z8g
 rw [ze (qy c),qc r]
/-! ### A round-/
def zgd(m:Mach)(f:Nat→Nat)(s:Nat):Sd:=⟨(f s:Int),lq 16 (sgL m f s)⟩
theorem q2x{m:Mach}(a:MOk m){f:Nat→Nat}{s t:Nat}:zgd m f s=zgd m f t↔zqz m f s=zqz m f t:=by
 unfold zgd zqz
 rw [Sd.mk.injEq,Prod.mk.injEq]
 refine and_congr (by omega) ?_
 constructor
 ·intro h
  have b:=congrArg Subtype.val h
  rw [zcp (zqy a),zcp (zqy a)] at b
  exact(List.append_inj b (by rw [zc7,zc7])).1
 ·intro h
  unfold sgL
  rw [h]
theorem zva{N:Nat}{m:Mach}(d:MOk m)(o:200≤N){p:List Int}{f:Nat→Nat}(i:PR m p f):z5j N m p=some (q0x (zqz m f) m.rows.length):=by
 have q:=d.r2;have r:=i.len
 have u:ak N m p N 0 ([]:List (Sd×Int)) (mk (p.length:Int) (0:Int))=some (q0x (zgd m f) m.rows.length):=by
  refine ru (σ:=List (Sd×Int)×List Int) (fun F k st=>ak N m p F (k:Int) st.1 st.2) m.rows.length
   (fun k st=>st.1=nmM (zgd m f) k∧st.2=(List.range k).map (fun s=>(name (zgd m f) s:Int))++List.replicate (m.rows.length-k) 0) _ (fun F k st j hi=> .inr ?_) (fun F st hi=>?_) N 0 ([],mk (p.length:Int) (0:Int)) (Nat.zero_le _) (by omega) ⟨rfl,by rw [r,zdp];simp⟩
  ·obtain⟨M,X⟩:=st
   obtain⟨e,a⟩:=hi
   dsimp only at e a⊢
   subst e;subst a
   obtain⟨A,v,l⟩:=q6j (N:=N) d o i j
   have n:A=lq 16 (sgL m f k):=Subtype.ext (by rw [l,zcp (zqy d)])
   have hkey:(⟨ix p (k:Int),A⟩:Sd)=zgd m f k:=by unfold zgd;rw [n,yn,i.get k j]
   have c:((List.range k).map (fun s=>(name (zgd m f) s:Int))).length=k:=by simp
   refine⟨(nmM (zgd m f) (k+1),(List.range (k+1)).map (fun s=>(name (zgd m f) s:Int))++List.replicate (m.rows.length-(k+1)) 0),⟨rfl,rfl⟩,?_⟩
   simp only [ak]
   rw [wu (by omega),ze (qy (by omega)),qc v,hkey]
   refine(qc (x:=nmM (zgd m f) (k+1)) ?_).trans ?_
   ·cases h:z8d (nmM (zgd m f) k) (zgd m f k)
    ·exact(ct (b:= !false) rfl).trans (by rw [q6a _ h])
    ·exact(cf (b:= !true) rfl).trans (by rw [q6c _ h])
   ·rw [ze (qy (by rw [List.length_append,c,List.length_replicate];omega)),ze (qm (by omega)),zxt _ _ (Nat.lt_succ_self k),z5o,zna c j,z9e]
    rfl
  ·obtain⟨M,X⟩:=st
   obtain⟨e,a⟩:=hi
   dsimp only at e a⊢
   subst a
   simp only [ak]
   rw [um (by omega),Nat.sub_self,List.replicate_zero,List.append_nil];rfl
 unfold z5j
 rw [ze ⟨by omega,by omega,by omega⟩,qc u,zwm (f:=zgd m f) (g:=zqz m f) fun s t _ _=>q2x d]
theorem zz8{N:Nat}{a b:List Int}(f:a.length<N)(g:a.length≤4611686018427387904):slices_Equal_int N a b=some (decide (a=b)):=by
 unfold slices_Equal_int
 by_cases h:(a.length:Int)≠b.length
 ·rw [wu h,decide_eq_false (fun e=>h (by rw [e]))]
 ·rw [um h]
  have hl':a.length=b.length:=by omega
  have c:oz N a b N 0=some (if a=b then Ex.go () else Ex.rt false):=by
   refine ru (σ:=Unit) (fun F k _=>oz N a b F (k:Int)) a.length (fun k _=> ∀ j,j<k→a.getD j default=b.getD j default) _ (fun F k _ d hi=>?_) (fun F _ hi=>?_) N 0 () (Nat.zero_le _) (by omega) (fun j i=>by omega)
   ·simp only [oz]
    rw [wu (by omega),ze (qy d),ze (qy (by omega)),yn,yn]
    by_cases he:a.getD k default=b.getD k default
    ·right
     refine⟨(),q4d hi he,Eq.trans (um (fun h=>h he)) ?_⟩
     rw [ze (qm (by omega))];rfl
    ·left
     refine Eq.trans (wu he) ?_
     rw [if_neg (fun e=>he (by rw [e]))]
   ·simp only [oz]
    rw [um (by omega),if_pos (z3c hl' hi)]
  rw [qc c]
  by_cases he:a=b
  ·rw [if_pos he,decide_eq_true he];rfl
  ·rw [if_neg he,decide_eq_false he];rfl
theorem zkf{N:Nat}{m:Mach}(f:MOk m)(n:200≤N){a:Nat}(b:zjg m a)(hmin: ∀ i,i<a→ ¬zjg m i)(g:a<m.rows.length): ∀ (d j F:Nat) (l:List Int),j+d=a→d<F→
 z00 N ((List Int)×Int) (fun k c=>gd (in64 (c.2+1))<|some (true,(k,c.2+1))) m F (l,(j:Int)-1) (pL m j)=some (pL m a,(a:Int))
 |d,j,0,l,_,hF=>by omega
 |d,j,F+1,l,r,hF=>by
  have p:=f.r2
  have q:(j:Int)-1+1=j:=by omega
  simp only [z00]
  rw [ze (qm (by omega)),zg4,q,ct rfl,qc (zva f n (qb9 j)),←q6w,qc (zz8 (by rw [zqb];omega) (by rw [zqb];omega))]
  by_cases h:zjg m j
  ·have:j=a:=by
    rcases Nat.lt_or_ge j a with o|o
    ·exact absurd h (hmin j o)
    ·omega
   subst this
   rw [wu ((zth j).2 h).symm]
  ·have s:d≠0:=fun e=>by
    have:j=a:=by omega
    rw [this] at h;exact h b
   rw [um (fun e=>h ((zth j).1 e.symm))]
   have:=zkf f n b hmin g (d-1) (j+1) F (pL m j) (by omega) (by omega)
   rw [show (((j+1:Nat):Int)-1)=(j:Int) by omega] at this
   exact this
theorem zvd{N:Nat}{m:Mach}(a:MOk m)(c:200≤N): ∃ j:Nat,z5h N m=some (z8s m,(j:Int),0):=by
 have e:=a.r1;have f:=a.r2
 obtain⟨b,g,d,h⟩:=zyn a
 refine⟨b,?_⟩
 have key:=zkf (N:=N) a c d h g b 0 N [] (by omega) (by omega)
 have i:pL m 0=mk (m.rows.length:Int) (0:Int):=by
  unfold pL
  rw [zdp]
  show (List.range m.rows.length).map (fun _=>((0:Nat):Int))=_
  rw [List.map_const',List.length_range];rfl
 unfold z5h
 rw [qc (q9o a c),um (by simp),qc (show z8b N m=some m from rfl)]
 refine(qc (x:=(pL m b,(b:Int))) ?_).trans ?_
 ·unfold z6i
  rw [ze ⟨by omega,by omega,by omega⟩,←i]
  exact key
 ·rw [show z8s m=pL m b from q5v a d (by omega)]
/-! ### The reference-/
def apB(m:Mach)(k s t i:Nat):Bool:=decide (ou m s i≠ou m t i)||(((decide (0≤ed m s i))&&(decide (0≤ed m t i)))&&decide (pkc m k (ed m s i).toNat≠pkc m k (ed m t i).toNat))
def z97(m:Mach)(k s:Nat):List Bool:=(List.range m.rows.length).map fun t=>decide (pkc m k s≠pkc m k t)
def z5x(m:Mach)(k:Nat):List (List Bool):=(List.range m.rows.length).map (z97 m k)
section ref
variable {N : Nat} {m : Mach}
theorem zez(k:Nat):(z5x m k).length=m.rows.length:=by simp [z5x]
theorem zce(k s:Nat):(z97 m k s).length=m.rows.length:=by simp [z97]
theorem zhq{k s:Nat}(a:s<m.rows.length):(z5x m k).getD s default=z97 m k s:=by simp [z5x,List.getD_eq_getElem?_getD,a]
theorem zi1{k s t:Nat}(a:t<m.rows.length):(z97 m k s).getD t default=decide (pkc m k s≠pkc m k t):=by simp [z97,List.getD_eq_getElem?_getD,a]
theorem apart_eq(a:MOk m)(A:200≤N){k s t:Nat}(c:s<m.rows.length)(d:t<m.rows.length):z2e N m (z5x m k) (s:Int) (t:Int)=some (if((List.range m.inputs.toNat).any (apB m k s t))=true then 1 else 0):=by
 have q:=a.i1;have r:=a.i2
 have u:=a.row s c;have v:=a.row t d
 have w:yj N m (z5x m k) (s:Int) (t:Int) N 0=some (if((List.range m.inputs.toNat).any (apB m k s t))=true then Ex.rt 1 else Ex.go ()):=by
  refine ru (σ:=Unit) (fun F i _=>yj N m (z5x m k) (s:Int) (t:Int) F (i:Int)) m.inputs.toNat (fun i _=> ∀ j,j<i→apB m k s t j=false) _ (fun F i _ hi f=>?_) (fun F _ f=>?_) N 0 () (Nat.zero_le _) (by omega) (fun j g=>by omega)
  ·have x:=z8w a c hi
   have y:=z8w a d hi
   have hbody:(yj N m (z5x m k) (s:Int) (t:Int) (F+1) (i:Int))=bif apB m k s t i then some (Ex.rt 1) else yj N m (z5x m k) (s:Int) (t:Int) F ((i+1:Nat):Int):=by
    simp only [yj]
    rw [wu (by omega),ze (qy c),ze (show okI (ix m.rows (s:Int)) (i:Int) from qy (show i<(m.rows.getD s default).length by omega)),ze (qy d),ze (show okI (ix m.rows (t:Int)) (i:Int) from qy (show i<(m.rows.getD t default).length by omega))]
    have n: ∀ {p:Prop},(0≤ed m s i→0≤ed m t i→p)→(((true&&((decide (ou m s i≠ou m t i))==false))&&(((decide (0≤ed m s i))&&(decide (0≤ed m t i)))==true))=true→p):=fun h e=>by
     simp only [Bool.and_eq_true,beq_iff_eq,decide_eq_true_eq] at e
     exact h e.2.1 e.2.2
    refine(ze (n fun l o=>?_)).trans ?_
    ·exact⟨l,by show ed m s i<_;rw [zez];omega⟩
    refine(ze (n fun l o=>?_)).trans ?_
    ·have e:ix (z5x m k) (ed m s i)=z97 m k (ed m s i).toNat:=zhq (by omega)
     show okI (ix (z5x m k) (ed m s i)) (ed m t i)
     rw [e]
     exact⟨o,by rw [zce];omega⟩
    show (bif (decide (ou m s i≠ou m t i))||(((decide (0≤ed m s i))&&(decide (0≤ed m t i)))&&(ix (ix (z5x m k) (ed m s i)) (ed m t i))) then _ else _)=_
    have b:((decide (ou m s i≠ou m t i))||(((decide (0≤ed m s i))&&(decide (0≤ed m t i)))&&(ix (ix (z5x m k) (ed m s i)) (ed m t i))))=apB m k s t i:=by
     unfold apB
     by_cases l:0≤ed m s i∧0≤ed m t i
     ·have e:ix (z5x m k) (ed m s i)=z97 m k (ed m s i).toNat:=zhq (by omega)
      have z:ix (z97 m k (ed m s i).toNat) (ed m t i)=decide (pkc m k (ed m s i).toNat≠pkc m k (ed m t i).toNat):=zi1 (by omega)
      rw [e,z]
     ·have:((decide (0≤ed m s i))&&(decide (0≤ed m t i)))=false:=by
       rw [Bool.and_eq_false_iff,decide_eq_false_iff_not,decide_eq_false_iff_not];omega
      rw [this,Bool.false_and,Bool.false_and]
    rw [b]
    cases apB m k s t i
    ·rw [cf rfl,cf rfl,ze (qm (by omega))];rfl
    ·rw [ct rfl,ct rfl]
   rw [hbody]
   cases b:apB m k s t i
   ·right
    refine⟨(),fun j g=>?_,rfl⟩
    by_cases e:j=i
    ·rw [e];exact b
    ·exact f j (by omega)
   ·left
    rw [ct rfl,if_pos (List.any_eq_true.2 ⟨i,List.mem_range.2 hi,b⟩)]
  ·simp only [yj]
   rw [um (by omega),if_neg]
   rw [Bool.not_eq_true,List.any_eq_false]
   intro j g
   rw [f j (List.mem_range.1 g)];decide
 unfold z2e
 rw [qc w]
 split<;>rfl
theorem zvn(c:MOk m){k s t:Nat}(e:s<m.rows.length)(f:t<m.rows.length):(decide (pkc m k s≠pkc m k t)||(List.range m.inputs.toNat).any (apB m k s t))=decide (pkc m (k+1) s≠pkc m (k+1) t):=by
 rw [Bool.eq_iff_iff,Bool.or_eq_true,decide_eq_true_eq,decide_eq_true_eq,List.any_eq_true,ne_eq,ne_eq,zmh c e f]
 constructor
 ·rintro(h|⟨i,hi,h⟩) ⟨b,g⟩
  ·exact h b
  ·have hi':=List.mem_range.1 hi
   obtain⟨j,l⟩:=g i hi'
   unfold apB at h
   rw [Bool.or_eq_true,Bool.and_eq_true,Bool.and_eq_true,decide_eq_true_eq,decide_eq_true_eq,decide_eq_true_eq,decide_eq_true_eq] at h
   rcases h with h|⟨⟨n,o⟩,p⟩
   ·exact h j
   ·exact p (l (by omega) (by omega))
 ·intro h
  by_cases b:pkc m k s=pkc m k t
  ·right
   refine Classical.byContradiction fun q=>h ⟨b,fun i hi=>?_⟩
   have a:apB m k s t i≠true:=fun r=>q ⟨i,List.mem_range.2 hi,r⟩
   unfold apB at a
   rw [ne_eq,Bool.or_eq_true,Bool.and_eq_true,Bool.and_eq_true,decide_eq_true_eq,decide_eq_true_eq,decide_eq_true_eq,decide_eq_true_eq] at a
   have u:=z8w c e hi
   have v:=z8w c f hi
   refine⟨Classical.byContradiction fun d=>a (.inl d),fun n o=>Classical.byContradiction fun d=>a (.inr ⟨⟨by omega,by omega⟩,d⟩)⟩
  ·exact .inl b
theorem q42:z5x m 0=List.replicate m.rows.length (List.replicate m.rows.length false):=by
 unfold z5x z97
 show (List.range m.rows.length).map (fun s=>(List.range m.rows.length).map fun t=>decide ((0:Nat)≠0))=_
 rw [show decide ((0:Nat)≠0)=false from rfl,List.map_const',List.map_const',List.length_range]
theorem zvx(d:MOk m)(g:200≤N){k s:Nat}(c:s<m.rows.length){Y:List (List Bool)}(e:Y.length=s):gu N m (z5x m k) (s:Int) N 0 (Y++[mk (m.rows.length:Int) false])=some (Y++[z97 m (k+1) s]):=by
 have h:=d.r2
 refine ru (σ:=List (List Bool)) (fun F t st=>gu N m (z5x m k) (s:Int) F (t:Int) st) m.rows.length (fun t st=>st=Y++[(z97 m (k+1) s).take t++List.replicate (m.rows.length-t) false]) _ (fun F t st a hi=> .inr ?_) (fun F st hi=>?_) N 0 _ (Nat.zero_le _) (by omega) (by rw [zdp];rfl)
 ·subst hi
  have b:((z97 m (k+1) s).take t).length=t:=by rw [List.length_take,zce];omega
  have hget:(Y++[(z97 m (k+1) s).take t++List.replicate (m.rows.length-t) false]).getD s default=(z97 m (k+1) s).take t++List.replicate (m.rows.length-t) false:=by
   rw [List.getD_eq_getElem?_getD,←e,List.getElem?_concat_length];rfl
  have f:((z97 m (k+1) s).take t++List.replicate (m.rows.length-t) false).length=m.rows.length:=by rw [List.length_append,b,List.length_replicate];omega
  refine⟨_,rfl,?_⟩
  simp only [gu]
  rw [wu (by omega),ze (qy (by rw [List.length_append,e];simp)),ze (qy (by rw [zez];exact c))]
  have i:ix (z5x m k) (s:Int)=z97 m k s:=zhq c
  have j:ix (z97 m k s) (t:Int)=decide (pkc m k s≠pkc m k t):=zi1 a
  rw [i,ze (qy (by rw [zce];exact a)),j]
  refine(zn5 (fun _=>apart_eq d g c a)).trans ?_
  have l:ix (Y++[(z97 m (k+1) s).take t++List.replicate (m.rows.length-t) false]) (s:Int)=_:=hget
  rw [l,ze (qy (by rw [f];exact a)),ze (qm (by omega))]
  have hval:(decide (pkc m k s≠pkc m k t)||(decide (((bif (true&&(decide (pkc m k s≠pkc m k t)==false)) then some (if((List.range m.inputs.toNat).any (apB m k s t))=true then(1:Int) else 0) else none).getD default)=1)))=decide (pkc m (k+1) s≠pkc m (k+1) t):=by
   rw [←zvn d c a]
   cases decide (pkc m k s≠pkc m k t)
   ·cases (List.range m.inputs.toNat).any (apB m k s t)<;>rfl
   ·rfl
  rw [hval,z5o,z5o,zna b a]
  have hnext:(z97 m (k+1) s).take (t+1)=(z97 m (k+1) s).take t++[decide (pkc m (k+1) s≠pkc m (k+1) t)]:=by
   rw [zgn _ t (by rw [zce];exact a),zi1 a]
  rw [hnext]
  have hset: ∀ z,(Y++[(z97 m (k+1) s).take t++List.replicate (m.rows.length-t) false]).set s z=Y++[z]:=fun z=>by
   rw [List.set_append_right _ _ (by omega),e,Nat.sub_self];rfl
  rw [hset]
  rfl
 ·subst hi
  simp only [gu]
  rw [um (by omega),Nat.sub_self,List.replicate_zero,List.append_nil,List.take_of_length_le (by rw [zce];exact Nat.le_refl _)]
theorem q0a(a:MOk m)(c:200≤N){k:Nat}(h:k≤100):z0j N m (k:Int)=some (z5x m k):=by
 have d:=a.r2
 have e:xz N m N ([]:List (List Bool)) 0=some (z5x m 0):=by
  refine ru (σ:=List (List Bool)) (fun F s st=>xz N m F st (s:Int)) m.rows.length (fun s st=>st=List.replicate s (List.replicate m.rows.length false)) _ (fun F s st b hi=> .inr ?_) (fun F st hi=>?_) N 0 [] (Nat.zero_le _) (by omega) rfl
  ·subst hi
   refine⟨_,rfl,?_⟩
   simp only [xz]
   rw [wu (by omega),ze ⟨by omega,by omega,by omega⟩,ze ⟨by simp;omega,by simp;omega⟩,ze (qm (by omega)),zdp,List.replicate_succ'];rfl
  ·subst hi
   simp only [xz]
   rw [um (by omega),q42]
 have f:xy N m (k:Int) N (z5x m 0) 0=some (z5x m k):=by
  refine ru (σ:=List (List Bool)) (fun F j st=>xy N m (k:Int) F st (j:Int)) k (fun j st=>st=z5x m j) _ (fun F j st i hi=> .inr ?_) (fun F st hi=>?_) N 0 _ (Nat.zero_le _) (by omega) rfl
  ·subst hi
   refine⟨_,rfl,?_⟩
   have g:xx N m (z5x m j) N ([]:List (List Bool)) 0=some (z5x m (j+1)):=by
    refine ru (σ:=List (List Bool)) (fun F s st=>xx N m (z5x m j) F st (s:Int)) m.rows.length (fun s st=>st=(List.range s).map (z97 m (j+1))) _ (fun F s st b hi=> .inr ?_) (fun F st hi=>?_) N 0 [] (Nat.zero_le _) (by omega) rfl
    ·subst hi
     refine⟨_,rfl,?_⟩
     simp only [xx]
     rw [wu (by omega)]
     refine(qc (x:=(List.range s).map (z97 m (j+1))++[z97 m (j+1) s]) ?_).trans ?_
     ·rw [ze ⟨by omega,by omega,by omega⟩,ze ⟨by simp;omega,by simp;omega⟩]
      exact zvx a c b (by simp)
     ·rw [ze (qm (by omega)),z9e];rfl
    ·subst hi
     simp only [xx]
     rw [um (by omega)];rfl
   simp only [xy]
   rw [wu (by omega),qc g,ze (qm (by omega))];rfl
  ·subst hi
   simp only [xy]
   rw [um (by omega)]
 unfold z0j
 rw [qc e,qc f]
theorem zpu(r:MOk m)(I:200≤N)(k:Nat):fw N (z5x m k)=some (pL m k):=by
 have w:=r.r2
 have hname: ∀ s,name (pkc m k) s=pkc m k s:=fun s=>zi2
 have o: ∀ s,s<m.rows.length→ ∃ v,uo N (z5x m k) ((List.range s).map fun u=>(pkc m k u:Int)) (s:Int) N (-1) 0=some v∧((v= -1∧z2x (pkc m k) s=true)∨(v=(pkc m k s:Int)∧z2x (pkc m k) s=false)):=fun s i=>by
  refine z4v (σ:=Int) (fun F t v=>uo N (z5x m k) ((List.range s).map fun u=>(pkc m k u:Int)) (s:Int) F v (t:Int)) s (fun t v=>(v= -1∧ ∀ u,u<t→pkc m k u≠pkc m k s)∨(v=(pkc m k s:Int)∧ ∃ u,u<t∧pkc m k u=pkc m k s)) _ (fun F t v z hi=> .inr ?_) (fun F v hi=>?_) N 0 (-1) (Nat.zero_le _) (by omega) (.inl ⟨rfl,fun u j=>by omega⟩)
  ·have A:ix (z5x m k) (s:Int)=z97 m k s:=zhq i
   have B:ix (z97 m k s) (t:Int)=decide (pkc m k s≠pkc m k t):=zi1 (by omega)
   have C:ix ((List.range s).map fun u=>(pkc m k u:Int)) (t:Int)=(pkc m k t:Int):=by rw [yn];simp [List.getD_eq_getElem?_getD,z]
   have D: ∀ y,y=(if pkc m k s=pkc m k t then(pkc m k t:Int) else v)→uo N (z5x m k) ((List.range s).map fun u=>(pkc m k u:Int)) (s:Int) (F+1) v (t:Int)=uo N (z5x m k) ((List.range s).map fun u=>(pkc m k u:Int)) (s:Int) F y ((t+1:Nat):Int):=fun y q=>by
    simp only [uo]
    rw [wu (by omega)]
    refine(qc (x:=y) ?_).trans (by rw [ze (qm (by omega))];rfl)
    rw [ze (qy (by rw [zez];exact i)),A,ze (qy (by rw [zce];omega)),B]
    by_cases a:pkc m k s=pkc m k t
    ·rw [decide_eq_false (fun h=>h a)]
     refine(ct (b:= !false) rfl).trans ?_
     rw [ze (qy (by simp;omega)),C,q,if_pos a]
    ·rw [decide_eq_true a]
     refine(cf (b:= !true) rfl).trans ?_
     rw [q,if_neg a]
   refine⟨_,?_,D _ rfl⟩
   by_cases a:pkc m k s=pkc m k t
   ·rw [if_pos a];exact .inr ⟨by rw [a],t,by omega,a.symm⟩
   ·rw [if_neg a]
    rcases hi with⟨d,f⟩|⟨d,u,j,f⟩
    ·refine .inl ⟨d,fun u j=>?_⟩
     by_cases e:u=t
     ·subst e;exact fun h=>a h.symm
     ·exact f u (by omega)
    ·exact .inr ⟨d,u,by omega,f⟩
  ·simp only [uo]
   rw [um (by omega)]
   refine⟨v,rfl,?_⟩
   rcases hi with⟨d,f⟩|⟨d,u,j,f⟩
   ·exact .inl ⟨d,z09.2 f⟩
   ·refine .inr ⟨d,?_⟩
    rw [←Bool.not_eq_true,z09]
    exact fun h=>h u j f
 have E:yl N (z5x m k) N ([]:List Int) 0 0=some (pL m k):=by
  refine ru (σ:=List Int×Int) (fun F s st=>yl N (z5x m k) F st.1 st.2 (s:Int)) m.rows.length (fun s st=>st.1=((List.range s).map fun u=>(pkc m k u:Int))∧st.2=(cntF (pkc m k) s:Int)) _ (fun F s st i hi=> .inr ?_) (fun F st hi=>?_) N 0 ([],0) (Nat.zero_le _) (by omega) ⟨rfl,rfl⟩
  ·obtain⟨l,c⟩:=st
   obtain⟨g,a⟩:=hi
   dsimp only at g a⊢
   subst g;subst a
   obtain⟨v,G,p⟩:=o s i
   have H:=zcz (pkc m k) s
   have hstep:cntF (pkc m k) (s+1)=cntF (pkc m k) s+if z2x (pkc m k) s=true then 1 else 0:=rfl
   refine⟨((List.range (s+1)).map fun u=>(pkc m k u:Int),(cntF (pkc m k) (s+1):Int)),⟨rfl,rfl⟩,?_⟩
   simp only [yl]
   rw [wu (by rw [zez];omega),qc G]
   refine(qc (x:=((cntF (pkc m k) (s+1):Int),(pkc m k s:Int))) ?_).trans ?_
   ·rcases p with⟨rfl,n⟩|⟨rfl,n⟩
    ·rw [n,if_pos rfl] at hstep
     rw [wu (by decide),ze (qm (by omega)),hstep,←hname s,zah n];rfl
    ·rw [n,if_neg (by decide)] at hstep
     rw [um (by omega),hstep];rfl
   ·rw [ze ⟨by simp;omega,by simp;omega⟩,ze (qm (by omega)),z9e];rfl
  ·obtain⟨l,c⟩:=st
   obtain⟨g,a⟩:=hi
   dsimp only at g a⊢
   subst g
   simp only [yl]
   rw [um (by rw [zez];omega)];rfl
 unfold fw
 rw [qc E]
theorem zkb(a:MOk m)(c:200≤N):z05 N m=some (z8s m):=by
 have d:=a.r2
 unfold z05 z4g
 rw [qc (show (bd (z0j N m (m.rows.length:Int)) fun e=>bd (fw N e) fun b=>some b)=some (z8s m) from by rw [qc (q0a a c (by omega)),qc (zpu a c _)];rfl)]
end ref
end GV
end Go.Proofs.Ytnnobdkjgafdmaa
