import Derived.Test.YtplgbkaollfmkaaBfs06
import Derived.Test.YtplgbkaollfmkaaNames
set_option linter.unusedVariables false
set_option linter.unusedSimpArgs false
namespace Go.Proofs.Ytplgbkaollfmkaa
namespace GV
def ou(m:Mach)(s i:Nat):Int:=((m.rows.getD s default).getD i default).out
def zbx(m:Mach)(p:Nat→Nat)(s:Nat):List (Int×Int):=(List.range m.inputs.toNat).map fun i=>(ou m s i,if ed m s i= -1 then-1 else(p (ed m s i).toNat:Int))
def znu(m:Mach)(p:Nat→Nat)(s:Nat):Nat×List (Int×Int):=(p s,zbx m p s)
def pkc(m:Mach):Nat→Nat→Nat
 |0=>fun _=>0
 |k+1=>fun s=>name (znu m (pkc m k)) s
def pL(m:Mach)(k:Nat):List Int:=(List.range m.rows.length).map fun s=>(pkc m k s:Int)
section
variable {m : Mach}
theorem zni(k:Nat):(pL m k).length=m.rows.length:=by simp [pL]
theorem zrr{k s:Nat}(h:s<m.rows.length):(pL m k).getD s default=(pkc m k s:Int):=by simp [pL,List.getD_eq_getElem?_getD,h]
theorem zzk(k:Nat):pL m (k+1)=zus (znu m (pkc m k)) m.rows.length:=rfl
theorem zzo{p:Nat→Nat}{s t:Nat}:zbx m p s=zbx m p t↔ ∀ i,i<m.inputs.toNat→ou m s i=ou m t i∧(if ed m s i= -1 then-1 else(p (ed m s i).toNat:Int))=(if ed m t i= -1 then-1 else(p (ed m t i).toNat:Int)):=by
 unfold zbx
 rw [List.map_inj_left]
 constructor
 ·intro h i hi
  have:=h i (List.mem_range.2 hi)
  exact⟨congrArg Prod.fst this,congrArg Prod.snd this⟩
 ·intro h i hi
  obtain⟨a,b⟩:=h i (List.mem_range.1 hi)
  exact Prod.ext a b
theorem zto(a:MOk m){s i:Nat}(b:s<m.rows.length)(hi:i<m.inputs.toNat):(ed m s i= -1↔ou m s i= -1)∧ -1≤ou m s i∧ou m s i<16:=by
 have c:=a.row s b
 have d:=a.o2
 rcases a.edge s i b (by omega) with h|h
 ·exact⟨⟨fun _=>h.2,fun _=>h.1⟩,by show-1≤((m.rows.getD s default).getD i default).out;omega,by show ((m.rows.getD s default).getD i default).out<16;omega⟩
 ·refine⟨⟨fun e=>?_,fun e=>?_⟩,?_,?_⟩
  ·have:((m.rows.getD s default).getD i default).to= -1:=e
   omega
  ·have:((m.rows.getD s default).getD i default).out= -1:=e
   omega
  ·show-1≤((m.rows.getD s default).getD i default).out;omega
  ·show ((m.rows.getD s default).getD i default).out<16;omega
theorem zp0{k s t:Nat}:pkc m (k+1) s=pkc m (k+1) t↔pkc m k s=pkc m k t∧zbx m (pkc m k) s=zbx m (pkc m k) t:=by
 show name _ s=name _ t↔_
 rw [zgs]
 unfold znu
 rw [Prod.mk.injEq]
theorem zp3(b:MOk m){k s t:Nat}(g:s<m.rows.length)(j:t<m.rows.length):pkc m (k+1) s=pkc m (k+1) t↔pkc m k s=pkc m k t∧ ∀ i,i<m.inputs.toNat→ou m s i=ou m t i∧(ed m s i≠ -1→ed m t i≠ -1→pkc m k (ed m s i).toNat=pkc m k (ed m t i).toNat):=by
 rw [zp0,zzo]
 refine and_congr_right fun _=>forall_congr' fun i=>forall_congr' fun hi=>?_
 refine and_congr_right fun c=>?_
 have d:=(zto b g hi).1
 have f:=(zto b j hi).1
 by_cases e:ed m s i= -1
 ·have a:ed m t i= -1:=f.2 (by rw [←c];exact d.1 e)
  rw [if_pos e,if_pos a]
  exact⟨fun _ h=>absurd e h,fun _=>rfl⟩
 ·have a:ed m t i≠ -1:=fun a=>e (d.2 (by rw [c];exact f.1 a))
  rw [if_neg e,if_neg a]
  exact⟨fun h _ _=>Int.ofNat.inj h,fun h=>congrArg Int.ofNat (h e a)⟩
theorem zfx{k s t:Nat}(h:pkc m (k+1) s=pkc m (k+1) t):pkc m k s=pkc m k t:=(zp0.1 h).1
def zhn(m:Mach)(k:Nat):Prop:= ∀ s t,s<m.rows.length→t<m.rows.length→pkc m k s=pkc m k t→pkc m (k+1) s=pkc m (k+1) t
theorem zfo{k s:Nat}:name (pkc m k) s=pkc m k s:=by
 cases k with
 |zero=>
  show name (fun _:Nat=>(0:Nat)) s=0
  rw [show name (fun _:Nat=>(0:Nat)) s=name (fun _:Nat=>(0:Nat)) 0 from zgs.2 rfl,zm0]
 |succ k=>exact zbo (n:=s+1) (fun a b _ _=>by show name _ a=name _ b↔_;exact zgs) (Nat.lt_succ_self s)
theorem zmx{k:Nat}(h:zhn m k){s:Nat}(c:s<m.rows.length):pkc m (k+1) s=pkc m k s:=by
 rw [←zfo (k:=k+1),←zfo (k:=k)]
 exact zbo (n:=m.rows.length) (fun a b d e=>⟨zfx,h a b d e⟩) c
theorem zqk(k:Nat):pL m (k+1)=pL m k↔zhn m k:=by
 constructor
 ·intro h s t a c e
  have b: ∀ s,s<m.rows.length→pkc m (k+1) s=pkc m k s:=fun s a=>by
   have:=congrArg (fun l:List Int=>l.getD s default) h
   simp only [zrr a] at this
   omega
  rw [b s a,b t c,e]
 ·intro h
  unfold pL
  exact List.map_congr_left fun s a=>by rw [zmx h (List.mem_range.1 a)]
theorem zme(b:MOk m){p q:Nat→Nat}(h: ∀ s,s<m.rows.length→p s=q s){s:Nat}(c:s<m.rows.length):zbx m p s=zbx m q s:=by
 unfold zbx
 refine List.map_congr_left fun i hi=>?_
 rcases zcb b c (List.mem_range.1 hi) with a|a
 ·rw [if_pos a,if_pos a]
 ·rw [h _ (by omega)]
theorem zdz(c:MOk m){k:Nat}(h:zhn m k): ∀ j,k≤j→ ∀ s,s<m.rows.length→pkc m j s=pkc m k s
 |0,i,s,d=>by rw [show k=0 by omega]
 |j+1,i,s,d=>by
  by_cases e:k=j+1
  ·rw [e]
  ·have ih:=zdz c h j (by omega)
   rw [←zmx h d]
   show name _ s=name _ s
   refine zbo (n:=m.rows.length) (fun a b f g=>?_) d
   unfold znu
   rw [ih a f,ih b g,zme c ih f,zme c ih g]
theorem zzy(a:MOk m){k j:Nat}(h:zhn m k)(b:k≤j):pL m j=pL m k:=by
 unfold pL
 exact List.map_congr_left fun s c=>by rw [zdz a h j b s (List.mem_range.1 c)]
theorem zpt{κ κ':Type}[DecidableEq κ][DecidableEq κ']{f:Nat→κ}{g:Nat→κ'}: ∀ {n:Nat},(∀ u,u<n→z1h f u=true→z1h g u=true)→cntF f n≤cntF g n∧(cntF f n=cntF g n→ ∀ u,u<n→z1h f u=z1h g u)
 |0,_=>⟨Nat.le_refl _,fun _ u c=>by omega⟩
 |n+1,h=>by
  obtain⟨j,d⟩:=zpt (n:=n) (f:=f) (g:=g) fun u c=>h u (by omega)
  have i:=h n (by omega)
  have a:cntF f (n+1)=cntF f n+if z1h f n=true then 1 else 0:=rfl
  have b:cntF g (n+1)=cntF g n+if z1h g n=true then 1 else 0:=rfl
  cases hf:z1h f n<;>cases hg:z1h g n
  ·rw [hf] at a;rw [hg] at b
   simp only [Bool.false_eq_true,if_false] at a b
   refine⟨by omega,fun e u c=>?_⟩
   by_cases hu':u=n
   ·subst hu';rw [hf,hg]
   ·exact d (by omega) u (by omega)
  ·rw [hf] at a;rw [hg] at b
   simp only [Bool.false_eq_true,if_false,if_true] at a b
   exact⟨by omega,fun e=>by omega⟩
  ·rw [hf,hg] at i;exact absurd (i rfl) (by decide)
  ·rw [hf] at a;rw [hg] at b
   simp only [if_true] at a b
   refine⟨by omega,fun e u c=>?_⟩
   by_cases hu':u=n
   ·subst hu';rw [hf,hg]
   ·exact d (by omega) u (by omega)
theorem zo1{k:Nat}(h: ¬zhn m k):cntF (pkc m k) m.rows.length<cntF (pkc m (k+1)) m.rows.length:=by
 obtain⟨v,l⟩:=zpt (n:=m.rows.length) (f:=pkc m k) (g:=pkc m (k+1)) fun u w o=>ru.2 fun t a e=>ru.1 o t a (zfx e)
 rcases Nat.lt_or_ge (cntF (pkc m k) m.rows.length) (cntF (pkc m (k+1)) m.rows.length) with b|b
 ·exact b
 ·exfalso
  have p:=l (by omega)
  refine h fun s t x a e=>?_
  obtain⟨y,c,_⟩:=z3a (pkc m (k+1)) s
  obtain⟨z,d,_⟩:=z3a (pkc m (k+1)) t
  have i:=z7g (pkc m (k+1)) s
  have j:=z7g (pkc m (k+1)) t
  rw [←p _ (by omega)] at i j
  have q:pkc m k (z6t (pkc m (k+1)) s)=pkc m k (z6t (pkc m (k+1)) t):=by rw [zfx c,zfx d,e]
  have r:z6t (pkc m (k+1)) s=z6t (pkc m (k+1)) t:=by
   rw [←zau i,←zau j];exact zj4 q
  rw [←c,r,d]
theorem zkf(a:1≤m.rows.length): ∀ k,(∀ j,j<k→ ¬zhn m j)→k+1≤cntF (pkc m k) m.rows.length
 |0,_=>by
  have:=z92 (pkc m 0) (show 0<m.rows.length by omega) (ru.2 fun t b=>by omega)
  omega
 |k+1,h=>by
  have c:=zkf a k fun j d=>h j (by omega)
  have e:=zo1 (h k (by omega))
  omega
theorem zmg{p:Nat→Prop}: ∀ n,p n→ ∃ k,k≤n∧p k∧ ∀ j,j<k→ ¬p j
 |n,h=>by
  by_cases e: ∃ j,j<n∧p j
  ·obtain⟨j,b,a⟩:=e
   obtain⟨k,f,c,d⟩:=zmg j a
   exact⟨k,by omega,c,d⟩
  ·exact⟨n,Nat.le_refl _,h,fun j b a=>e ⟨j,b,a⟩⟩
theorem zsn(c:MOk m): ∃ k,k<m.rows.length∧zhn m k∧ ∀ j,j<k→ ¬zhn m j:=by
 have d:=c.r1
 have e: ∃ k,k<m.rows.length∧zhn m k:=by
  refine Classical.byContradiction fun b=>?_
  have:=zkf d m.rows.length fun j f a=>b ⟨j,f,a⟩
  have:=zc4 (pkc m m.rows.length) m.rows.length
  omega
 obtain⟨n,b,a⟩:=e
 obtain⟨k,i,g,h⟩:=zmg n a
 exact⟨k,by omega,g,h⟩
def cls(m:Mach)(s:Nat):Nat:=pkc m m.rows.length s
def z5q(m:Mach):List Int:=pL m m.rows.length
theorem zy7(a:MOk m):zhn m m.rows.length:=by
 obtain⟨k,f,b,_⟩:=zsn a
 intro s t c d e
 rw [zdz a b _ (by omega) s c,zdz a b _ (by omega) t d] at*
 exact e
theorem zl1(b:MOk m){s t:Nat}(c:s<m.rows.length)(d:t<m.rows.length)(h:cls m s=cls m t){i:Nat}(hi:i<m.inputs.toNat):ou m s i=ou m t i∧(ed m s i= -1↔ed m t i= -1)∧(ed m s i≠ -1→cls m (ed m s i).toNat=cls m (ed m t i).toNat):=by
 have j:=(zp3 b c d).1 (zy7 b s t c d h)
 obtain⟨f,k⟩:=j.2 i hi
 have l:=(zto b c hi).1
 have n:=(zto b d hi).1
 have g:ed m s i= -1↔ed m t i= -1:=by rw [l,n,f]
 exact⟨f,g,fun a=>k a fun e=>a (g.2 e)⟩
/-! ### Responses-/
theorem zjo(m:Mach): ∀ w:List Int,z2e m (-1) w=List.replicate w.length (-1)
 | []=>rfl
 |c::w=>by
  show (z1c m (-1) c).out::z2e m (z1c m (-1) c).to w=_
  rw [show z1c m (-1) c=⟨-1,-1⟩ from rfl,zjo m w];rfl
theorem zlr{s:Nat}(i:Nat)(w:List Int):z2e m (s:Int) ((i:Int)::w)=ou m s i::z2e m (ed m s i) w:=by
 show (z1c m (s:Int) (i:Int)).out::z2e m (z1c m (s:Int) (i:Int)).to w=_
 unfold z1c
 rw [if_neg (by omega)];rfl
theorem zm2{s:Nat}(i:Nat)(w:List Int):dx m (s:Int) ((i:Int)::w)=dx m (ed m s i) w:=by
 show dx m (z1c m (s:Int) (i:Int)).to w=_
 unfold z1c
 rw [if_neg (by omega)];rfl
end
end GV
end Go.Proofs.Ytplgbkaollfmkaa
