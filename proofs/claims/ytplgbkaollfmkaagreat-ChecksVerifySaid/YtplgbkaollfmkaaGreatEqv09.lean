import Derived.Test.YtplgbkaollfmkaaGreatBfs06
import Derived.Test.YtplgbkaollfmkaaGreatNames
set_option linter.unusedVariables false
set_option linter.unusedSimpArgs false
namespace Go.Proofs.YtplgbkaollfmkaaGreat
namespace GV
def ou(m:Mach)(s i:Nat):Int:=((m.rows.getD s default).getD i default).out
def zdm(m:Mach)(p:Nat→Nat)(s:Nat):List (Int×Int):=(List.range m.inputs.toNat).map fun i=>(ou m s i,if ed m s i= -1 then-1 else(p (ed m s i).toNat:Int))
def zpm(m:Mach)(p:Nat→Nat)(s:Nat):Nat×List (Int×Int):=(p s,zdm m p s)
def pkc(m:Mach):Nat→Nat→Nat
 |0=>fun _=>0
 |k+1=>fun s=>name (zpm m (pkc m k)) s
def pL(m:Mach)(k:Nat):List Int:=(List.range m.rows.length).map fun s=>(pkc m k s:Int)
section
variable {m : Mach}
theorem zqa(k:Nat):(pL m k).length=m.rows.length:=by simp [pL]
theorem zv1{k s:Nat}(h:s<m.rows.length):(pL m k).getD s default=(pkc m k s:Int):=by simp [pL,List.getD_eq_getElem?_getD,h]
theorem q4w(k:Nat):pL m (k+1)=zzd (zpm m (pkc m k)) m.rows.length:=rfl
theorem q57{p:Nat→Nat}{s t:Nat}:zdm m p s=zdm m p t↔ ∀ i,i<m.inputs.toNat→ou m s i=ou m t i∧(if ed m s i= -1 then-1 else(p (ed m s i).toNat:Int))=(if ed m t i= -1 then-1 else(p (ed m t i).toNat:Int)):=by
 unfold zdm
 rw [List.map_inj_left]
 constructor
 ·intro h i hi
  have:=h i (List.mem_range.2 hi)
  exact⟨congrArg Prod.fst this,congrArg Prod.snd this⟩
 ·intro h i hi
  obtain⟨a,b⟩:=h i (List.mem_range.1 hi)
  exact Prod.ext a b
theorem zw1(a:MOk m){s i:Nat}(b:s<m.rows.length)(hi:i<m.inputs.toNat):(ed m s i= -1↔ou m s i= -1)∧ -1≤ou m s i∧ou m s i<16:=by
 have c:=a.row s b
 have d:=a.o2
 rcases a.edge s i b (by omega) with h|h
 ·exact⟨⟨fun _=>h.2,fun _=>h.1⟩,by show-1≤((m.rows.getD s default).getD i default).out;omega,by show ((m.rows.getD s default).getD i default).out<16;omega⟩
 ·refine⟨⟨fun e=>?_,fun e=>?_⟩,?_,?_⟩
  ·have:((m.rows.getD s default).getD i default).to= -1:=e
   omega
  ·have:((m.rows.getD s default).getD i default).out= -1:=e
   omega
  ·show-1≤((m.rows.getD s default).getD i default).out;omega
  ·show ((m.rows.getD s default).getD i default).out<16;omega
theorem zrg{k s t:Nat}:pkc m (k+1) s=pkc m (k+1) t↔pkc m k s=pkc m k t∧zdm m (pkc m k) s=zdm m (pkc m k) t:=by
 show name _ s=name _ t↔_
 rw [zhs]
 unfold zpm
 rw [Prod.mk.injEq]
theorem zta(b:MOk m){k s t:Nat}(g:s<m.rows.length)(j:t<m.rows.length):pkc m (k+1) s=pkc m (k+1) t↔pkc m k s=pkc m k t∧ ∀ i,i<m.inputs.toNat→ou m s i=ou m t i∧(ed m s i≠ -1→ed m t i≠ -1→pkc m k (ed m s i).toNat=pkc m k (ed m t i).toNat):=by
 rw [zrg,q57]
 refine and_congr_right fun _=>forall_congr' fun i=>forall_congr' fun hi=>?_
 refine and_congr_right fun c=>?_
 have d:=(zw1 b g hi).1
 have f:=(zw1 b j hi).1
 by_cases e:ed m s i= -1
 ·have a:ed m t i= -1:=f.2 (by rw [←c];exact d.1 e)
  rw [if_pos e,if_pos a]
  exact⟨fun _ h=>absurd e h,fun _=>rfl⟩
 ·have a:ed m t i≠ -1:=fun a=>e (d.2 (by rw [c];exact f.1 a))
  rw [if_neg e,if_neg a]
  exact⟨fun h _ _=>Int.ofNat.inj h,fun h=>congrArg Int.ofNat (h e a)⟩
theorem zib{k s t:Nat}(h:pkc m (k+1) s=pkc m (k+1) t):pkc m k s=pkc m k t:=(zrg.1 h).1
def zjx(m:Mach)(k:Nat):Prop:= ∀ s t,s<m.rows.length→t<m.rows.length→pkc m k s=pkc m k t→pkc m (k+1) s=pkc m (k+1) t
theorem zi8{k s:Nat}:name (pkc m k) s=pkc m k s:=by
 cases k with
 |zero=>
  show name (fun _:Nat=>(0:Nat)) s=0
  rw [show name (fun _:Nat=>(0:Nat)) s=name (fun _:Nat=>(0:Nat)) 0 from zhs.2 rfl,zp6]
 |succ k=>exact ze3 (n:=s+1) (fun a b _ _=>by show name _ a=name _ b↔_;exact zhs) (Nat.lt_succ_self s)
theorem zor{k:Nat}(h:zjx m k){s:Nat}(c:s<m.rows.length):pkc m (k+1) s=pkc m k s:=by
 rw [←zi8 (k:=k+1),←zi8 (k:=k)]
 exact ze3 (n:=m.rows.length) (fun a b d e=>⟨zib,h a b d e⟩) c
theorem zsx(k:Nat):pL m (k+1)=pL m k↔zjx m k:=by
 constructor
 ·intro h s t a c e
  have b: ∀ s,s<m.rows.length→pkc m (k+1) s=pkc m k s:=fun s a=>by
   have:=congrArg (fun l:List Int=>l.getD s default) h
   simp only [zv1 a] at this
   omega
  rw [b s a,b t c,e]
 ·intro h
  unfold pL
  exact List.map_congr_left fun s a=>by rw [zor h (List.mem_range.1 a)]
theorem zp2(b:MOk m){p q:Nat→Nat}(h: ∀ s,s<m.rows.length→p s=q s){s:Nat}(c:s<m.rows.length):zdm m p s=zdm m q s:=by
 unfold zdm
 refine List.map_congr_left fun i hi=>?_
 rcases zcr b c (List.mem_range.1 hi) with a|a
 ·rw [if_pos a,if_pos a]
 ·rw [h _ (by omega)]
theorem zg3(c:MOk m){k:Nat}(h:zjx m k): ∀ j,k≤j→ ∀ s,s<m.rows.length→pkc m j s=pkc m k s
 |0,i,s,d=>by rw [show k=0 by omega]
 |j+1,i,s,d=>by
  by_cases e:k=j+1
  ·rw [e]
  ·have ih:=zg3 c h j (by omega)
   rw [←zor h d]
   show name _ s=name _ s
   refine ze3 (n:=m.rows.length) (fun a b f g=>?_) d
   unfold zpm
   rw [ih a f,ih b g,zp2 c ih f,zp2 c ih g]
theorem q3l(a:MOk m){k j:Nat}(h:zjx m k)(b:k≤j):pL m j=pL m k:=by
 unfold pL
 exact List.map_congr_left fun s c=>by rw [zg3 a h j b s (List.mem_range.1 c)]
theorem zs5{κ κ':Type}[DecidableEq κ][DecidableEq κ']{f:Nat→κ}{g:Nat→κ'}: ∀ {n:Nat},(∀ u,u<n→z3e f u=true→z3e g u=true)→cntF f n≤cntF g n∧(cntF f n=cntF g n→ ∀ u,u<n→z3e f u=z3e g u)
 |0,_=>⟨Nat.le_refl _,fun _ u c=>by omega⟩
 |n+1,h=>by
  obtain⟨j,d⟩:=zs5 (n:=n) (f:=f) (g:=g) fun u c=>h u (by omega)
  have i:=h n (by omega)
  have a:cntF f (n+1)=cntF f n+if z3e f n=true then 1 else 0:=rfl
  have b:cntF g (n+1)=cntF g n+if z3e g n=true then 1 else 0:=rfl
  cases hf:z3e f n<;>cases hg:z3e g n
  ·rw [hf] at a;rw [hg] at b
   simp only [Bool.false_eq_true,if_false] at a b
   refine⟨by omega,fun e u c=>?_⟩
   by_cases hu':u=n
   ·subst hu';rw [hf,hg]
   ·exact d (by omega) u (by omega)
  ·rw [hf] at a;rw [hg] at b
   simp only [Bool.false_eq_true,if_false,if_true] at a b
   exact⟨by omega,fun e=>by omega⟩
  ·rw [hf,hg] at i;exact absurd (i rfl) (by decide)
  ·rw [hf] at a;rw [hg] at b
   simp only [if_true] at a b
   refine⟨by omega,fun e u c=>?_⟩
   by_cases hu':u=n
   ·subst hu';rw [hf,hg]
   ·exact d (by omega) u (by omega)
theorem zqg{k:Nat}(h: ¬zjx m k):cntF (pkc m k) m.rows.length<cntF (pkc m (k+1)) m.rows.length:=by
 obtain⟨v,l⟩:=zs5 (n:=m.rows.length) (f:=pkc m k) (g:=pkc m (k+1)) fun u w o=>z0g.2 fun t a e=>z0g.1 o t a (zib e)
 rcases Nat.lt_or_ge (cntF (pkc m k) m.rows.length) (cntF (pkc m (k+1)) m.rows.length) with b|b
 ·exact b
 ·exfalso
  have p:=l (by omega)
  refine h fun s t x a e=>?_
  obtain⟨y,c,_⟩:=z4y (pkc m (k+1)) s
  obtain⟨z,d,_⟩:=z4y (pkc m (k+1)) t
  have i:=z8r (pkc m (k+1)) s
  have j:=z8r (pkc m (k+1)) t
  rw [←p _ (by omega)] at i j
  have q:pkc m k (z8h (pkc m (k+1)) s)=pkc m k (z8h (pkc m (k+1)) t):=by rw [zib c,zib d,e]
  have r:z8h (pkc m (k+1)) s=z8h (pkc m (k+1)) t:=by
   rw [←zcy i,←zcy j];exact zm1 q
  rw [←c,r,d]
theorem zmd(a:1≤m.rows.length): ∀ k,(∀ j,j<k→ ¬zjx m j)→k+1≤cntF (pkc m k) m.rows.length
 |0,_=>by
  have:=zan (pkc m 0) (show 0<m.rows.length by omega) (z0g.2 fun t b=>by omega)
  omega
 |k+1,h=>by
  have c:=zmd a k fun j d=>h j (by omega)
  have e:=zqg (h k (by omega))
  omega
theorem zoq{p:Nat→Prop}: ∀ n,p n→ ∃ k,k≤n∧p k∧ ∀ j,j<k→ ¬p j
 |n,h=>by
  by_cases e: ∃ j,j<n∧p j
  ·obtain⟨j,b,a⟩:=e
   obtain⟨k,f,c,d⟩:=zoq j a
   exact⟨k,by omega,c,d⟩
  ·exact⟨n,Nat.le_refl _,h,fun j b a=>e ⟨j,b,a⟩⟩
theorem zw7(c:MOk m): ∃ k,k<m.rows.length∧zjx m k∧ ∀ j,j<k→ ¬zjx m j:=by
 have d:=c.r1
 have e: ∃ k,k<m.rows.length∧zjx m k:=by
  refine Classical.byContradiction fun b=>?_
  have:=zmd d m.rows.length fun j f a=>b ⟨j,f,a⟩
  have:=zbz (pkc m m.rows.length) m.rows.length
  omega
 obtain⟨n,b,a⟩:=e
 obtain⟨k,i,g,h⟩:=zoq n a
 exact⟨k,by omega,g,h⟩
def cls(m:Mach)(s:Nat):Nat:=pkc m m.rows.length s
def z7b(m:Mach):List Int:=pL m m.rows.length
theorem q1x(a:MOk m):zjx m m.rows.length:=by
 obtain⟨k,f,b,_⟩:=zw7 a
 intro s t c d e
 rw [zg3 a b _ (by omega) s c,zg3 a b _ (by omega) t d] at*
 exact e
theorem zmj(b:MOk m){s t:Nat}(c:s<m.rows.length)(d:t<m.rows.length)(h:cls m s=cls m t){i:Nat}(hi:i<m.inputs.toNat):ou m s i=ou m t i∧(ed m s i= -1↔ed m t i= -1)∧(ed m s i≠ -1→cls m (ed m s i).toNat=cls m (ed m t i).toNat):=by
 have j:=(zta b c d).1 (q1x b s t c d h)
 obtain⟨f,k⟩:=j.2 i hi
 have l:=(zw1 b c hi).1
 have n:=(zw1 b d hi).1
 have g:ed m s i= -1↔ed m t i= -1:=by rw [l,n,f]
 exact⟨f,g,fun a=>k a fun e=>a (g.2 e)⟩
/-! ### Responses-/
theorem zlv(m:Mach): ∀ w:List Int,z4c m (-1) w=List.replicate w.length (-1)
 | []=>rfl
 |c::w=>by
  show (z1m m (-1) c).out::z4c m (z1m m (-1) c).to w=_
  rw [show z1m m (-1) c=⟨-1,-1⟩ from rfl,zlv m w];rfl
theorem zog{s:Nat}(i:Nat)(w:List Int):z4c m (s:Int) ((i:Int)::w)=ou m s i::z4c m (ed m s i) w:=by
 show (z1m m (s:Int) (i:Int)).out::z4c m (z1m m (s:Int) (i:Int)).to w=_
 unfold z1m
 rw [if_neg (by omega)];rfl
theorem zp4{s:Nat}(i:Nat)(w:List Int):uk m (s:Int) ((i:Int)::w)=uk m (ed m s i) w:=by
 show uk m (z1m m (s:Int) (i:Int)).to w=_
 unfold z1m
 rw [if_neg (by omega)];rfl
end
end GV
end Go.Proofs.YtplgbkaollfmkaaGreat
