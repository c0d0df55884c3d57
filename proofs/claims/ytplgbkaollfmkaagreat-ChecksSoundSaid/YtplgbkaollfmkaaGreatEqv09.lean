import Derived.Test.YtplgbkaollfmkaaGreatBfs06
import Derived.Test.YtplgbkaollfmkaaGreatNames
set_option linter.unusedVariables false
set_option linter.unusedSimpArgs false
namespace Go.Proofs.YtplgbkaollfmkaaGreat
namespace GV
def ou(m:Mach)(s i:Nat):Int:=((m.rows.getD s default).getD i default).out
def zdt(m:Mach)(p:Nat→Nat)(s:Nat):List (Int×Int):=(List.range m.inputs.toNat).map fun i=>(ou m s i,if ed m s i= -1 then-1 else(p (ed m s i).toNat:Int))
def zpx(m:Mach)(p:Nat→Nat)(s:Nat):Nat×List (Int×Int):=(p s,zdt m p s)
def pkc(m:Mach):Nat→Nat→Nat
 |0=>fun _=>0
 |k+1=>fun s=>name (zpx m (pkc m k)) s
def pL(m:Mach)(k:Nat):List Int:=(List.range m.rows.length).map fun s=>(pkc m k s:Int)
section
variable {m : Mach}
theorem zqp(k:Nat):(pL m k).length=m.rows.length:=by simp [pL]
theorem zu6{k s:Nat}(h:s<m.rows.length):(pL m k).getD s default=(pkc m k s:Int):=by simp [pL,List.getD_eq_getElem?_getD,h]
theorem q3k(k:Nat):pL m (k+1)=zy6 (zpx m (pkc m k)) m.rows.length:=rfl
theorem q54{p:Nat→Nat}{s t:Nat}:zdt m p s=zdt m p t↔ ∀ i,i<m.inputs.toNat→ou m s i=ou m t i∧(if ed m s i= -1 then-1 else(p (ed m s i).toNat:Int))=(if ed m t i= -1 then-1 else(p (ed m t i).toNat:Int)):=by
 unfold zdt
 rw [List.map_inj_left]
 constructor
 ·intro h i hi
  have:=h i (List.mem_range.2 hi)
  exact⟨congrArg Prod.fst this,congrArg Prod.snd this⟩
 ·intro h i hi
  obtain⟨a,b⟩:=h i (List.mem_range.1 hi)
  exact Prod.ext a b
theorem zp4(a:MOk m){s i:Nat}(b:s<m.rows.length)(hi:i<m.inputs.toNat):(ed m s i= -1↔ou m s i= -1)∧ -1≤ou m s i∧ou m s i<16:=by
 have c:=a.row s b
 have d:=a.o2
 rcases a.edge s i b (by omega) with h|h
 ·exact⟨⟨fun _=>h.2,fun _=>h.1⟩,by show-1≤((m.rows.getD s default).getD i default).out;omega,by show ((m.rows.getD s default).getD i default).out<16;omega⟩
 ·refine⟨⟨fun e=>?_,fun e=>?_⟩,?_,?_⟩
  ·have:((m.rows.getD s default).getD i default).to= -1:=e
   omega
  ·have:((m.rows.getD s default).getD i default).out= -1:=e
   omega
  ·show-1≤((m.rows.getD s default).getD i default).out;omega
  ·show ((m.rows.getD s default).getD i default).out<16;omega
theorem zsa{k s t:Nat}:pkc m (k+1) s=pkc m (k+1) t↔pkc m k s=pkc m k t∧zdt m (pkc m k) s=zdt m (pkc m k) t:=by
 show name _ s=name _ t↔_
 rw [zhz]
 unfold zpx
 rw [Prod.mk.injEq]
theorem znb(b:MOk m){k s t:Nat}(g:s<m.rows.length)(j:t<m.rows.length):pkc m (k+1) s=pkc m (k+1) t↔pkc m k s=pkc m k t∧ ∀ i,i<m.inputs.toNat→ou m s i=ou m t i∧(ed m s i≠ -1→ed m t i≠ -1→pkc m k (ed m s i).toNat=pkc m k (ed m t i).toNat):=by
 rw [zsa,q54]
 refine and_congr_right fun _=>forall_congr' fun i=>forall_congr' fun hi=>?_
 refine and_congr_right fun c=>?_
 have d:=(zp4 b g hi).1
 have f:=(zp4 b j hi).1
 by_cases e:ed m s i= -1
 ·have a:ed m t i= -1:=f.2 (by rw [←c];exact d.1 e)
  rw [if_pos e,if_pos a]
  exact⟨fun _ h=>absurd e h,fun _=>rfl⟩
 ·have a:ed m t i≠ -1:=fun a=>e (d.2 (by rw [c];exact f.1 a))
  rw [if_neg e,if_neg a]
  exact⟨fun h _ _=>Int.ofNat.inj h,fun h=>congrArg Int.ofNat (h e a)⟩
theorem zik{k s t:Nat}(h:pkc m (k+1) s=pkc m (k+1) t):pkc m k s=pkc m k t:=(zsa.1 h).1
def zj9(m:Mach)(k:Nat):Prop:= ∀ s t,s<m.rows.length→t<m.rows.length→pkc m k s=pkc m k t→pkc m (k+1) s=pkc m (k+1) t
theorem zhl{k s:Nat}:name (pkc m k) s=pkc m k s:=by
 cases k with
 |zero=>
  show name (fun _:Nat=>(0:Nat)) s=0
  rw [show name (fun _:Nat=>(0:Nat)) s=name (fun _:Nat=>(0:Nat)) 0 from zhz.2 rfl,zp6]
 |succ k=>exact zdj (n:=s+1) (fun a b _ _=>by show name _ a=name _ b↔_;exact zhz) (Nat.lt_succ_self s)
theorem zpa{k:Nat}(h:zj9 m k){s:Nat}(c:s<m.rows.length):pkc m (k+1) s=pkc m k s:=by
 rw [←zhl (k:=k+1),←zhl (k:=k)]
 exact zdj (n:=m.rows.length) (fun a b d e=>⟨zik,h a b d e⟩) c
theorem zro(k:Nat):pL m (k+1)=pL m k↔zj9 m k:=by
 constructor
 ·intro h s t a c e
  have b: ∀ s,s<m.rows.length→pkc m (k+1) s=pkc m k s:=fun s a=>by
   have:=congrArg (fun l:List Int=>l.getD s default) h
   simp only [zu6 a] at this
   omega
  rw [b s a,b t c,e]
 ·intro h
  unfold pL
  exact List.map_congr_left fun s a=>by rw [zpa h (List.mem_range.1 a)]
theorem zok(b:MOk m){p q:Nat→Nat}(h: ∀ s,s<m.rows.length→p s=q s){s:Nat}(c:s<m.rows.length):zdt m p s=zdt m q s:=by
 unfold zdt
 refine List.map_congr_left fun i hi=>?_
 rcases z94 b c (List.mem_range.1 hi) with a|a
 ·rw [if_pos a,if_pos a]
 ·rw [h _ (by omega)]
theorem z8a(c:MOk m){k:Nat}(h:zj9 m k): ∀ j,k≤j→ ∀ s,s<m.rows.length→pkc m j s=pkc m k s
 |0,i,s,d=>by rw [show k=0 by omega]
 |j+1,i,s,d=>by
  by_cases e:k=j+1
  ·rw [e]
  ·have ih:=z8a c h j (by omega)
   rw [←zpa h d]
   show name _ s=name _ s
   refine zdj (n:=m.rows.length) (fun a b f g=>?_) d
   unfold zpx
   rw [ih a f,ih b g,zok c ih f,zok c ih g]
theorem q46(a:MOk m){k j:Nat}(h:zj9 m k)(b:k≤j):pL m j=pL m k:=by
 unfold pL
 exact List.map_congr_left fun s c=>by rw [z8a a h j b s (List.mem_range.1 c)]
theorem zrs{κ κ':Type}[DecidableEq κ][DecidableEq κ']{f:Nat→κ}{g:Nat→κ'}: ∀ {n:Nat},(∀ u,u<n→z2x f u=true→z2x g u=true)→cntF f n≤cntF g n∧(cntF f n=cntF g n→ ∀ u,u<n→z2x f u=z2x g u)
 |0,_=>⟨Nat.le_refl _,fun _ u c=>by omega⟩
 |n+1,h=>by
  obtain⟨j,d⟩:=zrs (n:=n) (f:=f) (g:=g) fun u c=>h u (by omega)
  have i:=h n (by omega)
  have a:cntF f (n+1)=cntF f n+if z2x f n=true then 1 else 0:=rfl
  have b:cntF g (n+1)=cntF g n+if z2x g n=true then 1 else 0:=rfl
  cases hf:z2x f n<;>cases hg:z2x g n
  ·rw [hf] at a;rw [hg] at b
   simp only [Bool.false_eq_true,if_false] at a b
   refine⟨by omega,fun e u c=>?_⟩
   by_cases hu':u=n
   ·subst hu';rw [hf,hg]
   ·exact d (by omega) u (by omega)
  ·rw [hf] at a;rw [hg] at b
   simp only [Bool.false_eq_true,if_false,if_true] at a b
   exact⟨by omega,fun e=>by omega⟩
  ·rw [hf,hg] at i;exact absurd (i rfl) (by decide)
  ·rw [hf] at a;rw [hg] at b
   simp only [if_true] at a b
   refine⟨by omega,fun e u c=>?_⟩
   by_cases hu':u=n
   ·subst hu';rw [hf,hg]
   ·exact d (by omega) u (by omega)
theorem zpl{k:Nat}(h: ¬zj9 m k):cntF (pkc m k) m.rows.length<cntF (pkc m (k+1)) m.rows.length:=by
 obtain⟨v,l⟩:=zrs (n:=m.rows.length) (f:=pkc m k) (g:=pkc m (k+1)) fun u w o=>z08.2 fun t a e=>z08.1 o t a (zik e)
 rcases Nat.lt_or_ge (cntF (pkc m k) m.rows.length) (cntF (pkc m (k+1)) m.rows.length) with b|b
 ·exact b
 ·exfalso
  have p:=l (by omega)
  refine h fun s t x a e=>?_
  obtain⟨y,c,_⟩:=z4i (pkc m (k+1)) s
  obtain⟨z,d,_⟩:=z4i (pkc m (k+1)) t
  have i:=z98 (pkc m (k+1)) s
  have j:=z98 (pkc m (k+1)) t
  rw [←p _ (by omega)] at i j
  have q:pkc m k (z8m (pkc m (k+1)) s)=pkc m k (z8m (pkc m (k+1)) t):=by rw [zik c,zik d,e]
  have r:z8m (pkc m (k+1)) s=z8m (pkc m (k+1)) t:=by
   rw [←zcl i,←zcl j];exact zmu q
  rw [←c,r,d]
theorem zn4(a:1≤m.rows.length): ∀ k,(∀ j,j<k→ ¬zj9 m j)→k+1≤cntF (pkc m k) m.rows.length
 |0,_=>by
  have:=zax (pkc m 0) (show 0<m.rows.length by omega) (z08.2 fun t b=>by omega)
  omega
 |k+1,h=>by
  have c:=zn4 a k fun j d=>h j (by omega)
  have e:=zpl (h k (by omega))
  omega
theorem zof{p:Nat→Prop}: ∀ n,p n→ ∃ k,k≤n∧p k∧ ∀ j,j<k→ ¬p j
 |n,h=>by
  by_cases e: ∃ j,j<n∧p j
  ·obtain⟨j,b,a⟩:=e
   obtain⟨k,f,c,d⟩:=zof j a
   exact⟨k,by omega,c,d⟩
  ·exact⟨n,Nat.le_refl _,h,fun j b a=>e ⟨j,b,a⟩⟩
theorem zqc(c:MOk m): ∃ k,k<m.rows.length∧zj9 m k∧ ∀ j,j<k→ ¬zj9 m j:=by
 have d:=c.r1
 have e: ∃ k,k<m.rows.length∧zj9 m k:=by
  refine Classical.byContradiction fun b=>?_
  have:=zn4 d m.rows.length fun j f a=>b ⟨j,f,a⟩
  have:=zc7 (pkc m m.rows.length) m.rows.length
  omega
 obtain⟨n,b,a⟩:=e
 obtain⟨k,i,g,h⟩:=zof n a
 exact⟨k,by omega,g,h⟩
def cls(m:Mach)(s:Nat):Nat:=pkc m m.rows.length s
def z7d(m:Mach):List Int:=pL m m.rows.length
theorem zlu(a:MOk m):zj9 m m.rows.length:=by
 obtain⟨k,f,b,_⟩:=zqc a
 intro s t c d e
 rw [z8a a b _ (by omega) s c,z8a a b _ (by omega) t d] at*
 exact e
theorem zn1(b:MOk m){s t:Nat}(c:s<m.rows.length)(d:t<m.rows.length)(h:cls m s=cls m t){i:Nat}(hi:i<m.inputs.toNat):ou m s i=ou m t i∧(ed m s i= -1↔ed m t i= -1)∧(ed m s i≠ -1→cls m (ed m s i).toNat=cls m (ed m t i).toNat):=by
 have j:=(znb b c d).1 (zlu b s t c d h)
 obtain⟨f,k⟩:=j.2 i hi
 have l:=(zp4 b c hi).1
 have n:=(zp4 b d hi).1
 have g:ed m s i= -1↔ed m t i= -1:=by rw [l,n,f]
 exact⟨f,g,fun a=>k a fun e=>a (g.2 e)⟩
/-! ### Responses-/
theorem zmj(m:Mach): ∀ w:List Int,vv m (-1) w=List.replicate w.length (-1)
 | []=>rfl
 |c::w=>by
  show (ry m (-1) c).out::vv m (ry m (-1) c).to w=_
  rw [show ry m (-1) c=⟨-1,-1⟩ from rfl,zmj m w];rfl
theorem z8d{s:Nat}(i:Nat)(w:List Int):vv m (s:Int) ((i:Int)::w)=ou m s i::vv m (ed m s i) w:=by
 show (ry m (s:Int) (i:Int)).out::vv m (ry m (s:Int) (i:Int)).to w=_
 unfold ry
 rw [if_neg (by omega)];rfl
theorem zos{s:Nat}(i:Nat)(w:List Int):w9 m (s:Int) ((i:Int)::w)=w9 m (ed m s i) w:=by
 show w9 m (ry m (s:Int) (i:Int)).to w=_
 unfold ry
 rw [if_neg (by omega)];rfl
theorem zfp(a:MOk m): ∀ (k:Nat) {s t:Nat},s<m.rows.length→t<m.rows.length→(pkc m k s=pkc m k t↔ ∀ w,WOk m.inputs w→w.length≤k→vv m (s:Int) w=vv m (t:Int) w)
 |0,s,t,f,g=>⟨fun _ w _ d=>by
  have:w=[]:=List.length_eq_zero_iff.1 (by omega)
  subst this;rfl,fun _=>rfl⟩
 |k+1,s,t,f,g=>by
  rw [znb a f g]
  constructor
  ·rintro⟨C,v⟩ w b d
   match w,b,d with
   | [],_,_=>rfl
   |c::w,b,d=>
    have x:0≤c∧c<m.inputs:=b 0 (by simp)
    obtain⟨i,rfl⟩:=Int.eq_ofNat_of_zero_le x.1
    have hi:i<m.inputs.toNat:=by omega
    obtain⟨q,y⟩:=v i hi
    have r:=(zp4 a f hi).1
    have u:=(zp4 a g hi).1
    rw [z8d,z8d,q]
    congr 1
    rcases z94 a f hi with e|e
    ·rw [e,u.2 (by rw [←q];exact r.1 e)]
    ·have l:ed m t i≠ -1:=fun n=>by have:=r.2 (by rw [q];exact u.1 n);omega
     have n:=(z94 a g hi).resolve_left l
     have:=(zfp a k (s:=(ed m s i).toNat) (t:=(ed m t i).toNat) (by omega) (by omega)).1 (y (by omega) l) w (fun j o=>b (j+1) (by simpa using o)) (by simpa using d)
     rwa [Int.toNat_of_nonneg e.1,Int.toNat_of_nonneg n.1] at this
  ·intro h
   refine⟨(zfp a k f g).2 fun w b d=>h w b (by omega),fun i hi=>?_⟩
   have p: ∀ w,WOk m.inputs w→WOk m.inputs ((i:Int)::w):=fun w b j o=>by
    cases j with
    |zero=>exact⟨by show 0≤(i:Int);omega,by show (i:Int)<m.inputs;omega⟩
    |succ j=>exact b j (by simpa using o)
   refine⟨?_,fun z n=>?_⟩
   ·have:=h [(i:Int)] (p [] fun j o=>by simp at o) (by simp)
    rw [z8d,z8d] at this
    exact(List.cons.inj this).1
   ·have A:=(z94 a f hi).resolve_left z
    have B:=(z94 a g hi).resolve_left n
    refine(zfp a k (by omega) (by omega)).2 fun w b d=>?_
    have:=h ((i:Int)::w) (p w b) (by simpa using d)
    rw [z8d,z8d] at this
    rw [Int.toNat_of_nonneg A.1,Int.toNat_of_nonneg B.1]
    exact(List.cons.inj this).2
theorem q4e(a:MOk m){s t:Nat}(b:s<m.rows.length)(c:t<m.rows.length):cls m s=cls m t↔ ∀ w,WOk m.inputs w→vv m (s:Int) w=vv m (t:Int) w:=by
 constructor
 ·intro h w d
  have e:pkc m (m.rows.length+w.length) s=pkc m (m.rows.length+w.length) t:=by
   rw [z8a a (zlu a) _ (by omega) s b,z8a a (zlu a) _ (by omega) t c];exact h
  exact(zfp a _ b c).1 e w d (by omega)
 ·intro h
  exact(zfp a _ b c).2 fun w d _=>h w d
end
end GV
end Go.Proofs.YtplgbkaollfmkaaGreat
