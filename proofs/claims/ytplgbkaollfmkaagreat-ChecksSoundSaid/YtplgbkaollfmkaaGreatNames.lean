import Derived.Test.YtplgbkaollfmkaaGreatShMap
set_option linter.unusedVariables false
set_option linter.unusedSimpArgs false
namespace Go.Proofs.YtplgbkaollfmkaaGreat
namespace GV
section names
variable {κ κ' : Type} [DecidableEq κ] [DecidableEq κ']
def z2x(f:Nat→κ)(u:Nat):Bool:=(List.range u).all fun t=>decide (f t≠f u)
theorem z08{f:Nat→κ}{u:Nat}:z2x f u=true↔ ∀ t,t<u→f t≠f u:=by
 unfold z2x
 rw [List.all_eq_true]
 exact⟨fun h t a=>of_decide_eq_true (h t (List.mem_range.2 a)),fun h t a=>decide_eq_true (h t (List.mem_range.1 a))⟩
def cntF(f:Nat→κ):Nat→Nat
 |0=>0
 |u+1=>cntF f u+if z2x f u=true then 1 else 0
theorem zc7(f:Nat→κ): ∀ u,cntF f u≤u
 |0=>Nat.le_refl _
 |u+1=>by have:=zc7 f u;unfold cntF;split<;>omega
theorem cntF_step(f:Nat→κ)(u:Nat):cntF f u≤cntF f (u+1):=by show _≤cntF f u+_;omega
theorem zob(f:Nat→κ){u v:Nat}(h:u≤v):cntF f u≤cntF f v:=by
 induction v with
 |zero=>rw [show u=0 by omega];exact Nat.le_refl _
 |succ v ih=>
  by_cases e:u=v+1
  ·rw [e];exact Nat.le_refl _
  ·exact Nat.le_trans (ih (by omega)) (cntF_step f v)
theorem zax(f:Nat→κ){u v:Nat}(h:u<v)(a:z2x f u=true):cntF f u<cntF f v:=by
 have b:=zob f (show u+1≤v by omega)
 have c:cntF f (u+1)=cntF f u+1:=by show cntF f u+_=_;rw [if_pos a]
 omega
theorem q0a{f:Nat→κ}{u v:Nat}(a:z2x f u=true)(b:z2x f v=true)(h:cntF f u=cntF f v):u=v:=by
 rcases Nat.lt_trichotomy u v with e|e|e
 ·have:=zax f e a;omega
 ·exact e
 ·have:=zax f e b;omega
theorem zog(f:Nat→κ): ∀ {n c:Nat},c<cntF f n→ ∃ u,u<n∧z2x f u=true∧cntF f u=c
 |0,c,h=>by simp [cntF] at h
 |n+1,c,h=>by
  by_cases h1:c<cntF f n
  ·obtain⟨u,b,a⟩:=zog f h1
   exact⟨u,by omega,a⟩
  ·have a:c<cntF f n+if z2x f n=true then 1 else 0:=h
   by_cases h3:z2x f n=true
   ·rw [if_pos h3] at a
    exact⟨n,by omega,h3,by omega⟩
   ·rw [if_neg h3] at a;omega
def z8m(f:Nat→κ)(s:Nat):Nat:=((List.range s).find? fun t=>decide (f t=f s)).getD s
theorem z4i(f:Nat→κ)(s:Nat):z8m f s≤s∧f (z8m f s)=f s∧ ∀ t,t<z8m f s→f t≠f s:=by
 unfold z8m
 cases h:(List.range s).find? fun t=>decide (f t=f s) with
 |none=>
  rw [List.find?_eq_none] at h
  exact⟨Nat.le_refl _,rfl,fun t a=>by simpa using h t (List.mem_range.2 a)⟩
 |some u=>
  obtain⟨c,i,d,b,e⟩:=List.find?_eq_some_iff_getElem.1 h
  rw [List.getElem_range] at b
  subst b
  rw [List.length_range] at d
  refine⟨by show i≤s;omega,by simpa using c,fun t a=>?_⟩
  have:=e t a
  rw [List.getElem_range] at this
  simpa using this
theorem z98(f:Nat→κ)(s:Nat):z2x f (z8m f s)=true:=by
 obtain⟨d,a,b⟩:=z4i f s
 exact z08.2 fun t c=>by rw [a];exact b t c
theorem zsm{f:Nat→κ}{u s:Nat}(a:z2x f u=true)(h:f u=f s)(b:u≤s):z8m f s=u:=by
 obtain⟨g,c,d⟩:=z4i f s
 rcases Nat.lt_trichotomy (z8m f s) u with e|e|e
 ·exact absurd (c.trans h.symm) (z08.1 a _ e)
 ·exact e
 ·exact absurd h (d u e)
theorem zcl{f:Nat→κ}{u:Nat}(a:z2x f u=true):z8m f u=u:=zsm a rfl (Nat.le_refl _)
theorem zmu{f:Nat→κ}{s t:Nat}(h:f s=f t):z8m f s=z8m f t:=by
 obtain⟨g,a,b⟩:=z4i f s
 obtain⟨i,c,d⟩:=z4i f t
 rcases Nat.lt_trichotomy (z8m f s) (z8m f t) with e|e|e
 ·exact absurd (a.trans h) (d _ e)
 ·exact e
 ·exact absurd (c.trans h.symm) (b _ e)
def name(f:Nat→κ)(s:Nat):Nat:=cntF f (z8m f s)
theorem zhz{f:Nat→κ}{s t:Nat}:name f s=name f t↔f s=f t:=by
 constructor
 ·intro h
  have:=q0a (z98 f s) (z98 f t) h
  rw [←(z4i f s).2.1,this,(z4i f t).2.1]
 ·intro h;unfold name;rw [zmu h]
theorem q4a{f:Nat→κ}{s n:Nat}(h:s<n):name f s<cntF f n:=zax f (Nat.lt_of_le_of_lt (z4i f s).1 h) (z98 f s)
theorem zfn{f:Nat→κ}{u:Nat}(h:z2x f u=true):name f u=cntF f u:=by unfold name;rw [zcl h]
theorem zp6(f:Nat→κ):name f 0=0:=by
 unfold name
 rw [zcl (z08.2 fun t a=>by omega)];rfl
/-! Only which keys are equal counts. -/
theorem zma{f:Nat→κ}{g:Nat→κ'}{n:Nat}(h: ∀ s t,s<n→t<n→(f s=f t↔g s=g t)){u:Nat}(b:u<n):z2x f u=z2x g u:=by
 rw [Bool.eq_iff_iff,z08,z08]
 exact⟨fun k t a e=>k t a ((h t u (by omega) b).2 e),fun k t a e=>k t a ((h t u (by omega) b).1 e)⟩
theorem zmm{f:Nat→κ}{g:Nat→κ'}{n:Nat}(h: ∀ s t,s<n→t<n→(f s=f t↔g s=g t)): ∀ {u:Nat},u≤n→cntF f u=cntF g u
 |0,_=>rfl
 |u+1,a=>by
  show cntF f u+_=cntF g u+_
  rw [zmm h (by omega),zma h (show u<n by omega)]
theorem zz8{f:Nat→κ}{g:Nat→κ'}{n:Nat}(h: ∀ s t,s<n→t<n→(f s=f t↔g s=g t)){s:Nat}(a:s<n):z8m f s=z8m g s:=by
 obtain⟨b,c,d⟩:=z4i g s
 refine zsm ?_ ((h _ _ (by omega) a).2 c) b
 rw [zma h (by omega)];exact z98 g s
theorem zdj{f:Nat→κ}{g:Nat→κ'}{n:Nat}(h: ∀ s t,s<n→t<n→(f s=f t↔g s=g t)){s:Nat}(a:s<n):name f s=name g s:=by
 have:=(z4i g s).1
 unfold name
 rw [zz8 h a,zmm h (by omega)]
/-! A map from keys to names,as the first k things are named. -/
def nmM(f:Nat→κ):Nat→List (κ×Int)
 |0=>[]
 |k+1=>nmM f k++if z2x f k=true then [(f k,(cntF f k:Int))] else []
theorem zws(f:Nat→κ): ∀ k,(nmM f k).length=cntF f k
 |0=>rfl
 |k+1=>by
  show (nmM f k++_).length=cntF f k+_
  rw [List.length_append,zws f k]
  split<;>rfl
theorem zs5{β:Type}{M M':List (κ×β)}{x:κ}:z95 (M++M') x=(z95 M x||z95 M' x):=by
 induction M with
 |nil=>rfl
 |cons p l ih=>
  show (if x=p.1 then true else z95 (l++M') x)=((if x=p.1 then true else z95 l x)||z95 M' x)
  split
  ·rfl
  ·exact ih
theorem zt8{β:Type}{z:β}{M M':List (κ×β)}{x:κ}:z7s z (M++M') x=if z95 M x=true then z7s z M x else z7s z M' x:=by
 induction M with
 |nil=>rfl
 |cons p l ih=>
  show (if x=p.1 then p.2 else z7s z (l++M') x)=if(if x=p.1 then true else z95 l x)=true then(if x=p.1 then p.2 else z7s z l x) else z7s z M' x
  by_cases h:x=p.1
  ·simp [h]
  ·simp only [if_neg h];exact ih
theorem q2p{β:Type}{M:List (κ×β)}{x:κ}{v:β}(h:z95 M x=false):zai M x v=M++[(x,v)]:=by
 induction M with
 |nil=>rfl
 |cons p l ih=>
  unfold z95 at h
  by_cases e:x=p.1
  ·simp [e] at h
  ·rw [if_neg e] at h
   simp only [zai,if_neg e,ih h,List.cons_append]
theorem ziw(f:Nat→κ)(x:κ): ∀ k,z95 (nmM f k) x=true↔ ∃ t,t<k∧f t=x
 |0=>⟨fun h=>by simp [nmM,z95] at h,fun⟨t,c,_⟩=>by omega⟩
 |k+1=>by
  show z95 (nmM f k++_) x=true↔_
  rw [zs5,Bool.or_eq_true,ziw f x k]
  constructor
  ·rintro(⟨t,c,h⟩|h)
   ·exact⟨t,by omega,h⟩
   ·split at h
    ·by_cases e:x=f k
     ·exact⟨k,by omega,e.symm⟩
     ·simp [z95,e] at h
    ·simp [z95] at h
  ·rintro⟨t,c,h⟩
   by_cases e: ∃ u,u<k∧f u=x
   ·exact .inl e
   ·have a:t=k:=by
     rcases Nat.lt_or_ge t k with d|d
     ·exact absurd ⟨t,d,h⟩ e
     ·omega
    subst a
    right
    rw [if_pos (z08.2 fun u g b=>e ⟨u,g,b.trans h⟩)]
    simp [z95,h]
theorem zwg(f:Nat→κ){s:Nat}: ∀ k,s<k→z7s 0 (nmM f k) (f s)=(name f s:Int)
 |0,h=>by omega
 |k+1,h=>by
  show z7s 0 (nmM f k++_) (f s)=_
  rw [zt8]
  by_cases e:z95 (nmM f k) (f s)=true
  ·rw [if_pos e]
   obtain⟨t,i,a⟩:=(ziw f _ k).1 e
   rw [←a,zwg f k i,zhz.2 a]
  ·rw [if_neg e]
   have d: ∀ u,u<k→f u≠f s:=fun u j c=>e ((ziw f _ k).2 ⟨u,j,c⟩)
   have l:s=k:=by
    rcases Nat.lt_or_ge s k with g|g
    ·exact absurd rfl (d s g)
    ·omega
   subst l
   have b:=z08.2 d
   rw [if_pos b,zfn b]
   simp [z7s]
theorem q47(f:Nat→κ){k:Nat}(h:z95 (nmM f k) (f k)=false):zai (nmM f k) (f k) ((nmM f k).length:Int)=nmM f (k+1):=by
 have a:z2x f k=true:=z08.2 fun t c b=>by
  have:=(ziw f (f k) k).2 ⟨t,c,b⟩
  rw [h] at this;cases this
 rw [q2p h,zws]
 show _=nmM f k++_
 rw [if_pos a]
theorem q3v(f:Nat→κ){k:Nat}(h:z95 (nmM f k) (f k)=true):nmM f (k+1)=nmM f k:=by
 obtain⟨t,b,a⟩:=(ziw f _ k).1 h
 show nmM f k++_=_
 rw [if_neg (fun c=>z08.1 c t b a),List.append_nil]
def zy6(f:Nat→κ)(n:Nat):List Int:=(List.range n).map fun s=>(name f s:Int)
theorem zul{f:Nat→κ}{g:Nat→κ'}{n:Nat}(h: ∀ s t,s<n→t<n→(f s=f t↔g s=g t)):zy6 f n=zy6 g n:=by
 unfold zy6
 refine List.map_congr_left fun s a=>?_
 rw [zdj h (List.mem_range.1 a)]
end names
def z9n{κ:Type}[DecidableEq κ](f:Nat→κ)(n:Nat):List Nat:=(List.range n).filter fun u=>z2x f u
section z9n
variable {κ : Type} [DecidableEq κ] {f : Nat → κ}
theorem zjc(n:Nat):z9n f (n+1)=z9n f n++if z2x f n=true then [n] else []:=by
 unfold z9n
 rw [List.range_succ,List.filter_append]
 congr 1
 by_cases h:z2x f n=true
 ·rw [if_pos h,List.filter_cons_of_pos h];rfl
 ·rw [if_neg h,List.filter_cons_of_neg h];rfl
theorem z7l: ∀ n,(z9n f n).length=cntF f n
 |0=>rfl
 |n+1=>by
  rw [zjc,List.length_append,z7l n]
  show _=cntF f n+_
  split<;>rfl
theorem zmn: ∀ {n u:Nat},u<n→z2x f u=true→(z9n f n).getD (cntF f u) 0=u
 |0,u,h,_=>by omega
 |n+1,u,h,a=>by
  rw [zjc]
  by_cases e:u=n
  ·subst e
   rw [if_pos a,List.getD_eq_getElem?_getD,←z7l u,List.getElem?_concat_length];rfl
  ·have b:=zax f (show u<n by omega) a
   rw [List.getD_eq_getElem?_getD,List.getElem?_append_left (by rw [z7l];exact b),←List.getD_eq_getElem?_getD]
   exact zmn (by omega) a
theorem zb5{n c:Nat}(h:c<cntF f n):(z9n f n).getD c 0<n∧z2x f ((z9n f n).getD c 0)=true∧cntF f ((z9n f n).getD c 0)=c:=by
 obtain⟨u,a,b,rfl⟩:=zog f h
 rw [zmn a b]
 exact⟨a,b,rfl⟩
end z9n
end GV
end Go.Proofs.YtplgbkaollfmkaaGreat
