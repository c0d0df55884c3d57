import Derived.Test.YtplgbkaollfmkaaShMap
set_option linter.unusedVariables false
set_option linter.unusedSimpArgs false
namespace Go.Proofs.Ytplgbkaollfmkaa
namespace GV
section names
variable {κ κ' : Type} [DecidableEq κ] [DecidableEq κ']
def z1h(f:Nat→κ)(u:Nat):Bool:=(List.range u).all fun t=>decide (f t≠f u)
theorem ru{f:Nat→κ}{u:Nat}:z1h f u=true↔ ∀ t,t<u→f t≠f u:=by
 unfold z1h
 rw [List.all_eq_true]
 exact⟨fun h t a=>of_decide_eq_true (h t (List.mem_range.2 a)),fun h t a=>decide_eq_true (h t (List.mem_range.1 a))⟩
def cntF(f:Nat→κ):Nat→Nat
 |0=>0
 |u+1=>cntF f u+if z1h f u=true then 1 else 0
theorem zc4(f:Nat→κ): ∀ u,cntF f u≤u
 |0=>Nat.le_refl _
 |u+1=>by have:=zc4 f u;unfold cntF;split<;>omega
theorem cntF_step(f:Nat→κ)(u:Nat):cntF f u≤cntF f (u+1):=by show _≤cntF f u+_;omega
theorem zm7(f:Nat→κ){u v:Nat}(h:u≤v):cntF f u≤cntF f v:=by
 induction v with
 |zero=>rw [show u=0 by omega];exact Nat.le_refl _
 |succ v ih=>
  by_cases e:u=v+1
  ·rw [e];exact Nat.le_refl _
  ·exact Nat.le_trans (ih (by omega)) (cntF_step f v)
theorem z92(f:Nat→κ){u v:Nat}(h:u<v)(a:z1h f u=true):cntF f u<cntF f v:=by
 have b:=zm7 f (show u+1≤v by omega)
 have c:cntF f (u+1)=cntF f u+1:=by show cntF f u+_=_;rw [if_pos a]
 omega
theorem zyn{f:Nat→κ}{u v:Nat}(a:z1h f u=true)(b:z1h f v=true)(h:cntF f u=cntF f v):u=v:=by
 rcases Nat.lt_trichotomy u v with e|e|e
 ·have:=z92 f e a;omega
 ·exact e
 ·have:=z92 f e b;omega
theorem zlw(f:Nat→κ): ∀ {n c:Nat},c<cntF f n→ ∃ u,u<n∧z1h f u=true∧cntF f u=c
 |0,c,h=>by simp [cntF] at h
 |n+1,c,h=>by
  by_cases h1:c<cntF f n
  ·obtain⟨u,b,a⟩:=zlw f h1
   exact⟨u,by omega,a⟩
  ·have a:c<cntF f n+if z1h f n=true then 1 else 0:=h
   by_cases h3:z1h f n=true
   ·rw [if_pos h3] at a
    exact⟨n,by omega,h3,by omega⟩
   ·rw [if_neg h3] at a;omega
def z6t(f:Nat→κ)(s:Nat):Nat:=((List.range s).find? fun t=>decide (f t=f s)).getD s
theorem z3a(f:Nat→κ)(s:Nat):z6t f s≤s∧f (z6t f s)=f s∧ ∀ t,t<z6t f s→f t≠f s:=by
 unfold z6t
 cases h:(List.range s).find? fun t=>decide (f t=f s) with
 |none=>
  rw [List.find?_eq_none] at h
  exact⟨Nat.le_refl _,rfl,fun t a=>by simpa using h t (List.mem_range.2 a)⟩
 |some u=>
  obtain⟨c,i,d,b,e⟩:=List.find?_eq_some_iff_getElem.1 h
  rw [List.getElem_range] at b
  subst b
  rw [List.length_range] at d
  refine⟨by show i≤s;omega,by simpa using c,fun t a=>?_⟩
  have:=e t a
  rw [List.getElem_range] at this
  simpa using this
theorem z7g(f:Nat→κ)(s:Nat):z1h f (z6t f s)=true:=by
 obtain⟨d,a,b⟩:=z3a f s
 exact ru.2 fun t c=>by rw [a];exact b t c
theorem zoc{f:Nat→κ}{u s:Nat}(a:z1h f u=true)(h:f u=f s)(b:u≤s):z6t f s=u:=by
 obtain⟨g,c,d⟩:=z3a f s
 rcases Nat.lt_trichotomy (z6t f s) u with e|e|e
 ·exact absurd (c.trans h.symm) (ru.1 a _ e)
 ·exact e
 ·exact absurd h (d u e)
theorem zau{f:Nat→κ}{u:Nat}(a:z1h f u=true):z6t f u=u:=zoc a rfl (Nat.le_refl _)
theorem zj4{f:Nat→κ}{s t:Nat}(h:f s=f t):z6t f s=z6t f t:=by
 obtain⟨g,a,b⟩:=z3a f s
 obtain⟨i,c,d⟩:=z3a f t
 rcases Nat.lt_trichotomy (z6t f s) (z6t f t) with e|e|e
 ·exact absurd (a.trans h) (d _ e)
 ·exact e
 ·exact absurd (c.trans h.symm) (b _ e)
def name(f:Nat→κ)(s:Nat):Nat:=cntF f (z6t f s)
theorem zgs{f:Nat→κ}{s t:Nat}:name f s=name f t↔f s=f t:=by
 constructor
 ·intro h
  have:=zyn (z7g f s) (z7g f t) h
  rw [←(z3a f s).2.1,this,(z3a f t).2.1]
 ·intro h;unfold name;rw [zj4 h]
theorem q04{f:Nat→κ}{s n:Nat}(h:s<n):name f s<cntF f n:=z92 f (Nat.lt_of_le_of_lt (z3a f s).1 h) (z7g f s)
theorem ze7{f:Nat→κ}{u:Nat}(h:z1h f u=true):name f u=cntF f u:=by unfold name;rw [zau h]
theorem zm0(f:Nat→κ):name f 0=0:=by
 unfold name
 rw [zau (ru.2 fun t a=>by omega)];rfl
/-! Only which keys are equal counts. -/
theorem zj9{f:Nat→κ}{g:Nat→κ'}{n:Nat}(h: ∀ s t,s<n→t<n→(f s=f t↔g s=g t)){u:Nat}(b:u<n):z1h f u=z1h g u:=by
 rw [Bool.eq_iff_iff,ru,ru]
 exact⟨fun k t a e=>k t a ((h t u (by omega) b).2 e),fun k t a e=>k t a ((h t u (by omega) b).1 e)⟩
theorem zk0{f:Nat→κ}{g:Nat→κ'}{n:Nat}(h: ∀ s t,s<n→t<n→(f s=f t↔g s=g t)): ∀ {u:Nat},u≤n→cntF f u=cntF g u
 |0,_=>rfl
 |u+1,a=>by
  show cntF f u+_=cntF g u+_
  rw [zk0 h (by omega),zj9 h (show u<n by omega)]
theorem zvd{f:Nat→κ}{g:Nat→κ'}{n:Nat}(h: ∀ s t,s<n→t<n→(f s=f t↔g s=g t)){s:Nat}(a:s<n):z6t f s=z6t g s:=by
 obtain⟨b,c,d⟩:=z3a g s
 refine zoc ?_ ((h _ _ (by omega) a).2 c) b
 rw [zj9 h (by omega)];exact z7g g s
theorem zbo{f:Nat→κ}{g:Nat→κ'}{n:Nat}(h: ∀ s t,s<n→t<n→(f s=f t↔g s=g t)){s:Nat}(a:s<n):name f s=name g s:=by
 have:=(z3a g s).1
 unfold name
 rw [zvd h a,zk0 h (by omega)]
/-! A map from keys to names,as the first k things are named. -/
def nmM(f:Nat→κ):Nat→List (κ×Int)
 |0=>[]
 |k+1=>nmM f k++if z1h f k=true then [(f k,(cntF f k:Int))] else []
theorem zsy(f:Nat→κ): ∀ k,(nmM f k).length=cntF f k
 |0=>rfl
 |k+1=>by
  show (nmM f k++_).length=cntF f k+_
  rw [List.length_append,zsy f k]
  split<;>rfl
theorem zon{β:Type}{M M':List (κ×β)}{x:κ}:z6z (M++M') x=(z6z M x||z6z M' x):=by
 induction M with
 |nil=>rfl
 |cons p l ih=>
  show (if x=p.1 then true else z6z (l++M') x)=((if x=p.1 then true else z6z l x)||z6z M' x)
  split
  ·rfl
  ·exact ih
theorem zpr{β:Type}{z:β}{M M':List (κ×β)}{x:κ}:zaf z (M++M') x=if z6z M x=true then zaf z M x else zaf z M' x:=by
 induction M with
 |nil=>rfl
 |cons p l ih=>
  show (if x=p.1 then p.2 else zaf z (l++M') x)=if(if x=p.1 then true else z6z l x)=true then(if x=p.1 then p.2 else zaf z l x) else zaf z M' x
  by_cases h:x=p.1
  ·simp [h]
  ·simp only [if_neg h];exact ih
theorem zx2{β:Type}{M:List (κ×β)}{x:κ}{v:β}(h:z6z M x=false):zek M x v=M++[(x,v)]:=by
 induction M with
 |nil=>rfl
 |cons p l ih=>
  unfold z6z at h
  by_cases e:x=p.1
  ·simp [e] at h
  ·rw [if_neg e] at h
   simp only [zek,if_neg e,ih h,List.cons_append]
theorem zfs(f:Nat→κ)(x:κ): ∀ k,z6z (nmM f k) x=true↔ ∃ t,t<k∧f t=x
 |0=>⟨fun h=>by simp [nmM,z6z] at h,fun⟨t,c,_⟩=>by omega⟩
 |k+1=>by
  show z6z (nmM f k++_) x=true↔_
  rw [zon,Bool.or_eq_true,zfs f x k]
  constructor
  ·rintro(⟨t,c,h⟩|h)
   ·exact⟨t,by omega,h⟩
   ·split at h
    ·by_cases e:x=f k
     ·exact⟨k,by omega,e.symm⟩
     ·simp [z6z,e] at h
    ·simp [z6z] at h
  ·rintro⟨t,c,h⟩
   by_cases e: ∃ u,u<k∧f u=x
   ·exact .inl e
   ·have a:t=k:=by
     rcases Nat.lt_or_ge t k with d|d
     ·exact absurd ⟨t,d,h⟩ e
     ·omega
    subst a
    right
    rw [if_pos (ru.2 fun u g b=>e ⟨u,g,b.trans h⟩)]
    simp [z6z,h]
theorem zsr(f:Nat→κ){s:Nat}: ∀ k,s<k→zaf 0 (nmM f k) (f s)=(name f s:Int)
 |0,h=>by omega
 |k+1,h=>by
  show zaf 0 (nmM f k++_) (f s)=_
  rw [zpr]
  by_cases e:z6z (nmM f k) (f s)=true
  ·rw [if_pos e]
   obtain⟨t,i,a⟩:=(zfs f _ k).1 e
   rw [←a,zsr f k i,zgs.2 a]
  ·rw [if_neg e]
   have d: ∀ u,u<k→f u≠f s:=fun u j c=>e ((zfs f _ k).2 ⟨u,j,c⟩)
   have l:s=k:=by
    rcases Nat.lt_or_ge s k with g|g
    ·exact absurd rfl (d s g)
    ·omega
   subst l
   have b:=ru.2 d
   rw [if_pos b,ze7 b]
   simp [zaf]
theorem q0o(f:Nat→κ){k:Nat}(h:z6z (nmM f k) (f k)=false):zek (nmM f k) (f k) ((nmM f k).length:Int)=nmM f (k+1):=by
 have a:z1h f k=true:=ru.2 fun t c b=>by
  have:=(zfs f (f k) k).2 ⟨t,c,b⟩
  rw [h] at this;cases this
 rw [zx2 h,zsy]
 show _=nmM f k++_
 rw [if_pos a]
theorem zzp(f:Nat→κ){k:Nat}(h:z6z (nmM f k) (f k)=true):nmM f (k+1)=nmM f k:=by
 obtain⟨t,b,a⟩:=(zfs f _ k).1 h
 show nmM f k++_=_
 rw [if_neg (fun c=>ru.1 c t b a),List.append_nil]
def zus(f:Nat→κ)(n:Nat):List Int:=(List.range n).map fun s=>(name f s:Int)
theorem zsg{f:Nat→κ}{g:Nat→κ'}{n:Nat}(h: ∀ s t,s<n→t<n→(f s=f t↔g s=g t)):zus f n=zus g n:=by
 unfold zus
 refine List.map_congr_left fun s a=>?_
 rw [zbo h (List.mem_range.1 a)]
end names
def z81{κ:Type}[DecidableEq κ](f:Nat→κ)(n:Nat):List Nat:=(List.range n).filter fun u=>z1h f u
section z81
variable {κ : Type} [DecidableEq κ] {f : Nat → κ}
theorem zh0(n:Nat):z81 f (n+1)=z81 f n++if z1h f n=true then [n] else []:=by
 unfold z81
 rw [List.range_succ,List.filter_append]
 congr 1
 by_cases h:z1h f n=true
 ·rw [if_pos h,List.filter_cons_of_pos h];rfl
 ·rw [if_neg h,List.filter_cons_of_neg h];rfl
theorem z6c: ∀ n,(z81 f n).length=cntF f n
 |0=>rfl
 |n+1=>by
  rw [zh0,List.length_append,z6c n]
  show _=cntF f n+_
  split<;>rfl
theorem zju: ∀ {n u:Nat},u<n→z1h f u=true→(z81 f n).getD (cntF f u) 0=u
 |0,u,h,_=>by omega
 |n+1,u,h,a=>by
  rw [zh0]
  by_cases e:u=n
  ·subst e
   rw [if_pos a,List.getD_eq_getElem?_getD,←z6c u,List.getElem?_concat_length];rfl
  ·have b:=z92 f (show u<n by omega) a
   rw [List.getD_eq_getElem?_getD,List.getElem?_append_left (by rw [z6c];exact b),←List.getD_eq_getElem?_getD]
   exact zju (by omega) a
theorem z9a{n c:Nat}(h:c<cntF f n):(z81 f n).getD c 0<n∧z1h f ((z81 f n).getD c 0)=true∧cntF f ((z81 f n).getD c 0)=c:=by
 obtain⟨u,a,b,rfl⟩:=zlw f h
 rw [zju a b]
 exact⟨a,b,rfl⟩
end z81
end GV
end Go.Proofs.Ytplgbkaollfmkaa
