import Derived.Test.YtjmlpkkbmnjhcaaPlain04
set_option linter.unusedVariables false
set_option linter.unusedSimpArgs false
set_option linter.unusedSectionVars false
namespace Go.Proofs.Ytjmlpkkbmnjhcaa
namespace GV
/-! ### The order of words-/
def zcn:List Int→List Int→Prop
 |a::x,b::y=>a<b∨(a=b∧zcn x y)
 |_,_=>False
def llt(a b:List Int):Prop:=a.length<b.length∨(a.length=b.length∧zcn a b)
def lle(a b:List Int):Prop:=a=b∨llt a b
theorem zcd: ∀ a,¬zcn a a
 | [],h=>h
 |x::a,h=>by
  rcases h with h|⟨_,h⟩
  ·omega
  ·exact zcd a h
theorem zdi: ∀ {a b c},zcn a b→zcn b c→zcn a c
 | [],_,_,h,_=>h.elim
 |_::_,[],_,h,_=>h.elim
 |_::_,_::_,[],_,h=>h.elim
 |x::a,y::b,z::c,h,k=>by
  rcases h with h|⟨rfl,h⟩
  ·rcases k with k|⟨rfl,k⟩
   ·exact .inl (by omega)
   ·exact .inl h
  ·rcases k with k|⟨rfl,k⟩
   ·exact .inl k
   ·exact .inr ⟨rfl,zdi h k⟩
theorem zex: ∀ {a b:List Int} (i j:Int),zcn a b→a.length=b.length→zcn (a++[i]) (b++[j])
 | [],_,_,_,h,_=>h.elim
 |_::_,[],_,_,h,_=>h.elim
 |x::a,y::b,i,j,h,c=>by
  rcases h with h|⟨rfl,h⟩
  ·exact .inl h
  ·exact .inr ⟨rfl,zex i j h (by simpa using c)⟩
theorem zff: ∀ (a:List Int) {i j:Int},i<j→zcn (a++[i]) (a++[j])
 | [],_,_,h=> .inl h
 |_::a,_,_,h=> .inr ⟨rfl,zff a h⟩
theorem zka(a:List Int): ¬llt a a:=by
 rintro(h|⟨_,h⟩)
 ·omega
 ·exact zcd a h
theorem z7n{a b c:List Int}(h:llt a b)(k:llt b c):llt a c:=by
 rcases h with h|⟨h,h'⟩
 ·rcases k with k|⟨k,_⟩
  ·exact .inl (by omega)
  ·exact .inl (by omega)
 ·rcases k with k|⟨k,k'⟩
  ·exact .inl (by omega)
  ·exact .inr ⟨by omega,zdi h' k'⟩
theorem zfb{a b:List Int}(i j:Int)(h:llt a b):llt (a++[i]) (b++[j]):=by
 rcases h with h|⟨h,h'⟩
 ·exact .inl (by simp;omega)
 ·exact .inr ⟨by simp [h],zex i j h' h⟩
theorem zji(a:List Int){i j:Int}(h:i<j):llt (a++[i]) (a++[j]):= .inr ⟨by simp,zff a h⟩
theorem zct{a b c:List Int}(h:lle a b)(k:lle b c):lle a c:=by
 rcases h with rfl|h
 ·exact k
 ·rcases k with rfl|k
  ·exact .inr h
  ·exact .inr (z7n h k)
theorem zja{a b:List Int}(i:Int)(h:lle a b):lle (a++[i]) (b++[i]):=by
 rcases h with rfl|h
 ·exact .inl rfl
 ·exact .inr (zfb i i h)
theorem zsu{a b c:List Int}(h:lle a b)(k:llt b c):llt a c:=by
 rcases h with rfl|h
 ·exact k
 ·exact z7n h k
theorem zsk{a b:List Int}(h:lle a b): ¬llt b a:=fun k=>zka _ (zsu h k)
/-! ### Entries-/
structure BE where
 st:Nat
 par:Int
 inp:Int
 wd:List Int
 deriving DecidableEq,Inhabited
def ed(m:Mach)(s i:Nat):Int:=((m.rows.getD s default).getD i default).to
def occ(All:List BE)(t:Nat):Bool:=All.any fun e=>decide (e.st=t)
theorem zbu{All:List BE}{t:Nat}:occ All t=true↔ ∃ j,j<All.length∧(All.getD j default).st=t:=by
 unfold occ
 rw [List.any_eq_true]
 constructor
 ·rintro⟨e,c,b⟩
  obtain⟨j,a,rfl⟩:=List.mem_iff_getElem.1 c
  exact⟨j,a,by simpa [List.getD_eq_getElem?_getD,a] using b⟩
 ·rintro⟨j,a,b⟩
  exact⟨_,z3x a,by simpa using b⟩
def push(m:Mach)(x:BE)(All:List BE)(i:Nat):List BE:=
 if ed m x.st i= -1 then All else if occ All (ed m x.st i).toNat=true then All else All++[⟨(ed m x.st i).toNat,x.st,i,x.wd++[(i:Int)]⟩]
def zbm(m:Mach)(x:BE)(All:List BE):Nat→List BE
 |0=>All
 |k+1=>push m x (zbm m x All k) k
def bfs(m:Mach):Nat→Nat→List BE→List BE
 |0,_,All=>All
 |g+1,p,All=>if p<All.length then bfs m g (p+1) (zbm m (All.getD p default) All m.inputs.toNat) else All
theorem zxa{m:Mach}(a:MOk m){s i:Nat}(b:s<m.rows.length)(hi:i<m.inputs.toNat):ed m s i= -1∨(0≤ed m s i∧ed m s i<m.rows.length):=by
 have:=zjb m a (s:Int) (i:Int) (.inr ⟨by omega,by omega⟩) ⟨by omega,by have:=a.i1;omega⟩
 have h:=this.1
 unfold z4w at h
 rw [if_neg (by omega)] at h
 exact h
theorem zp7(m:Mach)(x:BE)(All:List BE)(i:Nat):All<+:push m x All i:=by
 unfold push
 split
 ·exact List.prefix_refl _
 ·split
  ·exact List.prefix_refl _
  ·exact List.prefix_append _ _
theorem z9y(m:Mach)(x:BE)(All:List BE): ∀ k,All<+:zbm m x All k
 |0=>List.prefix_refl _
 |k+1=>(z9y m x All k).trans (zp7 m x _ k)
theorem zpg{X Y:List BE}(h:X<+:Y){j:Nat}(a:j<X.length):Y.getD j default=X.getD j default:=by
 obtain⟨t,rfl⟩:=h
 simp [List.getD_eq_getElem?_getD,List.getElem?_append_left a]
structure Inv (m:Mach) (s0 p k:Nat) (All:List BE):Prop where
 pos:0<All.length
 root:All.getD 0 default=⟨s0,-1,-1,[]⟩
 rng: ∀ j,j<All.length→(All.getD j default).st<m.rows.length
 dis: ∀ i j,i<All.length→j<All.length→(All.getD i default).st=(All.getD j default).st→i=j
 aft: ∀ j,j<All.length→z1a m s0 (All.getD j default).wd=((All.getD j default).st:Int)
 par: ∀ j,0<j→j<All.length→ ∃ q i,q<j∧i<m.inputs.toNat∧(All.getD j default).par=((All.getD q default).st:Int)∧(All.getD j default).inp=(i:Int)∧(All.getD j default).wd=(All.getD q default).wd++[(i:Int)]∧ed m (All.getD q default).st i=((All.getD j default).st:Int)
 inc: ∀ i j,i<j→j<All.length→llt (All.getD i default).wd (All.getD j default).wd
 bnd:p<All.length→ ∀ j,j<All.length→llt (All.getD j default).wd ((All.getD p default).wd++[(k:Int)])
 cls: ∀ q i,q<All.length→i<m.inputs.toNat→(q<p∨(q=p∧i<k))→ed m (All.getD q default).st i≠ -1→ ∃ j,j<All.length∧((All.getD j default).st:Int)=ed m (All.getD q default).st i∧lle (All.getD j default).wd ((All.getD q default).wd++[(i:Int)])
theorem zh6{X:List BE}{e:BE}{j:Nat}(h:j<X.length):(X++[e]).getD j default=X.getD j default:=by
 simp [List.getD_eq_getElem?_getD,List.getElem?_append_left h]
theorem zfw{X:List BE}{e:BE}:(X++[e]).getD X.length default=e:=by
 simp [List.getD_eq_getElem?_getD]
theorem zrs{m:Mach}(z:MOk m){s0 p k:Nat}{All:List BE}(h:Inv m s0 p k All)(g:p<All.length)(y:k<m.inputs.toNat):Inv m s0 p (k+1) (push m (All.getD p default) All k):=by
 have r:=h.bnd g
 have hlast:llt ((All.getD p default).wd++[(k:Int)]) ((All.getD p default).wd++[((k+1:Nat):Int)]):=zji _ (by omega)
 have hsame:(∀ q i,q=p→i=k→ed m (All.getD q default).st i≠ -1→ ∃ j,j<All.length∧((All.getD j default).st:Int)=ed m (All.getD q default).st i∧lle (All.getD j default).wd ((All.getD q default).wd++[(i:Int)]))→Inv m s0 p (k+1) All:=fun s=>
  {h with
   bnd:=fun _ j a=>z7n (r j a) hlast
   cls:=fun q i f hi d c=>by
    rcases d with l|⟨rfl,l⟩
    ·exact h.cls q i f hi (.inl l) c
    ·by_cases e:i=k
     ·exact s q i rfl e c
     ·exact h.cls q i f hi (.inr ⟨rfl,by omega⟩) c}
 unfold push
 by_cases h1:ed m (All.getD p default).st k= -1
 ·rw [if_pos h1]
  exact hsame fun q i f hi c=>by subst f;subst hi;exact absurd h1 c
 ·rw [if_neg h1]
  have t:=zxa z (h.rng p g) y
  obtain⟨C,D⟩:=t.resolve_left h1
  by_cases h4:occ All (ed m (All.getD p default).st k).toNat=true
  ·rw [if_pos h4]
   refine hsame fun q i f hi c=>?_
   subst f;subst hi
   obtain⟨j,a,u⟩:=zbu.1 h4
   exact⟨j,a,by rw [u];omega,.inr (r j a)⟩
  ·rw [if_neg h4]
   have hnew: ∀ j,j<All.length→(All.getD j default).st≠(ed m (All.getD p default).st k).toNat:=fun j a e=>h4 (zbu.2 ⟨j,a,e⟩)
   have hlen:(All++[(⟨(ed m (All.getD p default).st k).toNat,((All.getD p default).st:Int),(k:Int),(All.getD p default).wd++[(k:Int)]⟩:BE)]).length=All.length+1:=by simp
   generalize hE:(⟨(ed m (All.getD p default).st k).toNat,((All.getD p default).st:Int),(k:Int),(All.getD p default).wd++[(k:Int)]⟩:BE)=e at hlen⊢
   have n:e.st=(ed m (All.getD p default).st k).toNat:=by rw [←hE]
   have A:e.par=((All.getD p default).st:Int):=by rw [←hE]
   have B:e.inp=(k:Int):=by rw [←hE]
   have o:e.wd=(All.getD p default).wd++[(k:Int)]:=by rw [←hE]
   have cs: ∀ j,j<(All++[e]).length→j<All.length∨j=All.length:=fun j a=>by rw [hlen] at a;omega
   have lt:=fun {j:Nat} (a:j<All.length)=>zh6 (e:=e) a
   have le:=zfw (X:=All) (e:=e)
   refine⟨by rw [hlen];omega,by rw [lt h.pos];exact h.root,fun j a=>?_,fun i j hi a b=>?_,fun j a=>?_,fun j v a=>?_,fun i j b a=>?_,fun _ j a=>?_,fun q i f hi d c=>?_⟩
   ·rcases cs j a with a|rfl
    ·rw [lt a];exact h.rng j a
    ·rw [le,n];omega
   ·rcases cs i hi with hi|rfl<;>rcases cs j a with a|rfl
    ·rw [lt hi,lt a] at b;exact h.dis i j hi a b
    ·rw [lt hi,le,n] at b;exact absurd b (hnew i hi)
    ·rw [le,lt a,n] at b;exact absurd b.symm (hnew j a)
    ·rfl
   ·rcases cs j a with a|rfl
    ·rw [lt a];exact h.aft j a
    ·rw [le,o,n,z9t,h.aft p g]
     show (z4w m ((All.getD p default).st:Int) (k:Int)).to=_
     unfold z4w
     rw [if_neg (by omega)]
     show ed m (All.getD p default).st k=_
     omega
   ·rcases cs j a with a|rfl
    ·obtain⟨q,i,w,x⟩:=h.par j v a
     exact⟨q,i,w,by rw [lt a,lt (by omega)];exact x⟩
    ·refine⟨p,k,g,y,?_⟩
     rw [le,lt g,n,A,B,o]
     exact⟨rfl,rfl,rfl,by omega⟩
   ·rcases cs j a with a|rfl
    ·rw [lt a,lt (by omega)];exact h.inc i j b a
    ·rw [le,lt b,o];exact r i b
   ·rw [lt g]
    rcases cs j a with a|rfl
    ·rw [lt a];exact z7n (r j a) hlast
    ·rw [le,o];exact hlast
   ·have hq':q<All.length:=by rcases d with l|⟨rfl,_⟩<;>omega
    rw [lt hq'] at c⊢
    by_cases s:q=p∧i=k
    ·obtain⟨rfl,rfl⟩:=s
     exact⟨All.length,by rw [hlen];omega,by rw [le,n];omega,by rw [le,o];exact .inl rfl⟩
    ·obtain⟨j,a,w,x⟩:=h.cls q i hq' hi (by rcases d with l|⟨rfl,l⟩;exact .inl l;exact .inr ⟨rfl,by omega⟩) c
     exact⟨j,by rw [hlen];omega,by rw [lt a];exact w,by rw [lt a];exact x⟩
theorem zm5{m:Mach}(a:MOk m){s0 p:Nat}{All:List BE}(h:Inv m s0 p 0 All)(b:p<All.length): ∀ k,k≤m.inputs.toNat→Inv m s0 p k (zbm m (All.getD p default) All k)
 |0,_=>h
 |k+1,c=>by
  have ih:=zm5 a h b k (by omega)
  have hpre:=z9y m (All.getD p default) All k
  have e:(zbm m (All.getD p default) All k).getD p default=All.getD p default:=zpg hpre b
  have:=zrs a ih (by have:=hpre.length_le;omega) (by omega)
  rw [e] at this
  exact this
theorem zqk{m:Mach}{s0 p:Nat}{All:List BE}(h:Inv m s0 p m.inputs.toNat All)(c:p<All.length):Inv m s0 (p+1) 0 All:=
 {h with
  bnd:=fun hp' j d=>z7n (h.bnd c j d) (zfb _ _ (h.inc p (p+1) (by omega) hp'))
  cls:=fun q i e hi a b=>h.cls q i e hi (by rcases a with f|⟨_,f⟩;exact(Nat.lt_or_ge q p).imp id fun _=>⟨by omega,hi⟩;omega) b}
theorem zmz{m:Mach}{s0 p k:Nat}{All:List BE}(h:Inv m s0 p k All):All.length≤m.rows.length:=by
 have b:(All.map (·.st)).Nodup:=by
  rw [List.nodup_iff_pairwise_ne,List.pairwise_iff_getElem]
  intro i j hi a c e
  rw [List.length_map] at hi a
  rw [List.getElem_map,List.getElem_map] at e
  have:=h.dis i j hi a (by simpa [List.getD_eq_getElem?_getD,a,hi] using e)
  omega
 have hsub:(All.map (·.st))⊆List.range m.rows.length:=by
  intro x d
  obtain⟨e,f,rfl⟩:=List.mem_map.1 d
  obtain⟨j,a,rfl⟩:=List.mem_iff_getElem.1 f
  have:=h.rng j a
  rw [List.mem_range]
  simpa [List.getD_eq_getElem?_getD,a] using this
 have:=List.Nodup.length_le_of_subset b hsub
 simpa using this
theorem zmy{m:Mach}(a:MOk m){s0:Nat}: ∀ (g p:Nat) (All:List BE),p+g=m.rows.length→p≤All.length→Inv m s0 p 0 All→ ∃ q,(bfs m g p All).length≤q∧Inv m s0 q 0 (bfs m g p All)
 |0,p,All,b,c,h=>⟨p,by have:=zmz h;show All.length≤p;omega,h⟩
 |g+1,p,All,b,c,h=>by
  unfold bfs
  by_cases hlt:p<All.length
  ·rw [if_pos hlt]
   have d:=zm5 a h hlt _ (Nat.le_refl _)
   have hpre:=(z9y m (All.getD p default) All m.inputs.toNat).length_le
   exact zmy a g (p+1) _ (by omega) (by omega) (zqk d (by omega))
  ·rw [if_neg hlt]
   exact⟨p,by omega,h⟩
def rch(m:Mach)(s0:Nat):List BE:=bfs m m.rows.length 0 [⟨s0,-1,-1,[]⟩]
structure Rch (m:Mach) (s0:Nat) (P:List BE):Prop where
 pos:0<P.length
 le:P.length≤m.rows.length
 root:P.getD 0 default=⟨s0,-1,-1,[]⟩
 rng: ∀ j,j<P.length→(P.getD j default).st<m.rows.length
 dis: ∀ i j,i<P.length→j<P.length→(P.getD i default).st=(P.getD j default).st→i=j
 aft: ∀ j,j<P.length→z1a m s0 (P.getD j default).wd=((P.getD j default).st:Int)
 par: ∀ j,0<j→j<P.length→ ∃ q i,q<j∧i<m.inputs.toNat∧(P.getD j default).par=((P.getD q default).st:Int)∧(P.getD j default).inp=(i:Int)∧(P.getD j default).wd=(P.getD q default).wd++[(i:Int)]∧ed m (P.getD q default).st i=((P.getD j default).st:Int)
 inc: ∀ i j,i<j→j<P.length→llt (P.getD i default).wd (P.getD j default).wd
 cls: ∀ q i,q<P.length→i<m.inputs.toNat→ed m (P.getD q default).st i≠ -1→ ∃ j,j<P.length∧((P.getD j default).st:Int)=ed m (P.getD q default).st i∧lle (P.getD j default).wd ((P.getD q default).wd++[(i:Int)])
theorem zqw{m:Mach}{s0:Nat}(b:s0<m.rows.length):Inv m s0 0 0 [⟨s0,-1,-1,[]⟩]:=by
 have c: ∀ j,j<[(⟨s0,-1,-1,[]⟩:BE)].length→j=0:=fun j a=>by simpa using a
 refine⟨by simp,rfl,fun j a=>?_,fun i j hi a _=>?_,fun j a=>?_,fun j h a=>?_,fun i j d a=>?_,fun _ j a=>?_,fun q i e hi f g=>?_⟩
 ·rw [c j a];exact b
 ·rw [c i hi,c j a]
 ·rw [c j a];rfl
 ·have:=c j a;omega
 ·have:=c j a;omega
 ·rw [c j a];exact .inl (by simp)
 ·have:=c q e;omega
theorem zpw{m:Mach}(b:MOk m){s0:Nat}(c:s0<m.rows.length):Rch m s0 (rch m s0):=by
 obtain⟨q,d,h⟩:=zmy b m.rows.length 0 _ (by omega) (by simp) (zqw c)
 exact⟨h.pos,zmz h,h.root,h.rng,h.dis,h.aft,h.par,h.inc,fun q' i hq' hi a=>h.cls q' i hq' hi (.inl (Nat.lt_of_lt_of_le hq' d)) a⟩
section rch
variable {m : Mach} {s0 : Nat} {P : List BE}
theorem Rch.wok(h:Rch m s0 P): ∀ j,j<P.length→WOk m.inputs (P.getD j default).wd∧(P.getD j default).wd.length≤j
 |j,b=>by
  by_cases h0:j=0
  ·subst h0;rw [h.root];exact⟨fun k a=>by simp at a,by simp⟩
  ·obtain⟨q,i,d,hi,_,_,c,_⟩:=h.par j (by omega) b
   obtain⟨ih,ihl⟩:=Rch.wok h q (by omega)
   rw [c]
   refine⟨fun k a=>?_,by rw [List.length_append,List.length_singleton];omega⟩
   rw [List.length_append,List.length_singleton] at a
   by_cases hk':k<(P.getD q default).wd.length
   ·rw [List.getD_eq_getElem?_getD,List.getElem?_append_left hk',←List.getD_eq_getElem?_getD];exact ih k hk'
   ·have:k=(P.getD q default).wd.length:=by omega
    subst this
    rw [List.getD_eq_getElem?_getD,List.getElem?_concat_length]
    exact⟨by simp,by simp only [Option.getD_some];omega⟩
theorem zql{n c:Int}{u:List Int}(h:WOk n (u++[c])):WOk n u∧0≤c∧c<n:=by
 refine⟨fun k a=>?_,?_⟩
 ·have:=h k (by simp;omega)
  rwa [List.getD_eq_getElem?_getD,List.getElem?_append_left a,←List.getD_eq_getElem?_getD] at this
 ·have:=h u.length (by simp)
  rwa [List.getD_eq_getElem?_getD,List.getElem?_concat_length] at this
theorem zj7(m:Mach): ∀ (w:List Int),z1a m (-1) w= -1
 | []=>rfl
 |c::w=>by
  show z1a m (z4w m (-1) c).to w= -1
  rw [show z4w m (-1) c=⟨-1,-1⟩ from rfl]
  exact zj7 m w
theorem Rch.least(i:MOk m)(h:Rch m s0 P): ∀ (n:Nat) (w:List Int),w.length=n→WOk m.inputs w→z1a m s0 w≠ -1→ ∃ j,j<P.length∧((P.getD j default).st:Int)=z1a m s0 w∧lle (P.getD j default).wd w
 |0,w,b,g,a=>by
  have:w=[]:=List.length_eq_zero_iff.1 b
  subst this
  exact⟨0,h.pos,by rw [h.root];rfl,by rw [h.root];exact .inl rfl⟩
 |n+1,w,b,g,a=>by
  obtain⟨u,c,rfl⟩: ∃ u c,w=u++[c]:=⟨w.dropLast,w.getLast (by intro e;rw [e] at b;simp at b),(List.dropLast_concat_getLast _).symm⟩
  obtain⟨k,l,o⟩:=zql g
  rw [z9t] at a⊢
  have hune:z1a m s0 u≠ -1:=fun e=>by rw [e,zj7] at a;exact a rfl
  obtain⟨q,p,d,f⟩:=Rch.least i h n u (by simpa using b) k hune
  rw [←d] at a⊢
  have hstep:z1a m ((P.getD q default).st:Int) [c]=ed m (P.getD q default).st c.toNat:=by
   show (z4w m ((P.getD q default).st:Int) c).to=_
   unfold z4w
   rw [if_neg (by omega)]
   rfl
  rw [hstep] at a⊢
  obtain⟨j,r,s,t⟩:=h.cls q c.toNat p (by omega) a
  refine⟨j,r,s,zct t ?_⟩
  rw [show ((c.toNat:Nat):Int)=c by omega]
  exact zja c f
theorem Rch.min(b:MOk m)(h:Rch m s0 P){j:Nat}(c:j<P.length){w:List Int}(d:WOk m.inputs w)(a:z1a m s0 w=((P.getD j default).st:Int)):lle (P.getD j default).wd w:=by
 obtain⟨i,hi,e,f⟩:=h.least b _ w rfl d (by rw [a];omega)
 rw [a] at e
 have:=h.dis i j hi c (by omega)
 subst this
 exact f
end rch
end GV
end Go.Proofs.Ytjmlpkkbmnjhcaa
