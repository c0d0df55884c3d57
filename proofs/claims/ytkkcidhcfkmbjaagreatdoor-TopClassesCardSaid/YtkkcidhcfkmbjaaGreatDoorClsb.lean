import Derived.Test.YtkkcidhcfkmbjaaGreatDoorClsa
import Derived.Test.YtkkcidhcfkmbjaaGreatDoorSepp
import Derived.Test.YtkkcidhcfkmbjaaGreatDoorRunt
set_option linter.unusedVariables false
set_option linter.unusedSimpArgs false
set_option linter.unusedSectionVars false
namespace Go.Proofs.YtkkcidhcfkmbjaaGreatDoor
namespace GV
set_option maxRecDepth 100000
section
variable {N : Nat} {m : Mach}
theorem zji{a b:List Int}(h:lle a b):a.length≤b.length:=by
 rcases h with rfl|h|⟨h,_⟩
 ·exact Nat.le_refl _
 ·omega
 ·omega
theorem zfv{w:List Int}(a:MOk m)(b:WOk m.inputs w)(d:w.length≤256):l5 w m.inputs=0:=by
 have e:=a.i1;have f:=a.i2
 refine zef (by omega) ?_
 rintro(h|h)
 ·omega
 ·rw [(z3s (z2i m.inputs) w).2 fun k c=>by
   have:=b k c
   unfold z2i
   rw [decide_eq_false (by omega),decide_eq_false (by omega)];rfl] at h
  cases h
theorem zq7{w:List Int}(a:MOk m)(e:400≤N){s:Nat}(g:s<m.rows.length)(c:WOk m.inputs w)(i:w.length≤100):iy N m (s:Int) w=some (vw m (s:Int) w,0):=by
 have b:=zhv (s:=(s:Int)) a (by omega)
 have d: ¬z19 m (s:Int)≠0:=fun h=>h b
 have f: ¬l5 w m.inputs≠0:=fun h=>h (zfv a c (by omega))
 rw [znd a.small e (by omega) (by omega)]
 unfold znb znt
 rw [if_neg d,if_neg f,if_neg d,zfv a c (by omega)]
theorem zi6{L:List (List Int)}{F:List Int→Option Bool}{f:Nat→List Int}{k:Nat}(g:L.length=k+1)(c: ∀ j,j≤k→L.getD j default=f j)(d: ∀ j,j≤k→F (f j)=some (decide (f j=f k)))(i:k+1<N)(l:k≤1000000):
 xk N L F=some (o7 f k:Int):=by
 have h:jy N L F N 0=some (Ex.rt (o7 f k:Int)):=by
  refine x9 (σ:=Unit) (fun G j _=>jy N L F G (j:Int)) (k+1) (fun j _=> ∀ t,t<j→f t≠f k) _ (fun G j _ m hi=>?_) (fun G _ hi=>absurd rfl (hi k (by omega))) N 0 () (Nat.zero_le _) (by omega) (fun t a=>by omega)
  simp only [jy]
  rw [xw (by omega),zi (j5 (by omega)),dx,c j (by omega),q8 (d j (by omega))]
  by_cases e:f j=f k
  ·left
   rw [decide_eq_true e]
   have b:fu f j=true:=bq.2 fun t a=>by rw [e];exact hi t a
   rw [z6f b e (by omega)];rfl
  ·right
   refine⟨(),fun t a=>?_,?_⟩
   ·by_cases h2:t=j
    ·rw [h2];exact e
    ·exact hi t (by omega)
   ·rw [decide_eq_false e]
    refine(cf rfl).trans ?_
    rw [zi (qi (by omega))];rfl
 unfold xk
 rw [q8 h];rfl
theorem zd7{w:List Int}(i:MOk m)(v:400≤N)(p:WOk m.inputs w)(x:w.length≤100):di N m w=some (yt (fun s=>vw m (s:Int) w) m.rows.length,0):=by
 have y:=i.r2
 have z:yh N m w N 0 (mk (m.rows.length:Int) ([]:List Int)) (mk (m.rows.length:Int) (0:Int))=some ((List.range m.rows.length).map fun s=>(o7 (fun s:Nat=>vw m (s:Int) w) s:Int)):=by
  refine x9 (σ:=List (List Int)×List Int) (fun F k st=>yh N m w F (k:Int) st.1 st.2) m.rows.length
   (fun k st=>st.1=(List.range k).map (fun s:Nat=>vw m (s:Int) w)++List.replicate (m.rows.length-k) []∧st.2=(List.range k).map (fun s=>(o7 (fun s:Nat=>vw m (s:Int) w) s:Int))++List.replicate (m.rows.length-k) 0) _ (fun F k st l hi=> .inr ?_) (fun F st hi=>?_) N 0 (mk (m.rows.length:Int) ([]:List Int),mk (m.rows.length:Int) (0:Int)) (Nat.zero_le _) (by omega) ⟨by show mk (m.rows.length:Int) ([]:List Int)=_;rw [z15];simp,by show mk (m.rows.length:Int) (0:Int)=_;rw [z15];simp⟩
  ·obtain⟨X,Y⟩:=st
   obtain⟨b,a⟩:=hi
   dsimp only at b a⊢
   have c:((List.range k).map (fun s:Nat=>vw m (s:Int) w)).length=k:=by simp
   have d:((List.range k).map (fun s=>(o7 (fun s:Nat=>vw m (s:Int) w) s:Int))).length=k:=by simp
   have n:X.length=m.rows.length:=by rw [b,List.length_append,c,List.length_replicate];omega
   have A:Y.length=m.rows.length:=by rw [a,List.length_append,d,List.length_replicate];omega
   have g:X.set k (vw m (k:Int) w)=(List.range (k+1)).map (fun s:Nat=>vw m (s:Int) w)++List.replicate (m.rows.length-(k+1)) []:=by
    rw [b,z0v c l,aa]
   have hcut:cut (X.set k (vw m (k:Int) w)) 0 ((k:Int)+1)=(List.range (k+1)).map (fun s:Nat=>vw m (s:Int) w):=by
    rw [g]
    unfold cut
    rw [show ((k:Int)+1).toNat-(0:Int).toNat=k+1 by omega]
    show List.take (k+1) (List.drop 0 (_++_))=_
    rw [List.drop_zero,List.take_left' (by simp)]
   have o:(X.set k (vw m (k:Int) w)).getD k default=vw m (k:Int) w:=by
    simp [List.getD_eq_getElem?_getD,n,l]
   refine⟨(X.set k (vw m (k:Int) w),Y.set k (o7 (fun s:Nat=>vw m (s:Int) w) k:Int)),⟨g,by rw [a,z0v d l,aa]⟩,?_⟩
   simp only [yh]
   rw [xw (by omega),q8 (zq7 i v l p x),zi (j5 (by omega)),zi (qi (by omega)),z3p]
   rw [zi (show okS (X.set k (vw m (k:Int) w)) 0 ((k:Int)+1) from⟨by omega,by omega,by rw [List.length_set];omega⟩)]
   rw [q8 (zi6 (f:=fun s:Nat=>vw m (s:Int) w) (k:=k) (by rw [hcut];simp) (fun j B=>by
    rw [hcut];simp [List.getD_eq_getElem?_getD,show j<k+1 by omega]) (fun j B=>by
    unfold lw
    rw [zi (j5 (by rw [List.length_set];omega)),dx,o,q8 (zaz (by rw [z1m];omega) (by rw [z1m];omega))]) (by omega) (by omega))]
   rw [zi (j5 (by omega)),zi (qi (by omega)),z3p];rfl
  ·obtain⟨X,Y⟩:=st
   obtain⟨b,a⟩:=hi
   dsimp only at b a⊢
   subst a
   simp only [yh]
   rw [yj (by omega),Nat.sub_self,List.replicate_zero,List.append_nil]
 unfold di
 rw [q8 (zf0 i (by omega)),yj (fun h=>h rfl),q8 (show eu N w m.inputs=some 0 by rw [zbt (by omega) (by omega),zfv i p (by omega)]),yj (fun h=>h rfl),
  zi ⟨by omega,by omega,by omega⟩,zi ⟨by omega,by omega,by omega⟩,q8 z,q8 (zno (by omega) (by simp;omega))]
 have e:yt (fun s=>((List.range m.rows.length).map fun s=>(o7 (fun s:Nat=>vw m (s:Int) w) s:Int)).getD s default) ((List.range m.rows.length).map fun s=>(o7 (fun s:Nat=>vw m (s:Int) w) s:Int)).length=yt (fun s:Nat=>vw m (s:Int) w) m.rows.length:=by
  rw [List.length_map,List.length_range]
  refine z0e fun s t C D=>?_
  have q: ∀ u,u<m.rows.length→((List.range m.rows.length).map fun s=>(o7 (fun s:Nat=>vw m (s:Int) w) s:Int)).getD u default=(o7 (fun s:Nat=>vw m (s:Int) w) u:Int):=fun u E=>by
   simp [List.getD_eq_getElem?_getD,E]
  rw [q s C,q t D]
  constructor
  ·intro h
   have h':o7 (fun s:Nat=>vw m (s:Int) w) s=o7 (fun s:Nat=>vw m (s:Int) w) t:=by omega
   have r:=(p9 (fun s:Nat=>vw m (s:Int) w) s).2.1
   have G:=(p9 (fun s:Nat=>vw m (s:Int) w) t).2.1
   rw [h'] at r
   exact r.symm.trans G
  ·intro h
   rw [z9t (f:=fun s:Nat=>vw m (s:Int) w) h]
 rw [e]
structure TabW (m:Mach) (s t:Nat) (L:List Sa):Prop where
 le:L.length≤64*s+t
 mem: ∀ p∈L,∃ a b,a<b∧b<m.rows.length∧p.fA=sw m (iq m) a b
 all: ∀ a b,a<b→b<m.rows.length→(a<s∨(a=s∧b<t))→ ∃ p∈L,p.fA=sw m (iq m) a b
theorem zdq(j:MOk m)(w:5000≤N): ∃ L,tq N m=some (L,0)∧L.length≤4200∧(∀ p∈L,∃ a b,a<b∧b<m.rows.length∧p.fA=sw m (iq m) a b)∧ ∀ a b,a<b→b<m.rows.length→ ∃ p∈L,p.fA=sw m (iq m) a b:=by
 have x:=j.r1;have y:=j.r2
 obtain⟨f,z,A⟩:=zce (N:=N) j w
 obtain⟨L,B,o⟩:=zbh (N:=N) (σ:=List Sa) j (by omega) (fun c n=>
  gd ((0:Int)≤c.1∧c.1<(64:Nat))<|
  gd ((0:Int)≤c.2∧c.2<(64:Nat))<|
  bd (slices_Clone_int N (ix f (i2 c.1 c.2))) fun q=>
  bd (gy N q) fun g=>
  gd (fits 48 n ([(⟨c.1,c.2,g,decide (0<(↑g.length:Int))⟩:Sa)]:List Sa))<|
  some (true,(n++([(⟨c.1,c.2,g,decide (0<(↑g.length:Int))⟩:Sa)]:List Sa)))) (TabW m)
  (fun s t st r u hi=>by
   have v:=hi.le
   have D:=zg0 j (k:=iq m) (by unfold iq;omega) (show s<m.rows.length by omega) u
   refine⟨st++[⟨(s:Int),(t:Int),sw m (iq m) s t,decide (0<((sw m (iq m) s t).length:Int))⟩],?_,?_⟩
   ·rw [zi (by omega),zi (by omega),A.get s t (by omega) u,q8 (ziv (by omega)),q8 zh8,zi ⟨by simp;omega,by simp;omega⟩]
   ·refine⟨by rw [List.length_append];simp;omega,fun p i=>?_,fun a b d l h=>?_⟩
    ·rcases List.mem_append.1 i with i|i
     ·exact hi.mem p i
     ·rw [List.mem_singleton.1 i];exact⟨s,t,r,u,rfl⟩
    ·by_cases e:a=s∧b=t
     ·obtain⟨rfl,rfl⟩:=e
      exact⟨_,List.mem_append.2 (.inr (List.mem_singleton.2 rfl)),rfl⟩
     ·obtain⟨p,i,C⟩:=hi.all a b d l (by omega)
      exact⟨p,List.mem_append.2 (.inl i),C⟩)
  (fun s st E hi=>⟨by have:=hi.le;omega,hi.mem,fun a b d l h=>hi.all a b d l (by omega)⟩)
  [] ⟨by simp,fun p i=>(by cases i),fun a b d l h=>by omega⟩
 refine⟨L,?_,by have:=o.le;omega,o.mem,fun a b d l=>o.all a b d l (by omega)⟩
 unfold tq
 have v:=o.le
 rw [q8 (zf0 j (by omega)),yj (fun h=>h rfl),q8 z,show mq N m=some m from rfl,zkf,q8 B]
 rw [q8 (show yo N L=some L by
  unfold yo
  rw [zi (zgj L),zgy])]
theorem zhl(d:MOk m)(z:5000≤N): ∃ h:Nat,oh N m=some ((h:Int),0)∧h<max m.rows.length 2∧h+1≤m.rows.length∧ ∀ a b,a<m.rows.length→b<m.rows.length→(sw m (iq m) a b).length≤h:=by
 have q:=d.r1;have A:=d.r2
 obtain⟨L,B,hlen,hmem,hall⟩:=zdq (N:=N) d z
 have hshort: ∀ a b,a<m.rows.length→b<m.rows.length→(sw m (iq m) a b).length+1≤m.rows.length:=fun a b g f=>by
  by_cases e:sw m (iq m) a b=[]
  ·rw [e];simpa using q
  ·have x:=(zcb d (k:=iq m) (by unfold iq;omega) g f).1 e
   obtain⟨w,s,C⟩:=zax d g f x.1
   have:=zji (x.2 w s)
   omega
 obtain⟨r,D,hr'⟩: ∃ r,vo N (L,0) N 0 0=some r∧ ∃ h:Nat,r=(h:Int)∧h+1≤m.rows.length∧ ∀ p∈L,p.fA.length≤h:=by
  refine z6g (σ:=Int) (fun F k st=>vo N (L,0) F st (k:Int)) L.length (fun k st=> ∃ h:Nat,st=(h:Int)∧h+1≤m.rows.length∧ ∀ j,j<k→(L.getD j default).fA.length≤h) _ (fun F k st y hi=> .inr ?_) (fun F st hi=>?_) N 0 0 (Nat.zero_le _) (by omega) ⟨0,rfl,by omega,fun j o=>by omega⟩
  ·obtain⟨h,rfl,f,o⟩:=hi
   obtain⟨a,b,i,c,s⟩:=hmem _ (lg y)
   have:=hshort a b (by omega) c
   rw [←s] at this
   refine⟨max (h:Int) ((L.getD k default).fA.length:Int),⟨max h (L.getD k default).fA.length,by omega,by omega,fun j hj'=>?_⟩,?_⟩
   ·by_cases e:j=k
    ·rw [e];omega
    ·have:=o j (by omega);omega
   ·simp only [vo]
    rw [xw (by omega),zi (j5 y),zi (qi (by omega)),dx];rfl
  ·obtain⟨h,rfl,f,o⟩:=hi
   simp only [vo]
   rw [yj (by omega)]
   refine⟨_,rfl,h,rfl,f,fun p t=>?_⟩
   obtain⟨j,l,rfl⟩:=List.mem_iff_getElem.1 t
   have:=o j l
   rwa [List.getD_eq_getElem?_getD,List.getElem?_eq_getElem l] at this
 obtain⟨h,rfl,f,t⟩:=hr'
 have n: ∀ a b,a<b→b<m.rows.length→(sw m (iq m) a b).length≤h:=fun a b i c=>by
  obtain⟨p,u,v⟩:=hall a b i c
  rw [←v];exact t p u
 refine⟨h,?_,by omega,f,fun a b g c=>?_⟩
 ·unfold oh
  rw [q8 B,q8 D]
 ·rcases Nat.lt_trichotomy a b with e|e|e
  ·exact n a b e c
  ·subst e;rw [zh2 d _ g];exact Nat.zero_le _
  ·rw [z8y d _ g c];exact n b a e g
end
end GV
end Go.Proofs.YtkkcidhcfkmbjaaGreatDoor
