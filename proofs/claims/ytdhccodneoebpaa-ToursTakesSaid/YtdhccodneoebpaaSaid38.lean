
import Derived.Test.YtdhccodneoebpaaSpec04b
import Derived.Test.YtdhccodneoebpaaShPlain
import Derived.Test.YtdhccodneoebpaaShOpens
set_option linter.unusedVariables false
set_option linter.unusedSimpArgs false
set_option linter.unusedSectionVars false
namespace Go.Proofs.Ytdhccodneoebpaa
namespace GV
set_option maxRecDepth 100000
theorem MOk.rowlen{m:Mach}(a:MOk m){s:Nat}(b:s<m.rows.length):(m.rows.getD s default).length=m.inputs.toNat:=by
 have:=a.row s b;omega
theorem MOk.inp{m:Mach}(a:MOk m):1≤m.inputs.toNat∧m.inputs.toNat≤16∧(m.inputs.toNat:Int)=m.inputs:=by
 have:=a.i1;have:=a.i2;omega
theorem zdo{b:Nat}{α β:Type}{X:List α}{y:β}(h:(X.length+1)*b≤140737488355328∧X.length≤1000000000):fits b X ([y]:List β):=⟨by simpa using h.1,by simp;omega⟩
section steps
variable {N : Nat} {m : Mach} {σ : Type} {s : Nat}
theorem zfy(d:MOk m)(q:200≤N)(e:s<m.rows.length)(B:Sb→σ→Option (Bool×σ))(P:Nat→σ→Prop)(Q:σ→Prop){s0:σ}(g:P 0 s0)
 (j: ∀ i z,i<m.inputs.toNat→0≤ed m s i→P i z→ ∃ b z',B ⟨(i:Int),ed m s i⟩ z=some (b,z')∧(b=true→P (i+1) z')∧(b=false→Q z'))
 (k: ∀ i z,i<m.inputs.toNat→ed m s i= -1→P i z→P (i+1) z): ∃ z,bi N m (s:Int) σ B s0=some z∧(P m.inputs.toNat z∨Q z):=by
 have l:=d.rowlen e
 have hi:=d.inp
 unfold bi
 rw [qb (jf e)]
 refine z3g (fun F i z=>af N σ B m (s:Int) F z (i:Int)) m.inputs.toNat P _ (fun F i z a c=>?_) (fun F z c=>?_) N 0 s0 (Nat.zero_le _) (by omega) g
 ·have n:(ix (ix m.rows (s:Int)) (i:Int)).to=ed m s i:=rfl
  simp only [af]
  rw [bz (show (i:Int)<((ix m.rows (s:Int)).length:Int) by rw [dw];omega),qb (show okI (ix m.rows (s:Int)) (i:Int) from jf (by rw [dw,l];exact a)),n]
  rcases zc3 d e a with h|h
  ·right
   refine⟨z,k i z a h c,?_⟩
   rw [bu (show¬ed m s i≠ -1 by omega),zcl,ze1,qb (jk (by omega))];rfl
  ·obtain⟨b,z',f,o,p⟩:=j i z a h.1 c
   cases b
   ·left
    refine⟨z',?_,.inr (p rfl)⟩
    rw [bz (show ed m s i≠ -1 by omega)]
    refine Eq.trans (qz (x:=Ex.rt z') ?_) rfl
    exact Eq.trans (qz f) rfl
   ·right
    refine⟨z',o rfl,?_⟩
    rw [bz (show ed m s i≠ -1 by omega)]
    refine Eq.trans (qz (x:=Ex.go z') ?_) ?_
    ·exact Eq.trans (qz f) rfl
    ·rw [ze1,qb (jk (by omega))];rfl
 ·simp only [af]
  rw [bu (show¬(m.inputs.toNat:Int)<((ix m.rows (s:Int)).length:Int) by rw [dw];omega)]
  exact⟨z,rfl,.inl c⟩
theorem zoc(c:MOk m)(d:200≤N)(e:s<m.rows.length)(B:Sb→σ→Option (Bool×σ))(P:Nat→σ→Prop){s0:σ}(f:P 0 s0)
 (g: ∀ i z,i<m.inputs.toNat→0≤ed m s i→P i z→ ∃ z',B ⟨(i:Int),ed m s i⟩ z=some (true,z')∧P (i+1) z')
 (j: ∀ i z,i<m.inputs.toNat→ed m s i= -1→P i z→P (i+1) z): ∃ z,bi N m (s:Int) σ B s0=some z∧P m.inputs.toNat z:=by
 obtain⟨z,h,k⟩:=zfy c d e B P (fun _=>False) f (fun i z hi l n=>let⟨z',a,b⟩:=g i z hi l n;⟨true,z',a,fun _=>b,fun h=>by cases h⟩) j
 exact⟨z,h,k.resolve_right id⟩
end steps
/-! ### Edges that are left-/
structure Shp (m:Mach) (L:List (List Int)):Prop where
 len:L.length=m.rows.length
 row: ∀ s,s<m.rows.length→(L.getD s default).length=m.inputs.toNat
def lf(L:List (List Int))(s i:Nat):Int:=(L.getD s default).getD i default
section rest
variable {N : Nat} {m : Mach} {σ : Type} {s : Nat} {L : List (List Int)} {k : Int}
end rest
end GV
end Go.Proofs.Ytdhccodneoebpaa

namespace Go.Proofs.Ytdhccodneoebpaa
namespace GV
set_option maxRecDepth 100000
theorem ztp{α:Type}[Inhabited α](X:List α)(x:α):ix (X++[x]) ((↑(X++[x]).length:Int)-1)=x:=by
 rw [zca]
 have:((↑(X++[x]).length:Int)-1).toNat=X.length:=by rw [List.length_append];simp
 rw [this]
 simp [List.getD_eq_getElem?_getD]
theorem zsd{α:Type}(X:List α)(x:α):cut (X++[x]) 0 ((↑(X++[x]).length:Int)-1)=X:=by
 unfold cut
 have:((↑(X++[x]).length:Int)-1).toNat=X.length:=by rw [List.length_append];simp
 rw [this]
 simp
theorem zqy{α:Type}(X:List α)(x:α):okI (X++[x]) ((↑(X++[x]).length:Int)-1):=by
 have h:(X++[x]).length=X.length+1:=by simp
 exact⟨by omega,by omega⟩
theorem zq3{α:Type}(X:List α)(x:α):okS (X++[x]) 0 ((↑(X++[x]).length:Int)-1):=by
 have h:(X++[x]).length=X.length+1:=by simp
 exact⟨by omega,by omega,by omega⟩
structure DInv (m:Mach) (a:Nat) (Y:List Bool) (S:List Int):Prop where
 len:Y.length=m.rows.length
 sound: ∀ t,Y.getD t default=true→Reach m a t
 start:Y.getD a default=true
 stk: ∀ x∈S,∃ t:Nat,x=(t:Int)∧t<m.rows.length∧Y.getD t default=true
 closed: ∀ t,t<m.rows.length→Y.getD t default=true→(t:Int)∉S→Closed m Y t
structure DRow (m:Mach) (a s:Nat) (c:Nat) (i:Nat) (Y:List Bool) (S:List Int):Prop where
 len:Y.length=m.rows.length
 sound: ∀ t,Y.getD t default=true→Reach m a t
 start:Y.getD a default=true
 here:Y.getD s default=true
 stk: ∀ x∈S,∃ t:Nat,x=(t:Int)∧t<m.rows.length∧Y.getD t default=true
 closed: ∀ t,t<m.rows.length→Y.getD t default=true→(t:Int)∉S→t=s∨Closed m Y t
 dn: ∀ j,j<i→0≤ed m s j→Y.getD (ed m s j).toNat default=true
 cnt:Y.count false+S.length=c
section dfs
variable {m : Mach} {a s c i : Nat} {Y : List Bool} {S : List Int}
theorem DRow.skip(h:DRow m a s c i Y S)(d:ed m s i= -1):DRow m a s c (i+1) Y S:=by
 refine⟨h.len,h.sound,h.start,h.here,h.stk,h.closed,fun j f b=>?_,h.cnt⟩
 by_cases e:j=i
 ·subst e;omega
 ·exact h.dn j (by omega) b
theorem DRow.old(h:DRow m a s c i Y S)(b:Y.getD (ed m s i).toNat default=true):DRow m a s c (i+1) Y S:=by
 refine⟨h.len,h.sound,h.start,h.here,h.stk,h.closed,fun j f d=>?_,h.cnt⟩
 by_cases e:j=i
 ·subst e;exact b
 ·exact h.dn j (by omega) d
theorem DRow.mark(q:MOk m)(k:s<m.rows.length)(hi:i<m.inputs.toNat)(h:DRow m a s c i Y S)(l:0≤ed m s i)(w:Y.getD (ed m s i).toNat default=false):
 DRow m a s c (i+1) (Y.set (ed m s i).toNat true) (S++[ed m s i]):=by
 have f:(ed m s i).toNat<Y.length:=by rw [h.len];rcases zc3 q k hi with h|h<;>omega
 have g:=fun t=>z6d (t:=t) f
 have hmono: ∀ t,Y.getD t default=true→(Y.set (ed m s i).toNat true).getD t default=true:=fun t b=>by rw [g];split;rfl;exact b
 have n: ∀ t,Closed m Y t→Closed m (Y.set (ed m s i).toNat true) t:=fun t b j r l=>hmono _ (b j r l)
 refine⟨by simp [h.len],fun t b=>?_,hmono _ h.start,hmono _ h.here,fun x d=>?_,fun t b u v=>?_,fun j r o=>?_,?_⟩
 ·rw [g] at b
  by_cases e:t=(ed m s i).toNat
  ·subst e;exact .step (h.sound s h.here) k (by rw [q.rowlen k];exact hi) l
  ·rw [if_neg e] at b;exact h.sound t b
 ·rcases List.mem_append.1 d with d|d
  ·obtain⟨t,e,o,y⟩:=h.stk x d
   exact⟨t,e,o,hmono t y⟩
  ·rw [List.mem_singleton] at d
   subst d
   exact⟨(ed m s i).toNat,by omega,by rw [←h.len];exact f,by rw [g,if_pos rfl]⟩
 ·have p:t≠(ed m s i).toNat:=fun e=>v (List.mem_append.2 (.inr (by rw [List.mem_singleton];omega)))
  rw [g,if_neg p] at u
  exact(h.closed t b u fun d=>v (List.mem_append.2 (.inl d))).imp id (n t)
 ·by_cases e:j=i
  ·subst e;rw [g,if_pos rfl]
  ·exact hmono _ (h.dn j (by omega) o)
 ·have:=z81 f w
  have:=h.cnt
  rw [List.length_append,List.length_singleton];omega
theorem DInv.pop{x:Int}(h:DInv m a Y (S++[x])): ∃ s:Nat,x=(s:Int)∧s<m.rows.length∧DRow m a s (Y.count false+S.length) 0 Y S:=by
 obtain⟨s,e,c,d⟩:=h.stk x (by simp)
 refine⟨s,e,c,h.len,h.sound,h.start,d,fun z f=>h.stk z (by simp [f]),fun t g hy' i=>?_,fun j k=>by omega,rfl⟩
 by_cases e':t=s
 ·exact .inl e'
 ·refine .inr (h.closed t g hy' fun b=>?_)
  rcases List.mem_append.1 b with b|b
  ·exact i b
  ·rw [List.mem_singleton,e] at b;omega
theorem DRow.fin(d:MOk m)(e:s<m.rows.length)(h:DRow m a s c m.inputs.toNat Y S):DInv m a Y S:=by
 refine⟨h.len,h.sound,h.start,h.stk,fun t f g i=>?_⟩
 rcases h.closed t f g i with rfl|k
 ·intro j b l
  rw [d.rowlen e] at b
  exact h.dn j b l
 ·exact k
theorem DInv.fin(g:a<m.rows.length)(h:DInv m a Y []):Y=reachL m a:=by
 have key: ∀ t,Reach m a t→Y.getD t default=true:=by
  intro t b
  induction b with
  |refl=>exact h.start
  |step i c d e ih=>exact h.closed _ c ih (by simp) _ d e
 refine z6q (by rw [h.len,z4d]) fun k f=>?_
 rw [Bool.eq_iff_iff,z3o (by rw [←h.len];exact f)]
 exact⟨h.sound k,key k⟩
theorem DInv.zero(g:a<m.rows.length):DInv m a ((List.replicate m.rows.length false).set a true) [(a:Int)]:=by
 have h:a<(List.replicate m.rows.length false).length:=by simpa using g
 have b: ∀ t,(List.replicate m.rows.length false).getD t default=false:=fun t=>by
  simp only [List.getD_eq_getElem?_getD,List.getElem?_replicate];split<;>rfl
 have c:=fun t=>z6d (t:=t) h
 refine⟨by simp,fun t d=>?_,by rw [c,if_pos rfl],fun x b=>?_,fun t d f i=>?_⟩
 ·rw [c,b] at d
  by_cases e:t=a
  ·subst e;exact .refl
  ·rw [if_neg e] at d;cases d
 ·rw [List.mem_singleton] at b;exact⟨a,b,g,by rw [c,if_pos rfl]⟩
 ·exfalso
  rw [c,b] at f
  by_cases e:t=a
  ·subst e;exact i (by simp)
  ·rw [if_neg e] at f;cases f
theorem DInv.zcnt(b:a<m.rows.length):((List.replicate m.rows.length false).set a true).count false+1=m.rows.length:=by
 have:=z81 (X:=List.replicate m.rows.length false) (s:=a) (by simpa using b) (by
  simp only [List.getD_eq_getElem?_getD,List.getElem?_replicate];split<;>rfl)
 rw [this,List.count_replicate_self]
theorem zri(d:MOk m)(e:s<m.rows.length)(hi:i<m.inputs.toNat)(k:c≤100)(h:DRow m a s c i Y S)(f:0≤ed m s i):
 ∃ Z,(gd (okI Y (ed m s i))<|
 bif !(ix Y (ed m s i)) then(
 gd (okI Y (ed m s i))<|
 gd (fits 8 S ([ed m s i]:List Int))<|
 some (true,((up Y (ed m s i) true),(S++([ed m s i]:List Int))))) else(
 some (true,(Y,S))))=some (true,Z)∧DRow m a s c (i+1) Z.1 Z.2:=by
 have g:(ed m s i).toNat<Y.length:=by rw [h.len];rcases zc3 d e hi with h|h<;>omega
 have b:okI Y (ed m s i):=⟨f,by omega⟩
 have j:=h.cnt
 rw [qb b]
 cases he:Y.getD (ed m s i).toNat default
 ·refine⟨(Y.set (ed m s i).toNat true,S++[ed m s i]),?_,h.mark d e hi f he⟩
  rw [ct (by rw [zca,he];rfl),qb b,qb (zdo (by omega))];rfl
 ·refine⟨(Y,S),?_,h.old he⟩
  rw [cf (by rw [zca,he];rfl)]
end dfs
theorem zff{N:Nat}{m:Mach}(e:MOk m)(j:200≤N){a:Nat}(k:a<m.rows.length): ∀ (F:Nat) (Y:List Bool) (S:List Int),DInv m a Y S→Y.count false+S.length<F→Y.count false+S.length≤100→
 lg N m F Y S=some (reachL m a)
 |0,_,_,_,h,_=>by omega
 |F+1,Y,S,l,q,r=>by
  have t:=e.r2
  rcases List.eq_nil_or_concat S with rfl|⟨f,x,rfl⟩
  ·simp only [lg]
   rw [bu (by simp),l.fin k]
  ·rw [List.concat_eq_append] at*
   obtain⟨s,rfl,g,hrow⟩:=l.pop
   have hlen:(f++[(s:Int)]).length=f.length+1:=by simp
   simp only [lg]
   rw [bz (by omega),qb (jk (by omega)),qb (zqy _ _),qb (jk (by omega)),qb (zq3 _ _),ztp,zsd]
   rw [show mo N m (s:Int)=some (m,(s:Int)) from rfl,zcl]
   obtain⟨z,n,d⟩:=zoc (s:=s) e j g (σ:=List Bool×List Int) (fun c b=>
    gd (okI b.1 c.fB)<|
    bif !(ix b.1 c.fB) then(
    gd (okI b.1 c.fB)<|
    gd (fits 8 b.2 ([c.fB]:List Int))<|
    some (true,((up b.1 c.fB true),(b.2++([c.fB]:List Int))))) else(
    some (true,(b.1,b.2)))) (fun i z=>DRow m a s (Y.count false+f.length) i z.1 z.2) (s0:=(Y,f)) hrow
    (fun i z hi o d=>zri e g hi (by omega) d o) (fun i z hi p d=>d.skip p)
   rw [qz n]
   have:=d.cnt
   exact zff e j k F z.1 z.2 (d.fin e g) (by omega) (by omega)
theorem zlp{N:Nat}{m:Mach}(c:MOk m)(d:200≤N){a:Nat}(b:a<m.rows.length):z6w N m (a:Int)=some (reachL m a):=by
 have e:=c.r2
 unfold z6w
 rw [qb ⟨by omega,by omega,by omega⟩,z5r,qb (jf (by simpa using b)),zav]
 refine Eq.trans (qz (x:=reachL m a) ?_) rfl
 have f:=DInv.zcnt (m:=m) b
 exact zff c d b N _ _ (DInv.zero b) (by simp only [List.length_singleton];omega) (by simp only [List.length_singleton];omega)
theorem zfb{N:Nat}{m:Mach}(d:MOk m)(A:200≤N){a t:Nat}(n:a<m.rows.length)(u:t<m.rows.length):di N m (a:Int) (t:Int) (m.rows.length:Int)=some ((reachL m a).getD t default):=by
 have B:=d.r2;have v:=d.i1;have w:=d.i2
 unfold di
 by_cases e:a=t
 ·subst e
  rw [bz rfl,(z3o n).2 .refl]
 rw [bu (by omega),qb ⟨by omega,by omega,by omega⟩,z5r,qb (jf (by simpa using n)),zav]
 refine Eq.trans (qz (x:=reachL m a) ?_) (by rw [qb (jf (by rw [z4d];exact u))];rfl)
 refine xy (fun F r Y=>gq N m (m.rows.length:Int) F (r:Int) Y) m.rows.length (fun r Y=>RInv m a r Y) _ (fun F r Y C hi=> .inr ?_) (fun F Y hi=>?_) N 0 _ (Nat.zero_le _) (by omega) (zod n)
 ·obtain⟨Z,y,z⟩: ∃ Z,yw N m N 0 Y=some Z∧RInv m a (r+1) Z:=by
   refine z3g (fun F s Z=>yw N m F (s:Int) Z) m.rows.length (fun s Z=>RPass m a Y s 0 Z) _ (fun F s Z g j=> .inr ?_) (fun F Z j=>?_) N 0 Y (Nat.zero_le _) (by omega) (ztj hi)
   ·have hlen:((m.rows.getD s default).length:Int)=m.inputs:=d.row s g
    obtain⟨V,o,p⟩: ∃ V,wm N m (s:Int) N 0 Z=some V∧RPass m a Y (s+1) 0 V:=by
     by_cases hzs:Z.getD s default=true
     ·obtain⟨V,o,p,_⟩: ∃ V,wm N m (s:Int) N 0 Z=some V∧RPass m a Y (s+1) 0 V∧V.getD s default=true:=by
       refine z3g (fun F i V=>wm N m (s:Int) F (i:Int) V) m.inputs.toNat (fun i V=>RPass m a Y s i V∧V.getD s default=true) (fun V=>RPass m a Y (s+1) 0 V∧V.getD s default=true) (fun F i V hi' b=> .inr ?_) (fun F V b=>?_) N 0 Z (Nat.zero_le _) (by omega) ⟨j,hzs⟩
       ·obtain⟨b,c⟩:=b
        have k:i<(m.rows.getD s default).length:=by omega
        have f:s<V.length:=by rw [b.len];exact g
        simp only [wm]
        rw [qb (fun _=>jf f),ct (by rw [decide_eq_true (show (i:Int)<m.inputs by omega),dw,c];rfl),qb (jf g),qb (show okI (ix m.rows (s:Int)) (i:Int) from jf k)]
        rcases zc3 d g hi' with h|h
        ·refine⟨V,⟨zmt b (fun l=>by have:=l.2;unfold ed at h;omega),c⟩,?_⟩
         refine Eq.trans (qz (x:=V) (bu (fun l=>l h))) ?_
         rw [qb (jk (by omega))];rfl
        ·have q:((m.rows.getD s default).getD i default).to.toNat<V.length:=by rw [b.len];unfold ed at h;omega
         refine⟨_,⟨zvi d b g k c h.1,by rw [z6d q];split;rfl;exact c⟩,?_⟩
         refine Eq.trans (qz (x:=V.set ((m.rows.getD s default).getD i default).to.toNat true) ?_) ?_
         ·refine Eq.trans (bz (show ed m s i≠ -1 by omega)) ?_
          exact qb (show okI V ((m.rows.getD s default).getD i default).to from⟨h.1,by unfold ed at h;omega⟩)
         ·rw [qb (jk (by omega))];rfl
       ·simp only [wm]
        rw [qb (fun h=>by rw [decide_eq_false (show¬(m.inputs.toNat:Int)<m.inputs by omega)] at h;cases h),cf (by rw [decide_eq_false (show¬(m.inputs.toNat:Int)<m.inputs by omega)];rfl)]
        exact⟨V,rfl,zqe b.1 (by omega),b.2⟩
      exact⟨V,o,p⟩
     ·refine⟨Z,?_,?_⟩
      ·obtain⟨F,rfl⟩: ∃ F,N=F+1:=⟨N-1,by omega⟩
       have f:s<Z.length:=by rw [j.len];exact g
       simp only [wm]
       rw [qb (fun _=>jf f),cf (by rw [dw,Bool.eq_false_iff.2 hzs];simp)]
      ·have: ∀ i,i≤m.inputs.toNat→RPass m a Y s i Z:=by
        intro i
        induction i with
        |zero=>intro _;exact j
        |succ i ih=>intro h;exact zmt (ih (by omega)) (fun l=>hzs l.1)
       exact zqe (this m.inputs.toNat (Nat.le_refl _)) (by omega)
    refine⟨V,p,?_⟩
    simp only [yw]
    rw [bz (by omega),qz o,qb (jk (by omega))];rfl
   ·simp only [yw]
    rw [bu (by omega)]
    exact⟨Z,rfl,zv0 j (Nat.le_refl _) hi⟩
  refine⟨Z,z,?_⟩
  simp only [gq]
  rw [bz (by omega),qz y,qb (jk (by omega))];rfl
 ·simp only [gq]
  rw [bu (by omega),zq0 d n hi (Nat.le_refl _)]
end GV
end Go.Proofs.Ytdhccodneoebpaa

namespace Go.Proofs.Ytdhccodneoebpaa
namespace GV
set_option maxRecDepth 100000
structure CM38 (m:Mach):Prop where
 ok:MOk m
 conn: ∀ t,t<m.rows.length→Reach m 0 t
theorem zdz{m:Mach}(c:MOk m){s0:Nat}{P:List BE}(a:Rch m s0 P): ∀ n j,j≤n→j<P.length→Reach m s0 (P.getD j default).st
 |0,j,g,d=>by
  obtain rfl:j=0:=by omega
  rw [a.root];exact .refl
 |n+1,j,g,d=>by
  by_cases h0:j=0
  ·exact zdz c a n j (by omega) d
  ·obtain⟨q,i,k,hi,_,_,_,b⟩:=a.par j (by omega) d
   have h:=zdz c a n q (by omega) (by omega)
   have f:=a.rng q (by omega)
   have:=Reach.step (i:=i) h f (by rw [c.rowlen f];exact hi) (by show 0≤ed m _ i;rw [b];omega)
   have e:((m.rows.getD (P.getD q default).st default).getD i default).to.toNat=(P.getD j default).st:=by
    show (ed m (P.getD q default).st i).toNat=_
    rw [b];omega
   rwa [e] at this
theorem zpz{m:Mach}(f:MOk m):CM38 (z9w m)∧(z9w m).rows.length≤m.rows.length∧(z9w m).inputs=m.inputs:=by
 have c:=zro f
 have g:=zcn c
 have a:=zsq f
 refine⟨⟨a,fun t d=>?_⟩,?_,rfl⟩
 ·have i:(z9w m).rows.length=(z8g (rch m 0)).length:=zee
  rw [i] at d
  have h:rch (z9w m) 0=(rch m 0).map (ren (z8g (rch m 0))):=by
   have:=zsz f g (zjz c).1
   rw [(zjz c).2] at this
   exact this
  have b:t<(rch m 0).length:=by rw [zdg] at d;exact d
  have:=zdz a (zro a) t t (Nat.le_refl _) (by rw [h,List.length_map];exact b)
  have e:((rch (z9w m) 0).getD t default).st=t:=by
   rw [h]
   have:((rch m 0).map (ren (z8g (rch m 0)))).getD t default=ren (z8g (rch m 0)) ((rch m 0).getD t default):=by simp [List.getD_eq_getElem?_getD,b]
   rw [this]
   show (z8g (rch m 0)).idxOf ((rch m 0).getD t default).st=t
   rw [←zka _ b]
   exact zgq g.nd d
  rwa [e] at this
 ·have:(z9w m).rows.length=(z8g (rch m 0)).length:=zee
  rw [this,zdg]
  exact c.le
theorem CM38.connB{m:Mach}(h:CM38 m):connB m=true:=znf fun j a=>(z3o a).2 (h.conn j a)
noncomputable def check38(m:Mach):Int:=if z1o m≠0 then z1o m else if connB m=true then 0 else 11
theorem zgv{N:Nat}{m:Mach}(b:Small m)(c:200≤N):sj N m=some (check38 m):=by
 unfold sj check38
 rw [qz (zjg b c)]
 by_cases h:z1o m=0
 ·rw [if_neg (fun a=>a h),if_neg (fun a=>a h)]
  cases hc:GV.connB m
  ·rw [ct (by rw [h];rfl)];rfl
  ·rw [cf (by simp)];rw [h];rfl
 ·rw [if_pos h,if_pos h,cf (by rw [decide_eq_false h];rfl)]
theorem CM38.check0{N:Nat}{m:Mach}(h:CM38 m)(a:200≤N):sj N m=some 0:=by
 rw [zgv h.ok.small a]
 unfold check38
 rw [if_neg (fun b=>b ((z7s m).2 h.ok)),if_pos h.connB]
theorem zon{m:Mach}(h:check38 m=0):CM38 m:=by
 unfold check38 at h
 by_cases hc:z1o m=0
 ·rw [if_neg (fun b=>b hc)] at h
  have a:GV.connB m=true:=by
   cases a:GV.connB m
   ·rw [a] at h;cases h
   ·rfl
  refine⟨(z7s m).1 hc,fun t c=>?_⟩
  unfold GV.connB at a
  exact @of_decide_eq_true _ (Classical.propDecidable _) a t c
 ·rw [if_pos hc] at h;exact absurd h hc
/-! ### Knots-/
noncomputable def muB(m:Mach)(s t:Nat):Bool:=(reachL m s).getD t default&&(reachL m t).getD s default
noncomputable def fst38(m:Mach)(s:Nat):Nat:=((List.range m.rows.length).find? fun t=>muB m s t).getD 0
section knots
variable {N : Nat} {m : Mach} {s t u : Nat}
theorem zie(a:s<m.rows.length)(b:t<m.rows.length):muB m s t=true↔Reach m s t∧Reach m t s:=by
 unfold muB
 rw [Bool.and_eq_true,z3o b,z3o a]
theorem znw(a:s<m.rows.length):muB m s s=true:=(zie a a).2 ⟨.refl,.refl⟩
theorem zn6:muB m s t=muB m t s:=by unfold muB;rw [Bool.and_comm]
theorem zh4(a:s<m.rows.length)(b:t<m.rows.length)(c:u<m.rows.length)(h:muB m s t=true)(k:muB m t u=true):muB m s u=true:=by
 rw [zie a b] at h
 rw [zie b c] at k
 exact(zie a c).2 ⟨h.1.trans k.1,k.2.trans h.2⟩
theorem zay(a:s<m.rows.length):fst38 m s≤s∧muB m s (fst38 m s)=true∧ ∀ u,u<fst38 m s→muB m s u=false:=by
 unfold fst38
 cases h:(List.range m.rows.length).find? fun t=>muB m s t with
 |none=>
  rw [List.find?_eq_none] at h
  exact absurd (znw a) (h s (List.mem_range.2 a))
 |some f=>
  rw [List.find?_range_eq_some] at h
  obtain⟨c,e,b⟩:=h
  refine⟨?_,c,fun u d=>by simpa using b u d⟩
  rcases Nat.lt_or_ge s f with h|h
  ·have:=b s h
   rw [znw a] at this;cases this
  ·exact h
theorem zm6(a:s<m.rows.length):fst38 m s<m.rows.length:=by have:=(zay a).1;omega
theorem zt8(a:s<m.rows.length)(b:t<m.rows.length):fst38 m s=fst38 m t↔muB m s t=true:=by
 obtain⟨o,i,l⟩:=zay a
 obtain⟨p,f,n⟩:=zay b
 have d:=zm6 a
 have g:=zm6 b
 constructor
 ·intro e
  rw [←e] at f
  exact zh4 a d b i (by rw [zn6];exact f)
 ·intro h
  have j:muB m s (fst38 m t)=true:=zh4 a b g h f
  have k:muB m t (fst38 m s)=true:=zh4 b a d (by rw [zn6];exact h) i
  rcases Nat.lt_trichotomy (fst38 m s) (fst38 m t) with c|c|c
  ·rw [n _ c] at k;cases k
  ·exact c
  ·rw [l _ c] at j;cases j
theorem zs4(a:s<m.rows.length):fst38 m s=s↔ ∀ t,t<m.rows.length→muB m s t=true→s≤t:=by
 obtain⟨f,b,d⟩:=zay a
 constructor
 ·intro e t g h
  rcases Nat.lt_or_ge t s with c|c
  ·rw [d t (by omega)] at h;cases h
  ·exact c
 ·intro h
  have:=h _ (zm6 a) b
  omega
noncomputable def fstL(m:Mach):List Int:=(List.range m.rows.length).map fun s=>(fst38 m s:Int)
theorem z98:(fstL m).length=m.rows.length:=by simp [fstL]
theorem zk7(a:s<m.rows.length):(fstL m).getD s default=(fst38 m s:Int):=by simp [fstL,List.getD_eq_getElem?_getD,a]
theorem zry(a:MOk m)(c:200≤N):ax N m N 0 (List.replicate m.rows.length [])=some ((List.range m.rows.length).map (reachL m)):=by
 have d:=a.r2
 refine xy (fun F k X=>ax N m F (k:Int) X) m.rows.length (fun k X=>X=(List.range k).map (reachL m)++List.replicate (m.rows.length-k) []) _ (fun F k X b hi=> .inr ?_) (fun F X hi=>?_) N 0 _ (Nat.zero_le _) (by omega) (by simp)
 ·subst hi
  refine⟨_,rfl,?_⟩
  simp only [ax]
  rw [bz (by rw [z5r,List.length_replicate];omega),qz (zlp a c b),qb (jf (by simp;omega)),qb (jk (by omega)),zav,zjm (by simp) b]
  rw [List.range_succ,List.map_append];rfl
 ·subst hi
  simp only [ax]
  rw [bu (by rw [z5r,List.length_replicate];omega)]
  simp
theorem zs5(g:MOk m)(p:200≤N)(a:s<m.rows.length){X:List Int}(b:X.length=m.rows.length):iq N ((List.range m.rows.length).map (reachL m)) (s:Int) N (X.set s 0)=some (X.set s (fst38 m s:Int)):=by
 obtain⟨q,h,i⟩:=zay a
 have r:=g.r2
 have hall: ∀ k,k<m.rows.length→((List.range m.rows.length).map (reachL m)).getD k default=reachL m k:=fun k j=>by simp [List.getD_eq_getElem?_getD,j]
 have d:((List.range m.rows.length).map (reachL m)).length=m.rows.length:=by simp
 have f: ∀ c:Nat,(X.set s (c:Int)).getD s default=(c:Int):=fun c=>by simp [List.getD_eq_getElem?_getD,b,a]
 have hcond: ∀ c,c<m.rows.length→ ∀ {α:Type} (x y:Option α) (F:Nat),
  (gd (okI ((List.range m.rows.length).map (reachL m)) (s:Int))<|gd (okI (X.set s (c:Int)) (s:Int))<|gd (okI (ix ((List.range m.rows.length).map (reachL m)) (s:Int)) (ix (X.set s (c:Int)) (s:Int)))<|
   gd ((true&&((!(ix (ix ((List.range m.rows.length).map (reachL m)) (s:Int)) (ix (X.set s (c:Int)) (s:Int))))==false))=true→okI (X.set s (c:Int)) (s:Int))<|
   gd ((true&&((!(ix (ix ((List.range m.rows.length).map (reachL m)) (s:Int)) (ix (X.set s (c:Int)) (s:Int))))==false))=true→okI ((List.range m.rows.length).map (reachL m)) (ix (X.set s (c:Int)) (s:Int)))<|
   gd ((true&&((!(ix (ix ((List.range m.rows.length).map (reachL m)) (s:Int)) (ix (X.set s (c:Int)) (s:Int))))==false))=true→okI (ix ((List.range m.rows.length).map (reachL m)) (ix (X.set s (c:Int)) (s:Int))) (s:Int))<|
   bif (!(ix (ix ((List.range m.rows.length).map (reachL m)) (s:Int)) (ix (X.set s (c:Int)) (s:Int))))||(!(ix (ix ((List.range m.rows.length).map (reachL m)) (ix (X.set s (c:Int)) (s:Int))) (s:Int))) then x else y)=bif muB m s c then y else x:=by
  intro c e α x y F
  have l:ix (X.set s (c:Int)) (s:Int)=(c:Int):=f c
  have n:ix ((List.range m.rows.length).map (reachL m)) (s:Int)=reachL m s:=hall s a
  have o:ix ((List.range m.rows.length).map (reachL m)) (c:Int)=reachL m c:=hall c e
  rw [l,n,o,qb (jf (by rw [d];exact a)),qb (jf (by simp [b,a])),qb (jf (by rw [z4d];exact e)),qb (fun _=>jf (by simp [b,a])),qb (fun _=>jf (by rw [d];exact e)),qb (fun _=>jf (by rw [z4d];exact a))]
  unfold muB
  rw [dw,dw]
  cases (reachL m s).getD c default<;>cases (reachL m c).getD s default<;>rfl
 refine xy (σ:=Unit) (fun F c _=>iq N ((List.range m.rows.length).map (reachL m)) (s:Int) F (X.set s (c:Int))) (fst38 m s) (fun _ _=>True) _ (fun F c _ e _=> .inr ⟨(),trivial,?_⟩) (fun F _ _=>?_) N 0 () (Nat.zero_le _) (by omega) trivial
 ·simp only [iq]
  rw [hcond c (by omega) _ _ F,cf (i c e),qb (jf (by simp [b,a])),show ix (X.set s (c:Int)) (s:Int)=(c:Int) from f c,qb (jk (by omega)),qb (jf (by simp [b,a])),zav,List.set_set];rfl
 ·simp only [iq]
  rw [hcond (fst38 m s) (by omega) _ _ F,ct h]
theorem zrj(a:MOk m)(b:200≤N):z5b N m=some (fstL m):=by
 have g:=a.r2
 unfold z5b
 rw [qb ⟨by omega,by omega,by omega⟩,z5r,qz (zry a b),qb ⟨by omega,by omega,by omega⟩,z5r]
 refine Eq.trans (qz (x:=fstL m) ?_) rfl
 refine xy (fun F k X=>z04 N m ((List.range m.rows.length).map (reachL m)) F (k:Int) X) m.rows.length (fun k X=>X=((List.range k).map fun s=>(fst38 m s:Int))++List.replicate (m.rows.length-k) 0) _ (fun F k X c hi=> .inr ?_) (fun F X hi=>?_) N 0 _ (Nat.zero_le _) (by omega) (by simp)
 ·subst hi
  refine⟨_,rfl,?_⟩
  simp only [z04]
  have f:((((List.range k).map fun s=>(fst38 m s:Int))++List.replicate (m.rows.length-k) 0).set k 0)=((List.range k).map fun s=>(fst38 m s:Int))++List.replicate (m.rows.length-k) 0:=by
   refine z6q (by simp) fun j h=>?_
   rw [z0h (by simp;omega)]
   by_cases e:j=k
   ·subst e
    rw [if_pos rfl]
    simp [List.getD_eq_getElem?_getD,show 0<m.rows.length-j by omega]
   ·rw [if_neg e]
  have d:=zs5 (X:=((List.range k).map fun s=>(fst38 m s:Int))++List.replicate (m.rows.length-k) 0) a b c (by simp;omega)
  rw [f] at d
  rw [bz (by rw [z5r,List.length_replicate];omega),qz d,qb (jk (by omega)),zjm (by simp) c]
  rw [List.range_succ,List.map_append];rfl
 ·subst hi
  simp only [z04]
  rw [bu (by rw [z5r,List.length_replicate];omega)]
  simp [fstL]
noncomputable def knot(m:Mach)(s:Nat):List Int:=((List.range m.rows.length).filter fun t=>muB m s t).map fun t=>((t:Nat):Int)
noncomputable def knotsL(m:Mach):List (List Int):=((List.range m.rows.length).filter fun s=>decide (fst38 m s=s)).map (knot m)
theorem z7i{α:Type}(p:Nat→Bool)(f:Nat→α)(k:Nat):((List.range (k+1)).filter p).map f=((List.range k).filter p).map f++if p k=true then [f k] else []:=by
 rw [List.range_succ,List.filter_append,List.map_append]
 congr 1
 cases h:p k<;>simp [List.filter_cons,h]
theorem z8b(p:Nat→Bool){α:Type}(f:Nat→α)(k:Nat):(((List.range k).filter p).map f).length≤k:=by
 rw [List.length_map];exact Nat.le_trans (List.length_filter_le _ _) (by simp)
theorem zu8{N:Nat}{X:List (List Int)}:z1t N X=some X:=by
 unfold z1t;rw [qb (znb X),zn0]
theorem zt2{N:Nat}{X:List Int}:z18 N X=some X:=by
 unfold z18;rw [qb (znb X),zn0]
theorem zmn:(knotsL m).length≤m.rows.length:=z8b _ _ _
theorem zjt(h:CM38 m)(f:200≤N):z0i N m=some (knotsL m,0):=by
 have g:=h.ok
 have j:=g.r2
 unfold z0i
 rw [qz (h.check0 f),bu (fun e=>e rfl),qz (zrj g f)]
 refine Eq.trans (qz (x:=knotsL m) ?_) (by rw [qz zu8])
 refine xy (fun F k X=>l9 N (fstL m) F X (k:Int)) m.rows.length (fun k X=>X=((List.range k).filter fun s=>decide (fst38 m s=s)).map (knot m)) _ (fun F k X a hi=> .inr ?_) (fun F X hi=>?_) N 0 _ (Nat.zero_le _) (by omega) rfl
 ·subst hi
  refine⟨_,rfl,?_⟩
  simp only [l9]
  rw [bz (by rw [z98];omega)]
  have c: ∀ s,s<m.rows.length→fst38 m s=s→ib N (fstL m) (s:Int) N [] 0=some (knot m s):=by
   intro s i d
   refine xy (fun F k X=>ib N (fstL m) (s:Int) F X (k:Int)) m.rows.length (fun k X=>X=((List.range k).filter fun t=>muB m s t).map fun t=>((t:Nat):Int)) _ (fun F k X a hi=> .inr ?_) (fun F X hi=>?_) N 0 _ (Nat.zero_le _) (by omega) rfl
   ·subst hi
    refine⟨_,rfl,?_⟩
    have hlen:=z8b (fun t=>muB m s t) (fun t=>((t:Nat):Int)) k
    have b:muB m s k=true↔fst38 m k=s:=by rw [←zt8 i a,d];exact⟨fun e=>e.symm,fun e=>e.symm⟩
    simp only [ib]
    rw [bz (by rw [z98];omega),qb (jf (by rw [z98];exact a)),dw,zk7 a,z7i]
    by_cases e:fst38 m k=s
    ·rw [bz (by rw [e]),qb (zdo (by omega)),zcl,if_pos (b.2 e),qb (jk (by omega))];rfl
    ·rw [bu (by omega),zcl,if_neg (fun e'=>e (b.1 e')),qb (jk (by omega)),List.append_nil];rfl
   ·subst hi
    simp only [ib]
    rw [bu (by rw [z98];omega)];rfl
  have hlen:=z8b (fun s=>decide (fst38 m s=s)) (knot m) k
  rw [qb (jf (by rw [z98];exact a)),dw,zk7 a,z7i]
  by_cases e:fst38 m k=k
  ·rw [bu (by omega),qz (c k a e),qz zt2,qb (zdo (by omega)),zcl,if_pos (by simpa using e),qb (jk (by omega))];rfl
  ·rw [bz (by omega),zcl,if_neg (by simpa using e),qb (jk (by omega)),List.append_nil];rfl
 ·subst hi
  simp only [l9]
  rw [bu (by rw [z98];omega)];rfl
theorem zob(d:MOk m)(i:200≤N):z0c N m=some (knotsL m):=by
 have o:=d.r2
 unfold z0c
 refine Eq.trans (qz (x:=knotsL m) ?_) rfl
 refine xy (fun F k X=>gu N m F X (k:Int)) m.rows.length (fun k X=>X=((List.range k).filter fun s=>decide (fst38 m s=s)).map (knot m)) _ (fun F k X f hi=> .inr ?_) (fun F X hi=>?_) N 0 _ (Nat.zero_le _) (by omega) rfl
 ·subst hi
  refine⟨_,rfl,?_⟩
  simp only [gu]
  rw [bz (by omega)]
  have a:yn N m (k:Int) N true [] 0=some (decide (fst38 m k=k),knot m k):=by
   refine xy (fun F t (X:Bool×List Int)=>yn N m (k:Int) F X.1 X.2 (t:Int)) m.rows.length (fun t X=>X.2=(((List.range t).filter fun t=>muB m k t).map fun t=>((t:Nat):Int))∧(X.1=true↔ ∀ u,u<t→muB m k u=true→k≤u)) _ (fun F t X j hi=> .inr ?_) (fun F X hi=>?_) N 0 (true,[]) (Nat.zero_le _) (by omega) ⟨rfl,by simp⟩
   ·obtain⟨b,l⟩:=X
    obtain⟨c,a⟩:=hi
    dsimp only at c a
    subst c
    have hlen:=z8b (fun t=>muB m k t) (fun t=>((t:Nat):Int)) t
    simp only [yn]
    rw [bz (by omega),qz (zfb d i f j),z5n (fun _=>zfb d i j f)]
    cases hmu:muB m k t
    ·refine⟨(b,((List.range (t+1)).filter fun t=>muB m k t).map fun t=>((t:Nat):Int)),⟨rfl,?_⟩,?_⟩
     ·rw [a]
      refine⟨fun h u g hmu'=>?_,fun h u g hmu'=>h u (by omega) hmu'⟩
      by_cases e:u=t
      ·subst e;rw [hmu] at hmu';cases hmu'
      ·exact h u (by omega) hmu'
     ·rw [z7i,if_neg (by rw [hmu];simp),List.append_nil]
      refine Eq.trans (qz (x:=(b,((List.range t).filter fun t=>muB m k t).map fun t=>((t:Nat):Int))) (cf ?_)) ?_
      ·unfold muB at hmu
       cases e1:(reachL m k).getD t default
       ·rfl
       ·rw [e1] at hmu
        simpa using hmu
      ·rw [qb (jk (by omega))];rfl
    ·refine⟨(b&&decide ((k:Int)≤(t:Int)),((List.range (t+1)).filter fun t=>muB m k t).map fun t=>((t:Nat):Int)),⟨rfl,?_⟩,?_⟩
     ·rw [Bool.and_eq_true,a,decide_eq_true_iff]
      refine⟨fun⟨h,n⟩ u g hmu'=>?_,fun h=>⟨fun u g hmu'=>h u (by omega) hmu',by have:=h t (by omega) hmu;omega⟩⟩
      by_cases e:u=t
      ·subst e;omega
      ·exact h u (by omega) hmu'
     ·rw [z7i,if_pos hmu]
      refine Eq.trans (qz (x:=(b&&decide ((k:Int)≤(t:Int)),(((List.range t).filter fun t=>muB m k t).map fun t=>((t:Nat):Int))++[(t:Int)])) ?_) ?_
      ·refine Eq.trans (ct ?_) (by rw [qb (zdo (by omega))])
       unfold muB at hmu
       rw [Bool.and_eq_true] at hmu
       rw [hmu.1,hmu.2];rfl
      ·rw [qb (jk (by omega))];rfl
   ·obtain⟨b,l⟩:=X
    obtain⟨c,a⟩:=hi
    dsimp only at c a
    subst c
    simp only [yn]
    rw [bu (by omega)]
    have:b=decide (fst38 m k=k):=by
     rw [Bool.eq_iff_iff,a,decide_eq_true_iff,zs4 f]
    rw [this];rfl
  have hlen:=z8b (fun s=>decide (fst38 m s=s)) (knot m) k
  rw [z7i]
  refine Eq.trans (qz (x:=((List.range k).filter fun s=>decide (fst38 m s=s)).map (knot m)++if decide (fst38 m k=k)=true then [knot m k] else []) ?_) ?_
  ·rw [qz a]
   cases decide (fst38 m k=k)
   ·rw [cf rfl,if_neg (by simp),List.append_nil]
   ·rw [ct rfl,if_pos rfl,qb (zdo (by omega))]
  ·rw [qb (jk (by omega))];rfl
 ·subst hi
  simp only [gu]
  rw [bu (by omega)];rfl
end knots
end GV
end Go.Proofs.Ytdhccodneoebpaa

namespace Go.Proofs.Ytdhccodneoebpaa
namespace GV
set_option maxRecDepth 1000000
theorem z9q:bq 5000=some true:=by decide+kernel
end GV
end Go.Proofs.Ytdhccodneoebpaa

namespace Go.Proofs.Ytdhccodneoebpaa
namespace GV
set_option maxRecDepth 100000
structure DDOk (x:Sd):Prop where
 n:0≤x.fAc∧x.fAc≤255
 i:0≤x.fK∧x.fK≤255
 t: ∀ k,k<x.fU.length→0≤x.fU.getD k default∧x.fU.getD k default≤255
theorem zr0{v:Int}(h:0≤v∧v≤255):IntKind.u8.wrap v=v:=by
 have:IntKind.u8.wrap v=v%256:=by simp [IntKind.wrap,IntKind.signed,IntKind.bits]
 rw [this];omega
theorem zw5{k:Nat}{a:Int}(b:k≤5)(c:1≤a∧a≤2):0≤(k:Int)*a∧(k:Int)*a≤10∧(k:Int)*a=((k*a.toNat:Nat):Int):=by
 have e:(a.toNat:Int)=a:=by omega
 have d:(k:Int)*a=((k*a.toNat:Nat):Int):=by rw [Int.natCast_mul,e]
 have f:k*a.toNat≤5*2:=Nat.mul_le_mul b (by omega)
 omega
theorem zkv{α:Type}[Inhabited α]{P:α→Prop}{X:List α}{y:α}(h: ∀ k,k<X.length→P (X.getD k default))(a:P y): ∀ k,k<(X++[y]).length→P ((X++[y]).getD k default):=by
 intro k b
 rw [List.length_append,List.length_singleton] at b
 by_cases e:k<X.length
 ·have:(X++[y]).getD k default=X.getD k default:=by simp [List.getD_eq_getElem?_getD,List.getElem?_append_left e]
  rw [this];exact h k e
 ·obtain rfl:k=X.length:=by omega
  have:(X++[y]).getD X.length default=y:=by simp [List.getD_eq_getElem?_getD]
  rw [this];exact a
section
variable {N : Nat} {x : Sd}
theorem zsx(d:DDOk x)(v:200≤N){n:Int}(c:1+x.fAc%5=n){I:Int}(m:1+x.fK%2=I){s:Nat}(w:s<5):
 ∃ r,xm N x (s:Int) N [] 0=some r∧(r.length:Int)=I∧ ∀ k,k<r.length→((r.getD k default).to= -1∧(r.getD k default).out= -1)∨(0≤(r.getD k default).to∧(r.getD k default).to<n∧0≤(r.getD k default).out∧(r.getD k default).out<2):=by
 have z:=d.n;have A:=d.i
 refine z3g (fun F i acc=>xm N x (s:Int) F acc (i:Int)) I.toNat (fun i acc=>acc.length=i∧ ∀ k,k<acc.length→((acc.getD k default).to= -1∧(acc.getD k default).out= -1)∨(0≤(acc.getD k default).to∧(acc.getD k default).to<n∧0≤(acc.getD k default).out∧(acc.getD k default).out<2)) _ (fun F i acc hi hacc=> .inr ?_) (fun F acc hacc=>?_) N 0 [] (Nat.zero_le _) (by omega) ⟨rfl,fun k b=>by simp at b⟩
 ·obtain⟨j,f⟩:=hacc
  have o:=zw5 (k:=s) (a:=I) (by omega) (by omega)
  have p:(s:Int)*I+(i:Int)=((s*I.toNat+i:Nat):Int):=by rw [o.2.2];rfl
  simp only [xm]
  rw [bz (by omega)]
  have g: ∃ e:Int×Int,(gd (in64 ((s:Int)*((1:Int)+(x.fK%2))))<|
  gd (in64 (((s:Int)*((1:Int)+(x.fK%2)))+(i:Int)))<|
  gd ((true&&((decide ((((s:Int)*((1:Int)+(x.fK%2)))+(i:Int))<(↑x.fU.length:Int)))==true))=true→okI x.fU (((s:Int)*((1:Int)+(x.fK%2)))+(i:Int)))<|
  gd ((true&&((decide ((((s:Int)*((1:Int)+(x.fK%2)))+(i:Int))<(↑x.fU.length:Int)))==true))=true→okR (ix x.fU (((s:Int)*((1:Int)+(x.fK%2)))+(i:Int))) 8)<|
  bif (decide ((((s:Int)*((1:Int)+(x.fK%2)))+(i:Int))<(↑x.fU.length:Int)))&&(decide (((ix x.fU (((s:Int)*((1:Int)+(x.fK%2)))+(i:Int)))%8)<6)) then(
  gd (okI x.fU (((s:Int)*((1:Int)+(x.fK%2)))+(i:Int)))<|
  gd (8≠(0:Int))<|
  gd (in64 (IntKind.u8.wrap (Int.tdiv (ix x.fU (((s:Int)*((1:Int)+(x.fK%2)))+(i:Int))) 8)))<|
  gd (okR (IntKind.u8.wrap (Int.tdiv (ix x.fU (((s:Int)*((1:Int)+(x.fK%2)))+(i:Int))) 8)) ((1:Int)+(x.fAc%5)))<|
  gd (okI x.fU (((s:Int)*((1:Int)+(x.fK%2)))+(i:Int)))<|
  gd (in64 (ix x.fU (((s:Int)*((1:Int)+(x.fK%2)))+(i:Int))))<|
  gd (okR (ix x.fU (((s:Int)*((1:Int)+(x.fK%2)))+(i:Int))) 2)<|
  some ((IntKind.u8.wrap (Int.tdiv (ix x.fU (((s:Int)*((1:Int)+(x.fK%2)))+(i:Int))) 8))%((1:Int)+(x.fAc%5)),(ix x.fU (((s:Int)*((1:Int)+(x.fK%2)))+(i:Int)))%2)) else(
  some ((-1:Int),(-1:Int))))=some e∧((e.1= -1∧e.2= -1)∨(0≤e.1∧e.1<n∧0≤e.2∧e.2<2)):=by
   rw [m,c,p,qb (jk (by omega)),qb (jk (by omega))]
   by_cases b:s*I.toNat+i<x.fU.length
   ·have l:=d.t _ b
    have et:ix x.fU ((s*I.toNat+i:Nat):Int)=x.fU.getD (s*I.toNat+i) default:=rfl
    rw [qb (fun _=>jf b),et,qb (fun _=>⟨l.1,by omega⟩)]
    have q:Int.tdiv (x.fU.getD (s*I.toNat+i) default) 8=x.fU.getD (s*I.toNat+i) default/8:=Int.tdiv_eq_ediv_of_nonneg l.1
    rw [q,zr0 (by omega)]
    by_cases h6:x.fU.getD (s*I.toNat+i) default%8<6
    ·refine⟨(x.fU.getD (s*I.toNat+i) default/8%n,x.fU.getD (s*I.toNat+i) default%2),?_,.inr ⟨Int.emod_nonneg _ (by omega),Int.emod_lt_of_pos _ (by omega),by dsimp only;omega,by dsimp only;omega⟩⟩
     rw [ct (by rw [decide_eq_true (show ((s*I.toNat+i:Nat):Int)<(x.fU.length:Int) by omega),decide_eq_true h6];rfl),qb (jf b),qb (by decide),qb (jk (by omega)),qb ⟨by omega,by omega⟩,qb (jf b),qb (jk (by omega)),qb ⟨by omega,by omega⟩]
    ·exact⟨(-1,-1),cf (by rw [decide_eq_false h6];simp),.inl ⟨rfl,rfl⟩⟩
   ·refine⟨(-1,-1),?_,.inl ⟨rfl,rfl⟩⟩
    have c: ¬((s*I.toNat+i:Nat):Int)<(x.fU.length:Int):=by omega
    rw [qb (fun h=>by rw [decide_eq_false c] at h;cases h),qb (fun h=>by rw [decide_eq_false c] at h;cases h),cf (by rw [decide_eq_false c];rfl)]
  obtain⟨e,g,u⟩:=g
  refine⟨acc++[⟨e.1,e.2⟩],⟨by simp [j],zkv (P:=fun y:Edge=>(y.to= -1∧y.out= -1)∨(0≤y.to∧y.to<n∧0≤y.out∧y.out<2)) f u⟩,?_⟩
  rw [qz g,qb (zdo (by omega)),qb (jk (by omega))];rfl
 ·obtain⟨j,f⟩:=hacc
  simp only [xm]
  rw [bu (by omega)]
  exact⟨acc,rfl,by omega,f⟩
theorem zus(f:DDOk x)(A:400≤N): ∃ m,z0z N x=some m∧CM38 m∧m.rows.length≤5∧m.inputs≤2:=by
 have B:=f.n;have C:=f.i
 generalize hn:1+x.fAc%5=n
 generalize hI:1+x.fK%2=I
 obtain⟨R,t,g,hrow⟩: ∃ R,xw N x N 0 []=some R∧(R.length:Int)=n∧ ∀ k,k<R.length→(((R.getD k default).length:Int)=I∧ ∀ j,j<(R.getD k default).length→(((R.getD k default).getD j default).to= -1∧((R.getD k default).getD j default).out= -1)∨(0≤((R.getD k default).getD j default).to∧((R.getD k default).getD j default).to<n∧0≤((R.getD k default).getD j default).out∧((R.getD k default).getD j default).out<2)):=by
  refine z3g (fun F s acc=>xw N x F (s:Int) acc) n.toNat (fun s acc=>acc.length=s∧ ∀ k,k<acc.length→(((acc.getD k default).length:Int)=I∧ ∀ j,j<(acc.getD k default).length→(((acc.getD k default).getD j default).to= -1∧((acc.getD k default).getD j default).out= -1)∨(0≤((acc.getD k default).getD j default).to∧((acc.getD k default).getD j default).to<n∧0≤((acc.getD k default).getD j default).out∧((acc.getD k default).getD j default).out<2))) _ (fun F s acc e hacc=> .inr ?_) (fun F acc hacc=>?_) N 0 [] (Nat.zero_le _) (by omega) ⟨rfl,fun k u=>by simp at u⟩
  ·obtain⟨g,l⟩:=hacc
   obtain⟨r,v,w,y⟩:=zsx (N:=N) f (by omega) hn hI (s:=s) (by omega)
   refine⟨acc++[r],⟨by simp [g],zkv (P:=fun r:List Edge=>((r.length:Int)=I∧ ∀ j,j<r.length→((r.getD j default).to= -1∧(r.getD j default).out= -1)∨(0≤(r.getD j default).to∧(r.getD j default).to<n∧0≤(r.getD j default).out∧(r.getD j default).out<2))) l ⟨w,y⟩⟩,?_⟩
   simp only [xw]
   rw [bz (by omega),qz v,qb (zdo (by omega)),qb (jk (by omega))];rfl
  ·obtain⟨g,l⟩:=hacc
   simp only [xw]
   rw [bu (by omega)]
   exact⟨acc,rfl,by omega,l⟩
 have q:MOk ⟨I,2,R⟩:=by
  refine⟨by dsimp only;omega,by dsimp only;omega,by dsimp only;omega,by dsimp only;omega,by dsimp only;omega,by dsimp only;omega,fun s e=>(hrow s e).1,fun s i e hi=>?_⟩
  rcases (hrow s e).2 i hi with h|⟨a,b,c,d⟩
  ·exact .inl h
  ·exact .inr ⟨a,by dsimp only;omega,c,d⟩
 obtain⟨z,o,p⟩:=zpz q
 refine⟨z9w ⟨I,2,R⟩,?_,z,by dsimp only at o;omega,by rw [p];dsimp only;omega⟩
 unfold z0z
 rw [qb (jk (by omega)),qb ⟨by omega,by omega⟩,qb (jk (by omega)),qb (jk (by omega)),qb ⟨by omega,by omega⟩,qb (jk (by omega)),qz t,hI,qz (zhp q (by omega) (by dsimp only;omega) (by dsimp only;omega))]
end
end GV
end Go.Proofs.Ytdhccodneoebpaa

namespace Go.Proofs.Ytdhccodneoebpaa
namespace GV
set_option maxRecDepth 100000
theorem zg3{N:Nat}{a:List Int}(c:a.length<N)(d:a.length≤1000000):fq N a a=some 0:=by
 unfold fq
 rw [bu (by simp)]
 have:vo N a a N 0=some (Ex.go ()):=by
  refine xy (σ:=Unit) (fun F k _=>vo N a a F (k:Int)) a.length (fun _ _=>True) _ (fun F k _ b _=> .inr ⟨(),trivial,?_⟩) (fun F _ _=>?_) N 0 () (Nat.zero_le _) (by omega) trivial
  ·simp only [vo]
   rw [bz (by omega),qb (jf b),qb (jf b),bu (by omega),qb (jf b),qb (jf b),bu (by omega),qb (jk (by omega))];rfl
  ·simp only [vo]
   rw [bu (by omega)]
 rw [qz this];rfl
theorem zer{N:Nat}{a:List (List Int)}(d:a.length<N)(e:a.length≤1000000)(c: ∀ k,k<a.length→(a.getD k default).length<N∧(a.getD k default).length≤1000000):pz N a a=some true:=by
 unfold pz
 rw [bu (by simp)]
 have:xu N a a N 0=some (Ex.go ()):=by
  refine xy (σ:=Unit) (fun F k _=>xu N a a F (k:Int)) a.length (fun _ _=>True) _ (fun F k _ b _=> .inr ⟨(),trivial,?_⟩) (fun F _ _=>?_) N 0 () (Nat.zero_le _) (by omega) trivial
  ·simp only [xu]
   rw [bz (by omega),qb (jf b),qb (jf b),dw,qz (zg3 (c k b).1 (c k b).2),bu (by omega),qb (jk (by omega))];rfl
  ·simp only [xu]
   rw [bu (by omega)]
 rw [qz this];rfl
theorem zpu{m:Mach}{s:Nat}:(knot m s).length≤m.rows.length:=z8b _ _ _
theorem zl8{m:Mach}{k:Nat}(a:k<(knotsL m).length):((knotsL m).getD k default).length≤m.rows.length:=by
 obtain⟨s,_,h⟩:=List.mem_map.1 (lq a)
 rw [show (knotsL m).getD k default=knot m s from h.symm];exact zpu
theorem zpa{x:MDat}(b:MDOk x):oh 5000 x=some true:=by
 have e:=zv2 b
 have f:=zwj b
 obtain⟨c,g,h⟩:=zpz e
 have j:=c.ok.r2
 unfold oh
 rw [qz (zve b (by decide)),qz (zhp e (by decide) f.1 f.2),zkf,qz (zjt c (by decide))]
 rw [z5n (fun _=>zob c.ok (by decide))]
 have l:=zmn (m:=z9w (mOf x))
 have i:pz 5000 (knotsL (z9w (mOf x))) (knotsL (z9w (mOf x)))=some true:=zer (by omega) (by omega) (fun k a=>by have:=zl8 a;omega)
 dsimp only
 rw [show (bif (true&&(decide ((0:Int)≠0)==false)) then some (knotsL (z9w (mOf x))) else none).getD default=knotsL (z9w (mOf x)) from rfl,z5n (fun _=>i)]
 rw [cf (by simp)]
 have d:uy 5000 (knotsL (z9w (mOf x)),0) 5000 0=some (Ex.go ()):=by
  refine xy (σ:=Unit) (fun F k _=>uy 5000 (knotsL (z9w (mOf x)),0) F (k:Int)) (knotsL (z9w (mOf x))).length (fun _ _=>True) _ (fun F k _ a _=> .inr ⟨(),trivial,?_⟩) (fun F _ _=>?_) 5000 0 () (Nat.zero_le _) (by omega) trivial
  ·simp only [uy]
   rw [bz (by omega),qb (jf a),qb (jf a),bu (by simp),qb (jk (by omega))];rfl
  ·simp only [uy]
   rw [bu (by omega)]
 rw [qz d,ze1,qz z9q]
end GV
end Go.Proofs.Ytdhccodneoebpaa

namespace Go.Proofs.Ytdhccodneoebpaa
namespace GV
set_option maxRecDepth 100000
theorem zjr{N:Nat}{m:Mach}(g:Small m)(e:200≤N):z0e N m=some (check38 m):=by
 unfold z0e check38
 rw [qz (zot g e)]
 by_cases h:z1o m=0
 ·rw [bu (fun c=>c h),if_neg (fun c=>c h)]
  have d:=(z7s m).1 h
  have n:=d.r2;have i:=d.r1
  have l:yu N m N 0=some (if GV.connB m=true then Ex.go () else Ex.rt 11):=by
   refine xy (σ:=Unit) (fun F k _=>yu N m F (k:Int)) m.rows.length (fun k _=> ∀ j,j<k→(reachL m 0).getD j default=true) _ (fun F k _ f hi=>?_) (fun F _ hi=>?_) N 0 () (Nat.zero_le _) (by omega) (fun j o=>by omega)
   ·simp only [yu]
    rw [bz (by omega),show di N m 0 (k:Int) (m.rows.length:Int)=_ from zfb (a:=0) d e (by omega) f,zcl]
    cases hv:(reachL m 0).getD k default
    ·left
     rw [ct (b:= !false) rfl,zsw f hv];rfl
    ·right
     refine⟨(),zkh hi hv,?_⟩
     rw [cf (b:= !true) rfl,qb (jk (by omega))];rfl
   ·simp only [yu]
    rw [bu (by omega),znf hi];rfl
  rw [qz l]
  cases GV.connB m<;>rfl
 ·rw [bz h,if_pos h]
theorem ziu{m:Mach}(b:m.rows.length≤10)(a: ∀ k,k<m.rows.length→(m.rows.getD k default).length≤20):Small m:=⟨by omega,fun k c=>by have:=a k c;omega⟩
theorem zme(m:Mach):mf 5000 m=some true:=by
 unfold mf
 by_cases h10:10<m.rows.length
 ·rw [bz (by omega)]
 rw [bu (by omega)]
 have f:(∃ r,um 5000 m 5000 0=some r∧(r=Ex.rt true∨(r=Ex.go ()∧ ∀ k,k<m.rows.length→(m.rows.getD k default).length≤20))):=by
  refine z3g (σ:=Unit) (fun F k _=>um 5000 m F (k:Int)) m.rows.length (fun k _=> ∀ j,j<k→(m.rows.getD j default).length≤20) _ (fun F k _ g hi=>?_) (fun F _ hi=>?_) 5000 0 () (Nat.zero_le _) (by omega) (fun j t=>by omega)
  ·simp only [um]
   rw [bz (by omega),qb (jf g),dw]
   by_cases b:20<(m.rows.getD k default).length
   ·left
    rw [bz (by omega)]
    exact⟨_,rfl,.inl rfl⟩
   ·right
    refine⟨(),zkh hi (by omega),?_⟩
    rw [bu (by omega),qb (jk (by omega))];rfl
  ·simp only [um]
   rw [bu (by omega)]
   exact⟨_,rfl,.inr ⟨rfl,hi⟩⟩
 obtain⟨r,d,rfl|⟨rfl,b⟩⟩:=f
 ·rw [qz d];rfl
 rw [qz d,ze1]
 have e:=ziu (by omega) b
 have a:=zgv (N:=5000) e (by decide)
 rw [qz (zjr e (by decide))]
 by_cases h:check38 m=0
 ·have c:=zon h
  rw [qz (zjt c (by decide)),bz h,z5n (fun _=>z9q)]
  rfl
 ·have i:z0i 5000 m=some ([],check38 m):=by unfold z0i;rw [qz a,bz h]
  have l:z1z 5000 m []=some ([],0,check38 m):=by unfold z1z;rw [qz a,bz h]
  have n:z1h 5000 m [] false=some (false,check38 m):=by unfold z1h;rw [qz a,bz h]
  have o:z4q 5000 m false=some ([],check38 m):=by unfold z4q;rw [qz a,bz h]
  have p:z3n 5000 m true=some ([],check38 m):=by unfold z3n;rw [qz a,bz h]
  have q:z3u 5000 m=some (0,check38 m):=by unfold z3u;rw [qz a,bz h]
  have s:z4v 5000 m=some ([],check38 m):=by unfold z4v;rw [qz a,bz h]
  rw [qz i,bu h,qz l,qz n,qz o,qz p,qz q,qz s]
  rw [qb (fun _=>jk (by simp)),qb (fun _=>jk (by simp)),qb (fun _=>jk (by simp)),qb (fun _=>jk (by simp)),qb (fun _=>jk (by simp)),qb (fun _=>jk (by simp)),z5n (fun _=>z9q)]
  simp
end GV
end Go.Proofs.Ytdhccodneoebpaa

namespace Go.Proofs.Ytdhccodneoebpaa
namespace GV
set_option maxRecDepth 100000
theorem zk9{N:Nat}{w:List Int}{n:Int}(b:w.length<N)(c:w.length≤4611686018427387904):z4u N w n=some (z2u w n):=by
 unfold z4u
 by_cases h:16<n∨256<w.length
 ·rw [ct (by simp;omega),zl0 h]
 ·rw [cf (by simp;omega)]
  rw [z5n (fun _=>zo7 (p:=z3j n) (fun j d=>rfl) b c)]
  by_cases h1:n<1∨w.any (z3j n)=true
  ·rw [zkc h h1]
   refine ct ?_
   by_cases a:n<1
   ·rw [decide_eq_true a];rfl
   ·rw [decide_eq_false a];exact h1.resolve_left a
  ·rw [zpp h h1]
   refine cf ?_
   rw [decide_eq_false (fun a=>h1 (.inl a))]
   exact Bool.eq_false_iff.2 fun a=>h1 (.inr a)
def bump(c:List (List Int))(s i:Int):List (List Int):=up c s (up (ix c s) i (ix (ix c s) i+1))
def tk(m:Mach):Int→List (List Int)→List Int→Option (Int×List (List Int))
 |a,c,[]=>some (a,c)
 |a,c,i::w=>if(z5a m a i).to= -1 then none else tk m (z5a m a i).to (bump c a i) w
theorem zsl(m:Mach)(a:Int)(c:List (List Int))(i:Int)(w:List Int):tk m a c (i::w)=if(z5a m a i).to= -1 then none else tk m (z5a m a i).to (bump c a i) w:=by rw [tk]
def zam(m:Mach):List (List Int):=List.replicate m.rows.length (List.replicate m.inputs.toNat 0)
def xz(m:Mach)(w:List Int):List (List Int)×Int×Bool:=
 match tk m 0 (zam m) w with
 |some (t,c)=>(c,t,true)
 |none=>([],0,false)
section tk
variable {N : Nat} {m : Mach} {w : List Int} {c : List (List Int)} {s i : Nat}
theorem Shp.set(h:Shp m c){r:List Int}(a:s<m.rows.length)(b:r.length=m.inputs.toNat):Shp m (c.set s r):=by
 refine⟨by simp [h.len],fun t d=>?_⟩
 rw [z0h (by rw [h.len];exact a)]
 by_cases e:t=s
 ·rw [if_pos e,b]
 ·rw [if_neg e,h.row t d]
theorem zv7(h:Shp m c)(a:s<m.rows.length)(hi:i<m.inputs.toNat){v:Int}{t j:Nat}:lf (c.set s ((c.getD s default).set i v)) t j=if t=s∧j=i then v else lf c t j:=by
 unfold lf
 rw [z0h (by rw [h.len];exact a)]
 by_cases e:t=s
 ·subst e
  rw [if_pos rfl,z0h (by rw [h.row t a];exact hi)]
  by_cases e2:j=i
  ·rw [if_pos e2,if_pos ⟨rfl,e2⟩]
  ·rw [if_neg e2,if_neg (fun h=>e2 h.2)]
 ·rw [if_neg e,if_neg (fun h=>e h.1)]
theorem zrn:bump c (s:Int) (i:Int)=c.set s ((c.getD s default).set i (lf c s i+1)):=rfl
theorem Shp.bump(h:Shp m c)(a:s<m.rows.length)(hi:i<m.inputs.toNat):Shp m (bump c (s:Int) (i:Int)):=by
 rw [zrn];exact h.set a (by rw [List.length_set,h.row s a])
theorem ztn(h:Shp m c)(a:s<m.rows.length)(hi:i<m.inputs.toNat){t j:Nat}:lf (GV.bump c (s:Int) (i:Int)) t j=if t=s∧j=i then lf c s i+1 else lf c t j:=zv7 h a hi
theorem zmz:Shp m (zam m):=by
 refine⟨by simp [zam],fun s a=>?_⟩
 simp [zam,List.getD_eq_getElem?_getD,a]
theorem zui:lf (zam m) s i=0:=by
 unfold lf zam
 simp only [List.getD_eq_getElem?_getD,List.getElem?_replicate]
 split
 ·simp only [Option.getD_some,List.getElem?_replicate]
  split<;>rfl
 ·rfl
theorem zj0{s i:Nat}:(z5a m (s:Int) (i:Int)).to=ed m s i:=by
 unfold z5a
 rw [if_neg (by omega)];rfl
theorem zn4(c:MOk m)(a:WOk m.inputs w){k:Nat}(b:k<w.length): ∃ i:Nat,w.getD k default=(i:Int)∧i<m.inputs.toNat:=by
 have:=a k b
 exact⟨(w.getD k default).toNat,by omega,by omega⟩
theorem zp1(b:MOk m)(c:200≤N):yt N m N [] 0=some (zam m):=by
 have d:=b.r2;have hi:=b.inp
 refine xy (fun F k X=>yt N m F X (k:Int)) m.rows.length (fun k X=>X=List.replicate k (List.replicate m.inputs.toNat 0)) _ (fun F k X e a=> .inr ?_) (fun F X a=>?_) N 0 _ (Nat.zero_le _) (by omega) rfl
 ·subst a
  refine⟨_,rfl,?_⟩
  simp only [yt]
  rw [bz (by omega),qb ⟨by omega,by omega,by omega⟩,qb (zdo (by simp;omega)),qb (jk (by omega)),List.replicate_succ'];rfl
 ·subst a
  simp only [yt]
  rw [bu (by omega)];rfl
theorem zsb(b:MOk m)(d:200≤N):il N m N 0 (List.replicate m.rows.length [])=some (zam m):=by
 have e:=b.r2;have hi:=b.inp
 refine xy (fun F k X=>il N m F (k:Int) X) m.rows.length (fun k X=>X=List.replicate k (List.replicate m.inputs.toNat 0)++List.replicate (m.rows.length-k) []) _ (fun F k X c a=> .inr ?_) (fun F X a=>?_) N 0 _ (Nat.zero_le _) (by omega) (by simp)
 ·subst a
  refine⟨_,rfl,?_⟩
  simp only [il]
  rw [bz (by rw [z5r,List.length_replicate];omega),qb ⟨by omega,by omega,by omega⟩,qb (jf (by simp;omega)),qb (jk (by omega)),zav,zjm (by simp) c,List.replicate_succ'];rfl
 ·subst a
  simp only [il]
  rw [bu (by rw [z5r,List.length_replicate];omega)];simp [zam]
structure TInv (m:Mach) (w:List Int) (k:Nat) (x:Int×List (List Int)):Prop where
 at': ∃ s:Nat,x.1=(s:Int)∧s<m.rows.length
 shp:Shp m x.2
 bnd: ∀ s i,0≤lf x.2 s i∧lf x.2 s i≤k
 eq:tk m x.1 x.2 (w.drop k)=tk m 0 (zam m) w
def tkX(m:Mach)(w:List Int):Ex (Int×List (List Int)) (List (List Int)×Int×Bool):=
 match tk m 0 (zam m) w with
 |some p=>Ex.go p
 |none=>Ex.rt ([],0,false)
theorem zi6(a:MOk m):TInv m w 0 (0,zam m):=⟨⟨0,rfl,by have:=a.r1;omega⟩,zmz,fun s i=>by rw [zui];omega,by simp⟩
theorem zlf{x:Int×List (List Int)}(h:TInv m w w.length x):tkX m w=Ex.go x:=by
 have:=h.eq
 rw [List.drop_length] at this
 unfold tkX
 rw [←this];rfl
theorem zho(e:MOk m)(o:WOk m.inputs w){k:Nat}(f:k<w.length){x:Int×List (List Int)}(h:TInv m w k x): ∃ s i:Nat,x.1=(s:Int)∧s<m.rows.length∧w.getD k default=(i:Int)∧i<m.inputs.toNat∧
 (ed m s i= -1→tkX m w=Ex.rt ([],0,false))∧(ed m s i≠ -1→TInv m w (k+1) (ed m s i,bump x.2 (s:Int) (i:Int))):=by
 obtain⟨s,g,a⟩:=h.at'
 obtain⟨i,hi,b⟩:=zn4 e o f
 have c:=h.eq
 rw [zec w k f,hi,g] at c
 refine⟨s,i,g,a,hi,b,fun d=>?_,fun d=>?_⟩
 ·unfold tkX
  rw [←c]
  unfold tk
  rw [zj0,if_pos d]
 ·rw [zsl,zj0,if_neg d] at c
  have l:=h.bnd
  refine⟨?_,h.shp.bump a b,fun t j=>?_,c⟩
  ·rcases zc3 e a b with n|n
   ·exact absurd n d
   ·exact⟨(ed m s i).toNat,by dsimp only;omega,by omega⟩
  ·dsimp only
   rw [ztn h.shp a b]
   split
   ·have:=l s i;omega
   ·have:=l t j;omega
theorem zhq(f:MOk m)(j:200≤N)(l:WOk m.inputs w)(v:w.length<N)(n:w.length≤1000000):iw N m w=some (xz m w):=by
 unfold iw
 rw [qz (zp1 f j)]
 refine Eq.trans (qz (x:=tkX m w) ?_) (by unfold tkX xz;cases tk m 0 (zam m) w<;>rfl)
 refine xy (σ:=Int×List (List Int)) (fun F k x=>bf N m w F x.1 (k:Int) x.2) w.length (TInv m w) _ (fun F k x g hi=>?_) (fun F x hi=>?_) N 0 (0,zam m) (Nat.zero_le _) (by omega) (zi6 f)
 ·obtain⟨a,c⟩:=x
  obtain⟨s,i,rfl,e,o,d,p,h⟩:=zho f l g hi
  have q:=hi.bnd s i
  have b:=hi.shp
  dsimp only at q b h
  have r:(ix (ix m.rows (s:Int)) (i:Int)).to=ed m s i:=rfl
  have t:ix w (k:Int)=(i:Int):=o
  have u:ix (ix c (s:Int)) (i:Int)=lf c s i:=rfl
  simp only [bf]
  rw [bz (by omega),qb (jf e),qb (jf g),t,qb (show okI (ix m.rows (s:Int)) (i:Int) from jf (by rw [dw,f.rowlen e];exact d)),r]
  by_cases hn:ed m s i= -1
  ·left
   rw [bz hn,p hn]
  ·right
   refine⟨_,h hn,?_⟩
   rw [bu hn,qb (jf (by rw [b.len];exact e)),qb (jf g),qb (show okI (ix c (s:Int)) (i:Int) from jf (by rw [dw,b.row s e];exact d)),u,qb (jk (by omega)),qb (show okI (ix c (s:Int)) (i:Int) from jf (by rw [dw,b.row s e];exact d)),qb (jk (by omega))];rfl
 ·simp only [bf]
  rw [bu (by omega),zlf hi]
theorem zkm(e:MOk m)(j:200≤N)(l:WOk m.inputs w)(v:w.length<N)(n:w.length≤1000000):z5c N m w=some (xz m w):=by
 have y:=e.r2
 unfold z5c
 rw [qb ⟨by omega,by omega,by omega⟩,z5r,qz (zsb e j)]
 refine Eq.trans (qz (x:=tkX m w) ?_) (by unfold tkX xz;cases tk m 0 (zam m) w<;>rfl)
 refine xy (σ:=Int×List (List Int)) (fun F k x=>lw N m w F x.1 (k:Int) x.2) w.length (TInv m w) _ (fun F k x g hi=>?_) (fun F x hi=>?_) N 0 (0,zam m) (Nat.zero_le _) (by omega) (zi6 e)
 ·obtain⟨a,c⟩:=x
  obtain⟨s,i,rfl,f,o,d,p,h⟩:=zho e l g hi
  have q:=hi.bnd s i
  have b:=hi.shp
  dsimp only at q b h
  have r:(ix (ix m.rows (s:Int)) (i:Int)).to=ed m s i:=rfl
  have t:ix w (k:Int)=(i:Int):=o
  have u:ix (ix c (s:Int)) (i:Int)=lf c s i:=rfl
  simp only [lw]
  rw [bz (by omega),qb (jf g),qb (jf f),t,qb (show okI (ix m.rows (s:Int)) (i:Int) from jf (by rw [dw,e.rowlen f];exact d)),r]
  by_cases hn:ed m s i= -1
  ·left
   rw [bz hn,p hn]
  ·right
   refine⟨_,h hn,?_⟩
   rw [bu hn,qb (jf (by rw [b.len];exact f)),qb (show okI (ix c (s:Int)) (i:Int) from jf (by rw [dw,b.row s f];exact d)),u,qb (jk (by omega)),qb (show okI (ix c (s:Int)) (i:Int) from jf (by rw [dw,b.row s f];exact d)),qb (jk (by omega))];rfl
 ·simp only [lw]
  rw [bu (by omega),zlf hi]
/-! ### The edges-/
def zcj(m:Mach)(s k:Nat):List (Int×Int):=((List.range k).filter fun i=>decide (ed m s i≠ -1)).map fun i=>((s:Int),((i:Nat):Int))
def z6z(m:Mach):Nat→List (Int×Int)
 |0=>[]
 |k+1=>z6z m k++zcj m k m.inputs.toNat
def z6c(m:Mach):List (Int×Int):=z6z m m.rows.length
theorem zgw{k:Nat}:(zcj m s k).length≤k:=z8b _ _ _
theorem zce: ∀ k,(z6z m k).length≤k*m.inputs.toNat
 |0=>by simp [z6z]
 |k+1=>by
  have:=zce k
  have:=zgw (m:=m) (s:=k) (k:=m.inputs.toNat)
  unfold z6z
  rw [List.length_append,Nat.succ_mul];omega
theorem zlz(a:MOk m):(z6c m).length≤1024:=by
 have d:=zce (m:=m) m.rows.length
 have b:=a.r2;have c:=a.inp
 have:m.rows.length*m.inputs.toNat≤64*16:=Nat.mul_le_mul b c.2.1
 unfold z6c;omega
theorem zpt(b:MOk m)(j:200≤N):z07 N m=some (z6c m):=by
 have l:=b.r2;have hi:=b.inp
 unfold z07
 refine Eq.trans (qz (x:=z6c m) ?_) rfl
 refine xy (fun F k X=>gp N m F X (k:Int)) m.rows.length (fun k X=>X=z6z m k) _ (fun F s X d a=> .inr ?_) (fun F X a=>?_) N 0 _ (Nat.zero_le _) (by omega) rfl
 ·subst a
  refine⟨_,rfl,?_⟩
  simp only [gp]
  have n:=zce (m:=m) s
  have e:s*m.inputs.toNat≤64*16:=Nat.mul_le_mul (by omega) hi.2.1
  have f:yx N m (s:Int) N 0 (z6z m s)=some (z6z m (s+1)):=by
   refine xy (fun F i X=>yx N m (s:Int) F (i:Int) X) m.inputs.toNat (fun i X=>X=z6z m s++zcj m s i) _ (fun F i X hi' a=> .inr ?_) (fun F X a=>?_) N 0 _ (Nat.zero_le _) (by omega) (by simp [zcj])
   ·subst a
    refine⟨_,rfl,?_⟩
    have o:=zgw (m:=m) (s:=s) (k:=i)
    have g:(ix (ix m.rows (s:Int)) (i:Int)).to=ed m s i:=rfl
    simp only [yx]
    rw [bz (by omega),qb (jf d),qb (show okI (ix m.rows (s:Int)) (i:Int) from jf (by rw [dw,b.rowlen d];exact hi')),g]
    have c:zcj m s (i+1)=zcj m s i++if decide (ed m s i≠ -1)=true then [((s:Int),(i:Int))] else []:=z7i _ _ _
    rw [c]
    by_cases hn:ed m s i= -1
    ·rw [bu (fun h=>h hn),zcl,qb (jk (by omega)),if_neg (by simp [hn]),List.append_nil];rfl
    ·rw [bz hn,qb (zdo (by rw [List.length_append];omega)),zcl,qb (jk (by omega)),if_pos (by simp [hn]),List.append_assoc];rfl
   ·subst a
    simp only [yx]
    rw [bu (by omega)];rfl
  rw [bz (by omega),qz f,qb (jk (by omega))];rfl
 ·subst a
  simp only [gp]
  rw [bu (by omega)];rfl
theorem zgu{p:Int×Int}: ∀ k,p∈z6z m k↔ ∃ s i:Nat,s<k∧i<m.inputs.toNat∧ed m s i≠ -1∧p=((s:Int),(i:Int))
 |0=>by simp [z6z]
 |k+1=>by
  unfold z6z
  rw [List.mem_append,zgu k]
  unfold zcj
  simp only [List.mem_map,List.mem_filter,List.mem_range,decide_eq_true_eq]
  constructor
  ·rintro(⟨s,i,d,a,b,c⟩|⟨i,⟨d,a⟩,b⟩)
   ·exact⟨s,i,by omega,a,b,c⟩
   ·exact⟨k,i,by omega,d,a,b.symm⟩
  ·rintro⟨s,i,d,a,b,c⟩
   by_cases e:s=k
   ·subst e;exact .inr ⟨i,⟨a,b⟩,c.symm⟩
   ·exact .inl ⟨s,i,by omega,a,b,c⟩
theorem zhv{p:Int×Int}:p∈z6c m↔ ∃ s i:Nat,s<m.rows.length∧i<m.inputs.toNat∧ed m s i≠ -1∧p=((s:Int),(i:Int)):=zgu _
/-! ### Tours-/
def zoe(m:Mach)(c:List (List Int)):Prop:= ∀ s i,s<m.rows.length→i<m.inputs.toNat→0≤ed m s i→lf c s i≠0
structure IsT (m:Mach) (w:List Int) (round:Bool):Prop where
 len:w.length≤256
 ok:WOk m.inputs w
 is:(xz m w).2.2=true
 back:round=true→(xz m w).2.1=0
 all:zoe m (xz m w).1
noncomputable def isTB(m:Mach)(w:List Int)(round:Bool):Bool:= @decide (IsT m w round) (Classical.propDecidable _)
theorem zsa{round:Bool}(h:IsT m w round):isTB m w round=true:= @decide_eq_true _ (Classical.propDecidable _) h
theorem z9x{round:Bool}(h: ¬IsT m w round):isTB m w round=false:= @decide_eq_false _ (Classical.propDecidable _) h
theorem zjl{n:Int}{w:List Int}:WOk n w↔w.any (z3j n)=false:=by
 rw [z9a]
 unfold WOk z3j
 refine forall_congr' fun k=>forall_congr' fun a=>?_
 simp
theorem zrg(d:MOk m): ∀ (w:List Int) (s:Nat) (c:List (List Int)),s<m.rows.length→Shp m c→WOk m.inputs w→ ∀ p,tk m (s:Int) c w=some p→(∃ t:Nat,p.1=(t:Int)∧t<m.rows.length)∧Shp m p.2
 | [],s,c,b,f,_,p,h=>by
  obtain rfl:=Option.some.inj h
  exact⟨⟨s,rfl,b⟩,f⟩
 |i::w,s,c,b,f,g,p,h=>by
  obtain⟨j,n,a⟩:=zn4 (k:=0) d g (by simp)
  obtain rfl:i=(j:Int):=n
  unfold tk at h
  rw [zj0] at h
  by_cases e:ed m s j= -1
  ·rw [if_pos e] at h;cases h
  ·rw [if_neg e] at h
   rcases zc3 d b a with l|l
   ·exact absurd l e
   ·have o:ed m s j=((ed m s j).toNat:Int):=by omega
    rw [o] at h
    exact zrg d w _ _ (by omega) (f.bump b a) (by have:=zq5 g 1;simpa using this) p h
theorem ze4(a:MOk m)(b:WOk m.inputs w)(h:(xz m w).2.2=true):(∃ t:Nat,(xz m w).2.1=(t:Int)∧t<m.rows.length)∧Shp m (xz m w).1:=by
 unfold xz at h⊢
 cases hk:tk m 0 (zam m) w with
 |none=>rw [hk] at h;cases h
 |some p=>
  obtain⟨t,c⟩:=p
  exact zrg a w 0 (zam m) (by have:=a.r1;omega) zmz b _ hk
theorem zmo{round:Bool}(d:MOk m)(G:2000≤N)(z:w.length<N)(q:w.length≤1000000):z02 N m w round=some (isTB m w round):=by
 have H:=d.r2
 unfold z02
 by_cases h256:256<w.length
 ·rw [bz (by omega),z9x (fun h=>by have:=h.len;omega)]
 rw [bu (by omega)]
 have A:yj N m w N 0=some (if w.any (z3j m.inputs)=true then Ex.rt false else Ex.go ()):=by
  refine xy (σ:=Unit) (fun F k _=>yj N m w F (k:Int)) w.length (fun k _=>(w.take k).any (z3j m.inputs)=false) _ (fun F k _ c hi=>?_) (fun F _ hi=>?_) N 0 () (Nat.zero_le _) (by omega) (by simp)
  ·simp only [yj]
   rw [bz (by omega),qb (jf c),qb (fun _=>jf c),dw]
   cases hp:z3j m.inputs (w.getD k default)
   ·right
    refine⟨(),by rw [z5h _ w k c,hi,hp];rfl,?_⟩
    rw [cf (show (decide (w.getD k default<0)||decide (m.inputs≤w.getD k default))=false from hp),qb (jk (by omega))];rfl
   ·left
    rw [ct (show (decide (w.getD k default<0)||decide (m.inputs≤w.getD k default))=true from hp),if_pos (List.any_eq_true.2 ⟨_,lq c,hp⟩)]
  ·simp only [yj]
   rw [List.take_length] at hi
   rw [bu (by omega),if_neg (by rw [hi];decide)]
 rw [qz A]
 by_cases hw:WOk m.inputs w
 ·rw [if_neg (by rw [zjl.1 hw];decide),ze1,qz (zhq d (by omega) hw z q)]
  cases h1:(xz m w).2.2
  ·rw [ct (b:=(!false)||_) (by simp),z9x (fun h=>by have:=h.is;rw [h1] at this;cases this)]
  ·by_cases h2:round=true∧(xz m w).2.1≠0
   ·rw [ct (b:=(!true)||_) (by rw [h2.1,decide_eq_true h2.2];rfl),z9x (fun h=>h2.2 (h.back h2.1))]
   ·have x:round=true→(xz m w).2.1=0:=fun h=>Classical.byContradiction fun f=>h2 ⟨h,f⟩
    rw [cf (b:=(!true)||_) (by
     cases hrd:round
     ·rfl
     ·rw [decide_eq_false (fun h=>h (x hrd))];rfl),qz (zpt d (by omega))]
    obtain⟨_,l⟩:=ze4 d hw h1
    have B:=zlz d
    have t: ∀ k,k<(z6c m).length→ ∃ s i:Nat,s<m.rows.length∧i<m.inputs.toNat∧ed m s i≠ -1∧(z6c m).getD k default=((s:Int),(i:Int)):=fun k c=>zhv.1 (lq c)
    have C: ∃ r,yg N (xz m w) (z6c m) N 0=some r∧((r=Ex.rt false∧ ¬zoe m (xz m w).1)∨(r=Ex.go ()∧zoe m (xz m w).1)):=by
     refine z3g (σ:=Unit) (fun F k _=>yg N (xz m w) (z6c m) F (k:Int)) (z6c m).length (fun k _=> ∀ j,j<k→ ∀ s i:Nat,(z6c m).getD j default=((s:Int),(i:Int))→lf (xz m w).1 s i≠0) _ (fun F k _ c hi=>?_) (fun F _ hi=>?_) N 0 () (Nat.zero_le _) (by omega) (fun j p=>by omega)
     ·obtain⟨s,i,g,a,u,y⟩:=t k c
      have D:ix (z6c m) (k:Int)=((s:Int),(i:Int)):=y
      have E:ix (ix (xz m w).1 (s:Int)) (i:Int)=lf (xz m w).1 s i:=rfl
      simp only [yg]
      rw [bz (by omega),qb (jf c),D]
      dsimp only
      rw [qb (jf (by rw [l.len];exact g)),qb (jf c),qb (show okI (ix (xz m w).1 (s:Int)) (i:Int) from jf (by rw [dw,l.row s g];exact a)),E]
      by_cases n:lf (xz m w).1 s i=0
      ·left
       rw [bz n]
       refine⟨_,rfl,.inl ⟨rfl,fun h=>h s i g a ?_ n⟩⟩
       rcases zc3 d g a with h|h
       ·exact absurd h u
       ·exact h.1
      ·right
       refine⟨(),fun j p=>?_,?_⟩
       ·by_cases e:j=k
        ·subst e
         intro s' i' h'
         rw [y] at h'
         obtain⟨f,I⟩:=Prod.mk.inj h'
         obtain rfl:s=s':=by omega
         obtain rfl:i=i':=by omega
         exact n
        ·exact hi j (by omega)
       ·rw [bu n,qb (jk (by omega))];rfl
     ·simp only [yg]
      rw [bu (by omega)]
      refine⟨_,rfl,.inr ⟨rfl,fun s i g a n=>?_⟩⟩
      have hmem:((s:Int),(i:Int))∈z6c m:=zhv.2 ⟨s,i,g,a,by omega,rfl⟩
      obtain⟨j,p,v⟩:=List.mem_iff_getElem.1 hmem
      exact hi j p s i (by rw [List.getD_eq_getElem?_getD,List.getElem?_eq_getElem p,v];rfl)
    obtain⟨r,o,⟨rfl,f⟩|⟨rfl,f⟩⟩:=C
    ·rw [qz o,ztt,z9x (fun h=>f h.all)]
    ·rw [qz o,ze1,zsa ⟨by omega,hw,h1,x,f⟩]
 ·rw [if_pos (by
   cases h:w.any (z3j m.inputs)
   ·exact absurd (zjl.2 h) hw
   ·rfl),ztt,z9x (fun h=>hw h.ok)]
theorem zpd{round:Bool}(h:CM38 m)(J:2000≤N)(y:w.length<N)(q:w.length≤1000000):z1h N m w round=some (isTB m w round,0):=by
 have d:=h.ok
 have K:=d.r2;have hinp:=d.inp
 unfold z1h
 rw [qz (h.check0 (by omega)),bu (fun e=>e rfl),qz (zk9 y (by omega))]
 by_cases hc:z2u w m.inputs=0
 ·obtain⟨u,A⟩:=zdi hc
  rw [bu (fun e=>e hc),qz (zkm d (by omega) u y q)]
  cases h1:(xz m w).2.2
  ·rw [ct (b:=(!false)||_) (by simp),z9x (fun h=>by have:=h.is;rw [h1] at this;cases this)]
  ·by_cases h2:round=true∧(xz m w).2.1≠0
   ·rw [ct (b:=(!true)||_) (by rw [h2.1,decide_eq_true h2.2];rfl),z9x (fun h=>h2.2 (h.back h2.1))]
   ·have B:round=true→(xz m w).2.1=0:=fun h=>Classical.byContradiction fun c=>h2 ⟨h,c⟩
    rw [cf (b:=(!true)||_) (by
     cases hrd:round
     ·rfl
     ·rw [decide_eq_false (fun h=>h (B hrd))];rfl)]
    obtain⟨_,n⟩:=ze4 d u h1
    have C: ∃ r,oo N m (xz m w) N 0=some r∧((r=Ex.rt (false,0)∧ ¬zoe m (xz m w).1)∨(r=Ex.go ()∧zoe m (xz m w).1)):=by
     refine z3g (σ:=Unit) (fun F k _=>oo N m (xz m w) F (k:Int)) m.rows.length (fun k _=> ∀ s,s<k→ ∀ i,i<m.inputs.toNat→0≤ed m s i→lf (xz m w).1 s i≠0) _ (fun F s _ l hi=>?_) (fun F _ hi=>?_) N 0 () (Nat.zero_le _) (by omega) (fun j v=>by omega)
     ·simp only [oo]
      rw [bz (by omega),show mo N m (s:Int)=some (m,(s:Int)) from rfl,zcl]
      obtain⟨z,D,f⟩:=zfy (s:=s) d (show 200≤N by omega) l (σ:=Ex Unit (Ex Unit (Bool×Int))) (fun o E=>Ex.on E (fun G=>
       gd (okI (xz m w).1 (s:Int))<|
       gd (okI (ix (xz m w).1 (s:Int)) o.fA)<|
       bif decide ((ix (ix (xz m w).1 (s:Int)) o.fA)=0) then(
       some (false,Ex.rt (Ex.rt (false,0)))) else(
       some (true,Ex.go ()))) fun _=>none) (fun i z=>z=Ex.go ()∧ ∀ j,j<i→0≤ed m s j→lf (xz m w).1 s j≠0) (fun z=>z=Ex.rt (Ex.rt (false,0))∧ ¬zoe m (xz m w).1) (s0:=Ex.go ()) ⟨rfl,fun j v=>by omega⟩ (by
        rintro i _ a x ⟨rfl,f⟩
        have H:ix (ix (xz m w).1 (s:Int)) (i:Int)=lf (xz m w).1 s i:=rfl
        simp only [ze1]
        rw [qb (jf (by rw [n.len];exact l)),qb (show okI (ix (xz m w).1 (s:Int)) (i:Int) from jf (by rw [dw,n.row s l];exact a)),H]
        by_cases c:lf (xz m w).1 s i=0
        ·rw [bz c]
         exact⟨false,_,rfl,fun h=>(by cases h),fun _=>⟨rfl,fun h=>h s i l a x c⟩⟩
        ·rw [bu c]
         refine⟨true,_,rfl,fun _=>⟨rfl,fun j v g=>?_⟩,fun h=>(by cases h)⟩
         by_cases e:j=i
         ·subst e;exact c
         ·exact f j (by omega) g) (by
        rintro i _ a L ⟨rfl,f⟩
        refine⟨rfl,fun j v g=>?_⟩
        by_cases e:j=i
        ·subst e;omega
        ·exact f j (by omega) g)
      rw [qz D]
      rcases f with⟨rfl,f⟩|⟨rfl,I⟩
      ·right
       refine⟨(),fun t M=>?_,by rw [ze1,qb (jk (by omega))];rfl⟩
       by_cases e:t=s
       ·subst e;exact fun i a=>f i a
       ·exact hi t (by omega)
      ·left
       exact⟨_,rfl,.inl ⟨rfl,I⟩⟩
     ·simp only [oo]
      rw [bu (by omega)]
      exact⟨_,rfl,.inr ⟨rfl,fun s i l a x=>hi s l i a x⟩⟩
    obtain⟨r,p,⟨rfl,c⟩|⟨rfl,c⟩⟩:=C
    ·rw [qz p,ztt,z9x (fun h=>c h.all)]
    ·rw [qz p,ze1,zsa ⟨by omega,u,h1,B,c⟩]
 ·rw [bz hc,z9x (fun h=>hc (zhw d.i1 d.i2 h.ok h.len))]
end tk
end GV
end Go.Proofs.Ytdhccodneoebpaa

namespace Go.Proofs.Ytdhccodneoebpaa
namespace GV
set_option maxRecDepth 100000
def zih(m:Mach)(w:List Int):List (List Int)×Int×Int:=
 if z2u w m.inputs≠0 then([],0,z2u w m.inputs) else if(xz m w).2.2=true then((xz m w).1,(xz m w).2.1,0) else([],0,7)
theorem zql{N:Nat}{m:Mach}{w:List Int}(h:CM38 m)(b:200≤N)(c:w.length<N)(a:w.length≤1000000):z1z N m w=some (zih m w):=by
 unfold z1z zih
 rw [qz (h.check0 b),bu (fun e=>e rfl),qz (zk9 c (by omega))]
 by_cases hc:z2u w m.inputs=0
 ·rw [bu (fun e=>e hc),if_neg (fun e=>e hc),qz (zkm h.ok b (zdi hc).1 c a)]
  cases (xz m w).2.2
  ·rfl
  ·rfl
 ·rw [bz hc,if_pos hc]
theorem zoy{m:Mach}(c:MOk m){w:List Int}(h:w.length≤300):ky 5000 w m 5000 (if 256<w.length then 3 else 0) 0=some (z2u w m.inputs):=by
 have f:=c.i1;have g:=c.i2
 by_cases h256:256<w.length
 ·rw [if_pos h256,zl0 (.inr h256)]
  rw [show (5000:Nat)=4999+1 from rfl]
  rw [show ky (4999+1) w m (4999+1) 3 0=(bif (decide ((0:Int)<(↑w.length:Int)))&&(decide ((↑w.length:Int)≤256)) then _ else some 3) from by rw [ky]]
  rw [cf (by rw [decide_eq_false (show¬(w.length:Int)≤256 by omega)];simp)]
 ·rw [if_neg h256]
  have hval: ∀ b:Bool,w.any (z3j m.inputs)=b→z2u w m.inputs=if b=true then 1 else 0:=by
   intro b d
   cases b
   ·rw [zhw f g (zjl.2 d) (by omega)];rfl
   ·rw [zkc (by omega) (.inr d)];rfl
  refine xy (fun F k (e:Int)=>ky 5000 w m F e (k:Int)) w.length (fun k e=>e=if(w.take k).any (z3j m.inputs)=true then 1 else 0) _ (fun F k e a hi=> .inr ?_) (fun F e hi=>?_) 5000 0 0 (Nat.zero_le _) (by omega) (by simp)
  ·subst hi
   refine⟨_,rfl,?_⟩
   simp only [ky]
   rw [ct (by rw [decide_eq_true (show (k:Int)<(w.length:Int) by omega),decide_eq_true (show (w.length:Int)≤256 by omega)];rfl),qb (jf a),qb (fun _=>jf a),dw,z5h _ w k a]
   cases hp:z3j m.inputs (w.getD k default)
   ·rw [cf (show (decide (w.getD k default<0)||decide (m.inputs≤w.getD k default))=false from hp),zcl,qb (jk (by omega)),Bool.or_false];rfl
   ·rw [ct (show (decide (w.getD k default<0)||decide (m.inputs≤w.getD k default))=true from hp),zcl,qb (jk (by omega)),Bool.or_true];rfl
  ·subst hi
   simp only [ky]
   rw [cf (by rw [decide_eq_false (Int.lt_irrefl _)];rfl),List.take_length,hval _ rfl]
theorem zov{x:Sd}{w:List Int}{round:Bool}(g:DDOk x):og 5000 x w round=some true:=by
 unfold og
 by_cases h300:300<w.length
 ·rw [bz (by omega)]
 obtain⟨m,i,d,j,l⟩:=zus (N:=5000) g (by decide)
 have c:=d.ok
 rw [bu (by omega),qz i,zkf,qz (zql d (by decide) (by omega) (by omega)),qz (zpd d (by decide) (by omega) (by omega))]
 rw [z5n (fun _=>zmo c (by decide) (by omega) (by omega))]
 dsimp only
 rw [cf (b:=(decide ((0:Int)≠0))||_) (by simp)]
 refine Eq.trans (qz (x:=if 256<w.length then 3 else 0) ?_) ?_
 ·by_cases h:256<w.length
  ·rw [bz (by omega),if_pos h]
  ·rw [bu (by omega),if_neg h]
 rw [qz (zoy c (by omega))]
 by_cases hcw:z2u w m.inputs=0
 ·rw [bu (fun e=>e hcw),qz (zhq c (by decide) (zdi hcw).1 (by omega) (by omega))]
  unfold zih
  rw [if_neg (fun e=>e hcw)]
  cases h1:(xz m w).2.2
  ·rw [ct (b:= !false) rfl,if_neg (by simp),z5n (fun _=>z9q)];rfl
  ·obtain⟨_,a⟩:=ze4 c (zdi hcw).1 h1
   have hi:=c.inp
   rw [cf (b:= !true) rfl,if_pos rfl,z5n (fun _=>zer (by rw [a.len];omega) (by rw [a.len];omega) (fun k f=>by rw [a.len] at f;rw [a.row k f];omega)),z5n (fun _=>z9q)]
   simp
 ·rw [bz hcw]
  unfold zih
  rw [if_pos hcw,z5n (fun _=>z9q)]
  simp
end GV
end Go.Proofs.Ytdhccodneoebpaa

namespace Go.Proofs.Ytdhccodneoebpaa
namespace GV
theorem wf_u8{x:Int}(h:(Lit.int .u8 x).wf=true):0≤x∧x≤255:=by simpa [Lit.wf,IntKind.min,IntKind.max,IntKind.signed,IntKind.bits] using h
theorem wf_u16{x:Int}(h:(Lit.int .u16 x).wf=true):0≤x∧x≤65535:=by simpa [Lit.wf,IntKind.min,IntKind.max,IntKind.signed,IntKind.bits] using h
theorem ztb{x:MDat}(h:zuv x):MDOk x:=⟨wf_u8 h.1,wf_u8 h.2.1,wf_u8 h.2.2.1,fun k a=>wf_u16 (h.2.2.2.2.1 _ (lq a))⟩
theorem zt0{x:Sd}(h:zuq x):DDOk x:=⟨wf_u8 h.1,wf_u8 h.2.1,fun k a=>wf_u8 (h.2.2.1 _ (lq a))⟩
theorem zlr{x:MDat}(a:zuv x):oh 5000 x=some true:=zpa (ztb a)
theorem zju{m:Mach}(a:zxr m):mf 5000 m=some true:=zme m
theorem zls{x:Sd}{w:List Int}{round:Bool}(a:zuq x)(b:zx1 w)(c:True):og 5000 x w round=some true:=zov (zt0 a)
end GV
end Go.Proofs.Ytdhccodneoebpaa
