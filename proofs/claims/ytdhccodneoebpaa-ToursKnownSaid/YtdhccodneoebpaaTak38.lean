
import Derived.Test.YtdhccodneoebpaaSpec04b
import Derived.Test.YtdhccodneoebpaaShPlain
set_option linter.unusedVariables false
set_option linter.unusedSimpArgs false
set_option linter.unusedSectionVars false
namespace Go.Proofs.Ytdhccodneoebpaa
namespace GV
set_option maxRecDepth 100000
theorem MOk.rowlen{m:Mach}(a:MOk m){s:Nat}(b:s<m.rows.length):(m.rows.getD s default).length=m.inputs.toNat:=by
 have:=a.row s b;omega
theorem MOk.inp{m:Mach}(a:MOk m):1≤m.inputs.toNat∧m.inputs.toNat≤16∧(m.inputs.toNat:Int)=m.inputs:=by
 have:=a.i1;have:=a.i2;omega
theorem zes{b:Nat}{α β:Type}{X:List α}{y:β}(h:(X.length+1)*b≤140737488355328∧X.length≤1000000000):fits b X ([y]:List β):=⟨by simpa using h.1,by simp;omega⟩
section steps
variable {N : Nat} {m : Mach} {σ : Type} {s : Nat}
theorem zcc(d:MOk m)(q:200≤N)(e:s<m.rows.length)(B:Sb→σ→Option (Bool×σ))(P:Nat→σ→Prop)(Q:σ→Prop){s0:σ}(g:P 0 s0)
 (j: ∀ i z,i<m.inputs.toNat→0≤ed m s i→P i z→ ∃ b z',B ⟨(i:Int),ed m s i⟩ z=some (b,z')∧(b=true→P (i+1) z')∧(b=false→Q z'))
 (k: ∀ i z,i<m.inputs.toNat→ed m s i= -1→P i z→P (i+1) z): ∃ z,xu N m (s:Int) σ B s0=some z∧(P m.inputs.toNat z∨Q z):=by
 have l:=d.rowlen e
 have hi:=d.inp
 unfold xu
 rw [zu (qi e)]
 refine z2p (fun F i z=>tq N σ B m (s:Int) F z (i:Int)) m.inputs.toNat P _ (fun F i z a c=>?_) (fun F z c=>?_) N 0 s0 (Nat.zero_le _) (by omega) g
 ·have n:(ix (ix m.rows (s:Int)) (i:Int)).to=ed m s i:=rfl
  simp only [tq]
  rw [il (show (i:Int)<((ix m.rows (s:Int)).length:Int) by rw [uy];omega),zu (show okI (ix m.rows (s:Int)) (i:Int) from qi (by rw [uy,l];exact a)),n]
  rcases z9l d e a with h|h
  ·right
   refine⟨z,k i z a h c,?_⟩
   rw [ni (show¬ed m s i≠ -1 by omega),z7j,z9z,zu (jh (by omega))];rfl
  ·obtain⟨b,z',f,o,p⟩:=j i z a h.1 c
   cases b
   ·left
    refine⟨z',?_,.inr (p rfl)⟩
    rw [il (show ed m s i≠ -1 by omega)]
    refine Eq.trans (qg (x:=Ex.rt z') ?_) rfl
    exact Eq.trans (qg f) rfl
   ·right
    refine⟨z',o rfl,?_⟩
    rw [il (show ed m s i≠ -1 by omega)]
    refine Eq.trans (qg (x:=Ex.go z') ?_) ?_
    ·exact Eq.trans (qg f) rfl
    ·rw [z9z,zu (jh (by omega))];rfl
 ·simp only [tq]
  rw [ni (show¬(m.inputs.toNat:Int)<((ix m.rows (s:Int)).length:Int) by rw [uy];omega)]
  exact⟨z,rfl,.inl c⟩
theorem z5c(c:MOk m)(d:200≤N)(e:s<m.rows.length)(B:Sb→σ→Option (Bool×σ))(P:Nat→σ→Prop){s0:σ}(f:P 0 s0)
 (g: ∀ i z,i<m.inputs.toNat→0≤ed m s i→P i z→ ∃ z',B ⟨(i:Int),ed m s i⟩ z=some (true,z')∧P (i+1) z')
 (j: ∀ i z,i<m.inputs.toNat→ed m s i= -1→P i z→P (i+1) z): ∃ z,xu N m (s:Int) σ B s0=some z∧P m.inputs.toNat z:=by
 obtain⟨z,h,k⟩:=zcc c d e B P (fun _=>False) f (fun i z hi l n=>let⟨z',a,b⟩:=g i z hi l n;⟨true,z',a,fun _=>b,fun h=>by cases h⟩) j
 exact⟨z,h,k.resolve_right id⟩
end steps
/-! ### Edges that are left-/
structure Shp (m:Mach) (L:List (List Int)):Prop where
 len:L.length=m.rows.length
 row: ∀ s,s<m.rows.length→(L.getD s default).length=m.inputs.toNat
def lf(L:List (List Int))(s i:Nat):Int:=(L.getD s default).getD i default
section rest
variable {N : Nat} {m : Mach} {σ : Type} {s : Nat} {L : List (List Int)} {k : Int}
theorem zer(n:MOk m)(o:200≤N)(j:Shp m L)(f:s<m.rows.length)(B:Sb→σ→Option (Bool×σ))(P:Nat→σ→Prop)(Q:σ→Prop){s0:σ}(p:P 0 s0)
 (q: ∀ i z,i<m.inputs.toNat→0≤ed m s i→0<lf L s i→P i z→ ∃ b z',B ⟨(i:Int),ed m s i⟩ z=some (b,z')∧(b=true→P (i+1) z')∧(b=false→Q z'))
 (l: ∀ i z,i<m.inputs.toNat→(ed m s i= -1∨lf L s i≤0)→P i z→P (i+1) z): ∃ z,pu N ⟨m,L,k⟩ (s:Int) σ B s0=some z∧(P m.inputs.toNat z∨Q z):=by
 unfold pu
 simp only
 rw [show ym N m (s:Int)=some (m,(s:Int)) from rfl,z7j]
 simp only
 obtain⟨z,h,r⟩:=zcc (s:=s) (σ:=Ex σ σ) n o f (fun a z=>Ex.on z (fun e=>
  gd (okI L (s:Int))<|
  gd (okI (ix L (s:Int)) a.fA)<|
  bif decide (0<(ix (ix L (s:Int)) a.fA)) then(
  bd (B (⟨a.fA,a.fB⟩:Sb) e) fun c=>
  bif !c.1 then(
  some (false,Ex.rt c.2)) else(
  some (true,Ex.go c.2))) else(
  some (true,Ex.go e))) fun _=>none) (fun i z=> ∃ x,z=Ex.go x∧P i x) (fun z=> ∃ x,z=Ex.rt x∧Q x) (s0:=Ex.go s0) ⟨_,rfl,p⟩ (by
   rintro i _ hi g ⟨x,rfl,d⟩
   simp only [z9z]
   rw [zu (qi (by rw [j.len];exact f)),uy,zu (qi (by rw [j.row s f];exact hi)),uy,show (L.getD s default).getD i default=lf L s i from rfl]
   by_cases h:0<lf L s i
   ·obtain⟨b,z',t,u,v⟩:=q i x hi g h d
    rw [il h,qg t]
    cases b
    ·exact⟨false,Ex.rt z',rfl,fun h=>(by cases h),fun _=>⟨z',rfl,v rfl⟩⟩
    ·exact⟨true,Ex.go z',rfl,fun _=>⟨z',rfl,u rfl⟩,fun h=>by cases h⟩
   ·rw [ni h]
    exact⟨true,Ex.go x,rfl,fun _=>⟨x,rfl,l i x hi (.inr (by omega)) d⟩,fun h=>by cases h⟩) (by
   rintro i _ hi g ⟨x,rfl,d⟩
   exact⟨x,rfl,l i x hi (.inl g) d⟩)
 rw [qg h]
 rcases r with⟨x,rfl,d⟩|⟨x,rfl,w⟩
 ·exact⟨x,rfl,.inl d⟩
 ·exact⟨x,rfl,.inr w⟩
theorem zgv(c:MOk m)(d:200≤N)(e:Shp m L)(f:s<m.rows.length)(B:Sb→σ→Option (Bool×σ))(P:Nat→σ→Prop){s0:σ}(g:P 0 s0)
 (j: ∀ i z,i<m.inputs.toNat→0≤ed m s i→0<lf L s i→P i z→ ∃ z',B ⟨(i:Int),ed m s i⟩ z=some (true,z')∧P (i+1) z')
 (l: ∀ i z,i<m.inputs.toNat→(ed m s i= -1∨lf L s i≤0)→P i z→P (i+1) z): ∃ z,pu N ⟨m,L,k⟩ (s:Int) σ B s0=some z∧P m.inputs.toNat z:=by
 obtain⟨z,h,n⟩:=zer (k:=k) c d e f B P (fun _=>False) g (fun i z hi o p q=>let⟨z',a,b⟩:=j i z hi o p q;⟨true,z',a,fun _=>b,fun h=>by cases h⟩) l
 exact⟨z,h,n.resolve_right id⟩
theorem zau(q:MOk m)(r:200≤N)(l:Shp m L)(g:s<m.rows.length)(get:σ→Option (Int×Int×List (List Edge)×List (List Int)×Int))(B:Sb→σ→Option (Bool×σ))(P:Nat→σ→Prop)(Q:σ→Prop){s0:σ}(n:P 0 s0)
 (o: ∀ i z,P i z→get z=some (m.inputs,m.outputs,m.rows,L,k))
 (t: ∀ i z,i<m.inputs.toNat→0≤ed m s i→0<lf L s i→P i z→ ∃ b z',B ⟨(i:Int),ed m s i⟩ z=some (b,z')∧(b=true→P (i+1) z')∧(b=false→Q z'))
 (p: ∀ i z,i<m.inputs.toNat→(ed m s i= -1∨lf L s i≤0)→P i z→P (i+1) z): ∃ z,tu N (s:Int) σ get B s0=some z∧(P m.inputs.toNat z∨Q z):=by
 unfold tu
 rw [qg (o 0 s0 n)]
 simp only
 rw [show ym N ⟨m.inputs,m.outputs,m.rows⟩ (s:Int)=some (m,(s:Int)) from rfl,z7j]
 simp only
 obtain⟨z,h,u⟩:=zcc (s:=s) (σ:=Ex σ σ) q r g (fun c z=>Ex.on z (fun d=>
  bd (get d) fun e=>
  gd (okI e.2.2.2.1 (s:Int))<|
  gd (okI (ix e.2.2.2.1 (s:Int)) c.fA)<|
  bif decide (0<(ix (ix e.2.2.2.1 (s:Int)) c.fA)) then(
  bd (B (⟨c.fA,c.fB⟩:Sb) d) fun a=>
  bif !a.1 then(
  some (false,Ex.rt a.2)) else(
  some (true,Ex.go a.2))) else(
  some (true,Ex.go d))) fun _=>none) (fun i z=> ∃ x,z=Ex.go x∧P i x) (fun z=> ∃ x,z=Ex.rt x∧Q x) (s0:=Ex.go s0) ⟨_,rfl,n⟩ (by
   rintro i _ hi j ⟨x,rfl,f⟩
   simp only [z9z]
   rw [qg (o i x f)]
   simp only
   rw [zu (qi (by rw [l.len];exact g)),uy,zu (qi (by rw [l.row s g];exact hi)),uy,show (L.getD s default).getD i default=lf L s i from rfl]
   by_cases h:0<lf L s i
   ·obtain⟨b,z',v,w,y⟩:=t i x hi j h f
    rw [il h,qg v]
    cases b
    ·exact⟨false,Ex.rt z',rfl,fun h=>(by cases h),fun _=>⟨z',rfl,y rfl⟩⟩
    ·exact⟨true,Ex.go z',rfl,fun _=>⟨z',rfl,w rfl⟩,fun h=>by cases h⟩
   ·rw [ni h]
    exact⟨true,Ex.go x,rfl,fun _=>⟨x,rfl,p i x hi (.inr (by omega)) f⟩,fun h=>by cases h⟩) (by
   rintro i _ hi j ⟨x,rfl,f⟩
   exact⟨x,rfl,p i x hi (.inl j) f⟩)
 rw [qg h]
 rcases u with⟨x,rfl,f⟩|⟨x,rfl,A⟩
 ·exact⟨x,rfl,.inl f⟩
 ·exact⟨x,rfl,.inr A⟩
end rest
end GV
end Go.Proofs.Ytdhccodneoebpaa

namespace Go.Proofs.Ytdhccodneoebpaa
namespace GV
set_option maxRecDepth 100000
theorem zof{α:Type}[Inhabited α](X:List α)(x:α):ix (X++[x]) ((↑(X++[x]).length:Int)-1)=x:=by
 rw [ze2]
 have:((↑(X++[x]).length:Int)-1).toNat=X.length:=by rw [List.length_append];simp
 rw [this]
 simp [List.getD_eq_getElem?_getD]
theorem zh7{α:Type}(X:List α)(x:α):cut (X++[x]) 0 ((↑(X++[x]).length:Int)-1)=X:=by
 unfold cut
 have:((↑(X++[x]).length:Int)-1).toNat=X.length:=by rw [List.length_append];simp
 rw [this]
 simp
theorem zlb{α:Type}(X:List α)(x:α):okI (X++[x]) ((↑(X++[x]).length:Int)-1):=by
 have h:(X++[x]).length=X.length+1:=by simp
 exact⟨by omega,by omega⟩
theorem zkh{α:Type}(X:List α)(x:α):okS (X++[x]) 0 ((↑(X++[x]).length:Int)-1):=by
 have h:(X++[x]).length=X.length+1:=by simp
 exact⟨by omega,by omega,by omega⟩
structure DInv (m:Mach) (a:Nat) (Y:List Bool) (S:List Int):Prop where
 len:Y.length=m.rows.length
 sound: ∀ t,Y.getD t default=true→Reach m a t
 start:Y.getD a default=true
 stk: ∀ x∈S,∃ t:Nat,x=(t:Int)∧t<m.rows.length∧Y.getD t default=true
 closed: ∀ t,t<m.rows.length→Y.getD t default=true→(t:Int)∉S→Closed m Y t
structure DRow (m:Mach) (a s:Nat) (c:Nat) (i:Nat) (Y:List Bool) (S:List Int):Prop where
 len:Y.length=m.rows.length
 sound: ∀ t,Y.getD t default=true→Reach m a t
 start:Y.getD a default=true
 here:Y.getD s default=true
 stk: ∀ x∈S,∃ t:Nat,x=(t:Int)∧t<m.rows.length∧Y.getD t default=true
 closed: ∀ t,t<m.rows.length→Y.getD t default=true→(t:Int)∉S→t=s∨Closed m Y t
 dn: ∀ j,j<i→0≤ed m s j→Y.getD (ed m s j).toNat default=true
 cnt:Y.count false+S.length=c
section dfs
variable {m : Mach} {a s c i : Nat} {Y : List Bool} {S : List Int}
theorem DRow.skip(h:DRow m a s c i Y S)(d:ed m s i= -1):DRow m a s c (i+1) Y S:=by
 refine⟨h.len,h.sound,h.start,h.here,h.stk,h.closed,fun j f b=>?_,h.cnt⟩
 by_cases e:j=i
 ·subst e;omega
 ·exact h.dn j (by omega) b
theorem DRow.old(h:DRow m a s c i Y S)(b:Y.getD (ed m s i).toNat default=true):DRow m a s c (i+1) Y S:=by
 refine⟨h.len,h.sound,h.start,h.here,h.stk,h.closed,fun j f d=>?_,h.cnt⟩
 by_cases e:j=i
 ·subst e;exact b
 ·exact h.dn j (by omega) d
theorem DRow.mark(q:MOk m)(k:s<m.rows.length)(hi:i<m.inputs.toNat)(h:DRow m a s c i Y S)(l:0≤ed m s i)(w:Y.getD (ed m s i).toNat default=false):
 DRow m a s c (i+1) (Y.set (ed m s i).toNat true) (S++[ed m s i]):=by
 have f:(ed m s i).toNat<Y.length:=by rw [h.len];rcases z9l q k hi with h|h<;>omega
 have g:=fun t=>z8x (t:=t) f
 have hmono: ∀ t,Y.getD t default=true→(Y.set (ed m s i).toNat true).getD t default=true:=fun t b=>by rw [g];split;rfl;exact b
 have n: ∀ t,Closed m Y t→Closed m (Y.set (ed m s i).toNat true) t:=fun t b j r l=>hmono _ (b j r l)
 refine⟨by simp [h.len],fun t b=>?_,hmono _ h.start,hmono _ h.here,fun x d=>?_,fun t b u v=>?_,fun j r o=>?_,?_⟩
 ·rw [g] at b
  by_cases e:t=(ed m s i).toNat
  ·subst e;exact .step (h.sound s h.here) k (by rw [q.rowlen k];exact hi) l
  ·rw [if_neg e] at b;exact h.sound t b
 ·rcases List.mem_append.1 d with d|d
  ·obtain⟨t,e,o,y⟩:=h.stk x d
   exact⟨t,e,o,hmono t y⟩
  ·rw [List.mem_singleton] at d
   subst d
   exact⟨(ed m s i).toNat,by omega,by rw [←h.len];exact f,by rw [g,if_pos rfl]⟩
 ·have p:t≠(ed m s i).toNat:=fun e=>v (List.mem_append.2 (.inr (by rw [List.mem_singleton];omega)))
  rw [g,if_neg p] at u
  exact(h.closed t b u fun d=>v (List.mem_append.2 (.inl d))).imp id (n t)
 ·by_cases e:j=i
  ·subst e;rw [g,if_pos rfl]
  ·exact hmono _ (h.dn j (by omega) o)
 ·have:=z6w f w
  have:=h.cnt
  rw [List.length_append,List.length_singleton];omega
theorem DInv.pop{x:Int}(h:DInv m a Y (S++[x])): ∃ s:Nat,x=(s:Int)∧s<m.rows.length∧DRow m a s (Y.count false+S.length) 0 Y S:=by
 obtain⟨s,e,c,d⟩:=h.stk x (by simp)
 refine⟨s,e,c,h.len,h.sound,h.start,d,fun z f=>h.stk z (by simp [f]),fun t g hy' i=>?_,fun j k=>by omega,rfl⟩
 by_cases e':t=s
 ·exact .inl e'
 ·refine .inr (h.closed t g hy' fun b=>?_)
  rcases List.mem_append.1 b with b|b
  ·exact i b
  ·rw [List.mem_singleton,e] at b;omega
theorem DRow.fin(d:MOk m)(e:s<m.rows.length)(h:DRow m a s c m.inputs.toNat Y S):DInv m a Y S:=by
 refine⟨h.len,h.sound,h.start,h.stk,fun t f g i=>?_⟩
 rcases h.closed t f g i with rfl|k
 ·intro j b l
  rw [d.rowlen e] at b
  exact h.dn j b l
 ·exact k
theorem DInv.fin(g:a<m.rows.length)(h:DInv m a Y []):Y=reachL m a:=by
 have key: ∀ t,Reach m a t→Y.getD t default=true:=by
  intro t b
  induction b with
  |refl=>exact h.start
  |step i c d e ih=>exact h.closed _ c ih (by simp) _ d e
 refine zdh (by rw [h.len,z5q]) fun k f=>?_
 rw [Bool.eq_iff_iff,z0f (by rw [←h.len];exact f)]
 exact⟨h.sound k,key k⟩
theorem DInv.zero(g:a<m.rows.length):DInv m a ((List.replicate m.rows.length false).set a true) [(a:Int)]:=by
 have h:a<(List.replicate m.rows.length false).length:=by simpa using g
 have b: ∀ t,(List.replicate m.rows.length false).getD t default=false:=fun t=>by
  simp only [List.getD_eq_getElem?_getD,List.getElem?_replicate];split<;>rfl
 have c:=fun t=>z8x (t:=t) h
 refine⟨by simp,fun t d=>?_,by rw [c,if_pos rfl],fun x b=>?_,fun t d f i=>?_⟩
 ·rw [c,b] at d
  by_cases e:t=a
  ·subst e;exact .refl
  ·rw [if_neg e] at d;cases d
 ·rw [List.mem_singleton] at b;exact⟨a,b,g,by rw [c,if_pos rfl]⟩
 ·exfalso
  rw [c,b] at f
  by_cases e:t=a
  ·subst e;exact i (by simp)
  ·rw [if_neg e] at f;cases f
theorem DInv.zcnt(b:a<m.rows.length):((List.replicate m.rows.length false).set a true).count false+1=m.rows.length:=by
 have:=z6w (X:=List.replicate m.rows.length false) (s:=a) (by simpa using b) (by
  simp only [List.getD_eq_getElem?_getD,List.getElem?_replicate];split<;>rfl)
 rw [this,List.count_replicate_self]
theorem zlh(d:MOk m)(e:s<m.rows.length)(hi:i<m.inputs.toNat)(k:c≤100)(h:DRow m a s c i Y S)(f:0≤ed m s i):
 ∃ Z,(gd (okI Y (ed m s i))<|
 bif !(ix Y (ed m s i)) then(
 gd (okI Y (ed m s i))<|
 gd (fits 8 S ([ed m s i]:List Int))<|
 some (true,((up Y (ed m s i) true),(S++([ed m s i]:List Int))))) else(
 some (true,(Y,S))))=some (true,Z)∧DRow m a s c (i+1) Z.1 Z.2:=by
 have g:(ed m s i).toNat<Y.length:=by rw [h.len];rcases z9l d e hi with h|h<;>omega
 have b:okI Y (ed m s i):=⟨f,by omega⟩
 have j:=h.cnt
 rw [zu b]
 cases he:Y.getD (ed m s i).toNat default
 ·refine⟨(Y.set (ed m s i).toNat true,S++[ed m s i]),?_,h.mark d e hi f he⟩
  rw [ct (by rw [ze2,he];rfl),zu b,zu (zes (by omega))];rfl
 ·refine⟨(Y,S),?_,h.old he⟩
  rw [cf (by rw [ze2,he];rfl)]
end dfs
theorem zgq{N:Nat}{m:Mach}(e:MOk m)(j:200≤N){a:Nat}(k:a<m.rows.length): ∀ (F:Nat) (Y:List Bool) (S:List Int),DInv m a Y S→Y.count false+S.length<F→Y.count false+S.length≤100→
 fq N m F Y S=some (reachL m a)
 |0,_,_,_,h,_=>by omega
 |F+1,Y,S,l,q,r=>by
  have t:=e.r2
  rcases List.eq_nil_or_concat S with rfl|⟨f,x,rfl⟩
  ·simp only [fq]
   rw [ni (by simp),l.fin k]
  ·rw [List.concat_eq_append] at*
   obtain⟨s,rfl,g,hrow⟩:=l.pop
   have hlen:(f++[(s:Int)]).length=f.length+1:=by simp
   simp only [fq]
   rw [il (by omega),zu (jh (by omega)),zu (zlb _ _),zu (jh (by omega)),zu (zkh _ _),zof,zh7]
   rw [show ym N m (s:Int)=some (m,(s:Int)) from rfl,z7j]
   obtain⟨z,n,d⟩:=z5c (s:=s) e j g (σ:=List Bool×List Int) (fun c b=>
    gd (okI b.1 c.fB)<|
    bif !(ix b.1 c.fB) then(
    gd (okI b.1 c.fB)<|
    gd (fits 8 b.2 ([c.fB]:List Int))<|
    some (true,((up b.1 c.fB true),(b.2++([c.fB]:List Int))))) else(
    some (true,(b.1,b.2)))) (fun i z=>DRow m a s (Y.count false+f.length) i z.1 z.2) (s0:=(Y,f)) hrow
    (fun i z hi o d=>zlh e g hi (by omega) d o) (fun i z hi p d=>d.skip p)
   rw [qg n]
   have:=d.cnt
   exact zgq e j k F z.1 z.2 (d.fin e g) (by omega) (by omega)
theorem zmm{N:Nat}{m:Mach}(c:MOk m)(d:200≤N){a:Nat}(b:a<m.rows.length):z5y N m (a:Int)=some (reachL m a):=by
 have e:=c.r2
 unfold z5y
 rw [zu ⟨by omega,by omega,by omega⟩,z07,zu (qi (by simpa using b)),mo]
 refine Eq.trans (qg (x:=reachL m a) ?_) rfl
 have f:=DInv.zcnt (m:=m) b
 exact zgq c d b N _ _ (DInv.zero b) (by simp only [List.length_singleton];omega) (by simp only [List.length_singleton];omega)
end GV
end Go.Proofs.Ytdhccodneoebpaa

namespace Go.Proofs.Ytdhccodneoebpaa
namespace GV
set_option maxRecDepth 100000
structure CM38 (m:Mach):Prop where
 ok:MOk m
 conn: ∀ t,t<m.rows.length→Reach m 0 t
theorem CM38.connB{m:Mach}(h:CM38 m):connB m=true:=zvl fun j a=>(z0f a).2 (h.conn j a)
noncomputable def check38(m:Mach):Int:=if z2i m≠0 then z2i m else if connB m=true then 0 else 11
theorem zgg{N:Nat}{m:Mach}(b:Small m)(c:200≤N):au N m=some (check38 m):=by
 unfold au check38
 rw [qg (zjf b c)]
 by_cases h:z2i m=0
 ·rw [if_neg (fun a=>a h),if_neg (fun a=>a h)]
  cases hc:GV.connB m
  ·rw [ct (by rw [h];rfl)];rfl
  ·rw [cf (by simp)];rw [h];rfl
 ·rw [if_pos h,if_pos h,cf (by rw [decide_eq_false h];rfl)]
theorem CM38.check0{N:Nat}{m:Mach}(h:CM38 m)(a:200≤N):au N m=some 0:=by
 rw [zgg h.ok.small a]
 unfold check38
 rw [if_neg (fun b=>b ((z95 m).2 h.ok)),if_pos h.connB]
theorem zqp{m:Mach}(h:check38 m=0):CM38 m:=by
 unfold check38 at h
 by_cases hc:z2i m=0
 ·rw [if_neg (fun b=>b hc)] at h
  have a:GV.connB m=true:=by
   cases a:GV.connB m
   ·rw [a] at h;cases h
   ·rfl
  refine⟨(z95 m).1 hc,fun t c=>?_⟩
  unfold GV.connB at a
  exact @of_decide_eq_true _ (Classical.propDecidable _) a t c
 ·rw [if_pos hc] at h;exact absurd h hc
/-! ### Knots-/
noncomputable def muB(m:Mach)(s t:Nat):Bool:=(reachL m s).getD t default&&(reachL m t).getD s default
noncomputable def fst38(m:Mach)(s:Nat):Nat:=((List.range m.rows.length).find? fun t=>muB m s t).getD 0
section knots
variable {N : Nat} {m : Mach} {s t u : Nat}
theorem zdx(a:s<m.rows.length)(b:t<m.rows.length):muB m s t=true↔Reach m s t∧Reach m t s:=by
 unfold muB
 rw [Bool.and_eq_true,z0f b,z0f a]
theorem zor(a:s<m.rows.length):muB m s s=true:=(zdx a a).2 ⟨.refl,.refl⟩
theorem znv:muB m s t=muB m t s:=by unfold muB;rw [Bool.and_comm]
theorem zfs(a:s<m.rows.length)(b:t<m.rows.length)(c:u<m.rows.length)(h:muB m s t=true)(k:muB m t u=true):muB m s u=true:=by
 rw [zdx a b] at h
 rw [zdx b c] at k
 exact(zdx a c).2 ⟨h.1.trans k.1,k.2.trans h.2⟩
theorem zae(a:s<m.rows.length):fst38 m s≤s∧muB m s (fst38 m s)=true∧ ∀ u,u<fst38 m s→muB m s u=false:=by
 unfold fst38
 cases h:(List.range m.rows.length).find? fun t=>muB m s t with
 |none=>
  rw [List.find?_eq_none] at h
  exact absurd (zor a) (h s (List.mem_range.2 a))
 |some f=>
  rw [List.find?_range_eq_some] at h
  obtain⟨c,e,b⟩:=h
  refine⟨?_,c,fun u d=>by simpa using b u d⟩
  rcases Nat.lt_or_ge s f with h|h
  ·have:=b s h
   rw [zor a] at this;cases this
  ·exact h
theorem zcb(a:s<m.rows.length):fst38 m s<m.rows.length:=by have:=(zae a).1;omega
theorem znr(a:s<m.rows.length)(b:t<m.rows.length):fst38 m s=fst38 m t↔muB m s t=true:=by
 obtain⟨o,i,l⟩:=zae a
 obtain⟨p,f,n⟩:=zae b
 have d:=zcb a
 have g:=zcb b
 constructor
 ·intro e
  rw [←e] at f
  exact zfs a d b i (by rw [znv];exact f)
 ·intro h
  have j:muB m s (fst38 m t)=true:=zfs a b g h f
  have k:muB m t (fst38 m s)=true:=zfs b a d (by rw [znv];exact h) i
  rcases Nat.lt_trichotomy (fst38 m s) (fst38 m t) with c|c|c
  ·rw [n _ c] at k;cases k
  ·exact c
  ·rw [l _ c] at j;cases j
noncomputable def fstL(m:Mach):List Int:=(List.range m.rows.length).map fun s=>(fst38 m s:Int)
theorem zgd:(fstL m).length=m.rows.length:=by simp [fstL]
theorem zlo(a:s<m.rows.length):(fstL m).getD s default=(fst38 m s:Int):=by simp [fstL,List.getD_eq_getElem?_getD,a]
theorem zso(a:MOk m)(c:200≤N):oz N m N 0 (List.replicate m.rows.length [])=some ((List.range m.rows.length).map (reachL m)):=by
 have d:=a.r2
 refine lh (fun F k X=>oz N m F (k:Int) X) m.rows.length (fun k X=>X=(List.range k).map (reachL m)++List.replicate (m.rows.length-k) []) _ (fun F k X b hi=> .inr ?_) (fun F X hi=>?_) N 0 _ (Nat.zero_le _) (by omega) (by simp)
 ·subst hi
  refine⟨_,rfl,?_⟩
  simp only [oz]
  rw [il (by rw [z07,List.length_replicate];omega),qg (zmm a c b),zu (qi (by simp;omega)),zu (jh (by omega)),mo,z7t (by simp) b]
  rw [List.range_succ,List.map_append];rfl
 ·subst hi
  simp only [oz]
  rw [ni (by rw [z07,List.length_replicate];omega)]
  simp
theorem ztc(g:MOk m)(p:200≤N)(a:s<m.rows.length){X:List Int}(b:X.length=m.rows.length):om N ((List.range m.rows.length).map (reachL m)) (s:Int) N (X.set s 0)=some (X.set s (fst38 m s:Int)):=by
 obtain⟨q,h,i⟩:=zae a
 have r:=g.r2
 have hall: ∀ k,k<m.rows.length→((List.range m.rows.length).map (reachL m)).getD k default=reachL m k:=fun k j=>by simp [List.getD_eq_getElem?_getD,j]
 have d:((List.range m.rows.length).map (reachL m)).length=m.rows.length:=by simp
 have f: ∀ c:Nat,(X.set s (c:Int)).getD s default=(c:Int):=fun c=>by simp [List.getD_eq_getElem?_getD,b,a]
 have hcond: ∀ c,c<m.rows.length→ ∀ {α:Type} (x y:Option α) (F:Nat),
  (gd (okI ((List.range m.rows.length).map (reachL m)) (s:Int))<|gd (okI (X.set s (c:Int)) (s:Int))<|gd (okI (ix ((List.range m.rows.length).map (reachL m)) (s:Int)) (ix (X.set s (c:Int)) (s:Int)))<|
   gd ((true&&((!(ix (ix ((List.range m.rows.length).map (reachL m)) (s:Int)) (ix (X.set s (c:Int)) (s:Int))))==false))=true→okI (X.set s (c:Int)) (s:Int))<|
   gd ((true&&((!(ix (ix ((List.range m.rows.length).map (reachL m)) (s:Int)) (ix (X.set s (c:Int)) (s:Int))))==false))=true→okI ((List.range m.rows.length).map (reachL m)) (ix (X.set s (c:Int)) (s:Int)))<|
   gd ((true&&((!(ix (ix ((List.range m.rows.length).map (reachL m)) (s:Int)) (ix (X.set s (c:Int)) (s:Int))))==false))=true→okI (ix ((List.range m.rows.length).map (reachL m)) (ix (X.set s (c:Int)) (s:Int))) (s:Int))<|
   bif (!(ix (ix ((List.range m.rows.length).map (reachL m)) (s:Int)) (ix (X.set s (c:Int)) (s:Int))))||(!(ix (ix ((List.range m.rows.length).map (reachL m)) (ix (X.set s (c:Int)) (s:Int))) (s:Int))) then x else y)=bif muB m s c then y else x:=by
  intro c e α x y F
  have l:ix (X.set s (c:Int)) (s:Int)=(c:Int):=f c
  have n:ix ((List.range m.rows.length).map (reachL m)) (s:Int)=reachL m s:=hall s a
  have o:ix ((List.range m.rows.length).map (reachL m)) (c:Int)=reachL m c:=hall c e
  rw [l,n,o,zu (qi (by rw [d];exact a)),zu (qi (by simp [b,a])),zu (qi (by rw [z5q];exact e)),zu (fun _=>qi (by simp [b,a])),zu (fun _=>qi (by rw [d];exact e)),zu (fun _=>qi (by rw [z5q];exact a))]
  unfold muB
  rw [uy,uy]
  cases (reachL m s).getD c default<;>cases (reachL m c).getD s default<;>rfl
 refine lh (σ:=Unit) (fun F c _=>om N ((List.range m.rows.length).map (reachL m)) (s:Int) F (X.set s (c:Int))) (fst38 m s) (fun _ _=>True) _ (fun F c _ e _=> .inr ⟨(),trivial,?_⟩) (fun F _ _=>?_) N 0 () (Nat.zero_le _) (by omega) trivial
 ·simp only [om]
  rw [hcond c (by omega) _ _ F,cf (i c e),zu (qi (by simp [b,a])),show ix (X.set s (c:Int)) (s:Int)=(c:Int) from f c,zu (jh (by omega)),zu (qi (by simp [b,a])),mo,List.set_set];rfl
 ·simp only [om]
  rw [hcond (fst38 m s) (by omega) _ _ F,ct h]
theorem ztv(a:MOk m)(b:200≤N):z3x N m=some (fstL m):=by
 have g:=a.r2
 unfold z3x
 rw [zu ⟨by omega,by omega,by omega⟩,z07,qg (zso a b),zu ⟨by omega,by omega,by omega⟩,z07]
 refine Eq.trans (qg (x:=fstL m) ?_) rfl
 refine lh (fun F k X=>l9 N m ((List.range m.rows.length).map (reachL m)) F (k:Int) X) m.rows.length (fun k X=>X=((List.range k).map fun s=>(fst38 m s:Int))++List.replicate (m.rows.length-k) 0) _ (fun F k X c hi=> .inr ?_) (fun F X hi=>?_) N 0 _ (Nat.zero_le _) (by omega) (by simp)
 ·subst hi
  refine⟨_,rfl,?_⟩
  simp only [l9]
  have f:((((List.range k).map fun s=>(fst38 m s:Int))++List.replicate (m.rows.length-k) 0).set k 0)=((List.range k).map fun s=>(fst38 m s:Int))++List.replicate (m.rows.length-k) 0:=by
   refine zdh (by simp) fun j h=>?_
   rw [u6 (by simp;omega)]
   by_cases e:j=k
   ·subst e
    rw [if_pos rfl]
    simp [List.getD_eq_getElem?_getD,show 0<m.rows.length-j by omega]
   ·rw [if_neg e]
  have d:=ztc (X:=((List.range k).map fun s=>(fst38 m s:Int))++List.replicate (m.rows.length-k) 0) a b c (by simp;omega)
  rw [f] at d
  rw [il (by rw [z07,List.length_replicate];omega),qg d,zu (jh (by omega)),z7t (by simp) c]
  rw [List.range_succ,List.map_append];rfl
 ·subst hi
  simp only [l9]
  rw [ni (by rw [z07,List.length_replicate];omega)]
  simp [fstL]
noncomputable def knot(m:Mach)(s:Nat):List Int:=((List.range m.rows.length).filter fun t=>muB m s t).map fun t=>((t:Nat):Int)
theorem zdw{α:Type}(p:Nat→Bool)(f:Nat→α)(k:Nat):((List.range (k+1)).filter p).map f=((List.range k).filter p).map f++if p k=true then [f k] else []:=by
 rw [List.range_succ,List.filter_append,List.map_append]
 congr 1
 cases h:p k<;>simp [List.filter_cons,h]
theorem zrq(p:Nat→Bool){α:Type}(f:Nat→α)(k:Nat):(((List.range k).filter p).map f).length≤k:=by
 rw [List.length_map];exact Nat.le_trans (List.length_filter_le _ _) (by simp)
theorem zuz{N:Nat}{X:List Int}:z0r N X=some X:=by
 unfold z0r;rw [zu (zu5 X),zu9]
end knots
end GV
end Go.Proofs.Ytdhccodneoebpaa

namespace Go.Proofs.Ytdhccodneoebpaa
namespace GV
set_option maxRecDepth 1000000
end GV
end Go.Proofs.Ytdhccodneoebpaa

namespace Go.Proofs.Ytdhccodneoebpaa
namespace GV
set_option maxRecDepth 100000
structure DDOk (x:Sj):Prop where
 n:0≤x.fBd∧x.fBd≤255
 i:0≤x.fBe∧x.fBe≤255
 t: ∀ k,k<x.fBb.length→0≤x.fBb.getD k default∧x.fBb.getD k default≤255
section
variable {N : Nat} {x : Sj}
end
end GV
end Go.Proofs.Ytdhccodneoebpaa

namespace Go.Proofs.Ytdhccodneoebpaa
namespace GV
set_option maxRecDepth 100000
end GV
end Go.Proofs.Ytdhccodneoebpaa

namespace Go.Proofs.Ytdhccodneoebpaa
namespace GV
set_option maxRecDepth 100000
def bump(c:List (List Int))(s i:Int):List (List Int):=up c s (up (ix c s) i (ix (ix c s) i+1))
def tk(m:Mach):Int→List (List Int)→List Int→Option (Int×List (List Int))
 |a,c,[]=>some (a,c)
 |a,c,i::w=>if(z4j m a i).to= -1 then none else tk m (z4j m a i).to (bump c a i) w
theorem znm(m:Mach)(a:Int)(c:List (List Int))(i:Int)(w:List Int):tk m a c (i::w)=if(z4j m a i).to= -1 then none else tk m (z4j m a i).to (bump c a i) w:=by rw [tk]
def z6g(m:Mach):List (List Int):=List.replicate m.rows.length (List.replicate m.inputs.toNat 0)
def z01(m:Mach)(w:List Int):List (List Int)×Int×Bool:=
 match tk m 0 (z6g m) w with
 |some (t,c)=>(c,t,true)
 |none=>([],0,false)
section tk
variable {N : Nat} {m : Mach} {w : List Int} {c : List (List Int)} {s i : Nat}
theorem Shp.set(h:Shp m c){r:List Int}(a:s<m.rows.length)(b:r.length=m.inputs.toNat):Shp m (c.set s r):=by
 refine⟨by simp [h.len],fun t d=>?_⟩
 rw [u6 (by rw [h.len];exact a)]
 by_cases e:t=s
 ·rw [if_pos e,b]
 ·rw [if_neg e,h.row t d]
theorem za9(h:Shp m c)(a:s<m.rows.length)(hi:i<m.inputs.toNat){v:Int}{t j:Nat}:lf (c.set s ((c.getD s default).set i v)) t j=if t=s∧j=i then v else lf c t j:=by
 unfold lf
 rw [u6 (by rw [h.len];exact a)]
 by_cases e:t=s
 ·subst e
  rw [if_pos rfl,u6 (by rw [h.row t a];exact hi)]
  by_cases e2:j=i
  ·rw [if_pos e2,if_pos ⟨rfl,e2⟩]
  ·rw [if_neg e2,if_neg (fun h=>e2 h.2)]
 ·rw [if_neg e,if_neg (fun h=>e h.1)]
theorem zsz:bump c (s:Int) (i:Int)=c.set s ((c.getD s default).set i (lf c s i+1)):=rfl
theorem Shp.bump(h:Shp m c)(a:s<m.rows.length)(hi:i<m.inputs.toNat):Shp m (bump c (s:Int) (i:Int)):=by
 rw [zsz];exact h.set a (by rw [List.length_set,h.row s a])
theorem ziy(h:Shp m c)(a:s<m.rows.length)(hi:i<m.inputs.toNat){t j:Nat}:lf (GV.bump c (s:Int) (i:Int)) t j=if t=s∧j=i then lf c s i+1 else lf c t j:=za9 h a hi
theorem zba:Shp m (z6g m):=by
 refine⟨by simp [z6g],fun s a=>?_⟩
 simp [z6g,List.getD_eq_getElem?_getD,a]
theorem zj6:lf (z6g m) s i=0:=by
 unfold lf z6g
 simp only [List.getD_eq_getElem?_getD,List.getElem?_replicate]
 split
 ·simp only [Option.getD_some,List.getElem?_replicate]
  split<;>rfl
 ·rfl
theorem zd4{s i:Nat}:(z4j m (s:Int) (i:Int)).to=ed m s i:=by
 unfold z4j
 rw [if_neg (by omega)];rfl
theorem zom(c:MOk m)(a:WOk m.inputs w){k:Nat}(b:k<w.length): ∃ i:Nat,w.getD k default=(i:Int)∧i<m.inputs.toNat:=by
 have:=a k b
 exact⟨(w.getD k default).toNat,by omega,by omega⟩
theorem zqo(b:MOk m)(c:200≤N):vv N m N [] 0=some (z6g m):=by
 have d:=b.r2;have hi:=b.inp
 refine lh (fun F k X=>vv N m F X (k:Int)) m.rows.length (fun k X=>X=List.replicate k (List.replicate m.inputs.toNat 0)) _ (fun F k X e a=> .inr ?_) (fun F X a=>?_) N 0 _ (Nat.zero_le _) (by omega) rfl
 ·subst a
  refine⟨_,rfl,?_⟩
  simp only [vv]
  rw [il (by omega),zu ⟨by omega,by omega,by omega⟩,zu (zes (by simp;omega)),zu (jh (by omega)),List.replicate_succ'];rfl
 ·subst a
  simp only [vv]
  rw [ni (by omega)];rfl
structure TInv (m:Mach) (w:List Int) (k:Nat) (x:Int×List (List Int)):Prop where
 at': ∃ s:Nat,x.1=(s:Int)∧s<m.rows.length
 shp:Shp m x.2
 bnd: ∀ s i,0≤lf x.2 s i∧lf x.2 s i≤k
 eq:tk m x.1 x.2 (w.drop k)=tk m 0 (z6g m) w
def tkX(m:Mach)(w:List Int):Ex (Int×List (List Int)) (List (List Int)×Int×Bool):=
 match tk m 0 (z6g m) w with
 |some p=>Ex.go p
 |none=>Ex.rt ([],0,false)
theorem zpz(a:MOk m):TInv m w 0 (0,z6g m):=⟨⟨0,rfl,by have:=a.r1;omega⟩,zba,fun s i=>by rw [zj6];omega,by simp⟩
theorem zra{x:Int×List (List Int)}(h:TInv m w w.length x):tkX m w=Ex.go x:=by
 have:=h.eq
 rw [List.drop_length] at this
 unfold tkX
 rw [←this];rfl
theorem zpd(e:MOk m)(o:WOk m.inputs w){k:Nat}(f:k<w.length){x:Int×List (List Int)}(h:TInv m w k x): ∃ s i:Nat,x.1=(s:Int)∧s<m.rows.length∧w.getD k default=(i:Int)∧i<m.inputs.toNat∧
 (ed m s i= -1→tkX m w=Ex.rt ([],0,false))∧(ed m s i≠ -1→TInv m w (k+1) (ed m s i,bump x.2 (s:Int) (i:Int))):=by
 obtain⟨s,g,a⟩:=h.at'
 obtain⟨i,hi,b⟩:=zom e o f
 have c:=h.eq
 rw [zpl w k f,hi,g] at c
 refine⟨s,i,g,a,hi,b,fun d=>?_,fun d=>?_⟩
 ·unfold tkX
  rw [←c]
  unfold tk
  rw [zd4,if_pos d]
 ·rw [znm,zd4,if_neg d] at c
  have l:=h.bnd
  refine⟨?_,h.shp.bump a b,fun t j=>?_,c⟩
  ·rcases z9l e a b with n|n
   ·exact absurd n d
   ·exact⟨(ed m s i).toNat,by dsimp only;omega,by omega⟩
  ·dsimp only
   rw [ziy h.shp a b]
   split
   ·have:=l s i;omega
   ·have:=l t j;omega
theorem zph(f:MOk m)(j:200≤N)(l:WOk m.inputs w)(v:w.length<N)(n:w.length≤1000000):z02 N m w=some (z01 m w):=by
 unfold z02
 rw [qg (zqo f j)]
 refine Eq.trans (qg (x:=tkX m w) ?_) (by unfold tkX z01;cases tk m 0 (z6g m) w<;>rfl)
 refine lh (σ:=Int×List (List Int)) (fun F k x=>yt N m w F x.1 (k:Int) x.2) w.length (TInv m w) _ (fun F k x g hi=>?_) (fun F x hi=>?_) N 0 (0,z6g m) (Nat.zero_le _) (by omega) (zpz f)
 ·obtain⟨a,c⟩:=x
  obtain⟨s,i,rfl,e,o,d,p,h⟩:=zpd f l g hi
  have q:=hi.bnd s i
  have b:=hi.shp
  dsimp only at q b h
  have r:(ix (ix m.rows (s:Int)) (i:Int)).to=ed m s i:=rfl
  have t:ix w (k:Int)=(i:Int):=o
  have u:ix (ix c (s:Int)) (i:Int)=lf c s i:=rfl
  simp only [yt]
  rw [il (by omega),zu (qi e),zu (qi g),t,zu (show okI (ix m.rows (s:Int)) (i:Int) from qi (by rw [uy,f.rowlen e];exact d)),r]
  by_cases hn:ed m s i= -1
  ·left
   rw [il hn,p hn]
  ·right
   refine⟨_,h hn,?_⟩
   rw [ni hn,zu (qi (by rw [b.len];exact e)),zu (qi g),zu (show okI (ix c (s:Int)) (i:Int) from qi (by rw [uy,b.row s e];exact d)),u,zu (jh (by omega)),zu (show okI (ix c (s:Int)) (i:Int) from qi (by rw [uy,b.row s e];exact d)),zu (jh (by omega))];rfl
 ·simp only [yt]
  rw [ni (by omega),zra hi]
/-! ### The edges-/
def xn(m:Mach)(s k:Nat):List (Int×Int):=((List.range k).filter fun i=>decide (ed m s i≠ -1)).map fun i=>((s:Int),((i:Nat):Int))
def wh(m:Mach):Nat→List (Int×Int)
 |0=>[]
 |k+1=>wh m k++xn m k m.inputs.toNat
def qp(m:Mach):List (Int×Int):=wh m m.rows.length
theorem z5k{k:Nat}:(xn m s k).length≤k:=zrq _ _ _
theorem z9a: ∀ k,(wh m k).length≤k*m.inputs.toNat
 |0=>by simp [wh]
 |k+1=>by
  have:=z9a k
  have:=z5k (m:=m) (s:=k) (k:=m.inputs.toNat)
  unfold wh
  rw [List.length_append,Nat.succ_mul];omega
theorem zfz(a:MOk m):(qp m).length≤1024:=by
 have d:=z9a (m:=m) m.rows.length
 have b:=a.r2;have c:=a.inp
 have:m.rows.length*m.inputs.toNat≤64*16:=Nat.mul_le_mul b c.2.1
 unfold qp;omega
theorem zqu(b:MOk m)(j:200≤N):z04 N m=some (qp m):=by
 have l:=b.r2;have hi:=b.inp
 unfold z04
 refine Eq.trans (qg (x:=qp m) ?_) rfl
 refine lh (fun F k X=>yz N m F X (k:Int)) m.rows.length (fun k X=>X=wh m k) _ (fun F s X d a=> .inr ?_) (fun F X a=>?_) N 0 _ (Nat.zero_le _) (by omega) rfl
 ·subst a
  refine⟨_,rfl,?_⟩
  simp only [yz]
  have n:=z9a (m:=m) s
  have e:s*m.inputs.toNat≤64*16:=Nat.mul_le_mul (by omega) hi.2.1
  have f:vz N m (s:Int) N 0 (wh m s)=some (wh m (s+1)):=by
   refine lh (fun F i X=>vz N m (s:Int) F (i:Int) X) m.inputs.toNat (fun i X=>X=wh m s++xn m s i) _ (fun F i X hi' a=> .inr ?_) (fun F X a=>?_) N 0 _ (Nat.zero_le _) (by omega) (by simp [xn])
   ·subst a
    refine⟨_,rfl,?_⟩
    have o:=z5k (m:=m) (s:=s) (k:=i)
    have g:(ix (ix m.rows (s:Int)) (i:Int)).to=ed m s i:=rfl
    simp only [vz]
    rw [il (by omega),zu (qi d),zu (show okI (ix m.rows (s:Int)) (i:Int) from qi (by rw [uy,b.rowlen d];exact hi')),g]
    have c:xn m s (i+1)=xn m s i++if decide (ed m s i≠ -1)=true then [((s:Int),(i:Int))] else []:=zdw _ _ _
    rw [c]
    by_cases hn:ed m s i= -1
    ·rw [ni (fun h=>h hn),z7j,zu (jh (by omega)),if_neg (by simp [hn]),List.append_nil];rfl
    ·rw [il hn,zu (zes (by rw [List.length_append];omega)),z7j,zu (jh (by omega)),if_pos (by simp [hn]),List.append_assoc];rfl
   ·subst a
    simp only [vz]
    rw [ni (by omega)];rfl
  rw [il (by omega),qg f,zu (jh (by omega))];rfl
 ·subst a
  simp only [yz]
  rw [ni (by omega)];rfl
theorem z5j{p:Int×Int}: ∀ k,p∈wh m k↔ ∃ s i:Nat,s<k∧i<m.inputs.toNat∧ed m s i≠ -1∧p=((s:Int),(i:Int))
 |0=>by simp [wh]
 |k+1=>by
  unfold wh
  rw [List.mem_append,z5j k]
  unfold xn
  simp only [List.mem_map,List.mem_filter,List.mem_range,decide_eq_true_eq]
  constructor
  ·rintro(⟨s,i,d,a,b,c⟩|⟨i,⟨d,a⟩,b⟩)
   ·exact⟨s,i,by omega,a,b,c⟩
   ·exact⟨k,i,by omega,d,a,b.symm⟩
  ·rintro⟨s,i,d,a,b,c⟩
   by_cases e:s=k
   ·subst e;exact .inr ⟨i,⟨a,b⟩,c.symm⟩
   ·exact .inl ⟨s,i,by omega,a,b,c⟩
theorem ut{p:Int×Int}:p∈qp m↔ ∃ s i:Nat,s<m.rows.length∧i<m.inputs.toNat∧ed m s i≠ -1∧p=((s:Int),(i:Int)):=z5j _
/-! ### Tours-/
def zrg(m:Mach)(c:List (List Int)):Prop:= ∀ s i,s<m.rows.length→i<m.inputs.toNat→0≤ed m s i→lf c s i≠0
structure IsT (m:Mach) (w:List Int) (round:Bool):Prop where
 len:w.length≤256
 ok:WOk m.inputs w
 is:(z01 m w).2.2=true
 back:round=true→(z01 m w).2.1=0
 all:zrg m (z01 m w).1
noncomputable def isTB(m:Mach)(w:List Int)(round:Bool):Bool:= @decide (IsT m w round) (Classical.propDecidable _)
theorem zm7{round:Bool}(h:IsT m w round):isTB m w round=true:= @decide_eq_true _ (Classical.propDecidable _) h
theorem zh3{round:Bool}(h: ¬IsT m w round):isTB m w round=false:= @decide_eq_false _ (Classical.propDecidable _) h
theorem zoi{n:Int}{w:List Int}:WOk n w↔w.any (zdv n)=false:=by
 rw [zd8]
 unfold WOk zdv
 refine forall_congr' fun k=>forall_congr' fun a=>?_
 simp
theorem zr5(d:MOk m): ∀ (w:List Int) (s:Nat) (c:List (List Int)),s<m.rows.length→Shp m c→WOk m.inputs w→ ∀ p,tk m (s:Int) c w=some p→(∃ t:Nat,p.1=(t:Int)∧t<m.rows.length)∧Shp m p.2
 | [],s,c,b,f,_,p,h=>by
  obtain rfl:=Option.some.inj h
  exact⟨⟨s,rfl,b⟩,f⟩
 |i::w,s,c,b,f,g,p,h=>by
  obtain⟨j,n,a⟩:=zom (k:=0) d g (by simp)
  obtain rfl:i=(j:Int):=n
  unfold tk at h
  rw [zd4] at h
  by_cases e:ed m s j= -1
  ·rw [if_pos e] at h;cases h
  ·rw [if_neg e] at h
   rcases z9l d b a with l|l
   ·exact absurd l e
   ·have o:ed m s j=((ed m s j).toNat:Int):=by omega
    rw [o] at h
    exact zr5 d w _ _ (by omega) (f.bump b a) (by have:=ztd g 1;simpa using this) p h
theorem zqc(a:MOk m)(b:WOk m.inputs w)(h:(z01 m w).2.2=true):(∃ t:Nat,(z01 m w).2.1=(t:Int)∧t<m.rows.length)∧Shp m (z01 m w).1:=by
 unfold z01 at h⊢
 cases hk:tk m 0 (z6g m) w with
 |none=>rw [hk] at h;cases h
 |some p=>
  obtain⟨t,c⟩:=p
  exact zr5 a w 0 (z6g m) (by have:=a.r1;omega) zba b _ hk
theorem zh1{round:Bool}(d:MOk m)(E:2000≤N)(z:w.length<N)(q:w.length≤1000000):mr N m w round=some (isTB m w round):=by
 have G:=d.r2
 unfold mr
 by_cases h256:256<w.length
 ·rw [il (by omega),zh3 (fun h=>by have:=h.len;omega)]
 rw [ni (by omega)]
 have A:wu N m w N 0=some (if w.any (zdv m.inputs)=true then Ex.rt false else Ex.go ()):=by
  refine lh (σ:=Unit) (fun F k _=>wu N m w F (k:Int)) w.length (fun k _=>(w.take k).any (zdv m.inputs)=false) _ (fun F k _ c hi=>?_) (fun F _ hi=>?_) N 0 () (Nat.zero_le _) (by omega) (by simp)
  ·simp only [wu]
   rw [il (by omega),zu (qi c),zu (fun _=>qi c),uy]
   cases hp:zdv m.inputs (w.getD k default)
   ·right
    refine⟨(),by rw [zcz _ w k c,hi,hp];rfl,?_⟩
    rw [cf (show (decide (w.getD k default<0)||decide (m.inputs≤w.getD k default))=false from hp),zu (jh (by omega))];rfl
   ·left
    rw [ct (show (decide (w.getD k default<0)||decide (m.inputs≤w.getD k default))=true from hp),if_pos (List.any_eq_true.2 ⟨_,z1w c,hp⟩)]
  ·simp only [wu]
   rw [List.take_length] at hi
   rw [ni (by omega),if_neg (by rw [hi];decide)]
 rw [qg A]
 by_cases hw:WOk m.inputs w
 ·rw [if_neg (by rw [zoi.1 hw];decide),z9z,qg (zph d (by omega) hw z q)]
  cases h1:(z01 m w).2.2
  ·rw [ct (b:=(!false)||_) (by simp),zh3 (fun h=>by have:=h.is;rw [h1] at this;cases this)]
  ·by_cases h2:round=true∧(z01 m w).2.1≠0
   ·rw [ct (b:=(!true)||_) (by rw [h2.1,decide_eq_true h2.2];rfl),zh3 (fun h=>h2.2 (h.back h2.1))]
   ·have x:round=true→(z01 m w).2.1=0:=fun h=>Classical.byContradiction fun f=>h2 ⟨h,f⟩
    rw [cf (b:=(!true)||_) (by
     cases hrd:round
     ·rfl
     ·rw [decide_eq_false (fun h=>h (x hrd))];rfl),qg (zqu d (by omega))]
    obtain⟨_,l⟩:=zqc d hw h1
    have B:=zfz d
    have t: ∀ k,k<(qp m).length→ ∃ s i:Nat,s<m.rows.length∧i<m.inputs.toNat∧ed m s i≠ -1∧(qp m).getD k default=((s:Int),(i:Int)):=fun k c=>ut.1 (z1w c)
    have C: ∃ r,wm N (z01 m w) (qp m) N 0=some r∧((r=Ex.rt false∧ ¬zrg m (z01 m w).1)∨(r=Ex.go ()∧zrg m (z01 m w).1)):=by
     refine z2p (σ:=Unit) (fun F k _=>wm N (z01 m w) (qp m) F (k:Int)) (qp m).length (fun k _=> ∀ j,j<k→ ∀ s i:Nat,(qp m).getD j default=((s:Int),(i:Int))→lf (z01 m w).1 s i≠0) _ (fun F k _ c hi=>?_) (fun F _ hi=>?_) N 0 () (Nat.zero_le _) (by omega) (fun j p=>by omega)
     ·obtain⟨s,i,g,a,u,y⟩:=t k c
      have e0:ix (qp m) (k:Int)=((s:Int),(i:Int)):=y
      have D:ix (ix (z01 m w).1 (s:Int)) (i:Int)=lf (z01 m w).1 s i:=rfl
      simp only [wm]
      rw [il (by omega),zu (qi c),e0]
      dsimp only
      rw [zu (qi (by rw [l.len];exact g)),zu (qi c),zu (show okI (ix (z01 m w).1 (s:Int)) (i:Int) from qi (by rw [uy,l.row s g];exact a)),D]
      by_cases n:lf (z01 m w).1 s i=0
      ·left
       rw [il n]
       refine⟨_,rfl,.inl ⟨rfl,fun h=>h s i g a ?_ n⟩⟩
       rcases z9l d g a with h|h
       ·exact absurd h u
       ·exact h.1
      ·right
       refine⟨(),fun j p=>?_,?_⟩
       ·by_cases e:j=k
        ·subst e
         intro s' i' h'
         rw [y] at h'
         obtain⟨f,H⟩:=Prod.mk.inj h'
         obtain rfl:s=s':=by omega
         obtain rfl:i=i':=by omega
         exact n
        ·exact hi j (by omega)
       ·rw [ni n,zu (jh (by omega))];rfl
     ·simp only [wm]
      rw [ni (by omega)]
      refine⟨_,rfl,.inr ⟨rfl,fun s i g a n=>?_⟩⟩
      have hmem:((s:Int),(i:Int))∈qp m:=ut.2 ⟨s,i,g,a,by omega,rfl⟩
      obtain⟨j,p,v⟩:=List.mem_iff_getElem.1 hmem
      exact hi j p s i (by rw [List.getD_eq_getElem?_getD,List.getElem?_eq_getElem p,v];rfl)
    obtain⟨r,o,⟨rfl,f⟩|⟨rfl,f⟩⟩:=C
    ·rw [qg o,zll,zh3 (fun h=>f h.all)]
    ·rw [qg o,z9z,zm7 ⟨by omega,hw,h1,x,f⟩]
 ·rw [if_pos (by
   cases h:w.any (zdv m.inputs)
   ·exact absurd (zoi.2 h) hw
   ·rfl),zll,zh3 (fun h=>hw h.ok)]
end tk
end GV
end Go.Proofs.Ytdhccodneoebpaa
