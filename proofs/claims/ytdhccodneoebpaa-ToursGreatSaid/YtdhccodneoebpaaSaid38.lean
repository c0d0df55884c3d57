
import Derived.Test.YtdhccodneoebpaaSpec04b
import Derived.Test.YtdhccodneoebpaaShPlain
import Derived.Test.YtdhccodneoebpaaShOpens
set_option linter.unusedVariables false
set_option linter.unusedSimpArgs false
set_option linter.unusedSectionVars false
namespace Go.Proofs.Ytdhccodneoebpaa
namespace GV
set_option maxRecDepth 100000
theorem MOk.rowlen{m:Mach}(a:MOk m){s:Nat}(b:s<m.rows.length):(m.rows.getD s default).length=m.inputs.toNat:=by
 have:=a.row s b;omega
theorem MOk.inp{m:Mach}(a:MOk m):1≤m.inputs.toNat∧m.inputs.toNat≤16∧(m.inputs.toNat:Int)=m.inputs:=by
 have:=a.i1;have:=a.i2;omega
theorem zb3{b:Nat}{α β:Type}{X:List α}{y:β}(h:(X.length+1)*b≤140737488355328∧X.length≤1000000000):fits b X ([y]:List β):=⟨by simpa using h.1,by simp;omega⟩
section steps
variable {N : Nat} {m : Mach} {σ : Type} {s : Nat}
theorem zdz(d:MOk m)(q:200≤N)(e:s<m.rows.length)(B:Sb→σ→Option (Bool×σ))(P:Nat→σ→Prop)(Q:σ→Prop){s0:σ}(g:P 0 s0)
 (j: ∀ i z,i<m.inputs.toNat→0≤ed m s i→P i z→ ∃ b z',B ⟨(i:Int),ed m s i⟩ z=some (b,z')∧(b=true→P (i+1) z')∧(b=false→Q z'))
 (k: ∀ i z,i<m.inputs.toNat→ed m s i= -1→P i z→P (i+1) z): ∃ z,dw N m (s:Int) σ B s0=some z∧(P m.inputs.toNat z∨Q z):=by
 have l:=d.rowlen e
 have hi:=d.inp
 unfold dw
 rw [zh (qg e)]
 refine z0u (fun F i z=>sj N σ B m (s:Int) F z (i:Int)) m.inputs.toNat P _ (fun F i z a c=>?_) (fun F z c=>?_) N 0 s0 (Nat.zero_le _) (by omega) g
 ·have n:(ix (ix m.rows (s:Int)) (i:Int)).to=ed m s i:=rfl
  simp only [sj]
  rw [bu (show (i:Int)<((ix m.rows (s:Int)).length:Int) by rw [ug];omega),zh (show okI (ix m.rows (s:Int)) (i:Int) from qg (by rw [ug,l];exact a)),n]
  rcases z7h d e a with h|h
  ·right
   refine⟨z,k i z a h c,?_⟩
   rw [ym (show¬ed m s i≠ -1 by omega),z7l,zb5,zh (qo (by omega))];rfl
  ·obtain⟨b,z',f,o,p⟩:=j i z a h.1 c
   cases b
   ·left
    refine⟨z',?_,.inr (p rfl)⟩
    rw [bu (show ed m s i≠ -1 by omega)]
    refine Eq.trans (qf (x:=Ex.rt z') ?_) rfl
    exact Eq.trans (qf f) rfl
   ·right
    refine⟨z',o rfl,?_⟩
    rw [bu (show ed m s i≠ -1 by omega)]
    refine Eq.trans (qf (x:=Ex.go z') ?_) ?_
    ·exact Eq.trans (qf f) rfl
    ·rw [zb5,zh (qo (by omega))];rfl
 ·simp only [sj]
  rw [ym (show¬(m.inputs.toNat:Int)<((ix m.rows (s:Int)).length:Int) by rw [ug];omega)]
  exact⟨z,rfl,.inl c⟩
theorem z6r(c:MOk m)(d:200≤N)(e:s<m.rows.length)(B:Sb→σ→Option (Bool×σ))(P:Nat→σ→Prop){s0:σ}(f:P 0 s0)
 (g: ∀ i z,i<m.inputs.toNat→0≤ed m s i→P i z→ ∃ z',B ⟨(i:Int),ed m s i⟩ z=some (true,z')∧P (i+1) z')
 (j: ∀ i z,i<m.inputs.toNat→ed m s i= -1→P i z→P (i+1) z): ∃ z,dw N m (s:Int) σ B s0=some z∧P m.inputs.toNat z:=by
 obtain⟨z,h,k⟩:=zdz c d e B P (fun _=>False) f (fun i z hi l n=>let⟨z',a,b⟩:=g i z hi l n;⟨true,z',a,fun _=>b,fun h=>by cases h⟩) j
 exact⟨z,h,k.resolve_right id⟩
end steps
/-! ### Edges that are left-/
structure Shp (m:Mach) (L:List (List Int)):Prop where
 len:L.length=m.rows.length
 row: ∀ s,s<m.rows.length→(L.getD s default).length=m.inputs.toNat
def lf(L:List (List Int))(s i:Nat):Int:=(L.getD s default).getD i default
section rest
variable {N : Nat} {m : Mach} {σ : Type} {s : Nat} {L : List (List Int)} {k : Int}
theorem zgf(n:MOk m)(o:200≤N)(j:Shp m L)(f:s<m.rows.length)(B:Sb→σ→Option (Bool×σ))(P:Nat→σ→Prop)(Q:σ→Prop){s0:σ}(p:P 0 s0)
 (q: ∀ i z,i<m.inputs.toNat→0≤ed m s i→0<lf L s i→P i z→ ∃ b z',B ⟨(i:Int),ed m s i⟩ z=some (b,z')∧(b=true→P (i+1) z')∧(b=false→Q z'))
 (l: ∀ i z,i<m.inputs.toNat→(ed m s i= -1∨lf L s i≤0)→P i z→P (i+1) z): ∃ z,ol N ⟨m,L,k⟩ (s:Int) σ B s0=some z∧(P m.inputs.toNat z∨Q z):=by
 unfold ol
 simp only
 rw [show xz N m (s:Int)=some (m,(s:Int)) from rfl,z7l]
 simp only
 obtain⟨z,h,r⟩:=zdz (s:=s) (σ:=Ex σ σ) n o f (fun a z=>Ex.on z (fun e=>
  gd (okI L (s:Int))<|
  gd (okI (ix L (s:Int)) a.fA)<|
  bif decide (0<(ix (ix L (s:Int)) a.fA)) then(
  bd (B (⟨a.fA,a.fB⟩:Sb) e) fun c=>
  bif !c.1 then(
  some (false,Ex.rt c.2)) else(
  some (true,Ex.go c.2))) else(
  some (true,Ex.go e))) fun _=>none) (fun i z=> ∃ x,z=Ex.go x∧P i x) (fun z=> ∃ x,z=Ex.rt x∧Q x) (s0:=Ex.go s0) ⟨_,rfl,p⟩ (by
   rintro i _ hi g ⟨x,rfl,d⟩
   simp only [zb5]
   rw [zh (qg (by rw [j.len];exact f)),ug,zh (qg (by rw [j.row s f];exact hi)),ug,show (L.getD s default).getD i default=lf L s i from rfl]
   by_cases h:0<lf L s i
   ·obtain⟨b,z',t,u,v⟩:=q i x hi g h d
    rw [bu h,qf t]
    cases b
    ·exact⟨false,Ex.rt z',rfl,fun h=>(by cases h),fun _=>⟨z',rfl,v rfl⟩⟩
    ·exact⟨true,Ex.go z',rfl,fun _=>⟨z',rfl,u rfl⟩,fun h=>by cases h⟩
   ·rw [ym h]
    exact⟨true,Ex.go x,rfl,fun _=>⟨x,rfl,l i x hi (.inr (by omega)) d⟩,fun h=>by cases h⟩) (by
   rintro i _ hi g ⟨x,rfl,d⟩
   exact⟨x,rfl,l i x hi (.inl g) d⟩)
 rw [qf h]
 rcases r with⟨x,rfl,d⟩|⟨x,rfl,w⟩
 ·exact⟨x,rfl,.inl d⟩
 ·exact⟨x,rfl,.inr w⟩
theorem zik(c:MOk m)(d:200≤N)(e:Shp m L)(f:s<m.rows.length)(B:Sb→σ→Option (Bool×σ))(P:Nat→σ→Prop){s0:σ}(g:P 0 s0)
 (j: ∀ i z,i<m.inputs.toNat→0≤ed m s i→0<lf L s i→P i z→ ∃ z',B ⟨(i:Int),ed m s i⟩ z=some (true,z')∧P (i+1) z')
 (l: ∀ i z,i<m.inputs.toNat→(ed m s i= -1∨lf L s i≤0)→P i z→P (i+1) z): ∃ z,ol N ⟨m,L,k⟩ (s:Int) σ B s0=some z∧P m.inputs.toNat z:=by
 obtain⟨z,h,n⟩:=zgf (k:=k) c d e f B P (fun _=>False) g (fun i z hi o p q=>let⟨z',a,b⟩:=j i z hi o p q;⟨true,z',a,fun _=>b,fun h=>by cases h⟩) l
 exact⟨z,h,n.resolve_right id⟩
theorem zcr(q:MOk m)(r:200≤N)(l:Shp m L)(g:s<m.rows.length)(get:σ→Option (Int×Int×List (List Edge)×List (List Int)×Int))(B:Sb→σ→Option (Bool×σ))(P:Nat→σ→Prop)(Q:σ→Prop){s0:σ}(n:P 0 s0)
 (o: ∀ i z,P i z→get z=some (m.inputs,m.outputs,m.rows,L,k))
 (t: ∀ i z,i<m.inputs.toNat→0≤ed m s i→0<lf L s i→P i z→ ∃ b z',B ⟨(i:Int),ed m s i⟩ z=some (b,z')∧(b=true→P (i+1) z')∧(b=false→Q z'))
 (p: ∀ i z,i<m.inputs.toNat→(ed m s i= -1∨lf L s i≤0)→P i z→P (i+1) z): ∃ z,iy N (s:Int) σ get B s0=some z∧(P m.inputs.toNat z∨Q z):=by
 unfold iy
 rw [qf (o 0 s0 n)]
 simp only
 rw [show xz N ⟨m.inputs,m.outputs,m.rows⟩ (s:Int)=some (m,(s:Int)) from rfl,z7l]
 simp only
 obtain⟨z,h,u⟩:=zdz (s:=s) (σ:=Ex σ σ) q r g (fun c z=>Ex.on z (fun d=>
  bd (get d) fun e=>
  gd (okI e.2.2.2.1 (s:Int))<|
  gd (okI (ix e.2.2.2.1 (s:Int)) c.fA)<|
  bif decide (0<(ix (ix e.2.2.2.1 (s:Int)) c.fA)) then(
  bd (B (⟨c.fA,c.fB⟩:Sb) d) fun a=>
  bif !a.1 then(
  some (false,Ex.rt a.2)) else(
  some (true,Ex.go a.2))) else(
  some (true,Ex.go d))) fun _=>none) (fun i z=> ∃ x,z=Ex.go x∧P i x) (fun z=> ∃ x,z=Ex.rt x∧Q x) (s0:=Ex.go s0) ⟨_,rfl,n⟩ (by
   rintro i _ hi j ⟨x,rfl,f⟩
   simp only [zb5]
   rw [qf (o i x f)]
   simp only
   rw [zh (qg (by rw [l.len];exact g)),ug,zh (qg (by rw [l.row s g];exact hi)),ug,show (L.getD s default).getD i default=lf L s i from rfl]
   by_cases h:0<lf L s i
   ·obtain⟨b,z',v,w,y⟩:=t i x hi j h f
    rw [bu h,qf v]
    cases b
    ·exact⟨false,Ex.rt z',rfl,fun h=>(by cases h),fun _=>⟨z',rfl,y rfl⟩⟩
    ·exact⟨true,Ex.go z',rfl,fun _=>⟨z',rfl,w rfl⟩,fun h=>by cases h⟩
   ·rw [ym h]
    exact⟨true,Ex.go x,rfl,fun _=>⟨x,rfl,p i x hi (.inr (by omega)) f⟩,fun h=>by cases h⟩) (by
   rintro i _ hi j ⟨x,rfl,f⟩
   exact⟨x,rfl,p i x hi (.inl j) f⟩)
 rw [qf h]
 rcases u with⟨x,rfl,f⟩|⟨x,rfl,A⟩
 ·exact⟨x,rfl,.inl f⟩
 ·exact⟨x,rfl,.inr A⟩
end rest
end GV
end Go.Proofs.Ytdhccodneoebpaa

namespace Go.Proofs.Ytdhccodneoebpaa
namespace GV
set_option maxRecDepth 100000
theorem zst{α:Type}[Inhabited α](X:List α)(x:α):ix (X++[x]) ((↑(X++[x]).length:Int)-1)=x:=by
 rw [zct]
 have:((↑(X++[x]).length:Int)-1).toNat=X.length:=by rw [List.length_append];simp
 rw [this]
 simp [List.getD_eq_getElem?_getD]
theorem zim{α:Type}(X:List α)(x:α):cut (X++[x]) 0 ((↑(X++[x]).length:Int)-1)=X:=by
 unfold cut
 have:((↑(X++[x]).length:Int)-1).toNat=X.length:=by rw [List.length_append];simp
 rw [this]
 simp
theorem zp6{α:Type}(X:List α)(x:α):okI (X++[x]) ((↑(X++[x]).length:Int)-1):=by
 have h:(X++[x]).length=X.length+1:=by simp
 exact⟨by omega,by omega⟩
theorem zn9{α:Type}(X:List α)(x:α):okS (X++[x]) 0 ((↑(X++[x]).length:Int)-1):=by
 have h:(X++[x]).length=X.length+1:=by simp
 exact⟨by omega,by omega,by omega⟩
structure DInv (m:Mach) (a:Nat) (Y:List Bool) (S:List Int):Prop where
 len:Y.length=m.rows.length
 sound: ∀ t,Y.getD t default=true→Reach m a t
 start:Y.getD a default=true
 stk: ∀ x∈S,∃ t:Nat,x=(t:Int)∧t<m.rows.length∧Y.getD t default=true
 closed: ∀ t,t<m.rows.length→Y.getD t default=true→(t:Int)∉S→Closed m Y t
structure DRow (m:Mach) (a s:Nat) (c:Nat) (i:Nat) (Y:List Bool) (S:List Int):Prop where
 len:Y.length=m.rows.length
 sound: ∀ t,Y.getD t default=true→Reach m a t
 start:Y.getD a default=true
 here:Y.getD s default=true
 stk: ∀ x∈S,∃ t:Nat,x=(t:Int)∧t<m.rows.length∧Y.getD t default=true
 closed: ∀ t,t<m.rows.length→Y.getD t default=true→(t:Int)∉S→t=s∨Closed m Y t
 dn: ∀ j,j<i→0≤ed m s j→Y.getD (ed m s j).toNat default=true
 cnt:Y.count false+S.length=c
section dfs
variable {m : Mach} {a s c i : Nat} {Y : List Bool} {S : List Int}
theorem DRow.skip(h:DRow m a s c i Y S)(d:ed m s i= -1):DRow m a s c (i+1) Y S:=by
 refine⟨h.len,h.sound,h.start,h.here,h.stk,h.closed,fun j f b=>?_,h.cnt⟩
 by_cases e:j=i
 ·subst e;omega
 ·exact h.dn j (by omega) b
theorem DRow.old(h:DRow m a s c i Y S)(b:Y.getD (ed m s i).toNat default=true):DRow m a s c (i+1) Y S:=by
 refine⟨h.len,h.sound,h.start,h.here,h.stk,h.closed,fun j f d=>?_,h.cnt⟩
 by_cases e:j=i
 ·subst e;exact b
 ·exact h.dn j (by omega) d
theorem DRow.mark(q:MOk m)(k:s<m.rows.length)(hi:i<m.inputs.toNat)(h:DRow m a s c i Y S)(l:0≤ed m s i)(w:Y.getD (ed m s i).toNat default=false):
 DRow m a s c (i+1) (Y.set (ed m s i).toNat true) (S++[ed m s i]):=by
 have f:(ed m s i).toNat<Y.length:=by rw [h.len];rcases z7h q k hi with h|h<;>omega
 have g:=fun t=>z4u (t:=t) f
 have hmono: ∀ t,Y.getD t default=true→(Y.set (ed m s i).toNat true).getD t default=true:=fun t b=>by rw [g];split;rfl;exact b
 have n: ∀ t,Closed m Y t→Closed m (Y.set (ed m s i).toNat true) t:=fun t b j r l=>hmono _ (b j r l)
 refine⟨by simp [h.len],fun t b=>?_,hmono _ h.start,hmono _ h.here,fun x d=>?_,fun t b u v=>?_,fun j r o=>?_,?_⟩
 ·rw [g] at b
  by_cases e:t=(ed m s i).toNat
  ·subst e;exact .step (h.sound s h.here) k (by rw [q.rowlen k];exact hi) l
  ·rw [if_neg e] at b;exact h.sound t b
 ·rcases List.mem_append.1 d with d|d
  ·obtain⟨t,e,o,y⟩:=h.stk x d
   exact⟨t,e,o,hmono t y⟩
  ·rw [List.mem_singleton] at d
   subst d
   exact⟨(ed m s i).toNat,by omega,by rw [←h.len];exact f,by rw [g,if_pos rfl]⟩
 ·have p:t≠(ed m s i).toNat:=fun e=>v (List.mem_append.2 (.inr (by rw [List.mem_singleton];omega)))
  rw [g,if_neg p] at u
  exact(h.closed t b u fun d=>v (List.mem_append.2 (.inl d))).imp id (n t)
 ·by_cases e:j=i
  ·subst e;rw [g,if_pos rfl]
  ·exact hmono _ (h.dn j (by omega) o)
 ·have:=z98 f w
  have:=h.cnt
  rw [List.length_append,List.length_singleton];omega
theorem DInv.pop{x:Int}(h:DInv m a Y (S++[x])): ∃ s:Nat,x=(s:Int)∧s<m.rows.length∧DRow m a s (Y.count false+S.length) 0 Y S:=by
 obtain⟨s,e,c,d⟩:=h.stk x (by simp)
 refine⟨s,e,c,h.len,h.sound,h.start,d,fun z f=>h.stk z (by simp [f]),fun t g hy' i=>?_,fun j k=>by omega,rfl⟩
 by_cases e':t=s
 ·exact .inl e'
 ·refine .inr (h.closed t g hy' fun b=>?_)
  rcases List.mem_append.1 b with b|b
  ·exact i b
  ·rw [List.mem_singleton,e] at b;omega
theorem DRow.fin(d:MOk m)(e:s<m.rows.length)(h:DRow m a s c m.inputs.toNat Y S):DInv m a Y S:=by
 refine⟨h.len,h.sound,h.start,h.stk,fun t f g i=>?_⟩
 rcases h.closed t f g i with rfl|k
 ·intro j b l
  rw [d.rowlen e] at b
  exact h.dn j b l
 ·exact k
theorem DInv.fin(g:a<m.rows.length)(h:DInv m a Y []):Y=reachL m a:=by
 have key: ∀ t,Reach m a t→Y.getD t default=true:=by
  intro t b
  induction b with
  |refl=>exact h.start
  |step i c d e ih=>exact h.closed _ c ih (by simp) _ d e
 refine z5c (by rw [h.len,z3m]) fun k f=>?_
 rw [Bool.eq_iff_iff,lw (by rw [←h.len];exact f)]
 exact⟨h.sound k,key k⟩
theorem DInv.zero(g:a<m.rows.length):DInv m a ((List.replicate m.rows.length false).set a true) [(a:Int)]:=by
 have h:a<(List.replicate m.rows.length false).length:=by simpa using g
 have b: ∀ t,(List.replicate m.rows.length false).getD t default=false:=fun t=>by
  simp only [List.getD_eq_getElem?_getD,List.getElem?_replicate];split<;>rfl
 have c:=fun t=>z4u (t:=t) h
 refine⟨by simp,fun t d=>?_,by rw [c,if_pos rfl],fun x b=>?_,fun t d f i=>?_⟩
 ·rw [c,b] at d
  by_cases e:t=a
  ·subst e;exact .refl
  ·rw [if_neg e] at d;cases d
 ·rw [List.mem_singleton] at b;exact⟨a,b,g,by rw [c,if_pos rfl]⟩
 ·exfalso
  rw [c,b] at f
  by_cases e:t=a
  ·subst e;exact i (by simp)
  ·rw [if_neg e] at f;cases f
theorem DInv.zcnt(b:a<m.rows.length):((List.replicate m.rows.length false).set a true).count false+1=m.rows.length:=by
 have:=z98 (X:=List.replicate m.rows.length false) (s:=a) (by simpa using b) (by
  simp only [List.getD_eq_getElem?_getD,List.getElem?_replicate];split<;>rfl)
 rw [this,List.count_replicate_self]
theorem zog(d:MOk m)(e:s<m.rows.length)(hi:i<m.inputs.toNat)(k:c≤100)(h:DRow m a s c i Y S)(f:0≤ed m s i):
 ∃ Z,(gd (okI Y (ed m s i))<|
 bif !(ix Y (ed m s i)) then(
 gd (okI Y (ed m s i))<|
 gd (fits 8 S ([ed m s i]:List Int))<|
 some (true,((up Y (ed m s i) true),(S++([ed m s i]:List Int))))) else(
 some (true,(Y,S))))=some (true,Z)∧DRow m a s c (i+1) Z.1 Z.2:=by
 have g:(ed m s i).toNat<Y.length:=by rw [h.len];rcases z7h d e hi with h|h<;>omega
 have b:okI Y (ed m s i):=⟨f,by omega⟩
 have j:=h.cnt
 rw [zh b]
 cases he:Y.getD (ed m s i).toNat default
 ·refine⟨(Y.set (ed m s i).toNat true,S++[ed m s i]),?_,h.mark d e hi f he⟩
  rw [ct (by rw [zct,he];rfl),zh b,zh (zb3 (by omega))];rfl
 ·refine⟨(Y,S),?_,h.old he⟩
  rw [cf (by rw [zct,he];rfl)]
end dfs
theorem zje{N:Nat}{m:Mach}(e:MOk m)(j:200≤N){a:Nat}(k:a<m.rows.length): ∀ (F:Nat) (Y:List Bool) (S:List Int),DInv m a Y S→Y.count false+S.length<F→Y.count false+S.length≤100→
 z0l N m F Y S=some (reachL m a)
 |0,_,_,_,h,_=>by omega
 |F+1,Y,S,l,q,r=>by
  have t:=e.r2
  rcases List.eq_nil_or_concat S with rfl|⟨f,x,rfl⟩
  ·simp only [z0l]
   rw [ym (by simp),l.fin k]
  ·rw [List.concat_eq_append] at*
   obtain⟨s,rfl,g,hrow⟩:=l.pop
   have hlen:(f++[(s:Int)]).length=f.length+1:=by simp
   simp only [z0l]
   rw [bu (by omega),zh (qo (by omega)),zh (zp6 _ _),zh (qo (by omega)),zh (zn9 _ _),zst,zim]
   rw [show xz N m (s:Int)=some (m,(s:Int)) from rfl,z7l]
   obtain⟨z,n,d⟩:=z6r (s:=s) e j g (σ:=List Bool×List Int) (fun c b=>
    gd (okI b.1 c.fB)<|
    bif !(ix b.1 c.fB) then(
    gd (okI b.1 c.fB)<|
    gd (fits 8 b.2 ([c.fB]:List Int))<|
    some (true,((up b.1 c.fB true),(b.2++([c.fB]:List Int))))) else(
    some (true,(b.1,b.2)))) (fun i z=>DRow m a s (Y.count false+f.length) i z.1 z.2) (s0:=(Y,f)) hrow
    (fun i z hi o d=>zog e g hi (by omega) d o) (fun i z hi p d=>d.skip p)
   rw [qf n]
   have:=d.cnt
   exact zje e j k F z.1 z.2 (d.fin e g) (by omega) (by omega)
theorem zq3{N:Nat}{m:Mach}(c:MOk m)(d:200≤N){a:Nat}(b:a<m.rows.length):z7k N m (a:Int)=some (reachL m a):=by
 have e:=c.r2
 unfold z7k
 rw [zh ⟨by omega,by omega,by omega⟩,l8,zh (qg (by simpa using b)),mq]
 refine Eq.trans (qf (x:=reachL m a) ?_) rfl
 have f:=DInv.zcnt (m:=m) b
 exact zje c d b N _ _ (DInv.zero b) (by simp only [List.length_singleton];omega) (by simp only [List.length_singleton];omega)
theorem zp2{N:Nat}{m:Mach}(d:MOk m)(A:200≤N){a t:Nat}(n:a<m.rows.length)(u:t<m.rows.length):fq N m (a:Int) (t:Int) (m.rows.length:Int)=some ((reachL m a).getD t default):=by
 have B:=d.r2;have v:=d.i1;have w:=d.i2
 unfold fq
 by_cases e:a=t
 ·subst e
  rw [bu rfl,(lw n).2 .refl]
 rw [ym (by omega),zh ⟨by omega,by omega,by omega⟩,l8,zh (qg (by simpa using n)),mq]
 refine Eq.trans (qf (x:=reachL m a) ?_) (by rw [zh (qg (by rw [z3m];exact u))];rfl)
 refine bz (fun F r Y=>bf N m (m.rows.length:Int) F (r:Int) Y) m.rows.length (fun r Y=>RInv m a r Y) _ (fun F r Y C hi=> .inr ?_) (fun F Y hi=>?_) N 0 _ (Nat.zero_le _) (by omega) (zus n)
 ·obtain⟨Z,y,z⟩: ∃ Z,yx N m N 0 Y=some Z∧RInv m a (r+1) Z:=by
   refine z0u (fun F s Z=>yx N m F (s:Int) Z) m.rows.length (fun s Z=>RPass m a Y s 0 Z) _ (fun F s Z g j=> .inr ?_) (fun F Z j=>?_) N 0 Y (Nat.zero_le _) (by omega) (zyt hi)
   ·have hlen:((m.rows.getD s default).length:Int)=m.inputs:=d.row s g
    obtain⟨V,o,p⟩: ∃ V,uz N m (s:Int) N 0 Z=some V∧RPass m a Y (s+1) 0 V:=by
     by_cases hzs:Z.getD s default=true
     ·obtain⟨V,o,p,_⟩: ∃ V,uz N m (s:Int) N 0 Z=some V∧RPass m a Y (s+1) 0 V∧V.getD s default=true:=by
       refine z0u (fun F i V=>uz N m (s:Int) F (i:Int) V) m.inputs.toNat (fun i V=>RPass m a Y s i V∧V.getD s default=true) (fun V=>RPass m a Y (s+1) 0 V∧V.getD s default=true) (fun F i V hi' b=> .inr ?_) (fun F V b=>?_) N 0 Z (Nat.zero_le _) (by omega) ⟨j,hzs⟩
       ·obtain⟨b,c⟩:=b
        have k:i<(m.rows.getD s default).length:=by omega
        have f:s<V.length:=by rw [b.len];exact g
        simp only [uz]
        rw [zh (fun _=>qg f),ct (by rw [decide_eq_true (show (i:Int)<m.inputs by omega),ug,c];rfl),zh (qg g),zh (show okI (ix m.rows (s:Int)) (i:Int) from qg k)]
        rcases z7h d g hi' with h|h
        ·refine⟨V,⟨zrh b (fun l=>by have:=l.2;unfold ed at h;omega),c⟩,?_⟩
         refine Eq.trans (qf (x:=V) (ym (fun l=>l h))) ?_
         rw [zh (qo (by omega))];rfl
        ·have q:((m.rows.getD s default).getD i default).to.toNat<V.length:=by rw [b.len];unfold ed at h;omega
         refine⟨_,⟨q0q d b g k c h.1,by rw [z4u q];split;rfl;exact c⟩,?_⟩
         refine Eq.trans (qf (x:=V.set ((m.rows.getD s default).getD i default).to.toNat true) ?_) ?_
         ·refine Eq.trans (bu (show ed m s i≠ -1 by omega)) ?_
          exact zh (show okI V ((m.rows.getD s default).getD i default).to from⟨h.1,by unfold ed at h;omega⟩)
         ·rw [zh (qo (by omega))];rfl
       ·simp only [uz]
        rw [zh (fun h=>by rw [decide_eq_false (show¬(m.inputs.toNat:Int)<m.inputs by omega)] at h;cases h),cf (by rw [decide_eq_false (show¬(m.inputs.toNat:Int)<m.inputs by omega)];rfl)]
        exact⟨V,rfl,zvv b.1 (by omega),b.2⟩
      exact⟨V,o,p⟩
     ·refine⟨Z,?_,?_⟩
      ·obtain⟨F,rfl⟩: ∃ F,N=F+1:=⟨N-1,by omega⟩
       have f:s<Z.length:=by rw [j.len];exact g
       simp only [uz]
       rw [zh (fun _=>qg f),cf (by rw [ug,Bool.eq_false_iff.2 hzs];simp)]
      ·have: ∀ i,i≤m.inputs.toNat→RPass m a Y s i Z:=by
        intro i
        induction i with
        |zero=>intro _;exact j
        |succ i ih=>intro h;exact zrh (ih (by omega)) (fun l=>hzs l.1)
       exact zvv (this m.inputs.toNat (Nat.le_refl _)) (by omega)
    refine⟨V,p,?_⟩
    simp only [yx]
    rw [bu (by omega),qf o,zh (qo (by omega))];rfl
   ·simp only [yx]
    rw [ym (by omega)]
    exact⟨Z,rfl,q1q j (Nat.le_refl _) hi⟩
  refine⟨Z,z,?_⟩
  simp only [bf]
  rw [bu (by omega),qf y,zh (qo (by omega))];rfl
 ·simp only [bf]
  rw [ym (by omega),zuw d n hi (Nat.le_refl _)]
end GV
end Go.Proofs.Ytdhccodneoebpaa

namespace Go.Proofs.Ytdhccodneoebpaa
namespace GV
set_option maxRecDepth 100000
structure CM38 (m:Mach):Prop where
 ok:MOk m
 conn: ∀ t,t<m.rows.length→Reach m 0 t
theorem zfz{m:Mach}(c:MOk m){s0:Nat}{P:List BE}(a:Rch m s0 P): ∀ n j,j≤n→j<P.length→Reach m s0 (P.getD j default).st
 |0,j,g,d=>by
  obtain rfl:j=0:=by omega
  rw [a.root];exact .refl
 |n+1,j,g,d=>by
  by_cases h0:j=0
  ·exact zfz c a n j (by omega) d
  ·obtain⟨q,i,k,hi,_,_,_,b⟩:=a.par j (by omega) d
   have h:=zfz c a n q (by omega) (by omega)
   have f:=a.rng q (by omega)
   have:=Reach.step (i:=i) h f (by rw [c.rowlen f];exact hi) (by show 0≤ed m _ i;rw [b];omega)
   have e:((m.rows.getD (P.getD q default).st default).getD i default).to.toNat=(P.getD j default).st:=by
    show (ed m (P.getD q default).st i).toNat=_
    rw [b];omega
   rwa [e] at this
theorem zwo{m:Mach}(f:MOk m):CM38 (zgw m)∧(zgw m).rows.length≤m.rows.length∧(zgw m).inputs=m.inputs:=by
 have c:=zwh f
 have g:=ze4 c
 have a:=zyq f
 refine⟨⟨a,fun t d=>?_⟩,?_,rfl⟩
 ·have i:(zgw m).rows.length=(z9b (rch m 0)).length:=zfw
  rw [i] at d
  have h:rch (zgw m) 0=(rch m 0).map (ren (z9b (rch m 0))):=by
   have:=zyl f g (znd c).1
   rw [(znd c).2] at this
   exact this
  have b:t<(rch m 0).length:=by rw [zfk] at d;exact d
  have:=zfz a (zwh a) t t (Nat.le_refl _) (by rw [h,List.length_map];exact b)
  have e:((rch (zgw m) 0).getD t default).st=t:=by
   rw [h]
   have:((rch m 0).map (ren (z9b (rch m 0)))).getD t default=ren (z9b (rch m 0)) ((rch m 0).getD t default):=by simp [List.getD_eq_getElem?_getD,b]
   rw [this]
   show (z9b (rch m 0)).idxOf ((rch m 0).getD t default).st=t
   rw [←znr _ b]
   exact zhk g.nd d
  rwa [e] at this
 ·have:(zgw m).rows.length=(z9b (rch m 0)).length:=zfw
  rw [this,zfk]
  exact c.le
theorem CM38.connB{m:Mach}(h:CM38 m):connB m=true:=zyk fun j a=>(lw a).2 (h.conn j a)
noncomputable def check38(m:Mach):Int:=if z4a m≠0 then z4a m else if connB m=true then 0 else 11
theorem zq7{N:Nat}{m:Mach}(b:Small m)(c:200≤N):z0c N m=some (check38 m):=by
 unfold z0c check38
 rw [qf (zm6 b c)]
 by_cases h:z4a m=0
 ·rw [if_neg (fun a=>a h),if_neg (fun a=>a h)]
  cases hc:GV.connB m
  ·rw [ct (by rw [h];rfl)];rfl
  ·rw [cf (by simp)];rw [h];rfl
 ·rw [if_pos h,if_pos h,cf (by rw [decide_eq_false h];rfl)]
theorem CM38.check0{N:Nat}{m:Mach}(h:CM38 m)(a:200≤N):z0c N m=some 0:=by
 rw [zq7 h.ok.small a]
 unfold check38
 rw [if_neg (fun b=>b ((zed m).2 h.ok)),if_pos h.connB]
/-! ### Knots-/
noncomputable def muB(m:Mach)(s t:Nat):Bool:=(reachL m s).getD t default&&(reachL m t).getD s default
noncomputable def fst38(m:Mach)(s:Nat):Nat:=((List.range m.rows.length).find? fun t=>muB m s t).getD 0
section knots
variable {N : Nat} {m : Mach} {s t u : Nat}
theorem zg3(a:s<m.rows.length)(b:t<m.rows.length):muB m s t=true↔Reach m s t∧Reach m t s:=by
 unfold muB
 rw [Bool.and_eq_true,lw b,lw a]
theorem zrq(a:s<m.rows.length):muB m s s=true:=(zg3 a a).2 ⟨.refl,.refl⟩
theorem zm9:muB m s t=muB m t s:=by unfold muB;rw [Bool.and_comm]
theorem zjw(a:s<m.rows.length)(b:t<m.rows.length)(c:u<m.rows.length)(h:muB m s t=true)(k:muB m t u=true):muB m s u=true:=by
 rw [zg3 a b] at h
 rw [zg3 b c] at k
 exact(zg3 a c).2 ⟨h.1.trans k.1,k.2.trans h.2⟩
theorem z7q(a:s<m.rows.length):fst38 m s≤s∧muB m s (fst38 m s)=true∧ ∀ u,u<fst38 m s→muB m s u=false:=by
 unfold fst38
 cases h:(List.range m.rows.length).find? fun t=>muB m s t with
 |none=>
  rw [List.find?_eq_none] at h
  exact absurd (zrq a) (h s (List.mem_range.2 a))
 |some f=>
  rw [List.find?_range_eq_some] at h
  obtain⟨c,e,b⟩:=h
  refine⟨?_,c,fun u d=>by simpa using b u d⟩
  rcases Nat.lt_or_ge s f with h|h
  ·have:=b s h
   rw [zrq a] at this;cases this
  ·exact h
theorem z9z(a:s<m.rows.length):fst38 m s<m.rows.length:=by have:=(z7q a).1;omega
theorem zmd(a:s<m.rows.length)(b:t<m.rows.length):fst38 m s=fst38 m t↔muB m s t=true:=by
 obtain⟨o,i,l⟩:=z7q a
 obtain⟨p,f,n⟩:=z7q b
 have d:=z9z a
 have g:=z9z b
 constructor
 ·intro e
  rw [←e] at f
  exact zjw a d b i (by rw [zm9];exact f)
 ·intro h
  have j:muB m s (fst38 m t)=true:=zjw a b g h f
  have k:muB m t (fst38 m s)=true:=zjw b a d (by rw [zm9];exact h) i
  rcases Nat.lt_trichotomy (fst38 m s) (fst38 m t) with c|c|c
  ·rw [n _ c] at k;cases k
  ·exact c
  ·rw [l _ c] at j;cases j
theorem zva(a:s<m.rows.length):fst38 m s=s↔ ∀ t,t<m.rows.length→muB m s t=true→s≤t:=by
 obtain⟨f,b,d⟩:=z7q a
 constructor
 ·intro e t g h
  rcases Nat.lt_or_ge t s with c|c
  ·rw [d t (by omega)] at h;cases h
  ·exact c
 ·intro h
  have:=h _ (z9z a) b
  omega
noncomputable def fstL(m:Mach):List Int:=(List.range m.rows.length).map fun s=>(fst38 m s:Int)
theorem zia:(fstL m).length=m.rows.length:=by simp [fstL]
theorem zoz(a:s<m.rows.length):(fstL m).getD s default=(fst38 m s:Int):=by simp [fstL,List.getD_eq_getElem?_getD,a]
theorem zx8(a:MOk m)(c:200≤N):ry N m N 0 (List.replicate m.rows.length [])=some ((List.range m.rows.length).map (reachL m)):=by
 have d:=a.r2
 refine bz (fun F k X=>ry N m F (k:Int) X) m.rows.length (fun k X=>X=(List.range k).map (reachL m)++List.replicate (m.rows.length-k) []) _ (fun F k X b hi=> .inr ?_) (fun F X hi=>?_) N 0 _ (Nat.zero_le _) (by omega) (by simp)
 ·subst hi
  refine⟨_,rfl,?_⟩
  simp only [ry]
  rw [bu (by rw [l8,List.length_replicate];omega),qf (zq3 a c b),zh (qg (by simp;omega)),zh (qo (by omega)),mq,z9g (by simp) b]
  rw [List.range_succ,List.map_append];rfl
 ·subst hi
  simp only [ry]
  rw [ym (by rw [l8,List.length_replicate];omega)]
  simp
theorem zx1(g:MOk m)(p:200≤N)(a:s<m.rows.length){X:List Int}(b:X.length=m.rows.length):rz N ((List.range m.rows.length).map (reachL m)) (s:Int) N (X.set s 0)=some (X.set s (fst38 m s:Int)):=by
 obtain⟨q,h,i⟩:=z7q a
 have r:=g.r2
 have hall: ∀ k,k<m.rows.length→((List.range m.rows.length).map (reachL m)).getD k default=reachL m k:=fun k j=>by simp [List.getD_eq_getElem?_getD,j]
 have d:((List.range m.rows.length).map (reachL m)).length=m.rows.length:=by simp
 have f: ∀ c:Nat,(X.set s (c:Int)).getD s default=(c:Int):=fun c=>by simp [List.getD_eq_getElem?_getD,b,a]
 have hcond: ∀ c,c<m.rows.length→ ∀ {α:Type} (x y:Option α) (F:Nat),
  (gd (okI ((List.range m.rows.length).map (reachL m)) (s:Int))<|gd (okI (X.set s (c:Int)) (s:Int))<|gd (okI (ix ((List.range m.rows.length).map (reachL m)) (s:Int)) (ix (X.set s (c:Int)) (s:Int)))<|
   gd ((true&&((!(ix (ix ((List.range m.rows.length).map (reachL m)) (s:Int)) (ix (X.set s (c:Int)) (s:Int))))==false))=true→okI (X.set s (c:Int)) (s:Int))<|
   gd ((true&&((!(ix (ix ((List.range m.rows.length).map (reachL m)) (s:Int)) (ix (X.set s (c:Int)) (s:Int))))==false))=true→okI ((List.range m.rows.length).map (reachL m)) (ix (X.set s (c:Int)) (s:Int)))<|
   gd ((true&&((!(ix (ix ((List.range m.rows.length).map (reachL m)) (s:Int)) (ix (X.set s (c:Int)) (s:Int))))==false))=true→okI (ix ((List.range m.rows.length).map (reachL m)) (ix (X.set s (c:Int)) (s:Int))) (s:Int))<|
   bif (!(ix (ix ((List.range m.rows.length).map (reachL m)) (s:Int)) (ix (X.set s (c:Int)) (s:Int))))||(!(ix (ix ((List.range m.rows.length).map (reachL m)) (ix (X.set s (c:Int)) (s:Int))) (s:Int))) then x else y)=bif muB m s c then y else x:=by
  intro c e α x y F
  have l:ix (X.set s (c:Int)) (s:Int)=(c:Int):=f c
  have n:ix ((List.range m.rows.length).map (reachL m)) (s:Int)=reachL m s:=hall s a
  have o:ix ((List.range m.rows.length).map (reachL m)) (c:Int)=reachL m c:=hall c e
  rw [l,n,o,zh (qg (by rw [d];exact a)),zh (qg (by simp [b,a])),zh (qg (by rw [z3m];exact e)),zh (fun _=>qg (by simp [b,a])),zh (fun _=>qg (by rw [d];exact e)),zh (fun _=>qg (by rw [z3m];exact a))]
  unfold muB
  rw [ug,ug]
  cases (reachL m s).getD c default<;>cases (reachL m c).getD s default<;>rfl
 refine bz (σ:=Unit) (fun F c _=>rz N ((List.range m.rows.length).map (reachL m)) (s:Int) F (X.set s (c:Int))) (fst38 m s) (fun _ _=>True) _ (fun F c _ e _=> .inr ⟨(),trivial,?_⟩) (fun F _ _=>?_) N 0 () (Nat.zero_le _) (by omega) trivial
 ·simp only [rz]
  rw [hcond c (by omega) _ _ F,cf (i c e),zh (qg (by simp [b,a])),show ix (X.set s (c:Int)) (s:Int)=(c:Int) from f c,zh (qo (by omega)),zh (qg (by simp [b,a])),mq,List.set_set];rfl
 ·simp only [rz]
  rw [hcond (fst38 m s) (by omega) _ _ F,ct h]
theorem zw4(a:MOk m)(b:200≤N):z5s N m=some (fstL m):=by
 have g:=a.r2
 unfold z5s
 rw [zh ⟨by omega,by omega,by omega⟩,l8,qf (zx8 a b),zh ⟨by omega,by omega,by omega⟩,l8]
 refine Eq.trans (qf (x:=fstL m) ?_) rfl
 refine bz (fun F k X=>z0e N m ((List.range m.rows.length).map (reachL m)) F (k:Int) X) m.rows.length (fun k X=>X=((List.range k).map fun s=>(fst38 m s:Int))++List.replicate (m.rows.length-k) 0) _ (fun F k X c hi=> .inr ?_) (fun F X hi=>?_) N 0 _ (Nat.zero_le _) (by omega) (by simp)
 ·subst hi
  refine⟨_,rfl,?_⟩
  simp only [z0e]
  have f:((((List.range k).map fun s=>(fst38 m s:Int))++List.replicate (m.rows.length-k) 0).set k 0)=((List.range k).map fun s=>(fst38 m s:Int))++List.replicate (m.rows.length-k) 0:=by
   refine z5c (by simp) fun j h=>?_
   rw [wm (by simp;omega)]
   by_cases e:j=k
   ·subst e
    rw [if_pos rfl]
    simp [List.getD_eq_getElem?_getD,show 0<m.rows.length-j by omega]
   ·rw [if_neg e]
  have d:=zx1 (X:=((List.range k).map fun s=>(fst38 m s:Int))++List.replicate (m.rows.length-k) 0) a b c (by simp;omega)
  rw [f] at d
  rw [bu (by rw [l8,List.length_replicate];omega),qf d,zh (qo (by omega)),z9g (by simp) c]
  rw [List.range_succ,List.map_append];rfl
 ·subst hi
  simp only [z0e]
  rw [ym (by rw [l8,List.length_replicate];omega)]
  simp [fstL]
noncomputable def knot(m:Mach)(s:Nat):List Int:=((List.range m.rows.length).filter fun t=>muB m s t).map fun t=>((t:Nat):Int)
noncomputable def knotsL(m:Mach):List (List Int):=((List.range m.rows.length).filter fun s=>decide (fst38 m s=s)).map (knot m)
theorem z8m{α:Type}(p:Nat→Bool)(f:Nat→α)(k:Nat):((List.range (k+1)).filter p).map f=((List.range k).filter p).map f++if p k=true then [f k] else []:=by
 rw [List.range_succ,List.filter_append,List.map_append]
 congr 1
 cases h:p k<;>simp [List.filter_cons,h]
theorem zhf(p:Nat→Bool){α:Type}(f:Nat→α)(k:Nat):(((List.range k).filter p).map f).length≤k:=by
 rw [List.length_map];exact Nat.le_trans (List.length_filter_le _ _) (by simp)
theorem zzq{N:Nat}{X:List Int}:z1p N X=some X:=by
 unfold z1p;rw [zh (zy8 X),zyo]
theorem zu6(d:MOk m)(i:200≤N):z0r N m=some (knotsL m):=by
 have o:=d.r2
 unfold z0r
 refine Eq.trans (qf (x:=knotsL m) ?_) rfl
 refine bz (fun F k X=>gz N m F X (k:Int)) m.rows.length (fun k X=>X=((List.range k).filter fun s=>decide (fst38 m s=s)).map (knot m)) _ (fun F k X f hi=> .inr ?_) (fun F X hi=>?_) N 0 _ (Nat.zero_le _) (by omega) rfl
 ·subst hi
  refine⟨_,rfl,?_⟩
  simp only [gz]
  rw [bu (by omega)]
  have a:yn N m (k:Int) N true [] 0=some (decide (fst38 m k=k),knot m k):=by
   refine bz (fun F t (X:Bool×List Int)=>yn N m (k:Int) F X.1 X.2 (t:Int)) m.rows.length (fun t X=>X.2=(((List.range t).filter fun t=>muB m k t).map fun t=>((t:Nat):Int))∧(X.1=true↔ ∀ u,u<t→muB m k u=true→k≤u)) _ (fun F t X j hi=> .inr ?_) (fun F X hi=>?_) N 0 (true,[]) (Nat.zero_le _) (by omega) ⟨rfl,by simp⟩
   ·obtain⟨b,l⟩:=X
    obtain⟨c,a⟩:=hi
    dsimp only at c a
    subst c
    have hlen:=zhf (fun t=>muB m k t) (fun t=>((t:Nat):Int)) t
    simp only [yn]
    rw [bu (by omega),qf (zp2 d i f j),z7z (fun _=>zp2 d i j f)]
    cases hmu:muB m k t
    ·refine⟨(b,((List.range (t+1)).filter fun t=>muB m k t).map fun t=>((t:Nat):Int)),⟨rfl,?_⟩,?_⟩
     ·rw [a]
      refine⟨fun h u g hmu'=>?_,fun h u g hmu'=>h u (by omega) hmu'⟩
      by_cases e:u=t
      ·subst e;rw [hmu] at hmu';cases hmu'
      ·exact h u (by omega) hmu'
     ·rw [z8m,if_neg (by rw [hmu];simp),List.append_nil]
      refine Eq.trans (qf (x:=(b,((List.range t).filter fun t=>muB m k t).map fun t=>((t:Nat):Int))) (cf ?_)) ?_
      ·unfold muB at hmu
       cases e1:(reachL m k).getD t default
       ·rfl
       ·rw [e1] at hmu
        simpa using hmu
      ·rw [zh (qo (by omega))];rfl
    ·refine⟨(b&&decide ((k:Int)≤(t:Int)),((List.range (t+1)).filter fun t=>muB m k t).map fun t=>((t:Nat):Int)),⟨rfl,?_⟩,?_⟩
     ·rw [Bool.and_eq_true,a,decide_eq_true_iff]
      refine⟨fun⟨h,n⟩ u g hmu'=>?_,fun h=>⟨fun u g hmu'=>h u (by omega) hmu',by have:=h t (by omega) hmu;omega⟩⟩
      by_cases e:u=t
      ·subst e;omega
      ·exact h u (by omega) hmu'
     ·rw [z8m,if_pos hmu]
      refine Eq.trans (qf (x:=(b&&decide ((k:Int)≤(t:Int)),(((List.range t).filter fun t=>muB m k t).map fun t=>((t:Nat):Int))++[(t:Int)])) ?_) ?_
      ·refine Eq.trans (ct ?_) (by rw [zh (zb3 (by omega))])
       unfold muB at hmu
       rw [Bool.and_eq_true] at hmu
       rw [hmu.1,hmu.2];rfl
      ·rw [zh (qo (by omega))];rfl
   ·obtain⟨b,l⟩:=X
    obtain⟨c,a⟩:=hi
    dsimp only at c a
    subst c
    simp only [yn]
    rw [ym (by omega)]
    have:b=decide (fst38 m k=k):=by
     rw [Bool.eq_iff_iff,a,decide_eq_true_iff,zva f]
    rw [this];rfl
  have hlen:=zhf (fun s=>decide (fst38 m s=s)) (knot m) k
  rw [z8m]
  refine Eq.trans (qf (x:=((List.range k).filter fun s=>decide (fst38 m s=s)).map (knot m)++if decide (fst38 m k=k)=true then [knot m k] else []) ?_) ?_
  ·rw [qf a]
   cases decide (fst38 m k=k)
   ·rw [cf rfl,if_neg (by simp),List.append_nil]
   ·rw [ct rfl,if_pos rfl,zh (zb3 (by omega))]
  ·rw [zh (qo (by omega))];rfl
 ·subst hi
  simp only [gz]
  rw [ym (by omega)];rfl
end knots
end GV
end Go.Proofs.Ytdhccodneoebpaa

namespace Go.Proofs.Ytdhccodneoebpaa
namespace GV
set_option maxRecDepth 1000000
end GV
end Go.Proofs.Ytdhccodneoebpaa

namespace Go.Proofs.Ytdhccodneoebpaa
namespace GV
set_option maxRecDepth 100000
structure DDOk (x:Sg):Prop where
 n:0≤x.fAe∧x.fAe≤255
 i:0≤x.fO∧x.fO≤255
 t: ∀ k,k<x.fZ.length→0≤x.fZ.getD k default∧x.fZ.getD k default≤255
theorem zwv{v:Int}(h:0≤v∧v≤255):IntKind.u8.wrap v=v:=by
 have:IntKind.u8.wrap v=v%256:=by simp [IntKind.wrap,IntKind.signed,IntKind.bits]
 rw [this];omega
theorem q3q{k:Nat}{a:Int}(b:k≤5)(c:1≤a∧a≤2):0≤(k:Int)*a∧(k:Int)*a≤10∧(k:Int)*a=((k*a.toNat:Nat):Int):=by
 have e:(a.toNat:Int)=a:=by omega
 have d:(k:Int)*a=((k*a.toNat:Nat):Int):=by rw [Int.natCast_mul,e]
 have f:k*a.toNat≤5*2:=Nat.mul_le_mul b (by omega)
 omega
theorem zoo{α:Type}[Inhabited α]{P:α→Prop}{X:List α}{y:α}(h: ∀ k,k<X.length→P (X.getD k default))(a:P y): ∀ k,k<(X++[y]).length→P ((X++[y]).getD k default):=by
 intro k b
 rw [List.length_append,List.length_singleton] at b
 by_cases e:k<X.length
 ·have:(X++[y]).getD k default=X.getD k default:=by simp [List.getD_eq_getElem?_getD,List.getElem?_append_left e]
  rw [this];exact h k e
 ·obtain rfl:k=X.length:=by omega
  have:(X++[y]).getD X.length default=y:=by simp [List.getD_eq_getElem?_getD]
  rw [this];exact a
section
variable {N : Nat} {x : Sg}
theorem zy6(d:DDOk x)(v:200≤N){n:Int}(c:1+x.fAe%5=n){I:Int}(m:1+x.fO%2=I){s:Nat}(w:s<5):
 ∃ r,xx N x (s:Int) N [] 0=some r∧(r.length:Int)=I∧ ∀ k,k<r.length→((r.getD k default).to= -1∧(r.getD k default).out= -1)∨(0≤(r.getD k default).to∧(r.getD k default).to<n∧0≤(r.getD k default).out∧(r.getD k default).out<2):=by
 have z:=d.n;have A:=d.i
 refine z0u (fun F i acc=>xx N x (s:Int) F acc (i:Int)) I.toNat (fun i acc=>acc.length=i∧ ∀ k,k<acc.length→((acc.getD k default).to= -1∧(acc.getD k default).out= -1)∨(0≤(acc.getD k default).to∧(acc.getD k default).to<n∧0≤(acc.getD k default).out∧(acc.getD k default).out<2)) _ (fun F i acc hi hacc=> .inr ?_) (fun F acc hacc=>?_) N 0 [] (Nat.zero_le _) (by omega) ⟨rfl,fun k b=>by simp at b⟩
 ·obtain⟨j,f⟩:=hacc
  have o:=q3q (k:=s) (a:=I) (by omega) (by omega)
  have p:(s:Int)*I+(i:Int)=((s*I.toNat+i:Nat):Int):=by rw [o.2.2];rfl
  simp only [xx]
  rw [bu (by omega)]
  have g: ∃ e:Int×Int,(gd (in64 ((s:Int)*((1:Int)+(x.fO%2))))<|
  gd (in64 (((s:Int)*((1:Int)+(x.fO%2)))+(i:Int)))<|
  gd ((true&&((decide ((((s:Int)*((1:Int)+(x.fO%2)))+(i:Int))<(↑x.fZ.length:Int)))==true))=true→okI x.fZ (((s:Int)*((1:Int)+(x.fO%2)))+(i:Int)))<|
  gd ((true&&((decide ((((s:Int)*((1:Int)+(x.fO%2)))+(i:Int))<(↑x.fZ.length:Int)))==true))=true→okR (ix x.fZ (((s:Int)*((1:Int)+(x.fO%2)))+(i:Int))) 8)<|
  bif (decide ((((s:Int)*((1:Int)+(x.fO%2)))+(i:Int))<(↑x.fZ.length:Int)))&&(decide (((ix x.fZ (((s:Int)*((1:Int)+(x.fO%2)))+(i:Int)))%8)<6)) then(
  gd (okI x.fZ (((s:Int)*((1:Int)+(x.fO%2)))+(i:Int)))<|
  gd (8≠(0:Int))<|
  gd (in64 (IntKind.u8.wrap (Int.tdiv (ix x.fZ (((s:Int)*((1:Int)+(x.fO%2)))+(i:Int))) 8)))<|
  gd (okR (IntKind.u8.wrap (Int.tdiv (ix x.fZ (((s:Int)*((1:Int)+(x.fO%2)))+(i:Int))) 8)) ((1:Int)+(x.fAe%5)))<|
  gd (okI x.fZ (((s:Int)*((1:Int)+(x.fO%2)))+(i:Int)))<|
  gd (in64 (ix x.fZ (((s:Int)*((1:Int)+(x.fO%2)))+(i:Int))))<|
  gd (okR (ix x.fZ (((s:Int)*((1:Int)+(x.fO%2)))+(i:Int))) 2)<|
  some ((IntKind.u8.wrap (Int.tdiv (ix x.fZ (((s:Int)*((1:Int)+(x.fO%2)))+(i:Int))) 8))%((1:Int)+(x.fAe%5)),(ix x.fZ (((s:Int)*((1:Int)+(x.fO%2)))+(i:Int)))%2)) else(
  some ((-1:Int),(-1:Int))))=some e∧((e.1= -1∧e.2= -1)∨(0≤e.1∧e.1<n∧0≤e.2∧e.2<2)):=by
   rw [m,c,p,zh (qo (by omega)),zh (qo (by omega))]
   by_cases b:s*I.toNat+i<x.fZ.length
   ·have l:=d.t _ b
    have et:ix x.fZ ((s*I.toNat+i:Nat):Int)=x.fZ.getD (s*I.toNat+i) default:=rfl
    rw [zh (fun _=>qg b),et,zh (fun _=>⟨l.1,by omega⟩)]
    have q:Int.tdiv (x.fZ.getD (s*I.toNat+i) default) 8=x.fZ.getD (s*I.toNat+i) default/8:=Int.tdiv_eq_ediv_of_nonneg l.1
    rw [q,zwv (by omega)]
    by_cases h6:x.fZ.getD (s*I.toNat+i) default%8<6
    ·refine⟨(x.fZ.getD (s*I.toNat+i) default/8%n,x.fZ.getD (s*I.toNat+i) default%2),?_,.inr ⟨Int.emod_nonneg _ (by omega),Int.emod_lt_of_pos _ (by omega),by dsimp only;omega,by dsimp only;omega⟩⟩
     rw [ct (by rw [decide_eq_true (show ((s*I.toNat+i:Nat):Int)<(x.fZ.length:Int) by omega),decide_eq_true h6];rfl),zh (qg b),zh (by decide),zh (qo (by omega)),zh ⟨by omega,by omega⟩,zh (qg b),zh (qo (by omega)),zh ⟨by omega,by omega⟩]
    ·exact⟨(-1,-1),cf (by rw [decide_eq_false h6];simp),.inl ⟨rfl,rfl⟩⟩
   ·refine⟨(-1,-1),?_,.inl ⟨rfl,rfl⟩⟩
    have c: ¬((s*I.toNat+i:Nat):Int)<(x.fZ.length:Int):=by omega
    rw [zh (fun h=>by rw [decide_eq_false c] at h;cases h),zh (fun h=>by rw [decide_eq_false c] at h;cases h),cf (by rw [decide_eq_false c];rfl)]
  obtain⟨e,g,u⟩:=g
  refine⟨acc++[⟨e.1,e.2⟩],⟨by simp [j],zoo (P:=fun y:Edge=>(y.to= -1∧y.out= -1)∨(0≤y.to∧y.to<n∧0≤y.out∧y.out<2)) f u⟩,?_⟩
  rw [qf g,zh (zb3 (by omega)),zh (qo (by omega))];rfl
 ·obtain⟨j,f⟩:=hacc
  simp only [xx]
  rw [ym (by omega)]
  exact⟨acc,rfl,by omega,f⟩
theorem q0s(f:DDOk x)(A:400≤N): ∃ m,z13 N x=some m∧CM38 m∧m.rows.length≤5∧m.inputs≤2:=by
 have B:=f.n;have C:=f.i
 generalize hn:1+x.fAe%5=n
 generalize hI:1+x.fO%2=I
 obtain⟨R,t,g,hrow⟩: ∃ R,xh N x N 0 []=some R∧(R.length:Int)=n∧ ∀ k,k<R.length→(((R.getD k default).length:Int)=I∧ ∀ j,j<(R.getD k default).length→(((R.getD k default).getD j default).to= -1∧((R.getD k default).getD j default).out= -1)∨(0≤((R.getD k default).getD j default).to∧((R.getD k default).getD j default).to<n∧0≤((R.getD k default).getD j default).out∧((R.getD k default).getD j default).out<2)):=by
  refine z0u (fun F s acc=>xh N x F (s:Int) acc) n.toNat (fun s acc=>acc.length=s∧ ∀ k,k<acc.length→(((acc.getD k default).length:Int)=I∧ ∀ j,j<(acc.getD k default).length→(((acc.getD k default).getD j default).to= -1∧((acc.getD k default).getD j default).out= -1)∨(0≤((acc.getD k default).getD j default).to∧((acc.getD k default).getD j default).to<n∧0≤((acc.getD k default).getD j default).out∧((acc.getD k default).getD j default).out<2))) _ (fun F s acc e hacc=> .inr ?_) (fun F acc hacc=>?_) N 0 [] (Nat.zero_le _) (by omega) ⟨rfl,fun k u=>by simp at u⟩
  ·obtain⟨g,l⟩:=hacc
   obtain⟨r,v,w,y⟩:=zy6 (N:=N) f (by omega) hn hI (s:=s) (by omega)
   refine⟨acc++[r],⟨by simp [g],zoo (P:=fun r:List Edge=>((r.length:Int)=I∧ ∀ j,j<r.length→((r.getD j default).to= -1∧(r.getD j default).out= -1)∨(0≤(r.getD j default).to∧(r.getD j default).to<n∧0≤(r.getD j default).out∧(r.getD j default).out<2))) l ⟨w,y⟩⟩,?_⟩
   simp only [xh]
   rw [bu (by omega),qf v,zh (zb3 (by omega)),zh (qo (by omega))];rfl
  ·obtain⟨g,l⟩:=hacc
   simp only [xh]
   rw [ym (by omega)]
   exact⟨acc,rfl,by omega,l⟩
 have q:MOk ⟨I,2,R⟩:=by
  refine⟨by dsimp only;omega,by dsimp only;omega,by dsimp only;omega,by dsimp only;omega,by dsimp only;omega,by dsimp only;omega,fun s e=>(hrow s e).1,fun s i e hi=>?_⟩
  rcases (hrow s e).2 i hi with h|⟨a,b,c,d⟩
  ·exact .inl h
  ·exact .inr ⟨a,by dsimp only;omega,c,d⟩
 obtain⟨z,o,p⟩:=zwo q
 refine⟨zgw ⟨I,2,R⟩,?_,z,by dsimp only at o;omega,by rw [p];dsimp only;omega⟩
 unfold z13
 rw [zh (qo (by omega)),zh ⟨by omega,by omega⟩,zh (qo (by omega)),zh (qo (by omega)),zh ⟨by omega,by omega⟩,zh (qo (by omega)),qf t,hI,qf (zl1 q (by omega) (by dsimp only;omega) (by dsimp only;omega))]
end
end GV
end Go.Proofs.Ytdhccodneoebpaa

namespace Go.Proofs.Ytdhccodneoebpaa
namespace GV
set_option maxRecDepth 100000
end GV
end Go.Proofs.Ytdhccodneoebpaa

namespace Go.Proofs.Ytdhccodneoebpaa
namespace GV
set_option maxRecDepth 100000
end GV
end Go.Proofs.Ytdhccodneoebpaa

namespace Go.Proofs.Ytdhccodneoebpaa
namespace GV
set_option maxRecDepth 100000
def bump(c:List (List Int))(s i:Int):List (List Int):=up c s (up (ix c s) i (ix (ix c s) i+1))
def tk(m:Mach):Int→List (List Int)→List Int→Option (Int×List (List Int))
 |a,c,[]=>some (a,c)
 |a,c,i::w=>if(z5a m a i).to= -1 then none else tk m (z5a m a i).to (bump c a i) w
theorem zsb(m:Mach)(a:Int)(c:List (List Int))(i:Int)(w:List Int):tk m a c (i::w)=if(z5a m a i).to= -1 then none else tk m (z5a m a i).to (bump c a i) w:=by rw [tk]
def z7x(m:Mach):List (List Int):=List.replicate m.rows.length (List.replicate m.inputs.toNat 0)
def z0q(m:Mach)(w:List Int):List (List Int)×Int×Bool:=
 match tk m 0 (z7x m) w with
 |some (t,c)=>(c,t,true)
 |none=>([],0,false)
section tk
variable {N : Nat} {m : Mach} {w : List Int} {c : List (List Int)} {s i : Nat}
theorem Shp.set(h:Shp m c){r:List Int}(a:s<m.rows.length)(b:r.length=m.inputs.toNat):Shp m (c.set s r):=by
 refine⟨by simp [h.len],fun t d=>?_⟩
 rw [wm (by rw [h.len];exact a)]
 by_cases e:t=s
 ·rw [if_pos e,b]
 ·rw [if_neg e,h.row t d]
theorem zc5(h:Shp m c)(a:s<m.rows.length)(hi:i<m.inputs.toNat){v:Int}{t j:Nat}:lf (c.set s ((c.getD s default).set i v)) t j=if t=s∧j=i then v else lf c t j:=by
 unfold lf
 rw [wm (by rw [h.len];exact a)]
 by_cases e:t=s
 ·subst e
  rw [if_pos rfl,wm (by rw [h.row t a];exact hi)]
  by_cases e2:j=i
  ·rw [if_pos e2,if_pos ⟨rfl,e2⟩]
  ·rw [if_neg e2,if_neg (fun h=>e2 h.2)]
 ·rw [if_neg e,if_neg (fun h=>e h.1)]
theorem zxl:bump c (s:Int) (i:Int)=c.set s ((c.getD s default).set i (lf c s i+1)):=rfl
theorem Shp.bump(h:Shp m c)(a:s<m.rows.length)(hi:i<m.inputs.toNat):Shp m (bump c (s:Int) (i:Int)):=by
 rw [zxl];exact h.set a (by rw [List.length_set,h.row s a])
theorem zm5(h:Shp m c)(a:s<m.rows.length)(hi:i<m.inputs.toNat){t j:Nat}:lf (GV.bump c (s:Int) (i:Int)) t j=if t=s∧j=i then lf c s i+1 else lf c t j:=zc5 h a hi
theorem zd0:Shp m (z7x m):=by
 refine⟨by simp [z7x],fun s a=>?_⟩
 simp [z7x,List.getD_eq_getElem?_getD,a]
theorem zn6:lf (z7x m) s i=0:=by
 unfold lf z7x
 simp only [List.getD_eq_getElem?_getD,List.getElem?_replicate]
 split
 ·simp only [Option.getD_some,List.getElem?_replicate]
  split<;>rfl
 ·rfl
theorem zf5{s i:Nat}:(z5a m (s:Int) (i:Int)).to=ed m s i:=by
 unfold z5a
 rw [if_neg (by omega)];rfl
theorem zrj(c:MOk m)(a:WOk m.inputs w){k:Nat}(b:k<w.length): ∃ i:Nat,w.getD k default=(i:Int)∧i<m.inputs.toNat:=by
 have:=a k b
 exact⟨(w.getD k default).toNat,by omega,by omega⟩
theorem zu9(b:MOk m)(c:200≤N):yu N m N [] 0=some (z7x m):=by
 have d:=b.r2;have hi:=b.inp
 refine bz (fun F k X=>yu N m F X (k:Int)) m.rows.length (fun k X=>X=List.replicate k (List.replicate m.inputs.toNat 0)) _ (fun F k X e a=> .inr ?_) (fun F X a=>?_) N 0 _ (Nat.zero_le _) (by omega) rfl
 ·subst a
  refine⟨_,rfl,?_⟩
  simp only [yu]
  rw [bu (by omega),zh ⟨by omega,by omega,by omega⟩,zh (zb3 (by simp;omega)),zh (qo (by omega)),List.replicate_succ'];rfl
 ·subst a
  simp only [yu]
  rw [ym (by omega)];rfl
structure TInv (m:Mach) (w:List Int) (k:Nat) (x:Int×List (List Int)):Prop where
 at': ∃ s:Nat,x.1=(s:Int)∧s<m.rows.length
 shp:Shp m x.2
 bnd: ∀ s i,0≤lf x.2 s i∧lf x.2 s i≤k
 eq:tk m x.1 x.2 (w.drop k)=tk m 0 (z7x m) w
def tkX(m:Mach)(w:List Int):Ex (Int×List (List Int)) (List (List Int)×Int×Bool):=
 match tk m 0 (z7x m) w with
 |some p=>Ex.go p
 |none=>Ex.rt ([],0,false)
theorem zuk(a:MOk m):TInv m w 0 (0,z7x m):=⟨⟨0,rfl,by have:=a.r1;omega⟩,zd0,fun s i=>by rw [zn6];omega,by simp⟩
theorem zvy{x:Int×List (List Int)}(h:TInv m w w.length x):tkX m w=Ex.go x:=by
 have:=h.eq
 rw [List.drop_length] at this
 unfold tkX
 rw [←this];rfl
theorem zsx(e:MOk m)(o:WOk m.inputs w){k:Nat}(f:k<w.length){x:Int×List (List Int)}(h:TInv m w k x): ∃ s i:Nat,x.1=(s:Int)∧s<m.rows.length∧w.getD k default=(i:Int)∧i<m.inputs.toNat∧
 (ed m s i= -1→tkX m w=Ex.rt ([],0,false))∧(ed m s i≠ -1→TInv m w (k+1) (ed m s i,bump x.2 (s:Int) (i:Int))):=by
 obtain⟨s,g,a⟩:=h.at'
 obtain⟨i,hi,b⟩:=zrj e o f
 have c:=h.eq
 rw [zg9 w k f,hi,g] at c
 refine⟨s,i,g,a,hi,b,fun d=>?_,fun d=>?_⟩
 ·unfold tkX
  rw [←c]
  unfold tk
  rw [zf5,if_pos d]
 ·rw [zsb,zf5,if_neg d] at c
  have l:=h.bnd
  refine⟨?_,h.shp.bump a b,fun t j=>?_,c⟩
  ·rcases z7h e a b with n|n
   ·exact absurd n d
   ·exact⟨(ed m s i).toNat,by dsimp only;omega,by omega⟩
  ·dsimp only
   rw [zm5 h.shp a b]
   split
   ·have:=l s i;omega
   ·have:=l t j;omega
theorem zt4(f:MOk m)(j:200≤N)(l:WOk m.inputs w)(v:w.length<N)(n:w.length≤1000000):z0w N m w=some (z0q m w):=by
 unfold z0w
 rw [qf (zu9 f j)]
 refine Eq.trans (qf (x:=tkX m w) ?_) (by unfold tkX z0q;cases tk m 0 (z7x m) w<;>rfl)
 refine bz (σ:=Int×List (List Int)) (fun F k x=>bg N m w F x.1 (k:Int) x.2) w.length (TInv m w) _ (fun F k x g hi=>?_) (fun F x hi=>?_) N 0 (0,z7x m) (Nat.zero_le _) (by omega) (zuk f)
 ·obtain⟨a,c⟩:=x
  obtain⟨s,i,rfl,e,o,d,p,h⟩:=zsx f l g hi
  have q:=hi.bnd s i
  have b:=hi.shp
  dsimp only at q b h
  have r:(ix (ix m.rows (s:Int)) (i:Int)).to=ed m s i:=rfl
  have t:ix w (k:Int)=(i:Int):=o
  have u:ix (ix c (s:Int)) (i:Int)=lf c s i:=rfl
  simp only [bg]
  rw [bu (by omega),zh (qg e),zh (qg g),t,zh (show okI (ix m.rows (s:Int)) (i:Int) from qg (by rw [ug,f.rowlen e];exact d)),r]
  by_cases hn:ed m s i= -1
  ·left
   rw [bu hn,p hn]
  ·right
   refine⟨_,h hn,?_⟩
   rw [ym hn,zh (qg (by rw [b.len];exact e)),zh (qg g),zh (show okI (ix c (s:Int)) (i:Int) from qg (by rw [ug,b.row s e];exact d)),u,zh (qo (by omega)),zh (show okI (ix c (s:Int)) (i:Int) from qg (by rw [ug,b.row s e];exact d)),zh (qo (by omega))];rfl
 ·simp only [bg]
  rw [ym (by omega),zvy hi]
/-! ### The edges-/
def dm(m:Mach)(s k:Nat):List (Int×Int):=((List.range k).filter fun i=>decide (ed m s i≠ -1)).map fun i=>((s:Int),((i:Nat):Int))
def vo(m:Mach):Nat→List (Int×Int)
 |0=>[]
 |k+1=>vo m k++dm m k m.inputs.toNat
def qm(m:Mach):List (Int×Int):=vo m m.rows.length
theorem z6p{k:Nat}:(dm m s k).length≤k:=zhf _ _ _
theorem z7c: ∀ k,(vo m k).length≤k*m.inputs.toNat
 |0=>by simp [vo]
 |k+1=>by
  have:=z7c k
  have:=z6p (m:=m) (s:=k) (k:=m.inputs.toNat)
  unfold vo
  rw [List.length_append,Nat.succ_mul];omega
theorem zjx(a:MOk m):(qm m).length≤1024:=by
 have d:=z7c (m:=m) m.rows.length
 have b:=a.r2;have c:=a.inp
 have:m.rows.length*m.inputs.toNat≤64*16:=Nat.mul_le_mul b c.2.1
 unfold qm;omega
theorem zhv(b:MOk m)(j:200≤N):aa N m=some (qm m):=by
 have l:=b.r2;have hi:=b.inp
 unfold aa
 refine Eq.trans (qf (x:=qm m) ?_) rfl
 refine bz (fun F k X=>gy N m F X (k:Int)) m.rows.length (fun k X=>X=vo m k) _ (fun F s X d a=> .inr ?_) (fun F X a=>?_) N 0 _ (Nat.zero_le _) (by omega) rfl
 ·subst a
  refine⟨_,rfl,?_⟩
  simp only [gy]
  have n:=z7c (m:=m) s
  have e:s*m.inputs.toNat≤64*16:=Nat.mul_le_mul (by omega) hi.2.1
  have f:yw N m (s:Int) N 0 (vo m s)=some (vo m (s+1)):=by
   refine bz (fun F i X=>yw N m (s:Int) F (i:Int) X) m.inputs.toNat (fun i X=>X=vo m s++dm m s i) _ (fun F i X hi' a=> .inr ?_) (fun F X a=>?_) N 0 _ (Nat.zero_le _) (by omega) (by simp [dm])
   ·subst a
    refine⟨_,rfl,?_⟩
    have o:=z6p (m:=m) (s:=s) (k:=i)
    have g:(ix (ix m.rows (s:Int)) (i:Int)).to=ed m s i:=rfl
    simp only [yw]
    rw [bu (by omega),zh (qg d),zh (show okI (ix m.rows (s:Int)) (i:Int) from qg (by rw [ug,b.rowlen d];exact hi')),g]
    have c:dm m s (i+1)=dm m s i++if decide (ed m s i≠ -1)=true then [((s:Int),(i:Int))] else []:=z8m _ _ _
    rw [c]
    by_cases hn:ed m s i= -1
    ·rw [ym (fun h=>h hn),z7l,zh (qo (by omega)),if_neg (by simp [hn]),List.append_nil];rfl
    ·rw [bu hn,zh (zb3 (by rw [List.length_append];omega)),z7l,zh (qo (by omega)),if_pos (by simp [hn]),List.append_assoc];rfl
   ·subst a
    simp only [yw]
    rw [ym (by omega)];rfl
  rw [bu (by omega),qf f,zh (qo (by omega))];rfl
 ·subst a
  simp only [gy]
  rw [ym (by omega)];rfl
theorem z7b{p:Int×Int}: ∀ k,p∈vo m k↔ ∃ s i:Nat,s<k∧i<m.inputs.toNat∧ed m s i≠ -1∧p=((s:Int),(i:Int))
 |0=>by simp [vo]
 |k+1=>by
  unfold vo
  rw [List.mem_append,z7b k]
  unfold dm
  simp only [List.mem_map,List.mem_filter,List.mem_range,decide_eq_true_eq]
  constructor
  ·rintro(⟨s,i,d,a,b,c⟩|⟨i,⟨d,a⟩,b⟩)
   ·exact⟨s,i,by omega,a,b,c⟩
   ·exact⟨k,i,by omega,d,a,b.symm⟩
  ·rintro⟨s,i,d,a,b,c⟩
   by_cases e:s=k
   ·subst e;exact .inr ⟨i,⟨a,b⟩,c.symm⟩
   ·exact .inl ⟨s,i,by omega,a,b,c⟩
theorem wh{p:Int×Int}:p∈qm m↔ ∃ s i:Nat,s<m.rows.length∧i<m.inputs.toNat∧ed m s i≠ -1∧p=((s:Int),(i:Int)):=z7b _
/-! ### Tours-/
def zxh(m:Mach)(c:List (List Int)):Prop:= ∀ s i,s<m.rows.length→i<m.inputs.toNat→0≤ed m s i→lf c s i≠0
structure IsT (m:Mach) (w:List Int) (round:Bool):Prop where
 len:w.length≤256
 ok:WOk m.inputs w
 is:(z0q m w).2.2=true
 back:round=true→(z0q m w).2.1=0
 all:zxh m (z0q m w).1
noncomputable def isTB(m:Mach)(w:List Int)(round:Bool):Bool:= @decide (IsT m w round) (Classical.propDecidable _)
theorem zlz{round:Bool}(h:IsT m w round):isTB m w round=true:= @decide_eq_true _ (Classical.propDecidable _) h
theorem zjg{round:Bool}(h: ¬IsT m w round):isTB m w round=false:= @decide_eq_false _ (Classical.propDecidable _) h
theorem zs3{n:Int}{w:List Int}:WOk n w↔w.any (zg7 n)=false:=by
 rw [zfn]
 unfold WOk zg7
 refine forall_congr' fun k=>forall_congr' fun a=>?_
 simp
theorem zwp(d:MOk m): ∀ (w:List Int) (s:Nat) (c:List (List Int)),s<m.rows.length→Shp m c→WOk m.inputs w→ ∀ p,tk m (s:Int) c w=some p→(∃ t:Nat,p.1=(t:Int)∧t<m.rows.length)∧Shp m p.2
 | [],s,c,b,f,_,p,h=>by
  obtain rfl:=Option.some.inj h
  exact⟨⟨s,rfl,b⟩,f⟩
 |i::w,s,c,b,f,g,p,h=>by
  obtain⟨j,n,a⟩:=zrj (k:=0) d g (by simp)
  obtain rfl:i=(j:Int):=n
  unfold tk at h
  rw [zf5] at h
  by_cases e:ed m s j= -1
  ·rw [if_pos e] at h;cases h
  ·rw [if_neg e] at h
   rcases z7h d b a with l|l
   ·exact absurd l e
   ·have o:ed m s j=((ed m s j).toNat:Int):=by omega
    rw [o] at h
    exact zwp d w _ _ (by omega) (f.bump b a) (by have:=zwx g 1;simpa using this) p h
theorem zu5(a:MOk m)(b:WOk m.inputs w)(h:(z0q m w).2.2=true):(∃ t:Nat,(z0q m w).2.1=(t:Int)∧t<m.rows.length)∧Shp m (z0q m w).1:=by
 unfold z0q at h⊢
 cases hk:tk m 0 (z7x m) w with
 |none=>rw [hk] at h;cases h
 |some p=>
  obtain⟨t,c⟩:=p
  exact zwp a w 0 (z7x m) (by have:=a.r1;omega) zd0 b _ hk
theorem zdw{round:Bool}(d:MOk m)(E:2000≤N)(z:w.length<N)(q:w.length≤1000000):om N m w round=some (isTB m w round):=by
 have G:=d.r2
 unfold om
 by_cases h256:256<w.length
 ·rw [bu (by omega),zjg (fun h=>by have:=h.len;omega)]
 rw [ym (by omega)]
 have A:vz N m w N 0=some (if w.any (zg7 m.inputs)=true then Ex.rt false else Ex.go ()):=by
  refine bz (σ:=Unit) (fun F k _=>vz N m w F (k:Int)) w.length (fun k _=>(w.take k).any (zg7 m.inputs)=false) _ (fun F k _ c hi=>?_) (fun F _ hi=>?_) N 0 () (Nat.zero_le _) (by omega) (by simp)
  ·simp only [vz]
   rw [bu (by omega),zh (qg c),zh (fun _=>qg c),ug]
   cases hp:zg7 m.inputs (w.getD k default)
   ·right
    refine⟨(),by rw [zes _ w k c,hi,hp];rfl,?_⟩
    rw [cf (show (decide (w.getD k default<0)||decide (m.inputs≤w.getD k default))=false from hp),zh (qo (by omega))];rfl
   ·left
    rw [ct (show (decide (w.getD k default<0)||decide (m.inputs≤w.getD k default))=true from hp),if_pos (List.any_eq_true.2 ⟨_,z0x c,hp⟩)]
  ·simp only [vz]
   rw [List.take_length] at hi
   rw [ym (by omega),if_neg (by rw [hi];decide)]
 rw [qf A]
 by_cases hw:WOk m.inputs w
 ·rw [if_neg (by rw [zs3.1 hw];decide),zb5,qf (zt4 d (by omega) hw z q)]
  cases h1:(z0q m w).2.2
  ·rw [ct (b:=(!false)||_) (by simp),zjg (fun h=>by have:=h.is;rw [h1] at this;cases this)]
  ·by_cases h2:round=true∧(z0q m w).2.1≠0
   ·rw [ct (b:=(!true)||_) (by rw [h2.1,decide_eq_true h2.2];rfl),zjg (fun h=>h2.2 (h.back h2.1))]
   ·have x:round=true→(z0q m w).2.1=0:=fun h=>Classical.byContradiction fun f=>h2 ⟨h,f⟩
    rw [cf (b:=(!true)||_) (by
     cases hrd:round
     ·rfl
     ·rw [decide_eq_false (fun h=>h (x hrd))];rfl),qf (zhv d (by omega))]
    obtain⟨_,l⟩:=zu5 d hw h1
    have B:=zjx d
    have t: ∀ k,k<(qm m).length→ ∃ s i:Nat,s<m.rows.length∧i<m.inputs.toNat∧ed m s i≠ -1∧(qm m).getD k default=((s:Int),(i:Int)):=fun k c=>wh.1 (z0x c)
    have C: ∃ r,vv N (z0q m w) (qm m) N 0=some r∧((r=Ex.rt false∧ ¬zxh m (z0q m w).1)∨(r=Ex.go ()∧zxh m (z0q m w).1)):=by
     refine z0u (σ:=Unit) (fun F k _=>vv N (z0q m w) (qm m) F (k:Int)) (qm m).length (fun k _=> ∀ j,j<k→ ∀ s i:Nat,(qm m).getD j default=((s:Int),(i:Int))→lf (z0q m w).1 s i≠0) _ (fun F k _ c hi=>?_) (fun F _ hi=>?_) N 0 () (Nat.zero_le _) (by omega) (fun j p=>by omega)
     ·obtain⟨s,i,g,a,u,y⟩:=t k c
      have e0:ix (qm m) (k:Int)=((s:Int),(i:Int)):=y
      have D:ix (ix (z0q m w).1 (s:Int)) (i:Int)=lf (z0q m w).1 s i:=rfl
      simp only [vv]
      rw [bu (by omega),zh (qg c),e0]
      dsimp only
      rw [zh (qg (by rw [l.len];exact g)),zh (qg c),zh (show okI (ix (z0q m w).1 (s:Int)) (i:Int) from qg (by rw [ug,l.row s g];exact a)),D]
      by_cases n:lf (z0q m w).1 s i=0
      ·left
       rw [bu n]
       refine⟨_,rfl,.inl ⟨rfl,fun h=>h s i g a ?_ n⟩⟩
       rcases z7h d g a with h|h
       ·exact absurd h u
       ·exact h.1
      ·right
       refine⟨(),fun j p=>?_,?_⟩
       ·by_cases e:j=k
        ·subst e
         intro s' i' h'
         rw [y] at h'
         obtain⟨f,H⟩:=Prod.mk.inj h'
         obtain rfl:s=s':=by omega
         obtain rfl:i=i':=by omega
         exact n
        ·exact hi j (by omega)
       ·rw [ym n,zh (qo (by omega))];rfl
     ·simp only [vv]
      rw [ym (by omega)]
      refine⟨_,rfl,.inr ⟨rfl,fun s i g a n=>?_⟩⟩
      have hmem:((s:Int),(i:Int))∈qm m:=wh.2 ⟨s,i,g,a,by omega,rfl⟩
      obtain⟨j,p,v⟩:=List.mem_iff_getElem.1 hmem
      exact hi j p s i (by rw [List.getD_eq_getElem?_getD,List.getElem?_eq_getElem p,v];rfl)
    obtain⟨r,o,⟨rfl,f⟩|⟨rfl,f⟩⟩:=C
    ·rw [qf o,zne,zjg (fun h=>f h.all)]
    ·rw [qf o,zb5,zlz ⟨by omega,hw,h1,x,f⟩]
 ·rw [if_pos (by
   cases h:w.any (zg7 m.inputs)
   ·exact absurd (zs3.2 h) hw
   ·rfl),zne,zjg (fun h=>hw h.ok)]
end tk
end GV
end Go.Proofs.Ytdhccodneoebpaa

namespace Go.Proofs.Ytdhccodneoebpaa
namespace GV
set_option maxRecDepth 100000
end GV
end Go.Proofs.Ytdhccodneoebpaa

namespace Go.Proofs.Ytdhccodneoebpaa
namespace GV
theorem wf_u8{x:Int}(h:(Lit.int .u8 x).wf=true):0≤x∧x≤255:=by simpa [Lit.wf,IntKind.min,IntKind.max,IntKind.signed,IntKind.bits] using h
theorem wf_u16{x:Int}(h:(Lit.int .u16 x).wf=true):0≤x∧x≤65535:=by simpa [Lit.wf,IntKind.min,IntKind.max,IntKind.signed,IntKind.bits] using h
theorem zzh{x:MDat}(h:q1u x):MDOk x:=⟨wf_u8 h.1,wf_u8 h.2.1,wf_u8 h.2.2.1,fun k a=>wf_u16 (h.2.2.2.2.1 _ (z0x a))⟩
theorem zz1{x:Sg}(h:q1i x):DDOk x:=⟨wf_u8 h.1,wf_u8 h.2.1,fun k a=>wf_u8 (h.2.2.1 _ (z0x a))⟩
end GV
end Go.Proofs.Ytdhccodneoebpaa
