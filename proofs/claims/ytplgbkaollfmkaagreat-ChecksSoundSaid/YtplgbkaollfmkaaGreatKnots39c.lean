
import Derived.Test.YtplgbkaollfmkaaGreatLaw39a
import Derived.Test.YtplgbkaollfmkaaGreatSpec04b
set_option linter.unusedVariables false
set_option linter.unusedSimpArgs false
namespace Go.Proofs.YtplgbkaollfmkaaGreat
namespace GV
set_option maxRecDepth 100000
/-! ### The program's search-/
section r
variable {m : Mach} {s a : Nat} {Y : List Bool} {l : List Int} {N : Nat}
structure SInv (m:Mach) (s:Nat) (Y:List Bool) (l:List Int):Prop where
 len:Y.length=m.rows.length
 sound: ∀ t,Y.getD t default=true→Reach m s t
 start:Y.getD s default=true
 stk: ∀ x∈l,0≤x∧x.toNat<m.rows.length∧Y.getD x.toNat default=true
 clo: ∀ t,t<m.rows.length→Y.getD t default=true→(t:Int)∉l→Closed m Y t
structure EInv (m:Mach) (s a i μ:Nat) (Y:List Bool) (l:List Int):Prop where
 len:Y.length=m.rows.length
 sound: ∀ t,Y.getD t default=true→Reach m s t
 start:Y.getD s default=true
 ya:Y.getD a default=true
 stk: ∀ x∈l,0≤x∧x.toNat<m.rows.length∧Y.getD x.toNat default=true
 clo: ∀ t,t<m.rows.length→Y.getD t default=true→(t:Int)∉l→t≠a→Closed m Y t
 done: ∀ j,j<i→j<(m.rows.getD a default).length→0≤((m.rows.getD a default).getD j default).to→Y.getD ((m.rows.getD a default).getD j default).to.toNat default=true
 mes:2*Y.count false+l.length≤μ
theorem znf: ∀ {X:List Bool} {s:Nat},s<X.length→X.getD s default=false→(X.set s true).count false+1=X.count false
 |x::X,0,_,h=>by
  have:x=false:=by simpa using h
  subst this
  simp
 |x::X,s+1,a,h=>by
  have:=znf (X:=X) (s:=s) (by simpa using a) (by simpa using h)
  rw [List.set_cons_succ,List.count_cons,List.count_cons];omega
theorem zeb{t u:Nat}(a:u<Y.length)(h:Y.getD t default=true):(Y.set u true).getD t default=true:=by
 rw [z9f a];split;rfl;exact h
def zqx(m:Mach)(a i:Nat)(x:List Bool×List Int):List Bool×List Int:=
 if((m.rows.getD a default).getD i default).to= -1 then x
 else if x.1.getD ((m.rows.getD a default).getD i default).to.toNat default=true then x
 else(x.1.set ((m.rows.getD a default).getD i default).to.toNat true,x.2++[((m.rows.getD a default).getD i default).to])
theorem zwx(y:MOk m){i μ:Nat}(v:a<m.rows.length)(hi:i<(m.rows.getD a default).length)(h:EInv m s a i μ Y l):EInv m s a (i+1) μ (zqx m a i (Y,l)).1 (zqx m a i (Y,l)).2:=by
 unfold zqx
 have p:=y.edge a i v hi
 split
 ·rename_i h1
  refine⟨h.len,h.sound,h.start,h.ya,h.stk,h.clo,fun j n c f=>?_,h.mes⟩
  by_cases e:j=i
  ·subst e;omega
  ·exact h.done j (by omega) c f
 ·rename_i h1
  split
  ·rename_i h2
   refine⟨h.len,h.sound,h.start,h.ya,h.stk,h.clo,fun j n c f=>?_,h.mes⟩
   by_cases e:j=i
   ·subst e;exact h2
   ·exact h.done j (by omega) c f
  ·rename_i h2
   dsimp only at h2⊢
   have f:0≤((m.rows.getD a default).getD i default).to∧((m.rows.getD a default).getD i default).to<m.rows.length:=by rcases p with h|h<;>omega
   have b:((m.rows.getD a default).getD i default).to.toNat<Y.length:=by rw [h.len];omega
   have z:Y.getD ((m.rows.getD a default).getD i default).to.toNat default=false:=by simpa using h2
   have o:=fun t=>z9f (t:=t) b
   refine⟨by simp [h.len],fun t g=>?_,zeb b h.start,zeb b h.ya,fun x k=>?_,fun t g r w u=>?_,fun j n c d=>?_,?_⟩
   ·rw [o] at g
    by_cases e:t=((m.rows.getD a default).getD i default).to.toNat
    ·subst e;exact .step (h.sound _ h.ya) v hi f.1
    ·rw [if_neg e] at g;exact h.sound t g
   ·rcases List.mem_append.1 k with k|k
    ·obtain⟨A,B,C⟩:=h.stk x k
     exact⟨A,B,zeb b C⟩
    ·rw [List.mem_singleton.1 k]
     exact⟨f.1,by omega,by rw [o,if_pos rfl]⟩
   ·rw [o] at r
    by_cases e:t=((m.rows.getD a default).getD i default).to.toNat
    ·exact absurd (List.mem_append.2 (.inr (List.mem_singleton.2 (by omega)))) w
    ·rw [if_neg e] at r
     intro j n d
     exact zeb b (h.clo t g r (fun q=>w (List.mem_append.2 (.inl q))) u j n d)
   ·by_cases e:j=i
    ·subst e;rw [o,if_pos rfl]
    ·exact zeb b (h.done j (by omega) c d)
   ·have:=znf b z
    have:=h.mes
    rw [List.length_append,List.length_singleton]
    omega
theorem q2f(d:MOk m)(t:200≤N){μ:Nat}(g:a<m.rows.length)(hμ:μ≤1000)(h:EInv m s a 0 μ Y l):
 ∃ x,z7j N m (a:Int) (List Bool×List Int) (fun c b=>
 gd (okI b.1 c.fT)<|
 bif !(ix b.1 c.fT) then(
 gd (okI b.1 c.fT)<|
 gd (fits 8 b.2 ([c.fT]:List Int))<|
 some (true,((up b.1 c.fT true),(b.2++([c.fT]:List Int))))) else(
 some (true,(b.1,b.2)))) (Y,l)=some x∧EInv m s a (m.rows.getD a default).length μ x.1 x.2:=by
 have hrow:=d.row a g;have o:=d.i1;have p:=d.i2
 unfold z7j
 rw [zk (qo g)]
 refine fo (σ:=List Bool×List Int) (fun F i x=>z0t N (List Bool×List Int) _ m (a:Int) F x (i:Int)) (m.rows.getD a default).length (fun i x=>EInv m s a i μ x.1 x.2) (fun x=>EInv m s a (m.rows.getD a default).length μ x.1 x.2) (fun F i x hi e=> .inr ?_) (fun F x e=>?_) N 0 (Y,l) (Nat.zero_le _) (by omega) h
 ·obtain⟨Z,k⟩:=x
  refine⟨zqx m a i (Z,k),zwx d g hi e,?_⟩
  simp only [z0t]
  rw [uy (show (i:Int)<((ix m.rows (a:Int)).length:Int) from Int.ofNat_lt.2 hi),zk (show okI (ix m.rows (a:Int)) (i:Int) from qo hi)]
  have q:(ix (ix m.rows (a:Int)) (i:Int))=(m.rows.getD a default).getD i default:=rfl
  rw [q]
  have j:=d.edge a i g hi
  have hmes:=e.mes
  have n:=e.len
  unfold zqx
  dsimp only at hmes n⊢
  by_cases h1:((m.rows.getD a default).getD i default).to= -1
  ·rw [uo (by omega),if_pos h1]
   refine(qc rfl).trans ?_
   rw [zkt,zk (qm (by omega))];rfl
  ·have r:0≤((m.rows.getD a default).getD i default).to∧((m.rows.getD a default).getD i default).to<m.rows.length:=by rcases j with h|h<;>omega
   have f:okI Z ((m.rows.getD a default).getD i default).to:=⟨r.1,by omega⟩
   rw [uy h1,if_neg h1,zk f,zem]
   cases hv:Z.getD ((m.rows.getD a default).getD i default).to.toNat default
   ·rw [if_neg (by decide)]
    simp only [Bool.not_false,cond_true]
    rw [zk f,zk (show fits 8 k ([((m.rows.getD a default).getD i default).to]:List Int) from⟨by rw [List.length_singleton];omega,by rw [List.length_singleton];omega⟩)]
    refine(qc rfl).trans ?_
    rw [zkt,zk (qm (by omega))];rfl
   ·rw [if_pos rfl]
    simp only [Bool.not_true,cond_false]
    refine(qc rfl).trans ?_
    rw [zkt,zk (qm (by omega))];rfl
 ·simp only [z0t]
  refine⟨x,uo (show¬(((m.rows.getD a default).length:Nat):Int)<((ix m.rows (a:Int)).length:Int) from fun h=>Int.lt_irrefl _ h),e⟩
theorem q0c(f:MOk m)(h:SInv m s Y []):Y=reachL m s:=by
 have key: ∀ t,Reach m s t→Y.getD t default=true:=by
  intro t a
  induction a with
  |refl=>exact h.start
  |step g b c d ih=>exact h.clo _ b ih (by simp) _ c d
 refine z5s (by rw [h.len,z3i]) fun k e=>?_
 rw [Bool.eq_iff_iff,z9l (by rw [←h.len];exact e)]
 exact⟨h.sound k,key k⟩
theorem zou(b:MOk m)(i:200≤N): ∀ (F:Nat) (Y:List Bool) (l:List Int),2*Y.count false+l.length<F→2*Y.count false+l.length≤1000→SInv m s Y l→z3s N m F Y l=some (reachL m s)
 |0,_,_,h,_,_=>by omega
 |F+1,Y,l,o,p,h=>by
  simp only [z3s]
  rcases List.eq_nil_or_concat l with rfl|⟨k,x,rfl⟩
  ·rw [uo (by simp),q0c b h]
  ·rw [List.concat_eq_append] at h o p⊢
   have B:(k++[x]).length=k.length+1:=by simp
   obtain⟨C,u,v⟩:=h.stk x (by simp)
   have hlast:ix (k++[x]) (((k++[x]).length:Int)-1)=x:=by
    rw [zem,show (((k++[x]).length:Int)-1).toNat=k.length by omega,List.getD_eq_getElem?_getD,List.getElem?_append_right (Nat.le_refl _),Nat.sub_self];rfl
   have hcut:cut (k++[x]) 0 (((k++[x]).length:Int)-1)=k:=by
    unfold cut
    rw [show (((k++[x]).length:Int)-1).toNat-(0:Int).toNat=k.length by omega]
    simp
   rw [uy (by omega),zk (qm (by omega)),zk (show okI (k++[x]) (((k++[x]).length:Int)-1) from⟨by omega,by omega⟩),zk (qm (by omega)),zk ⟨by omega,by omega,by omega⟩,hlast,hcut]
   refine(qc (show zc6 N m x=some (m,x) from rfl)).trans ?_
   have w:((x.toNat:Nat):Int)=x:=by omega
   have z:EInv m s x.toNat 0 (2*Y.count false+k.length) Y k:=by
    refine⟨h.len,h.sound,h.start,v,fun y a=>h.stk y (List.mem_append.2 (.inl a)),fun t c a d A=>h.clo t c a fun q=>?_,fun j f=>by omega,Nat.le_refl _⟩
    rcases List.mem_append.1 q with q|q
    ·exact d q
    ·have:=List.mem_singleton.1 q;omega
   obtain⟨r,n,hi⟩:=q2f (N:=N) b i u (by omega) z
   rw [w] at n
   refine(qc n).trans ?_
   refine zou b i F r.1 r.2 (by have:=hi.mes;omega) (by have:=hi.mes;omega) ⟨hi.len,hi.sound,hi.start,hi.stk,fun t c a d=>?_⟩
   by_cases e:t=x.toNat
   ·subst e
    intro j f g
    exact hi.done j f f g
   ·exact hi.clo t c a d e
theorem zyv(d:MOk m)(f:200≤N)(b:s<m.rows.length):z9y N m (s:Int)=some (reachL m s):=by
 have j:=d.r2
 have a:=zjb (m:=m) b
 unfold z9y
 rw [zk ⟨by omega,by omega,by omega⟩,z7v,zk (qo (by simpa using b)),z4g]
 have g:s<(List.replicate m.rows.length false).length:=by simpa using b
 have h: ∀ t,(List.replicate m.rows.length false).getD t default=false:=fun t=>by
  simp only [List.getD_eq_getElem?_getD,List.getElem?_replicate];split<;>rfl
 have k:((List.replicate m.rows.length false).set s true).count false≤m.rows.length:=by
  refine Nat.le_trans List.count_le_length ?_;simp
 refine Eq.trans (qc (x:=reachL m s) (zou d f N _ _ (by rw [List.length_singleton];omega) (by rw [List.length_singleton];omega) ⟨a.len,a.sound,a.start,fun x hx'=>?_,fun t l c i=>?_⟩)) rfl
 ·rw [List.mem_singleton.1 hx']
  exact⟨by omega,by omega,a.start⟩
 ·rw [z9f g,h] at c
  by_cases e:t=s
  ·subst e;exact absurd (List.mem_singleton.2 rfl) i
  ·rw [if_neg e] at c;cases c
end r
end GV
end Go.Proofs.YtplgbkaollfmkaaGreat

namespace Go.Proofs.YtplgbkaollfmkaaGreat
namespace GV
set_option maxRecDepth 100000
section k
variable {m : Mach} {N : Nat}
noncomputable def rB(m:Mach)(s t:Nat):Bool:=(reachL m s).getD t default
theorem zuo{s t:Nat}(a:t<m.rows.length):rB m s t=true↔Reach m s t:=z9l a
theorem q4r{s:Nat}(a:s<m.rows.length):rB m s s=true:=(zuo a).2 .refl
theorem q70{a s i:Nat}{d Y:List Bool}(h:RPass m a d s i Y)(f:Y.getD s default=false):RPass m a d (s+1) 0 Y:=
 ⟨h.len,h.sound,h.start,h.fix,h.prog.imp id fun⟨e,g⟩=>⟨e,fun t k b j n c l=>by
  by_cases q:t=s
  ·subst q;rw [f] at b;cases b
  ·exact g t k b j (by omega) c l⟩⟩
theorem zrq(b:MOk m)(z:200≤N){s t:Nat}(g:s<m.rows.length)(n:t<m.rows.length):l5 N m (s:Int) (t:Int) (m.rows.length:Int)=some (rB m s t):=by
 have A:=b.r2;have o:=b.i1;have p:=b.i2
 unfold l5
 by_cases e:s=t
 ·subst e
  rw [uy rfl,q4r g]
 rw [uo (by omega),zk ⟨by omega,by omega,by omega⟩,z7v,zk (qo (by simpa using g)),z4g]
 have q:dw N m (m.rows.length:Int) N 0 ((List.replicate m.rows.length false).set s true)=some (reachL m s):=by
  refine uk (fun F r Y=>dw N m (m.rows.length:Int) F (r:Int) Y) m.rows.length (fun r Y=>RInv m s r Y) _ (fun F r Y B hi=> .inr ?_) (fun F Y hi=>?_) N 0 _ (Nat.zero_le _) (by omega) (zjb g)
  ·obtain⟨Z,u,v⟩: ∃ Z,dx N m N 0 Y=some Z∧RInv m s (r+1) Z:=by
    refine fo (fun F a Z=>dx N m F (a:Int) Z) m.rows.length (fun a Z=>RPass m s Y a 0 Z) _ (fun F a Z f j=> .inr ?_) (fun F Z j=>?_) N 0 Y (Nat.zero_le _) (by omega) (zvl hi)
    ·have hlen:((m.rows.getD a default).length:Int)=m.inputs:=b.row a f
     obtain⟨V,w,x⟩: ∃ V,dn N m (a:Int) N 0 Z=some V∧RPass m s Y (a+1) 0 V:=by
      refine fo (fun F i V=>dn N m (a:Int) F (i:Int) V) m.inputs.toNat (fun i V=>RPass m s Y a i V) _ (fun F i V hi' c=>?_) (fun F V c=>?_) N 0 Z (Nat.zero_le _) (by omega) j
      ·have d:i<(m.rows.getD a default).length:=by omega
       have k:a<V.length:=by rw [c.len];exact f
       simp only [dn]
       rw [zk (fun _=>qo k),ak,decide_eq_true (show (i:Int)<m.inputs by omega),Bool.true_and]
       cases hy:V.getD a default
       ·exact .inl ⟨V,cf rfl,q70 c hy⟩
       ·refine .inr ?_
        rw [ct rfl,zk (qo f),zk (show okI (ix m.rows (a:Int)) (i:Int) from qo d)]
        have y:(ix (ix m.rows (a:Int)) (i:Int))=(m.rows.getD a default).getD i default:=rfl
        rw [y]
        by_cases hc:((m.rows.getD a default).getD i default).to= -1
        ·refine⟨V,zvw c (by omega),?_⟩
         rw [uo (by omega)]
         refine(qc rfl).trans ?_
         rw [zk (qm (by omega))];rfl
        ·have l:0≤((m.rows.getD a default).getD i default).to∧((m.rows.getD a default).getD i default).to<m.rows.length:=by
          rcases b.edge a i f d with h|h<;>omega
         refine⟨_,q2w b c f d hy l.1,?_⟩
         rw [uy hc,zk (show okI V ((m.rows.getD a default).getD i default).to from⟨l.1,by rw [c.len];omega⟩)]
         refine(qc rfl).trans ?_
         rw [zk (qm (by omega))];rfl
      ·simp only [dn]
       rw [zk (fun h=>by simp at h;omega),decide_eq_false (show¬((m.inputs.toNat:Nat):Int)<m.inputs by omega)]
       exact⟨V,rfl,q1f c (by omega)⟩
     refine⟨V,x,?_⟩
     simp only [dx]
     rw [uy (by omega),qc w,zk (qm (by omega))];rfl
    ·simp only [dx]
     rw [uo (by omega)]
     exact⟨Z,rfl,q0e j (Nat.le_refl _) hi⟩
   refine⟨Z,v,?_⟩
   simp only [dw]
   rw [uy (by omega),qc u,zk (qm (by omega))];rfl
  ·simp only [dw]
   rw [uo (by omega),zrw b g hi (Nat.le_refl _)]
 rw [qc q,zk (qo (by rw [z3i];exact n))]
 rfl
/-! ### Knots-/
noncomputable def eqK(m:Mach)(s t:Nat):Bool:=rB m s t&&rB m t s
theorem zis{s t:Nat}(a:s<m.rows.length)(b:t<m.rows.length):eqK m s t=true↔Reach m s t∧Reach m t s:=by
 unfold eqK
 rw [Bool.and_eq_true,zuo b,zuo a]
theorem q02{s:Nat}(a:s<m.rows.length):eqK m s s=true:=(zis a a).2 ⟨.refl,.refl⟩
theorem zmd{s t:Nat}:eqK m s t=eqK m t s:=by unfold eqK;exact Bool.and_comm _ _
theorem zj6{s t u:Nat}(a:s<m.rows.length)(b:t<m.rows.length)(c:u<m.rows.length)(h:eqK m s t=true)(k:eqK m t u=true):eqK m s u=true:=by
 rw [zis a b] at h
 rw [zis b c] at k
 exact(zis a c).2 ⟨h.1.trans k.1,k.2.trans h.2⟩
noncomputable def kn1(m:Mach)(s:Nat):Nat:=((List.range s).find? fun f=>eqK m s f).getD s
theorem zae(m:Mach){s:Nat}(a:s<m.rows.length):kn1 m s≤s∧eqK m s (kn1 m s)=true∧ ∀ f,f<kn1 m s→eqK m s f=false:=by
 unfold kn1
 cases h:(List.range s).find? fun f=>eqK m s f with
 |none=>
  rw [List.find?_eq_none] at h
  exact⟨Nat.le_refl _,q02 a,fun f b=>by simpa using h f (List.mem_range.2 b)⟩
 |some f=>
  rw [List.find?_range_eq_some] at h
  obtain⟨c,d,e⟩:=h
  have:=List.mem_range.1 d
  exact⟨Nat.le_of_lt this,c,fun g i=>by simpa using e g i⟩
theorem zqt{s t:Nat}(a:s<m.rows.length)(b:t<m.rows.length):kn1 m s=kn1 m t↔eqK m s t=true:=by
 obtain⟨i,c,f⟩:=zae m a
 obtain⟨j,d,g⟩:=zae m b
 constructor
 ·intro e
  exact zj6 a (t:=kn1 m s) (by omega) b c (by rw [e,zmd];exact d)
 ·intro e
  rcases Nat.lt_trichotomy (kn1 m s) (kn1 m t) with h|h|h
  ·have:=g _ h
   rw [zj6 b a (by omega) (by rw [zmd];exact e) c] at this;cases this
  ·exact h
  ·have:=f _ h
   rw [zj6 a b (by omega) e d] at this;cases this
theorem q2l{s:Nat}(a:s<m.rows.length):kn1 m (kn1 m s)=kn1 m s:=by
 obtain⟨c,b,d⟩:=zae m a
 exact(zqt (by omega) a).2 (by rw [zmd];exact b)
noncomputable def knotL(m:Mach)(s:Nat):List Int:=((List.range m.rows.length).filter fun t=>eqK m s t).map fun t:Nat=>(t:Int)
noncomputable def knotsL(m:Mach):List (List Int):=((List.range m.rows.length).filter fun s=>decide (kn1 m s=s)).map (knotL m)
theorem z6j(p:Nat→Bool)(n:Nat):(List.range (n+1)).filter p=(List.range n).filter p++if p n=true then [n] else []:=by
 rw [List.range_succ,List.filter_append]
 congr 1
 by_cases h:p n=true
 ·rw [if_pos h,List.filter_cons_of_pos h];rfl
 ·rw [if_neg h,List.filter_cons_of_neg h];rfl
theorem zb2(p:Nat→Bool)(n:Nat):((List.range n).filter p).length≤n:=Nat.le_trans (List.length_filter_le _ _) (by simp)
theorem zx6(i:MOk m)(p:200≤N){s:Nat}(j:s<m.rows.length):dh N m (s:Int) N true [] 0=some (decide (kn1 m s=s),knotL m s):=by
 have w:=i.r2
 obtain⟨y,u,v⟩:=zae m j
 refine uk (σ:=Bool×List Int) (fun F k x=>dh N m (s:Int) F x.1 x.2 (k:Int)) m.rows.length (fun k x=>x.1=decide (∀ t,t<k→eqK m s t=true→s≤t)∧x.2=((List.range k).filter fun t=>eqK m s t).map fun t:Nat=>(t:Int)) _ (fun F k x r hi=> .inr ?_) (fun F x hi=>?_) N 0 (true,[]) (Nat.zero_le _) (by omega) ⟨(decide_eq_true fun t l=>by omega).symm,rfl⟩
 ·obtain⟨b,X⟩:=x
  obtain⟨c,d⟩:=hi
  dsimp only at c d
  subst d
  have z:=zb2 (fun t=>eqK m s t) k
  simp only [dh]
  refine⟨(decide (∀ t,t<k+1→eqK m s t=true→s≤t),((List.range (k+1)).filter fun t=>eqK m s t).map fun t:Nat=>(t:Int)),⟨rfl,rfl⟩,?_⟩
  rw [uy (by omega)]
  have n:bd (l5 N m (s:Int) (k:Int) (m.rows.length:Int)) (fun f=>bd (gop (true&&(f==true)) (l5 N m (k:Int) (s:Int) (m.rows.length:Int))) fun o=>
   bif f&&(o.getD default) then(gd (fits 8 (((List.range k).filter fun t=>eqK m s t).map fun t:Nat=>(t:Int)) ([(k:Int)]:List Int))<|some (b&&(decide ((s:Int)≤(k:Int))),((((List.range k).filter fun t=>eqK m s t).map fun t:Nat=>(t:Int))++([(k:Int)]:List Int)))) else(some (b,((List.range k).filter fun t=>eqK m s t).map fun t:Nat=>(t:Int))))
   =some (decide (∀ t,t<k+1→eqK m s t=true→s≤t),((List.range (k+1)).filter fun t=>eqK m s t).map fun t:Nat=>(t:Int)):=by
   rw [qc (zrq i p j r),z6j]
   have hstep:decide (∀ t,t<k+1→eqK m s t=true→s≤t)=(b&&(!eqK m s k||decide (s≤k))):=by
    rw [c,Bool.eq_iff_iff]
    simp only [decide_eq_true_eq,Bool.and_eq_true,Bool.or_eq_true,Bool.not_eq_true']
    constructor
    ·intro h
     refine⟨fun t l e=>h t (by omega) e,?_⟩
     cases e:eqK m s k
     ·exact .inl rfl
     ·exact .inr (h k (by omega) e)
    ·rintro⟨g,a⟩ t l e
     by_cases q:t=k
     ·subst q
      rcases a with a|a
      ·rw [e] at a;cases a
      ·exact a
     ·exact g t (by omega) e
   rw [hstep]
   cases g:rB m s k
   ·refine(qc (q5f rfl)).trans ?_
    have:eqK m s k=false:=by unfold eqK;rw [g];rfl
    rw [this]
    simp
   ·refine(zq6 rfl (zrq i p r j)).trans ?_
    have:eqK m s k=rB m k s:=by unfold eqK;rw [g];rfl
    rw [this]
    cases a:rB m k s
    ·simp
    ·simp only [Option.getD_some,Bool.and_self,cond_true,if_true,Bool.not_true,Bool.false_or,List.map_append,List.map_cons,List.map_nil]
     rw [zk (show fits 8 _ ([(k:Int)]:List Int) from⟨by rw [List.length_map,List.length_singleton];omega,by rw [List.length_map,List.length_singleton];omega⟩)]
     have:decide ((s:Int)≤(k:Int))=decide (s≤k):=by rw [Bool.eq_iff_iff];simp
     rw [this]
  rw [qc n,zk (qm (by omega))]
  rfl
 ·obtain⟨b,X⟩:=x
  obtain⟨c,d⟩:=hi
  dsimp only at c d
  simp only [dh]
  rw [uo (by omega),d,c]
  have:decide (∀ t,t<m.rows.length→eqK m s t=true→s≤t)=decide (kn1 m s=s):=by
   rw [Bool.eq_iff_iff,decide_eq_true_eq,decide_eq_true_eq]
   constructor
   ·intro h
    have:=h _ (by omega) u
    omega
   ·intro e t l h
    rcases Nat.lt_or_ge t s with q|q
    ·have:=v t (by omega)
     rw [h] at this;cases this
    ·exact q
  rw [this];rfl
theorem zzj(a:MOk m)(b:200≤N):z3b N m=some (knotsL m):=by
 have d:=a.r2
 unfold z3b
 refine Eq.trans (qc (x:=knotsL m) ?_) rfl
 refine uk (fun F k X=>af N m F X (k:Int)) m.rows.length (fun k X=>X=((List.range k).filter fun s=>decide (kn1 m s=s)).map (knotL m)) _ (fun F k X c hi=> .inr ?_) (fun F X hi=>?_) N 0 [] (Nat.zero_le _) (by omega) rfl
 ·subst hi
  have e:=zb2 (fun s=>decide (kn1 m s=s)) k
  refine⟨_,rfl,?_⟩
  simp only [af]
  rw [uy (by omega),qc (zx6 a b c),z6j]
  by_cases h:kn1 m k=k
  ·rw [decide_eq_true h,if_pos rfl,List.map_append]
   simp only [cond_true,List.map_cons,List.map_nil]
   rw [zk (show fits 24 _ ([knotL m k]:List (List Int)) from⟨by rw [List.length_map,List.length_singleton];omega,by rw [List.length_map,List.length_singleton];omega⟩)]
   refine(qc rfl).trans ?_
   rw [zk (qm (by omega))];rfl
  ·rw [decide_eq_false h,if_neg (by decide),List.append_nil]
   simp only [cond_false]
   refine(qc rfl).trans ?_
   rw [zk (qm (by omega))];rfl
 ·subst hi
  simp only [af]
  rw [uo (by omega)];rfl
end k
end GV
end Go.Proofs.YtplgbkaollfmkaaGreat

namespace Go.Proofs.YtplgbkaollfmkaaGreat
namespace GV
set_option maxRecDepth 100000
section k
variable {m : Mach} {N : Nat}
theorem zhd{α:Type}{X:List α}{n k:Nat}{z y:α}(a:X.length=k)(b:k<n):(X++List.replicate (n-k) z).set k y=(X++[y])++List.replicate (n-(k+1)) z:=by
 subst a
 rw [List.set_append_right _ _ (Nat.le_refl _),Nat.sub_self,show n-X.length=(n-(X.length+1))+1 by omega,List.replicate_succ,List.set_cons_zero,List.append_assoc]
 rfl
noncomputable def allR(m:Mach):List (List Bool):=(List.range m.rows.length).map (reachL m)
theorem zsq{s:Nat}(a:s<m.rows.length):(allR m).getD s default=reachL m s:=by
 unfold allR;simp [List.getD_eq_getElem?_getD,a]
theorem ztb:(allR m).length=m.rows.length:=by simp [allR]
noncomputable def knV(m:Mach):List Int:=(List.range m.rows.length).map fun s=>(kn1 m s:Int)
theorem zvg{s:Nat}(a:s<m.rows.length):(knV m).getD s default=(kn1 m s:Int):=by
 unfold knV;simp [List.getD_eq_getElem?_getD,a]
theorem zfr:(knV m).length=m.rows.length:=by simp [knV]
theorem q90(a:MOk m)(c:200≤N):z11 N m N 0 (mk (m.rows.length:Int) ([]:List Bool))=some (allR m):=by
 have e:=a.r2
 refine uk (fun F k X=>z11 N m F (k:Int) X) m.rows.length (fun k X=>X=(List.range k).map (reachL m)++List.replicate (m.rows.length-k) []) _ (fun F k X b hi=> .inr ⟨_,rfl,?_⟩) (fun F X hi=>?_) N 0 _ (Nat.zero_le _) (by omega) rfl
 ·subst hi
  have d:((List.range k).map (reachL m)).length=k:=by simp
  simp only [z11]
  rw [uy (by rw [z7v,List.length_replicate];omega),qc (zyv a c b),zk (qo (by simp;omega)),zk (qm (by omega)),z4g,zhd d b,List.range_succ,List.map_append]
  rfl
 ·subst hi
  simp only [z11]
  rw [uo (by rw [z7v,List.length_replicate];omega),Nat.sub_self]
  simp [allR]
theorem q5b(c:MOk m){s:Nat}(b:s<m.rows.length){X:List Int}(g:X.length=m.rows.length): ∀ (d F f:Nat),f+d=kn1 m s→d<F→z3w N (allR m) (s:Int) F (X.set s (f:Int))=some (X.set s (kn1 m s:Int))
 |d,0,f,_,h=>by omega
 |d,F+1,f,n,o=>by
  have p:=c.r2
  obtain⟨q,i,j⟩:=zae m b
  have r:(X.set s (f:Int)).length=m.rows.length:=by simp [g]
  have k:(X.set s (f:Int)).getD s default=(f:Int):=by rw [List.getD_eq_getElem?_getD,List.getElem?_set_self (by omega)];rfl
  have a:f<m.rows.length:=by omega
  simp only [z3w]
  rw [ak (X.set s (f:Int)) s,k,zk (qo (by rw [ztb];exact b)),zk (qo (by omega)),ak (allR m) s,zsq b,zk (show okI (reachL m s) (f:Int) from qo (by rw [z3i];exact a)),zk (fun _=>qo (by omega)),zk (fun _=>qo (by rw [ztb];exact a)),ak (allR m) f,zsq a,zk (fun _=>qo (by rw [z3i];exact b)),ak,ak]
  have l:((!(reachL m s).getD f default)||(!(reachL m f).getD s default))= !eqK m s f:=by unfold eqK rB;rw [Bool.not_and]
  rw [l]
  by_cases e:f=kn1 m s
  ·rw [e,i,Bool.not_true,cf rfl]
  ·rw [j f (by omega),Bool.not_false,ct rfl,zk (qo (by omega)),zk (qm (by omega)),zk (qo (by omega)),z4g,List.set_set]
   exact q5b c b g (d-1) F (f+1) (by omega) (by omega)
theorem q89(b:MOk m)(g:200≤N):z14 N m (allR m) N 0 (mk (m.rows.length:Int) (0:Int))=some (knV m):=by
 have h:=b.r2
 refine uk (fun F k X=>z14 N m (allR m) F (k:Int) X) m.rows.length (fun k X=>X=((List.range k).map fun s=>(kn1 m s:Int))++List.replicate (m.rows.length-k) 0) _ (fun F k X a hi=> .inr ⟨_,rfl,?_⟩) (fun F X hi=>?_) N 0 _ (Nat.zero_le _) (by omega) rfl
 ·subst hi
  have c:((List.range k).map fun s=>(kn1 m s:Int)).length=k:=by simp
  have e:(((List.range k).map fun s=>(kn1 m s:Int))++List.replicate (m.rows.length-k) (0:Int)).length=m.rows.length:=by simp;omega
  have f:(((List.range k).map fun s=>(kn1 m s:Int))++List.replicate (m.rows.length-k) (0:Int)).set k ((0:Nat):Int)=((List.range k).map fun s=>(kn1 m s:Int))++List.replicate (m.rows.length-k) 0:=by
   rw [zhd c a,show m.rows.length-k=(m.rows.length-(k+1))+1 by omega,List.replicate_succ,List.append_assoc];rfl
  obtain⟨i,j,l⟩:=zae m a
  have d:=q5b (N:=N) b a e (kn1 m k) N 0 (by omega) (by omega)
  rw [f] at d
  simp only [z14]
  rw [uy (by rw [z7v,List.length_replicate];omega),qc d,zk (qm (by omega)),zhd c a,List.range_succ,List.map_append]
  rfl
 ·subst hi
  simp only [z14]
  rw [uo (by rw [z7v,List.length_replicate];omega),Nat.sub_self]
  simp [knV]
theorem zxf(a:MOk m)(b:200≤N):za2 N m=some (knV m):=by
 have c:=a.r2
 unfold za2
 rw [zk ⟨by omega,by omega,by omega⟩,qc (q90 a b),zk ⟨by omega,by omega,by omega⟩,qc (q89 a b)]
theorem q85(b:MOk m)(d:200≤N){s:Nat}(c:s<m.rows.length)(h:kn1 m s=s):z13 N (knV m) (s:Int) N [] 0=some (knotL m s):=by
 have f:=b.r2
 refine uk (fun F k X=>z13 N (knV m) (s:Int) F X (k:Int)) m.rows.length (fun k X=>X=((List.range k).filter fun t=>eqK m s t).map fun t:Nat=>(t:Int)) _ (fun F k X a hi=> .inr ⟨_,rfl,?_⟩) (fun F X hi=>?_) N 0 [] (Nat.zero_le _) (by omega) rfl
 ·subst hi
  have g:=zb2 (fun t=>eqK m s t) k
  simp only [z13]
  rw [uy (by rw [zfr];omega),zk (qo (by rw [zfr];exact a)),ak,zvg a,z6j]
  have hiff:((kn1 m k:Int)=(s:Int))↔eqK m s k=true:=by
   rw [←zqt c a,h];omega
  by_cases e:eqK m s k=true
  ·rw [uy (hiff.2 e),if_pos e,List.map_append,zk (show fits 8 _ ([(k:Int)]:List Int) from⟨by rw [List.length_map,List.length_singleton];omega,by rw [List.length_map,List.length_singleton];omega⟩)]
   refine(qc rfl).trans ?_
   rw [zk (qm (by omega))];rfl
  ·rw [uo (fun q=>e (hiff.1 q)),if_neg e,List.append_nil]
   refine(qc rfl).trans ?_
   rw [zk (qm (by omega))];rfl
 ·subst hi
  simp only [z13]
  rw [uo (by rw [zfr];omega)];rfl
theorem q95(b:MOk m)(c:200≤N):z16 N (knV m) N [] 0=some (knotsL m):=by
 have e:=b.r2
 refine uk (fun F k X=>z16 N (knV m) F X (k:Int)) m.rows.length (fun k X=>X=((List.range k).filter fun s=>decide (kn1 m s=s)).map (knotL m)) _ (fun F k X a hi=> .inr ⟨_,rfl,?_⟩) (fun F X hi=>?_) N 0 [] (Nat.zero_le _) (by omega) rfl
 ·subst hi
  have f:=zb2 (fun s=>decide (kn1 m s=s)) k
  have d:(knotL m k).length≤m.rows.length:=by unfold knotL;rw [List.length_map];exact zb2 _ _
  simp only [z16]
  rw [uy (by rw [zfr];omega),zk (qo (by rw [zfr];exact a)),ak,zvg a,z6j]
  by_cases h:kn1 m k=k
  ·rw [uo (by rw [h];exact fun q=>q rfl),decide_eq_true h,if_pos rfl,List.map_append,qc (q85 b c a h)]
   have hclip:lv N (knotL m k)=some (knotL m k):=by
    unfold lv
    rw [zk ⟨by omega,by omega,by omega⟩,zj2]
   rw [qc hclip,zk (show fits 24 _ ([knotL m k]:List (List Int)) from⟨by rw [List.length_map,List.length_singleton];omega,by rw [List.length_map,List.length_singleton];omega⟩)]
   refine(qc rfl).trans ?_
   rw [zk (qm (by omega))];rfl
  ·rw [uy (by omega),decide_eq_false h,if_neg (by decide),List.append_nil]
   refine(qc rfl).trans ?_
   rw [zk (qm (by omega))];rfl
 ·subst hi
  simp only [z16]
  rw [uo (by rw [zfr];omega)];rfl
theorem zuk:(knotsL m).length≤m.rows.length:=by unfold knotsL;rw [List.length_map];exact zb2 _ _
theorem zzk(a:MOk m)(b:200≤N)(c:z8l N m=some 0):zaa N m=some (knotsL m,0):=by
 have d:=a.r2
 have e:=zuk (m:=m)
 have hclip:z5c N (knotsL m)=some (knotsL m):=by
  unfold z5c
  rw [zk ⟨by omega,by omega,by omega⟩,zj2]
 unfold zaa
 rw [qc c,uo (by decide),qc (zxf a b),qc (q95 a b),qc hclip]
end k
end GV
end Go.Proofs.YtplgbkaollfmkaaGreat
