
import Derived.Test.YtkcccdcloealfaaGreatBfs06
import Derived.Test.YtkcccdcloealfaaGreatShPl
set_option linter.unusedVariables false
set_option linter.unusedSimpArgs false
namespace Go.Proofs.YtkcccdcloealfaaGreat
namespace GV
set_option maxRecDepth 100000
theorem q6p{N:Nat}{s:List Edge}{f:Edge→Option Bool}{p:Edge→Bool}(b: ∀ k,k<s.length→f (s.getD k default)=some (p (s.getD k default)))(c:s.length<N)(d:s.length≤4611686018427387904):
 z0f N s f=some (zjq p s):=by
 have h:vz N s f N 0=some (if s.any p=true then Ex.rt (zjq p s) else Ex.go ()):=by
  refine ui (σ:=Unit) (fun F k _=>vz N s f F (k:Int)) s.length (fun k _=>(s.take k).any p=false) _ (fun F k _ a hi=>?_) (fun F _ hi=>?_) N 0 () (Nat.zero_le _) (by omega) (by simp)
  ·simp only [vz]
   rw [yf (by omega),zk (qo a),z0a,zx (b k a)]
   cases hp:p (s.getD k default)
   ·right
    refine⟨(),by rw [z9o p s k a,hi,hp];rfl,?_⟩
    rw [cf rfl,zk (qy (by omega))];rfl
   ·left
    rw [ct rfl,if_pos (List.any_eq_true.2 ⟨_,z1t a,hp⟩),zfv p s k a hi hp]
  ·simp only [vz]
   rw [uw (by omega),if_neg (by rw [List.take_length] at hi;rw [hi];decide)]
 unfold z0f
 rw [zx h]
 by_cases ha:s.any p=true
 ·rw [if_pos ha];rfl
 ·rw [if_neg ha,zif p s (by simpa using ha)];rfl
theorem zwu{N:Nat}{s:List Edge}{f:Edge→Option Bool}{p:Edge→Bool}(a: ∀ k,k<s.length→f (s.getD k default)=some (p (s.getD k default)))(b:s.length<N)(c:s.length≤4611686018427387904):
 l8 N s f=some (s.any p):=by
 unfold l8
 rw [zx (q6p a b c),zof]
theorem zcc{N:Nat}{m:Mach}(b:Small m)(f:200≤N):xk N m=some (z0z m):=by
 unfold xk
 by_cases h:(16<m.inputs∨16<m.outputs)∨64<m.rows.length
 ·rw [ct (by simp;omega),zs2 h]
 ·rw [cf (by simp;omega)]
  by_cases h1:(m.inputs<1∨m.outputs<1)∨m.rows.length<1
  ·rw [ct (by simp;omega),zrj h h1]
  ·rw [cf (by simp;omega)]
   have g:=b.r
   have d:z00 N m N 0=some (if m.rows.any (z3w m)=true then Ex.rt 1 else Ex.go ()):=by
    refine ui (σ:=Unit) (fun F k _=>z00 N m F (k:Int)) m.rows.length (fun k _=>(m.rows.take k).any (z3w m)=false) _ (fun F k _ a hi=>?_) (fun F _ hi=>?_) N 0 () (Nat.zero_le _) (by omega) (by simp)
    ·simp only [z00]
     have i:=b.c k a
     rw [yf (by omega),zk (qo a),z0a,zby (fun _=>zwu (p:=fun x=> !zhl m x) (fun j l=>rfl) (by omega) (by omega))]
     have e:(decide (((m.rows.getD k default).length:Int)≠m.inputs)||((bif (true&&(decide (((m.rows.getD k default).length:Int)≠m.inputs)==false)) then some ((m.rows.getD k default).any fun x=> !zhl m x) else none).getD default))=z3w m (m.rows.getD k default):=by
      unfold z3w
      cases decide (((m.rows.getD k default).length:Int)≠m.inputs)<;>rfl
     rw [e]
     cases hr:z3w m (m.rows.getD k default)
     ·right
      refine⟨(),by rw [z9o _ _ k a,hi,hr];rfl,?_⟩
      rw [cf rfl,zk (qy (by omega))];rfl
     ·left
      rw [ct rfl,if_pos (List.any_eq_true.2 ⟨_,z1t a,hr⟩)]
    ·simp only [z00]
     rw [uw (by omega),if_neg (by rw [List.take_length] at hi;rw [hi];decide)]
   rw [zx d]
   by_cases ha:m.rows.any (z3w m)=true
   ·rw [if_pos ha];unfold z0z;rw [if_neg h,if_neg h1,if_pos ha];rfl
   ·rw [if_neg ha,zqf h h1 (by simpa using ha)];rfl
theorem ztl{N:Nat}{m:Mach}(a:MOk m)(f:200≤N):z1s N m=some (zvy m:Int):=by
 have g:=a.r2;have hi1:=a.i1;have hi2:=a.i2
 unfold z1s
 refine Eq.trans (zx (x:=(zvy m:Int)) ?_) rfl
 refine ui (fun F k (s:Int)=>mh N m F s (k:Int)) m.rows.length (fun k s=>s=(zcq m k:Int)) _ (fun F k s b hi=> .inr ?_) (fun F s hi=>?_) N 0 0 (Nat.zero_le _) (by omega) (by simp [zcq])
 ·subst hi
  have hlen:((m.rows.getD k default).length:Int)=m.inputs:=a.row k b
  have d:=zup m a k (by omega)
  have e:gz N m (k:Int) N (zcq m k:Int) 0=some (zcq m (k+1):Int):=by
   rw [zcs m k b]
   refine ui (fun F i (s:Int)=>gz N m (k:Int) F s (i:Int)) m.inputs.toNat (fun i s=>s=((zcq m k+zhi (m.rows.getD k default) i:Nat):Int)) _ (fun F i s hi c=> .inr ?_) (fun F s c=>?_) N 0 _ (Nat.zero_le _) (by omega) (by simp [zib])
   ·subst c
    have hi':i<(m.rows.getD k default).length:=by omega
    refine⟨_,rfl,?_⟩
    simp only [gz]
    have h:=zu8 (m.rows.getD k default) i
    rw [yf (by omega),zk (qo b),zk (show okI (ix m.rows (k:Int)) (i:Int) from qo hi'),zi3 _ _ hi']
    by_cases h0:0≤((m.rows.getD k default).getD i default).to
    ·rw [if_pos h0]
     refine Eq.trans (zx (x:=((zcq m k+(zhi (m.rows.getD k default) i+1):Nat):Int)) ?_) ?_
     ·refine Eq.trans (yf h0) ?_
      rw [zk (qy (by omega))];rfl
     ·rw [zk (qy (by omega))];rfl
    ·rw [if_neg h0]
     refine Eq.trans (zx (x:=((zcq m k+(zhi (m.rows.getD k default) i+0):Nat):Int)) ?_) ?_
     ·exact uw h0
     ·rw [zk (qy (by omega))];rfl
   ·subst c
    simp only [gz]
    rw [uw (by omega),show m.inputs.toNat=(m.rows.getD k default).length by omega]
  refine⟨_,rfl,?_⟩
  simp only [mh]
  rw [yf (by omega),zx e,zk (qy (by omega))];rfl
 ·subst hi
  simp only [mh]
  rw [uw (by omega)];rfl
theorem zpp{N:Nat}{m:Mach}(a:MOk m)(b:200≤N):z1c N m=some (z8z m):=by
 unfold z1c
 have:=a.mul
 rw [zx (ztl a b),zk (qy (by rw [this.2];omega))];rfl
theorem zkz{N:Nat}{m:Mach}(b:MOk m)(t:200≤N){a:Nat}(f:a<m.rows.length):ig N m (a:Int)=some (reachL m a):=by
 have u:=b.r2;have hi1:=b.i1;have hi2:=b.i2
 unfold ig
 rw [zk ⟨by omega,by omega,by omega⟩,z8x,zk (qo (by simpa using f)),z7h]
 refine Eq.trans (zx (x:=reachL m a) ?_) rfl
 refine ui (fun F r Y=>mf N m F (r:Int) Y) m.rows.length (fun r Y=>RInv m a r Y) _ (fun F r Y v hi=> .inr ?_) (fun F Y hi=>?_) N 0 _ (Nat.zero_le _) (by omega) (zx9 f)
 ·obtain⟨Z,k,l⟩: ∃ Z,gu N m N 0 Y=some Z∧RInv m a (r+1) Z:=by
   refine z3c (fun F s Z=>gu N m F (s:Int) Z) m.rows.length (fun s Z=>RPass m a Y s 0 Z) _ (fun F s Z e g=> .inr ?_) (fun F Z g=>?_) N 0 Y (Nat.zero_le _) (by omega) (q37 hi)
   ·have hlen:((m.rows.getD s default).length:Int)=m.inputs:=b.row s e
    obtain⟨V,n,o⟩: ∃ V,gp N m (s:Int) N 0 Z=some V∧RPass m a Y (s+1) 0 V:=by
     refine z3c (fun F i V=>gp N m (s:Int) F (i:Int) V) m.inputs.toNat (fun i V=>RPass m a Y s i V) _ (fun F i V hi' d=> .inr ?_) (fun F V d=>?_) N 0 Z (Nat.zero_le _) (by omega) g
     ·have c:i<(m.rows.getD s default).length:=by omega
      have j:s<V.length:=by rw [d.len];exact e
      simp only [gp]
      rw [yf (by omega),zk (qo e),zk (show okI (ix m.rows (s:Int)) (i:Int) from qo c),zk (qo j)]
      by_cases hc:V.getD s default=true∧0≤((m.rows.getD s default).getD i default).to
      ·refine⟨_,q5h b d e c hc.1 hc.2,?_⟩
       have p:((m.rows.getD s default).getD i default).to.toNat<V.length:=by
        rw [d.len];rcases b.edge s i e c with h|h<;>omega
       refine Eq.trans (zx (x:=V.set ((m.rows.getD s default).getD i default).to.toNat true) ?_) ?_
       ·refine Eq.trans (ct (by show (V.getD s default&&decide (0≤((m.rows.getD s default).getD i default).to))=true;rw [hc.1,decide_eq_true hc.2];rfl)) ?_
        exact zk (show okI V ((m.rows.getD s default).getD i default).to from⟨hc.2,by omega⟩)
       ·rw [zk (qy (by omega))];rfl
      ·refine⟨V,q3y d hc,?_⟩
       refine Eq.trans (zx (x:=V) ?_) ?_
       ·refine cf (show (V.getD s default&&decide (0≤((m.rows.getD s default).getD i default).to))=false from ?_)
        cases h1:V.getD s default
        ·rfl
        ·exact decide_eq_false fun q=>hc ⟨h1,q⟩
       ·rw [zk (qy (by omega))];rfl
     ·simp only [gp]
      rw [uw (by omega)]
      exact⟨V,rfl,q6d d (by omega)⟩
    refine⟨V,o,?_⟩
    simp only [gu]
    rw [yf (by omega),zx n,zk (qy (by omega))];rfl
   ·simp only [gu]
    rw [uw (by omega)]
    exact⟨Z,rfl,q5q g (Nat.le_refl _) hi⟩
  refine⟨Z,l,?_⟩
  simp only [mf]
  rw [yf (by omega),zx k,zk (qy (by omega))];rfl
 ·simp only [mf]
  rw [uw (by omega),q0g b f hi (Nat.le_refl _)]
theorem zkj{N:Nat}{m:Mach}(b:MOk m)(c:200≤N):dx N m=some (connB m):=by
 have g:=b.r2;have d:=b.r1
 unfold dx
 rw [zx (show ig N m 0=_ from zkz (a:=0) b c (by omega))]
 have h:=z9a m 0
 have e:yw N (reachL m 0) N 0=some (if connB m=true then Ex.go () else Ex.rt false):=by
  refine ui (σ:=Unit) (fun F k _=>yw N (reachL m 0) F (k:Int)) m.rows.length (fun k _=> ∀ j,j<k→(reachL m 0).getD j default=true) _ (fun F k _ f hi=>?_) (fun F _ hi=>?_) N 0 () (Nat.zero_le _) (by omega) (fun j i=>by omega)
  ·simp only [yw]
   rw [yf (by omega),zk (qo (by omega)),z0a]
   cases hb:(reachL m 0).getD k default
   ·left
    refine Eq.trans (ct rfl) ?_
    rw [zul f hb];rfl
   ·right
    refine⟨(),zcj hi hb,Eq.trans (cf rfl) ?_⟩
    rw [zk (qy (by omega))];rfl
  ·simp only [yw]
   rw [uw (by omega),zv1 hi];rfl
 rw [zx e]
 cases connB m<;>rfl
/-! ### Words-/
theorem q6g{N:Nat}{s:List Int}{f:Int→Option Bool}{p:Int→Bool}(b: ∀ k,k<s.length→f (s.getD k default)=some (p (s.getD k default)))(c:s.length<N)(d:s.length≤4611686018427387904):
 z2h N s f=some (zjq p s):=by
 have h:dh N s f N 0=some (if s.any p=true then Ex.rt (zjq p s) else Ex.go ()):=by
  refine ui (σ:=Unit) (fun F k _=>dh N s f F (k:Int)) s.length (fun k _=>(s.take k).any p=false) _ (fun F k _ a hi=>?_) (fun F _ hi=>?_) N 0 () (Nat.zero_le _) (by omega) (by simp)
  ·simp only [dh]
   rw [yf (by omega),zk (qo a),z0a,zx (b k a)]
   cases hp:p (s.getD k default)
   ·right
    refine⟨(),by rw [z9o p s k a,hi,hp];rfl,?_⟩
    rw [cf rfl,zk (qy (by omega))];rfl
   ·left
    rw [ct rfl,if_pos (List.any_eq_true.2 ⟨_,z1t a,hp⟩),zfv p s k a hi hp]
  ·simp only [dh]
   rw [uw (by omega),if_neg (by rw [List.take_length] at hi;rw [hi];decide)]
 unfold z2h
 rw [zx h]
 by_cases ha:s.any p=true
 ·rw [if_pos ha];rfl
 ·rw [if_neg ha,zif p s (by simpa using ha)];rfl
theorem znh{N:Nat}{s:List Int}{f:Int→Option Bool}{p:Int→Bool}(a: ∀ k,k<s.length→f (s.getD k default)=some (p (s.getD k default)))(b:s.length<N)(c:s.length≤4611686018427387904):
 z14 N s f=some (s.any p):=by
 unfold z14
 rw [zx (q6g a b c),zof]
theorem zt7{N:Nat}{a b:List Int}(f:a.length<N)(g:a.length≤4611686018427387904):z1o N a b=some (cmpL a b):=by
 unfold z1o cmpL
 by_cases h1:a.length<b.length
 ·rw [yf (by omega),if_pos h1]
 ·rw [uw (by omega),if_neg h1]
  by_cases h2:b.length<a.length
  ·rw [yf (by omega),if_pos h2]
  ·rw [uw (by omega),if_neg h2]
   have h:a.length=b.length:=by omega
   have e:bn N a b N 0=some (if zia a b=0 then Ex.go () else Ex.rt (zia a b)):=by
    refine ui (σ:=Unit) (fun F k _=>bn N a b F (k:Int)) a.length (fun k _=>zia (a.drop k) (b.drop k)=zia a b) _ (fun F k _ d hi=>?_) (fun F _ hi=>?_) N 0 () (Nat.zero_le _) (by omega) rfl
    ·simp only [bn]
     rw [yf (by omega),zk (qo d),zk (qo (by omega))]
     have c:=zxy d (show k<b.length by omega)
     rw [hi] at c
     by_cases h3:a.getD k default<b.getD k default
     ·left
      refine Eq.trans (yf h3) ?_
      rw [if_pos h3] at c;rw [c];rfl
     ·refine(show _∨_ from ?_)
      rw [if_neg h3] at c
      by_cases h4:b.getD k default<a.getD k default
      ·left
       refine Eq.trans (uw h3) ?_
       rw [zk (qo d),zk (qo (by omega))]
       refine Eq.trans (yf h4) ?_
       rw [if_pos h4] at c;rw [c];rfl
      ·right
       rw [if_neg h4] at c
       refine⟨(),c.symm,Eq.trans (uw h3) ?_⟩
       rw [zk (qo d),zk (qo (by omega))]
       refine Eq.trans (uw h4) ?_
       rw [zk (qy (by omega))];rfl
    ·simp only [bn]
     rw [uw (by omega)]
     have:zia a b=0:=by rw [←hi,List.drop_of_length_le (Nat.le_refl _)];rfl
     rw [if_pos this]
   rw [zx e]
   by_cases h5:zia a b=0
   ·rw [if_pos h5,h5];rfl
   ·rw [if_neg h5];rfl
theorem zhp{N:Nat}{a b:List Int}(c:a.length<N)(d:a.length≤4611686018427387904):ay N a b=some (decide (a=b)):=by
 unfold ay
 rw [zx (zt7 c d)]
 by_cases h:a=b
 ·rw [decide_eq_true h,decide_eq_true ((cmpL_eq a b).2 h)]
 ·rw [decide_eq_false h,decide_eq_false (fun e=>h ((cmpL_eq a b).1 e))]
theorem q2a{N:Nat}{l w:List Int}{e f:Int}(a:l.length<N)(b:l.length≤4611686018427387904):z0t N l e w f=some (decide (e=f)&&decide (l=w)):=by
 unfold z0t
 rw [zby (fun _=>zhp a b)]
 by_cases h:e=f
 ·rw [decide_eq_true h];simp
 ·rw [decide_eq_false h];simp
theorem zvu{N:Nat}{m:Mach}(a:MOk m){s i:Int}(b:SOk m s)(hi:0≤i∧i<m.inputs):z1w N m s i=some (z0h m s i):=by
 unfold z1w z0h
 rcases b with h|h
 ·rw [h];rfl
 ·have hrow:=a.row s.toNat (by omega)
  rw [uw (by omega),if_neg (by omega),zk h,zk (show okI (ix m.rows s) i from⟨hi.1,by rw [zo7,hrow];exact hi.2⟩)];rfl
theorem zfb{N:Nat}{m:Mach}(d:MOk m){s:Int}{w:List Int}(f:SOk m s)(e:WOk m.inputs w)(g:w.length<N)(h:w.length≤1000000):yg N m s w=some (z2x m s w):=by
 unfold yg
 refine Eq.trans (zx (x:=z2x m s w) ?_) rfl
 refine ui (σ:=Int×List Int) (fun F k x=>fq N m w F x.1 x.2 (k:Int)) w.length (fun k x=>x.1=z0e m s (w.take k)∧x.2=z2x m s (w.take k)) _ (fun F k x a hi=> .inr ?_) (fun F x hi=>?_) N 0 (s,[]) (Nat.zero_le _) (by omega) (by simp [z0e,z2x])
 ·obtain⟨t,X⟩:=x
  obtain⟨rfl,rfl⟩:=hi
  have b:=zex m d s (w.take k) f (q1k e k)
  refine⟨(z0e m s (w.take (k+1)),z2x m s (w.take (k+1))),⟨rfl,rfl⟩,?_⟩
  simp only [fq]
  have c:=z4m m s (w.take k)
  rw [List.length_take] at c
  rw [yf (by omega),zk (qo a)]
  refine Eq.trans (zx (zvu d b (show 0≤w.getD k default∧w.getD k default<m.inputs from e k a))) ?_
  rw [zk ⟨by simp;omega,by simp;omega⟩,zk (qy (by omega)),zwj m s w k a,zxq m s w k a];rfl
 ·obtain⟨t,X⟩:=x
  obtain⟨rfl,rfl⟩:=hi
  simp only [fq]
  rw [uw (by omega),List.take_length]
theorem zvq{N:Nat}{m:Mach}(a:MOk m): ∀ (F:Nat) (s:Int) (w:List Int),SOk m s→WOk m.inputs w→w.length<F→lu N F m s w=some (z0e m s w)
 |0,s,w,_,_,h=>by omega
 |F+1,s,[],b,_,_=>rfl
 |F+1,s,i::w,b,c,h=>by
  have hi:0≤i∧i<m.inputs:=by simpa using c 0 (by simp)
  simp only [lu]
  rw [uw (by simp;omega),zk (show okI (i::w) 0 from qo (k:=0) (by simp))]
  refine Eq.trans (zx (zvu a b (show 0≤i∧i<m.inputs from hi))) ?_
  rw [zk ⟨by omega,by simp;omega,by simp⟩]
  have d:cut (i::w) 1 (((i::w).length:Nat):Int)=w:=by simp [cut]
  rw [d]
  refine Eq.trans (zx (zvq (N:=N) a F _ w (zki m a s i b hi).1 (fun k e=>by simpa using c (k+1) (by simpa using e)) (by simpa using h))) ?_
  rfl
theorem zy7{N:Nat}{m:Mach}(p:Small m)(u:200≤N):z3a N m=some (z0z m):=by
 have v:=p.r
 unfold z3a
 by_cases h:(16<m.inputs∨16<m.outputs)∨64<m.rows.length
 ·rw [ct (by simp;omega),zs2 h]
 ·rw [cf (by simp;omega)]
  by_cases h1:(m.inputs<1∨m.outputs<1)∨m.rows.length<1
  ·rw [ct (by simp only [Bool.or_eq_true,decide_eq_true_eq];omega),zrj h h1]
  ·rw [cf (by
    have:(m.rows.length:Int)≠0:=by omega
    simp only [Bool.or_eq_false_iff,decide_eq_false_iff_not];omega)]
   have q:yo N m N 0=some (if m.rows.any (z3w m)=true then Ex.rt 1 else Ex.go ()):=by
    refine ui (σ:=Unit) (fun F k _=>yo N m F (k:Int)) m.rows.length (fun k _=>(m.rows.take k).any (z3w m)=false) _ (fun F k _ d hi=>?_) (fun F _ hi=>?_) N 0 () (Nat.zero_le _) (by omega) (by simp)
    ·have w:=p.c k d
     have j:(bd (gd (okI m.rows (k:Int))<|bif decide (((ix m.rows (k:Int)).length:Int)≠m.inputs) then(some (Ex.rt (Ex.rt 1))) else bg N m (k:Int) N 0) fun l=>Ex.on l (fun s=>gd (in64 ((k:Int)+1))<|yo N m F ((k:Int)+1)) some)=
      if z3w m (m.rows.getD k default)=true then some (Ex.rt 1) else yo N m F ((k+1:Nat):Int):=by
      rw [zk (qo d)]
      by_cases g:((m.rows.getD k default).length:Int)≠m.inputs
      ·have b:z3w m (m.rows.getD k default)=true:=by unfold z3w;rw [decide_eq_true g];rfl
       rw [if_pos b]
       refine Eq.trans (zx (x:=Ex.rt (Ex.rt 1)) (yf g)) rfl
      ·have h2':((ix m.rows (k:Int)).length:Int)=m.inputs:=Decidable.of_not_not g
       have n:bg N m (k:Int) N 0=some (if z3w m (m.rows.getD k default)=true then Ex.rt (Ex.rt 1) else Ex.go ()):=by
        refine ui (σ:=Unit) (fun G i _=>bg N m (k:Int) G (i:Int)) m.inputs.toNat (fun i _=>(((m.rows.getD k default).take i).any fun x=> !zhl m x)=false) _ (fun G i _ hi' e=>?_) (fun G _ e=>?_) N 0 () (Nat.zero_le _) (by have:((m.rows.getD k default).length:Int)=m.inputs:=h2';omega) (by simp)
        ·have a:i<(m.rows.getD k default).length:=by have:((m.rows.getD k default).length:Int)=m.inputs:=h2';omega
         simp only [bg]
         rw [yf (by omega),zk (qo d),zk (show okI (ix m.rows (k:Int)) (i:Int) from qo a)]
         have t:ix (ix m.rows (k:Int)) (i:Int)=(m.rows.getD k default).getD i default:=rfl
         rw [t]
         generalize hxe:(m.rows.getD k default).getD i default=x at*
         by_cases h3:x.to= -1∧x.out= -1
         ·right
          have f:=zz1 (m:=m) (x:=x) (.inl h3)
          refine⟨(),by rw [z9o _ _ i a,e,hxe,f];rfl,?_⟩
          rw [ct (by rw [decide_eq_true h3.1,decide_eq_true h3.2];rfl),zml,zir,zk (qy (by omega))];rfl
         ·rw [cf (by rw [←Bool.decide_and];exact decide_eq_false h3)]
          by_cases h4:0≤x.to∧x.to<m.rows.length∧0≤x.out∧x.out<m.outputs
          ·right
           have f:=zz1 (m:=m) (x:=x) (.inr h4)
           refine⟨(),by rw [z9o _ _ i a,e,hxe,f];rfl,?_⟩
           rw [cf (by simp;omega),zml,zir,zk (qy (by omega))];rfl
          ·left
           have f:=q56 (m:=m) (x:=x) (fun h=>h.elim h3 h4)
           rw [ct (by simp;omega),zml,q8g,if_pos]
           unfold z3w
           rw [Bool.or_eq_true]
           exact .inr (List.any_eq_true.2 ⟨_,z1t a,by rw [hxe];exact f⟩)
        ·simp only [bg]
         rw [uw (by omega),if_neg]
         have o:(m.rows.getD k default).length=m.inputs.toNat:=by have:((m.rows.getD k default).length:Int)=m.inputs:=h2';omega
         rw [←o,List.take_length] at e
         unfold z3w
         rw [e,decide_eq_false g];decide
       refine Eq.trans (zx (Eq.trans (uw (fun h=>h h2')) n)) ?_
       by_cases b:z3w m (m.rows.getD k default)=true
       ·rw [if_pos b,if_pos b];rfl
       ·rw [if_neg b,if_neg b,zir,zk (qy (by omega))];rfl
     simp only [yo]
     rw [yf (by omega),j]
     cases hr:z3w m (m.rows.getD k default)
     ·right
      exact⟨(),by rw [z9o _ _ k d,hi,hr];rfl,if_neg (by decide)⟩
     ·left
      rw [if_pos rfl,if_pos (List.any_eq_true.2 ⟨_,z1t d,hr⟩)]
    ·simp only [yo]
     rw [uw (by omega),if_neg (by rw [List.take_length] at hi;rw [hi];decide)]
   rw [zx q]
   by_cases ha:m.rows.any (z3w m)=true
   ·rw [if_pos ha];unfold z0z;rw [if_neg h,if_neg h1,if_pos ha];rfl
   ·rw [if_neg ha,zqf h h1 (by simpa using ha)];rfl
theorem zxs{N:Nat}{a b:List Edge}(f:a.length<N)(g:a.length≤4611686018427387904):z1p N a b=some (decide (a=b)):=by
 unfold z1p
 by_cases h:(a.length:Int)≠b.length
 ·rw [yf h,decide_eq_false (fun e=>h (by rw [e]))]
 ·rw [uw h]
  have hl':a.length=b.length:=by omega
  have c:bq N a b N 0=some (if a=b then Ex.go () else Ex.rt false):=by
   refine ui (σ:=Unit) (fun F k _=>bq N a b F (k:Int)) a.length (fun k _=> ∀ j,j<k→a.getD j default=b.getD j default) _ (fun F k _ d hi=>?_) (fun F _ hi=>?_) N 0 () (Nat.zero_le _) (by omega) (fun j i=>by omega)
   ·simp only [bq]
    rw [yf (by omega),zk (qo d),zk (qo (by omega))]
    by_cases he:a.getD k default=b.getD k default
    ·right
     refine⟨(),zcj hi he,Eq.trans (uw (show¬ ¬((a.getD k default).to=(b.getD k default).to∧(a.getD k default).out=(b.getD k default).out) from fun h=>h (by rw [he];exact⟨rfl,rfl⟩))) ?_⟩
     rw [zk (qy (by omega))];rfl
    ·left
     refine Eq.trans (yf (show¬((a.getD k default).to=(b.getD k default).to∧(a.getD k default).out=(b.getD k default).out) from fun h=>he (zr5 h))) ?_
     rw [if_neg (fun e=>he (by rw [e]))]
   ·simp only [bq]
    rw [uw (by omega),if_pos (z0d hl' hi)]
  rw [zx c]
  by_cases he:a=b
  ·rw [if_pos he,decide_eq_true he];rfl
  ·rw [if_neg he,decide_eq_false he];rfl
theorem zxu{N:Nat}{a b:List (List Edge)}{f:List Edge→List Edge→Option Bool}(d: ∀ k,k<a.length→f (a.getD k default) (b.getD k default)=some (decide (a.getD k default=b.getD k default)))(i:a.length<N)(l:a.length≤4611686018427387904):
 z0b N a b f=some (decide (a=b)):=by
 unfold z0b
 by_cases h:(a.length:Int)≠b.length
 ·rw [yf h,decide_eq_false (fun e=>h (by rw [e]))]
 ·rw [uw h]
  have hl':a.length=b.length:=by omega
  have g:vv N a b f N 0=some (if a=b then Ex.go () else Ex.rt false):=by
   refine ui (σ:=Unit) (fun F k _=>vv N a b f F (k:Int)) a.length (fun k _=> ∀ j,j<k→a.getD j default=b.getD j default) _ (fun F k _ c hi=>?_) (fun F _ hi=>?_) N 0 () (Nat.zero_le _) (by omega) (fun j m=>by omega)
   ·simp only [vv]
    rw [yf (by omega),zk (qo c),zk (qo (by omega))]
    refine(show _∨_ from ?_)
    have hk':=d k c
    by_cases he:a.getD k default=b.getD k default
    ·rw [decide_eq_true he] at hk'
     right
     refine⟨(),zcj hi he,Eq.trans (zx hk') (Eq.trans (cf rfl) ?_)⟩
     rw [zk (qy (by omega))];rfl
    ·rw [decide_eq_false he] at hk'
     left
     refine Eq.trans (zx hk') (Eq.trans (ct rfl) ?_)
     rw [if_neg (fun e=>he (by rw [e]))]
   ·simp only [vv]
    rw [uw (by omega),if_pos (z0d hl' hi)]
  rw [zx g]
  by_cases he:a=b
  ·rw [if_pos he,decide_eq_true he];rfl
  ·rw [if_neg he,decide_eq_false he];rfl
theorem zz9{N:Nat}{a b:Mach}(d:Small a)(g:Small b)(e:200≤N):z6q N a b=some (zra a b):=by
 unfold z6q zra
 have h:=d.r
 rw [zx (zcc d e),zby (fun _=>zcc g e),zby (fun _=>zxu (fun k f=>zxs (by have:=d.c k f;omega) (by have:=d.c k f;omega)) (by omega) (by omega))]
 cases decide (z0z a=0)
 ·rfl
 ·simp only [Bool.true_and,beq_true,cond_true,Option.getD_some]
  cases decide (z0z b=0)<;>cases decide (a.inputs=b.inputs)<;>cases decide (a.outputs=b.outputs)<;>rfl
theorem zqi{N:Nat}{a b:Mach}(q:Small a)(y:200≤N):z0w N a b=some (decide (a=b)):=by
 have z:=q.r
 unfold z0w
 by_cases h:(a.inputs≠b.inputs∨a.outputs≠b.outputs)∨(a.rows.length:Int)≠b.rows.length
 ·rw [ct (by simpa only [Bool.or_eq_true,decide_eq_true_eq] using h),decide_eq_false]
  rintro rfl
  rcases h with(h|h)|h<;>exact h rfl
 ·rw [cf (by simpa only [Bool.or_eq_false_iff,decide_eq_false_iff_not,not_or] using h)]
  simp only [not_or,Decidable.not_not] at h
  obtain⟨⟨s,t⟩,A⟩:=h
  have h3':a.rows.length=b.rows.length:=by omega
  have d:(a=b)↔a.rows=b.rows:=⟨fun e=>by rw [e],fun e=>zjy.2 ⟨s,t,e⟩⟩
  have u:xm N a b N 0=some (if a.rows=b.rows then Ex.go () else Ex.rt false):=by
   refine ui (σ:=Unit) (fun F k _=>xm N a b F (k:Int)) a.rows.length (fun k _=> ∀ j,j<k→a.rows.getD j default=b.rows.getD j default) _ (fun F k _ f hi=>?_) (fun F _ hi=>?_) N 0 () (Nat.zero_le _) (by omega) (fun j v=>by omega)
   ·have B:=q.c k f
    have m:(bd (gd (okI a.rows (k:Int))<|gd (okI b.rows (k:Int))<|bif decide (((ix a.rows (k:Int)).length:Int)≠((ix b.rows (k:Int)).length:Int)) then(some (Ex.rt (Ex.rt false))) else ng N a b (k:Int) N 0) fun n=>Ex.on n (fun w=>gd (in64 ((k:Int)+1))<|xm N a b F ((k:Int)+1)) some)=
     if a.rows.getD k default=b.rows.getD k default then xm N a b F ((k+1:Nat):Int) else some (Ex.rt false):=by
     rw [zk (qo f),zk (qo (by omega))]
     by_cases g:((ix a.rows (k:Int)).length:Int)≠((ix b.rows (k:Int)).length:Int)
     ·rw [if_neg (show¬a.rows.getD k default=b.rows.getD k default from fun e=>g (congrArg (fun l:List Edge=>(l.length:Int)) e))]
      exact Eq.trans (zx (x:=Ex.rt (Ex.rt false)) (yf g)) rfl
     ·have h4':(a.rows.getD k default).length=(b.rows.getD k default).length:=by
       have:((ix a.rows (k:Int)).length:Int)=((ix b.rows (k:Int)).length:Int):=Decidable.of_not_not g
       exact Int.ofNat.inj this
      have o:ng N a b (k:Int) N 0=some (if a.rows.getD k default=b.rows.getD k default then Ex.go () else Ex.rt (Ex.rt false)):=by
       refine ui (σ:=Unit) (fun G i _=>ng N a b (k:Int) G (i:Int)) (a.rows.getD k default).length (fun i _=> ∀ j,j<i→(a.rows.getD k default).getD j default=(b.rows.getD k default).getD j default) _ (fun G i _ hi' p=>?_) (fun G _ p=>?_) N 0 () (Nat.zero_le _) (by omega) (fun j v=>by omega)
       ·simp only [ng]
        rw [zk (qo f)]
        refine(show _∨_ from ?_)
        have hi2:(i:Int)<((ix a.rows (k:Int)).length:Int):=Int.ofNat_lt.2 hi'
        rw [yf hi2,zk (qo f),zk (show okI (ix a.rows (k:Int)) (i:Int) from qo hi'),zk (qo (by omega)),zk (show okI (ix b.rows (k:Int)) (i:Int) from qo (show i<(b.rows.getD k default).length by omega))]
        by_cases he:(a.rows.getD k default).getD i default=(b.rows.getD k default).getD i default
        ·right
         refine⟨(),zcj p he,Eq.trans (uw (fun h=>h (show ((a.rows.getD k default).getD i default).to=((b.rows.getD k default).getD i default).to∧((a.rows.getD k default).getD i default).out=((b.rows.getD k default).getD i default).out by rw [he];exact⟨rfl,rfl⟩))) ?_⟩
         rw [zk (qy (by omega))];rfl
        ·left
         refine Eq.trans (yf (fun h=>he (zr5 h))) ?_
         rw [if_neg (fun e=>he (by rw [e]))]
       ·simp only [ng]
        have hi2: ¬((((a.rows.getD k default).length:Nat):Int)<((ix a.rows (k:Int)).length:Int)):=Int.lt_irrefl _
        rw [zk (qo f),uw hi2,if_pos (z0d h4' p)]
      refine Eq.trans (zx (Eq.trans (uw g) o)) ?_
      by_cases he:a.rows.getD k default=b.rows.getD k default
      ·rw [if_pos he,if_pos he,zir,zk (qy (by omega))];rfl
      ·rw [if_neg he,if_neg he];rfl
    simp only [xm]
    rw [yf (by omega),m]
    by_cases he:a.rows.getD k default=b.rows.getD k default
    ·right;exact⟨(),zcj hi he,if_pos he⟩
    ·left;rw [if_neg he,if_neg (fun e=>he (by rw [e]))]
   ·simp only [xm]
    rw [uw (by omega),if_pos (z0d h3' hi)]
  rw [zx u]
  by_cases he:a.rows=b.rows
  ·rw [if_pos he,decide_eq_true (d.2 he)];rfl
  ·rw [if_neg he,decide_eq_false (fun e=>he (d.1 e))];rfl
/-! ### Data-/
theorem q5n{N:Nat}{x:MDat}(b:MDOk x)(o:200≤N){s:Nat}(p:s<6):tq N x (s:Int) N [] 0=some (zpe x s):=by
 have q:=b.st;have r:=b.ins;have t:=b.outs
 have hinp:x.inp=1+x.ins%3:=rfl
 refine ui (fun F i acc=>tq N x (s:Int) F acc (i:Int)) x.inp.toNat (fun i acc=>acc=(List.range i).map (zh1 x s)) _ (fun F i acc hi hacc=> .inr ?_) (fun F acc hacc=>?_) N 0 [] (Nat.zero_le _) (by omega) rfl
 ·subst hacc
  refine⟨_,rfl,?_⟩
  have g:=zvx (k:=s) (a:=x.inp) (by omega) (by omega)
  have j:(s:Int)*((1:Int)+x.ins%3)+(i:Int)=((s*x.inp.toNat+i:Nat):Int):=by
   rw [←hinp,g.2.2];rfl
  have hnum:=b.num (s*x.inp.toNat+i)
  simp only [tq]
  rw [yf (by omega)]
  have l:(gd (in64 ((s:Int)*((1:Int)+(x.ins%3))))<|gd (in64 (((s:Int)*((1:Int)+(x.ins%3)))+(i:Int)))<|bif decide (((s:Int)*((1:Int)+(x.ins%3)))+(i:Int)<(x.edges.length:Int)) then(gd (okI x.edges (((s:Int)*((1:Int)+(x.ins%3)))+(i:Int)))<|gd (in64 (ix x.edges (((s:Int)*((1:Int)+(x.ins%3)))+(i:Int))))<|some (ix x.edges (((s:Int)*((1:Int)+(x.ins%3)))+(i:Int)))) else(some (0:Int)))=some (x.num (s*x.inp.toNat+i)):=by
   rw [zk (qy (by rw [←hinp];omega)),j,zk (qy (by omega))]
   unfold MDat.num
   by_cases hk:s*x.inp.toNat+i<x.edges.length
   ·have m:=b.ed _ hk
    rw [yf (by omega),if_pos hk,zk (qo hk),zk (show in64 (ix x.edges ((s*x.inp.toNat+i:Nat):Int)) from qy (show-4611686018427387904≤x.edges.getD (s*x.inp.toNat+i) default∧x.edges.getD (s*x.inp.toNat+i) default≤4611686018427387904 by omega))];rfl
   ·rw [uw (by omega),if_neg hk]
  have hacc:((List.range i).map (zh1 x s)).length=i:=by simp
  refine Eq.trans (zx (x:=(List.range (i+1)).map (zh1 x s)) (Eq.trans (zx l) ?_)) ?_
  ·rw [zk (fun _=>⟨hnum.1,by omega⟩),z2w]
   by_cases hp:x.part=true∧x.num (s*x.inp.toNat+i)%4=3
   ·rw [ct (by rw [hp.1,decide_eq_true hp.2];rfl),zk ⟨by rw [hacc];simp;omega,by rw [hacc];simp;omega⟩,q1y rfl hp]
   ·have c:x.n=1+x.states%6:=rfl
    have d:x.out=1+x.outs%3:=rfl
    have e:0≤x.num (s*x.inp.toNat+i)/4:=by omega
    have f:0≤x.num (s*x.inp.toNat+i)/4/x.n:=Int.ediv_nonneg e (by omega)
    rw [cf (by
     rw [Bool.and_eq_false_iff]
     by_cases h:x.part=true
     ·exact .inr (decide_eq_false fun h'=>hp ⟨h,h'⟩)
     ·exact .inl (by simpa using h)),←c,←d,zk ⟨by omega,by omega,by omega⟩,zk ⟨e,by omega⟩,zk ⟨by omega,by omega,by omega⟩,zk ⟨e,by omega,by omega⟩,zk ⟨f,by omega⟩,zk ⟨by rw [hacc];simp;omega,by rw [hacc];simp;omega⟩,q3q rfl (fun h h'=>hp ⟨h,h'⟩)]
  ·rw [zk (qy (by omega))];rfl
 ·subst hacc
  simp only [tq]
  rw [uw (by omega)];rfl
theorem zj3{N:Nat}{x:MDat}(a:MDOk x)(b:200≤N):ax N x=some (mOf x):=by
 have d:=a.st;have e:=a.ins;have f:=a.outs
 have c:x.n=1+x.states%6:=rfl
 unfold ax
 rw [zk ⟨by omega,by omega⟩,zk (qy (by omega)),zk (qy (by omega)),zk ⟨by omega,by omega⟩,zk (qy (by omega)),zk (qy (by omega)),zk ⟨by omega,by omega⟩,zk (qy (by omega)),zk (qy (by omega))]
 refine Eq.trans (zx (x:=(List.range x.n.toNat).map (zpe x)) ?_) rfl
 refine ui (fun F s acc=>ic N x F (s:Int) acc) x.n.toNat (fun s acc=>acc=(List.range s).map (zpe x)) _ (fun F s acc g hacc=> .inr ?_) (fun F acc hacc=>?_) N 0 [] (Nat.zero_le _) (by omega) rfl
 ·subst hacc
  refine⟨_,rfl,?_⟩
  simp only [ic]
  rw [yf (by omega),zx (q5n a b (by omega)),zk ⟨by simp;omega,by simp;omega⟩,zk (qy (by omega)),z2w];rfl
 ·subst hacc
  simp only [ic]
  rw [uw (by omega)]
theorem ztz{N:Nat}{x:WDat}(b:WDOk x){n:Int}(c:1≤n)(d:200≤N):z0y N x n=some (wOf x n):=by
 unfold z0y
 refine Eq.trans (zx (x:=wOf x n) ?_) rfl
 refine ui (fun F k acc=>ib N x n F acc (k:Int)) (min x.syms.length 12) (fun k acc=>acc=(x.syms.take k).map (· %n)) _ (fun F k acc e hacc=> .inr ?_) (fun F acc hacc=>?_) N 0 [] (Nat.zero_le _) (by omega) (by simp)
 ·subst hacc
  have hk':k<x.syms.length:=by omega
  have a:=b.sy k hk'
  refine⟨_,rfl,?_⟩
  simp only [ib]
  rw [ct (by simp;omega),zk (qo hk'),zk (show in64 (ix x.syms (k:Int)) from qy (show-4611686018427387904≤x.syms.getD k default∧x.syms.getD k default≤4611686018427387904 by omega)),zk (show okR (ix x.syms (k:Int)) n from⟨a.1,by omega⟩),zk ⟨by simp;omega,by simp;omega⟩,zk (qy (by omega)),q1v hk'];rfl
 ·subst hacc
  simp only [ib]
  rw [cf (by simp;omega),q49 (by omega) (by omega) (by omega)]
end GV
end Go.Proofs.YtkcccdcloealfaaGreat

namespace Go.Proofs.YtkcccdcloealfaaGreat
namespace GV
set_option maxRecDepth 100000
def toA(e:BE):Sa:=⟨(e.st:Int),e.par,e.inp⟩
def z0l(n:Nat)(All:List BE):List Bool:=(List.range n).map fun s=>occ All s
theorem z2o(n:Nat)(All:List BE):(z0l n All).length=n:=by simp [z0l]
theorem z7r{n:Nat}{All:List BE}{t:Nat}(h:t<n):(z0l n All).getD t default=occ All t:=by
 simp [z0l,List.getD_eq_getElem?_getD,h]
theorem zrv(All:List BE)(e:BE)(t:Nat):occ (All++[e]) t=(occ All t||decide (e.st=t)):=by simp [occ]
theorem zij{n:Nat}{All:List BE}{e:BE}(h:e.st<n):(z0l n All).set e.st true=z0l n (All++[e]):=by
 refine z0d (by rw [List.length_set,z2o,z2o]) fun k a=>?_
 rw [List.length_set,z2o] at a
 rw [z7r a,zrv,List.getD_eq_getElem?_getD,List.getElem?_set]
 by_cases hek:e.st=k
 ·subst hek
  rw [if_pos rfl,z2o,if_pos h];simp
 ·rw [if_neg hek,←List.getD_eq_getElem?_getD,z7r a];simp [hek]
theorem zpm{n:Nat}{All:List BE}{t:Int}(a:0≤t)(h:t<n):ix (z0l n All) t=occ All t.toNat:=by
 rw [zo7,z7r (by omega)]
theorem zih{All:List BE}{p:Nat}(a:p<All.length):ix ((All.drop p).map toA) 0=toA (All.getD p default):=by
 rw [z92 All p a];rfl
theorem zwg{All:List BE}{p:Nat}:cut ((All.drop p).map toA) 1 (((All.drop p).map toA).length:Int)=(All.drop (p+1)).map toA:=by
 unfold cut
 rw [Int.toNat_natCast,show (1:Int).toNat=1 from rfl,←List.map_drop,List.drop_drop,List.take_of_length_le (by simp only [List.length_map,List.length_drop];omega)]
theorem q3j{N:Nat}{m:Mach}(a:MOk m)(t:200≤N){σ:Type}{s0 p:Nat}{All:List BE}(h:Inv m s0 p 0 All)(b:p<All.length)(s:σ):
 iy N σ m ((All.drop p).map toA) N s 0 (z0l m.rows.length All) ((All.drop (p+1)).map toA)=some (.go (s,z0l m.rows.length (lh m (All.getD p default) All m.inputs.toNat),((lh m (All.getD p default) All m.inputs.toNat).drop (p+1)).map toA)):=by
 have hi1:=a.i1
 have hi2:=a.i2
 have l:=h.rng p b
 have hrow:=a.row _ l
 refine ui (σ:=List Bool×List Sa) (fun F k st=>iy N σ m ((All.drop p).map toA) F s (k:Int) st.1 st.2) m.inputs.toNat
  (fun k st=>st=(z0l m.rows.length (lh m (All.getD p default) All k),((lh m (All.getD p default) All k).drop (p+1)).map toA)) _ (fun F k st n hi=>?_) (fun F st hi=>?_) N 0 _ (Nat.zero_le _) (by omega) rfl
 ·subst hi
  right
  refine⟨_,rfl,?_⟩
  have hinv:=zgq a h b k (by omega)
  have hpre:=z6b m (All.getD p default) All k
  have o:p<(lh m (All.getD p default) All k).length:=by have:=hpre.length_le;omega
  have hlen:=zfc hinv
  have q:=a.r2
  simp only [iy,zih b]
  simp only [show ∀ e:BE,(toA e).fC=(e.st:Int) from fun _=>rfl,z0a]
  rw [yf (by omega)]
  refine(zx (x:=(s,z0l m.rows.length (lh m (All.getD p default) All (k+1)),((lh m (All.getD p default) All (k+1)).drop (p+1)).map toA)) ?_).trans ?_
  ·rw [zk (qo (by omega))]
   have f:((m.rows.getD (All.getD p default).st default).getD k default).to=ed m (All.getD p default).st k:=rfl
   rw [f]
   have g:=z4r a l n
   have i:lh m (All.getD p default) All (k+1)=push m (All.getD p default) (lh m (All.getD p default) All k) k:=rfl
   rw [i]
   unfold push
   by_cases h1:ed m (All.getD p default).st k= -1
   ·rw [if_pos h1,zk (by rw [h1];simp),h1];rfl
   ·obtain⟨c,j⟩:=g.resolve_left h1
    rw [if_neg h1,zk (fun _=>⟨c,by rw [z2o];exact j⟩),zpm c j]
    by_cases d:occ (lh m (All.getD p default) All k) (ed m (All.getD p default).st k).toNat=true
    ·rw [if_pos d,d]
     rw [cf (by simp)]
    ·have h4':=Bool.eq_false_iff.2 d
     have hfit:fits 24 (((lh m (All.getD p default) All k).drop (p+1)).map toA) ([⟨ed m (All.getD p default).st k,((All.getD p default).st:Int),(k:Int)⟩]:List Sa):=by
      have:(((lh m (All.getD p default) All k).drop (p+1)).map toA).length≤64:=by rw [List.length_map,List.length_drop];omega
      exact⟨by simp only [List.length_singleton];omega,by simp only [List.length_singleton];omega⟩
     have r:((lh m (All.getD p default) All k).drop (p+1)).map toA++[(⟨ed m (All.getD p default).st k,((All.getD p default).st:Int),(k:Int)⟩:Sa)]=((lh m (All.getD p default) All k++[(⟨(ed m (All.getD p default).st k).toNat,((All.getD p default).st:Int),(k:Int),(All.getD p default).wd++[(k:Int)]⟩:BE)]).drop (p+1)).map toA:=by
      rw [List.drop_append_of_le_length (by omega),List.map_append]
      congr 1
      show [_]=[_]
      simp only [toA,Int.toNat_of_nonneg c]
     rw [if_neg d,ct (by rw [decide_eq_true h1,h4'];rfl),zk ⟨c,by rw [z2o];exact j⟩,zk hfit]
     exact congrArg some (Prod.ext rfl (Prod.ext (zij (e:=⟨(ed m (All.getD p default).st k).toNat,((All.getD p default).st:Int),(k:Int),(All.getD p default).wd++[(k:Int)]⟩) (by show (ed m _ _).toNat<_;omega)) r))
  ·rw [zk (qy (by omega))];rfl
 ·subst hi
  simp only [iy,zih b]
  simp only [show ∀ e:BE,(toA e).fC=(e.st:Int) from fun _=>rfl,z0a]
  rw [uw (by omega)]
theorem zeh{m:Mach}{g p:Nat}{All:List BE}(h: ¬p<All.length):bfs m g p All=All:=by
 cases g with
 |zero=>rfl
 |succ g=>unfold bfs;rw [if_neg h]
theorem zuk{N:Nat}{m:Mach}(a:MOk m)(c:200≤N){σ:Type}{s0:Nat}(B:Sa→σ→Option (Bool×σ))(f:Nat→σ): ∀ (g p F:Nat) (All:List BE),p+g=m.rows.length→p≤All.length→Inv m s0 p 0 All→g<F→
 (∀ k,p≤k→k<(bfs m g p All).length→B (toA ((bfs m g p All).getD k default)) (f k)=some (true,f (k+1)))→
 z0k N σ B m F (f p) (z0l m.rows.length All) ((All.drop p).map toA)=some (f (bfs m g p All).length)
 |g,p,0,All,_,_,_,i,_=>by omega
 |g,p,F+1,All,o,j,h,i,b=>by
  simp only [z0k]
  by_cases hp:p<All.length
  ·have hlen:=zfc h
   obtain⟨g',rfl⟩: ∃ g',g=g'+1:=⟨g-1,by omega⟩
   have hbfs:bfs m (g'+1) p All=bfs m g' (p+1) (lh m (All.getD p default) All m.inputs.toNat):=by
    show (if p<All.length then _ else _)=_
    rw [if_pos hp]
   have l:((All.drop p).map toA).length=All.length-p:=by simp
   have hget:(bfs m (g'+1) p All).getD p default=All.getD p default:=zq8 (zpj m _ p All) hp
   have d:=(zpj m (g'+1) p All).length_le
   have e:=b p (Nat.le_refl _) (by omega)
   rw [hget] at e
   refine(zx (x:=(Ex.go (f (p+1),z0l m.rows.length (lh m (All.getD p default) All m.inputs.toNat),((lh m (All.getD p default) All m.inputs.toNat).drop (p+1)).map toA):Ex (σ×List Bool×List Sa) σ)) ?_).trans ?_
   ·rw [yf (by omega),zk ⟨by omega,by omega⟩,zk ⟨by omega,by omega,by omega⟩,zih hp,zx (show B ⟨(toA (All.getD p default)).fC,(toA (All.getD p default)).fI,(toA (All.getD p default)).fH⟩ (f p)=some (true,f (p+1)) from e)]
    simp only [Bool.not_true,cond_false]
    rw [zk (show okI m.rows (toA (All.getD p default)).fC from qo (h.rng p hp)),zwg]
    exact q3j a c h hp _
   ·rw [zir]
    have hpre:=(z6b m (All.getD p default) All m.inputs.toNat).length_le
    rw [hbfs] at b⊢
    exact zuk a c B f g' (p+1) F _ (by omega) (by omega) (zm5 (zgq a h hp _ (Nat.le_refl _)) (by omega)) (by omega) fun k q hk'=>b k (by omega) hk'
  ·have n:p=All.length:=by omega
   have l:((All.drop p).map toA).length=0:=by simp;omega
   rw [uw (by omega),zml,q8g,zeh hp,←n]
theorem q4w{N:Nat}{m:Mach}(b:MOk m)(d:200≤N){σ:Type}{s0:Nat}(c:s0<m.rows.length)(B:Sa→σ→Option (Bool×σ))(f:Nat→σ)
 (g: ∀ k,k<(rch m s0).length→B (toA ((rch m s0).getD k default)) (f k)=some (true,f (k+1))):z3q N m (s0:Int) σ B (f 0)=some (f (rch m s0).length):=by
 have h:=b.r2
 have i:=b.r1
 unfold z3q
 rw [zk ⟨by omega,by omega,by omega⟩,z8x,zk (qo (by rw [List.length_replicate];exact c)),z7h]
 have:=zuk (N:=N) b d B f m.rows.length 0 N [⟨s0,-1,-1,[]⟩] (by omega) (Nat.zero_le _) (zlo c) (by omega) (fun k _ a=>g k a)
 have e:(List.replicate m.rows.length false).set s0 true=z0l m.rows.length [⟨s0,-1,-1,[]⟩]:=by
  have:=zij (n:=m.rows.length) (All:=[]) (e:=⟨s0,-1,-1,[]⟩) c
  rw [List.nil_append] at this
  rw [←this]
  congr 1
  refine z0d (by rw [List.length_replicate,z2o]) fun k a=>?_
  rw [List.length_replicate] at a
  rw [z7r a]
  simp [List.getD_eq_getElem?_getD,a,occ]
 rw [e]
 exact this
end GV
end Go.Proofs.YtkcccdcloealfaaGreat

namespace Go.Proofs.YtkcccdcloealfaaGreat
namespace GV
set_option maxRecDepth 100000
def wdOf(P:List BE)(t:Nat):List Int:=((P.find? fun e=>decide (e.st=t)).map (·.wd)).getD []
def z1f(n:Nat)(P:List BE):List (List Int):=(List.range n).map (wdOf P)
theorem z3x(n:Nat)(P:List BE):(z1f n P).length=n:=by simp [z1f]
theorem z8t{n:Nat}{P:List BE}{t:Nat}(h:t<n):(z1f n P).getD t default=wdOf P t:=by
 simp [z1f,List.getD_eq_getElem?_getD,h]
theorem zn8(P:List BE)(e:BE)(t:Nat):wdOf (P++[e]) t=if occ P t=true then wdOf P t else if e.st=t then e.wd else []:=by
 unfold wdOf occ
 rw [List.find?_append]
 by_cases h:(P.any fun e=>decide (e.st=t))=true
 ·rw [if_pos h]
  obtain⟨x,a,b⟩:=List.any_eq_true.1 h
  cases hf:P.find? (fun e=>decide (e.st=t)) with
  |none=>exact absurd b (by simpa using List.find?_eq_none.1 hf x a)
  |some y=>rfl
 ·rw [if_neg h]
  have c:P.find? (fun e=>decide (e.st=t))=none:=List.find?_eq_none.2 fun x a b=>h (List.any_eq_true.2 ⟨x,a,b⟩)
  rw [c]
  by_cases he:e.st=t
  ·simp [he]
  ·simp [he]
theorem zy0{P:List BE}{t:Nat}(h:occ P t=false):wdOf P t=[]:=by
 unfold wdOf occ at*
 have a:P.find? (fun e=>decide (e.st=t))=none:=List.find?_eq_none.2 fun x b c=>by
  have:(P.any fun e=>decide (e.st=t))=true:=List.any_eq_true.2 ⟨x,b,c⟩
  rw [h] at this;cases this
 rw [a];rfl
theorem zsw{n:Nat}{P:List BE}{e:BE}(b:e.st<n)(c:occ P e.st=false):(z1f n P).set e.st e.wd=z1f n (P++[e]):=by
 refine z0d (by rw [List.length_set,z3x,z3x]) fun k a=>?_
 rw [List.length_set,z3x] at a
 rw [z8t a,zn8,List.getD_eq_getElem?_getD,List.getElem?_set]
 by_cases hek:e.st=k
 ·subst hek
  rw [if_pos rfl,z3x,if_pos b,c];simp
 ·rw [if_neg hek,←List.getD_eq_getElem?_getD,z8t a,if_neg hek]
  by_cases h:occ P k=true
  ·rw [if_pos h]
  ·rw [if_neg h,zy0 (Bool.eq_false_iff.2 h)]
theorem zau(P:List BE)(k:Nat)(h:k<P.length):P.take (k+1)=P.take k++[P.getD k default]:=by
 rw [List.take_add_one];simp [List.getD_eq_getElem?_getD,h]
section rch
variable {m : Mach} {s0 : Nat} {P : List BE}
theorem Rch.find(h:Rch m s0 P){j:Nat}: ∀ k,k≤P.length→j<k→wdOf (P.take k) (P.getD j default).st=(P.getD j default).wd
 |0,_,c=>by omega
 |k+1,f,c=>by
  rw [zau P k (by omega),zn8]
  by_cases e:j=k
  ·subst e
   have a:occ (P.take j) (P.getD j default).st=false:=by
    cases hc:occ (P.take j) (P.getD j default).st with
    |false=>rfl
    |true=>
     obtain⟨i,hi,b⟩:=z1m.1 hc
     rw [List.length_take] at hi
     have d:(P.take j).getD i default=P.getD i default:=by simp only [List.getD_eq_getElem?_getD,List.getElem?_take,if_pos (show i<j by omega)]
     rw [d] at b
     have:=h.dis i j (by omega) (by omega) b
     omega
   rw [a,if_neg (by decide),if_pos rfl]
  ·have ih:=Rch.find h k (by omega) (show j<k by omega)
   have a:occ (P.take k) (P.getD j default).st=true:=z1m.2 ⟨j,by rw [List.length_take];omega,by simp only [List.getD_eq_getElem?_getD,List.getElem?_take,if_pos (show j<k by omega)]⟩
   rw [if_pos a,ih]
theorem Rch.fresh(h:Rch m s0 P){k:Nat}(b:k<P.length):occ (P.take k) (P.getD k default).st=false:=by
 cases hc:occ (P.take k) (P.getD k default).st with
 |false=>rfl
 |true=>
  obtain⟨i,hi,a⟩:=z1m.1 hc
  rw [List.length_take] at hi
  have c:(P.take k).getD i default=P.getD i default:=by simp only [List.getD_eq_getElem?_getD,List.getElem?_take,if_pos (show i<k by omega)]
  rw [c] at a
  have:=h.dis i k (by omega) b a
  omega
theorem Rch.wdOf(h:Rch m s0 P){j:Nat}(a:j<P.length):wdOf P (P.getD j default).st=(P.getD j default).wd:=by
 have:=h.find P.length (Nat.le_refl _) a
 rwa [List.take_length] at this
end rch
theorem zp8{N:Nat}{s:List Int}:z2u N s=some s:=by
 unfold z2u
 rw [zk (zog s),zoi]
end GV
end Go.Proofs.YtkcccdcloealfaaGreat

namespace Go.Proofs.YtkcccdcloealfaaGreat
namespace GV
set_option maxRecDepth 100000
def nxt(K:Int):List Int→Option (List Int)
 | []=>none
 |d::r=>match nxt K r with
  |some r'=>some (d::r')
  |none=>if d+1<K then some ((d+1)::List.replicate r.length 0) else none
def z9g(K:Int)(w:List Int):List Int:=(nxt K w).getD (List.replicate w.length 0++[0])
def Dg(K:Int)(w:List Int):Prop:= ∀ d∈w,0≤d∧d<K
theorem ztu{K:Int}{w:List Int}:Dg K w↔WOk K w:=by
 constructor
 ·intro h k a;exact h _ (z1t a)
 ·intro h d b
  obtain⟨k,a,rfl⟩:=List.mem_iff_getElem.1 b
  have:=h k a
  simpa [List.getD_eq_getElem?_getD,a] using this
theorem ze9: ∀ {v:List Int} {n:Nat},(∀ d∈v,0≤d)→ ¬z8b v (List.replicate n 0)
 | [],_,_,h=>h
 |_::_,0,_,h=>h
 |d::v,n+1,a,h=>by
  rw [List.replicate_succ] at h
  have:=a d (by simp)
  rcases h with h|⟨_,h⟩
  ·omega
  ·exact ze9 (fun x b=>a x (by simp [b])) h
theorem zlt{K:Int}: ∀ {w v:List Int},nxt K w=none→Dg K v→ ¬z8b w v
 | [],_,_,_,h=>h
 |_::_,[],_,_,h=>h
 |d::r,e::v,a,b,h=>by
  unfold nxt at a
  cases hr:nxt K r with
  |some r'=>rw [hr] at a;cases a
  |none=>
   rw [hr] at a
   simp only at a
   split at a
   ·cases a
   ·have:=b e (by simp)
    rcases h with h|⟨_,h⟩
    ·omega
    ·exact zlt hr (fun x c=>b x (by simp [c])) h
theorem zkf{K:Int}: ∀ {w u:List Int},nxt K w=some u→u.length=w.length∧(Dg K w→Dg K u)∧z8b w u∧ ∀ v,Dg K v→z8b v u→ ¬z8b w v
 | [],_,h=>by cases h
 |d::r,u,h=>by
  unfold nxt at h
  cases hr:nxt K r with
  |some r'=>
   rw [hr] at h
   simp only [Option.some.injEq] at h
   subst h
   obtain⟨i,j,k,l⟩:=zkf hr
   refine⟨by simp [i],fun c x b=>?_,.inr ⟨rfl,k⟩,fun v g a hlt'=>?_⟩
   ·rcases List.mem_cons.1 b with rfl|b
    ·exact c _ (by simp)
    ·exact j (fun y m=>c y (by simp [m])) x b
   ·cases v with
    |nil=>exact a
    |cons e v=>
     rcases a with a|⟨rfl,a⟩
     ·rcases hlt' with hlt'|⟨rfl,_⟩<;>omega
     ·rcases hlt' with hlt'|⟨_,hlt'⟩
      ·omega
      ·exact l v (fun x b=>g x (by simp [b])) a hlt'
  |none=>
   rw [hr] at h
   simp only at h
   split at h
   ·rename_i hK
    simp only [Option.some.injEq] at h
    subst h
    refine⟨by simp,fun c x b=>?_,.inl (by omega),fun v g a hlt'=>?_⟩
    ·rcases List.mem_cons.1 b with rfl|b
     ·have:=c d (by simp);omega
     ·have:=(List.mem_replicate.1 b).2
      have:=c d (by simp);omega
    ·cases v with
     |nil=>exact a
     |cons e v=>
      have f:Dg K v:=fun x b=>g x (by simp [b])
      rcases a with a|⟨rfl,a⟩
      ·rcases hlt' with hlt'|⟨rfl,hlt'⟩
       ·omega
       ·exact zlt hr f hlt'
      ·exact ze9 (fun x b=>(f x b).1) a
   ·cases h
theorem zrz{K:Int}(q:1≤K){w:List Int}(i:Dg K w):Dg K (z9g K w)∧llt w (z9g K w)∧ ∀ v,Dg K v→llt v (z9g K w)→lle v w:=by
 unfold z9g
 cases h:nxt K w with
 |some u=>
  obtain⟨j,l,m,n⟩:=zkf h
  refine⟨l i,.inr ⟨j.symm,m⟩,fun v f c=>?_⟩
  rcases c with c|⟨g,c⟩
  ·exact .inr (.inl (by simp only [Option.getD_some] at c;omega))
  ·simp only [Option.getD_some] at g c
   rcases zbj (a:=v) (b:=w) (by omega) with k|rfl|k
   ·exact .inr (.inr ⟨by omega,k⟩)
   ·exact .inl rfl
   ·exact absurd k (n v f c)
 |none=>
  simp only [Option.getD_none]
  have e:List.replicate w.length (0:Int)++[0]=List.replicate (w.length+1) 0:=by rw [List.replicate_succ']
  rw [e]
  refine⟨fun d o=>by rw [(List.mem_replicate.1 o).2];omega,.inl (by simp),fun v f c=>?_⟩
  rcases c with c|⟨g,c⟩
  ·rw [List.length_replicate] at c
   by_cases hvl:v.length=w.length
   ·rcases zbj hvl with k|rfl|k
    ·exact .inr (.inr ⟨hvl,k⟩)
    ·exact .inl rfl
    ·exact absurd k (zlt h f)
   ·exact .inr (.inl (by omega))
  ·exact absurd c (ze9 fun x p=>(f x p).1)
theorem zvs{K:Int}{b b':List Int}(h:nxt K b=some b'): ∀ a:List Int,nxt K (a++b)=some (a++b')
 | []=>h
 |d::a=>by
  show (match nxt K (a++b) with|some r'=>some (d::r')|none=>_)=_
  rw [zvs h a];rfl
theorem q2g{K:Int}{w:List Int}:w.length≤(z9g K w).length∧(z9g K w).length≤w.length+1:=by
 unfold z9g
 cases h:nxt K w with
 |some u=>have:=(zkf h).1;simp only [Option.getD_some];omega
 |none=>simp
theorem set_mid{A B:List Int}{c v:Int}:((A++[c])++B).set A.length v=A++v::B:=by
 rw [List.append_assoc,List.set_append_right _ _ (Nat.le_refl _),Nat.sub_self];rfl
theorem zyq{N:Nat}{K:Int}{w:List Int}(o:w.length<N)(q:w.length≤100000)(l:Dg K w)(r:K≤1000):z1x N w K=some (z9g K w):=by
 unfold z1x
 have f:fits 8 ([]:List Int) w:=⟨by simp only [List.length_nil];omega,by simp only [List.length_nil];omega⟩
 rw [zk f,List.nil_append]
 have m:cz N K N ((w.length:Int)-1) w=some (match nxt K w with|some u=>Ex.rt u|none=>Ex.go (List.replicate w.length 0)):=by
  have key:=ui (σ:=List Int) (fun F k s=>cz N K F ((w.length:Int)-1-(k:Int)) s) w.length
   (fun k s=>k≤w.length∧s=w.take (w.length-k)++List.replicate k 0∧nxt K (w.drop (w.length-k))=none) (match nxt K w with|some u=>Ex.rt u|none=>Ex.go (List.replicate w.length 0)) (fun F k s t hi=>?_) (fun F s hi=>?_) N 0 w (Nat.zero_le _) (by omega) ⟨Nat.zero_le _,by simp,by rw [Nat.sub_zero,List.drop_length];rfl⟩
  ·simpa using key
  ·obtain⟨_,rfl,e⟩:=hi
   have b:w.length-1-k<w.length:=by omega
   generalize hpe:w.length-1-k=p at b
   have hidx:(w.length:Int)-1-(k:Int)=(p:Int):=by omega
   have htake:w.take (w.length-k)=w.take p++[w.getD p default]:=by rw [show w.length-k=p+1 by omega];exact z99 w p b
   have hdrop:w.drop p=w.getD p default::w.drop (w.length-k):=by rw [z92 w p b,show p+1=w.length-k by omega]
   have a:(w.take (w.length-k)++List.replicate k (0:Int)).length=w.length:=by simp;omega
   have g:ix (w.take (w.length-k)++List.replicate k (0:Int)) (p:Int)=w.getD p default:=by
    rw [z0a,List.getD_eq_getElem?_getD,List.getElem?_append_left (by rw [List.length_take];omega),List.getElem?_take,if_pos (by omega),←List.getD_eq_getElem?_getD]
   have n:=ztu.1 l p b
   have hsplit:w=w.take p++(w.getD p default::w.drop (w.length-k)):=by rw [←hdrop,List.take_append_drop]
   have hset: ∀ v,up (w.take (w.length-k)++List.replicate k (0:Int)) (p:Int) v=w.take p++v::List.replicate k 0:=fun v=>by
    rw [z7h,htake]
    have:=set_mid (A:=w.take p) (B:=List.replicate k (0:Int)) (c:=w.getD p default) (v:=v)
    rwa [List.length_take,Nat.min_eq_left (by omega)] at this
   have i:(w.drop (w.length-k)).length=k:=by rw [List.length_drop];omega
   have d:nxt K (w.getD p default::w.drop (w.length-k))=if w.getD p default+1<K then some ((w.getD p default+1)::List.replicate k 0) else none:=by
    show (match nxt K (w.drop (w.length-k)) with|some r'=>_|none=>_)=_
    rw [e,i]
   simp only [cz]
   simp only [hidx,g]
   rw [yf (by omega),zk (qo (by rw [a];exact b)),zk (qy (by omega))]
   by_cases hc:w.getD p default+1<K
   ·left
    rw [yf hc,zk (qo (by rw [a];exact b)),zk (qy (by omega)),zk (qo (by rw [a];exact b)),hset]
    rw [if_pos hc] at d
    have hw':nxt K w=some (w.take p++((w.getD p default+1)::List.replicate k 0)):=by
     have:=zvs d (w.take p)
     rwa [←hsplit] at this
    rw [hw']
   ·right
    refine⟨w.take p++0::List.replicate k 0,⟨by omega,?_,?_⟩,?_⟩
    ·rw [show w.length-(k+1)=p by omega,List.replicate_succ]
    ·rw [show w.length-(k+1)=p by omega,hdrop,d,if_neg hc]
    ·rw [uw hc,zk (qo (by rw [a];exact b)),zk (qy (by omega)),hset]
     congr 1
     omega
  ·obtain⟨_,rfl,e⟩:=hi
   rw [Nat.sub_self,List.drop_zero] at e
   simp only [cz]
   rw [uw (by omega),e,Nat.sub_self,List.take_zero,List.nil_append]
 rw [zx (show (gd (in64 ((w.length:Int)-1)) (cz N K N ((w.length:Int)-1) w))=some (match nxt K w with|some u=>Ex.rt u|none=>Ex.go (List.replicate w.length 0)) from by rw [zk (qy (by omega)),m])]
 unfold z9g
 cases h:nxt K w with
 |some u=>rfl
 |none=>
  simp only
  rw [zir]
  have j:fits 8 (List.replicate w.length (0:Int)) ([0]:List Int):=⟨by simp only [List.length_replicate,List.length_singleton];omega,by simp only [List.length_replicate,List.length_singleton];omega⟩
  rw [zk j];rfl
def zl1(K:Int):Nat→List Int
 |0=>[]
 |k+1=>z9g K (zl1 K k)
theorem zu3: ∀ K,1≤K→K≤3→6≤(zl1 K 364).length:=by
 intro K a b
 have:K=1∨K=2∨K=3:=by omega
 rcases this with rfl|rfl|rfl<;>decide+kernel
theorem zrs{K:Int}(a:1≤K): ∀ k,Dg K (zl1 K k)
 |0=>fun d b=>by simp [zl1] at b
 |k+1=>(zrz a (zrs a k)).1
theorem zwl{N:Nat}{m:Mach}(C:MOk m)(hN:400≤N)(h6:m.rows.length≤6)(h3:m.inputs≤3){s0:Nat}(hs:s0<m.rows.length):z1h N m (s0:Int)=some (z1f m.rows.length (rch m s0),z0l m.rows.length (rch m s0)):=by
 have o:=zge C hs
 generalize hPe:rch m s0=P at o⊢
 have hi1:=C.i1
 unfold z1h
 rw [zk ⟨by omega,by omega,by omega⟩,zk ⟨by omega,by omega,by omega⟩]
 have e1:mk (m.rows.length:Int) ([]:List Int)=z1f m.rows.length (P.take 0):=by
  rw [z8x]
  refine z0d (by rw [List.length_replicate,z3x]) fun k u=>?_
  rw [List.length_replicate] at u
  rw [z8t u]
  simp [List.getD_eq_getElem?_getD,u,wdOf]
 have e2:mk (m.rows.length:Int) false=z0l m.rows.length (P.take 0):=by
  rw [z8x]
  refine z0d (by rw [List.length_replicate,z2o]) fun k u=>?_
  rw [List.length_replicate] at u
  rw [z7r u]
  simp [List.getD_eq_getElem?_getD,u,occ]
 have hL:yn N m (s0:Int) N [] (mk (m.rows.length:Int) ([]:List Int)) (mk (m.rows.length:Int) false)=some (z1f m.rows.length P,z0l m.rows.length P):=by
  refine ui (σ:=List Int×List (List Int)×List Bool) (fun F k s=>yn N m (s0:Int) F s.1 s.2.1 s.2.2) 364
   (fun k s=>s.1=zl1 m.inputs k∧s.1.length≤6∧ ∃ c,c≤P.length∧s.2=(z1f m.rows.length (P.take c),z0l m.rows.length (P.take c))∧(∀ j,j<c→llt (P.getD j default).wd s.1)∧ ∀ j,c≤j→j<P.length→lle s.1 (P.getD j default).wd)
   _ (fun F k s u hi=>?_) (fun F s hi=>?_) N 0 ([],_,_) (Nat.zero_le _) (by omega) ⟨rfl,by simp,0,Nat.zero_le _,Prod.ext e1 e2,fun j d=>by omega,fun j _ d=>?_⟩
  ·obtain⟨w,l,is⟩:=s
   obtain⟨A,v,c,Z,p,q,f⟩:=hi
   simp only at A v p q f
   obtain⟨rfl,rfl⟩:=Prod.mk.inj p
   have x:=A▸zrs hi1 k
   have y:=ztu.1 x
   simp only [yn]
   by_cases hlen:w.length<m.rows.length
   ·right
    rw [yf (by omega)]
    have haft:=zvq (N:=N) C N (s0:Int) w (.inr ⟨by omega,by omega⟩) y (by omega)
    have D:=zex m C (s0:Int) w (.inr ⟨by omega,by omega⟩) y
    obtain⟨ag,L,M⟩:=zrz hi1 x
    have ah:=q2g (K:=m.inputs) (w:=w)
    have E:=zyq (N:=N) (K:=m.inputs) (w:=w) (by omega) (by omega) x (by omega)
    have go: ∀ c',c'≤P.length→(∀ j,j<c'→lle (P.getD j default).wd w)→(∀ j,c'≤j→j<P.length→llt w (P.getD j default).wd)→
     (z9g m.inputs w=zl1 m.inputs (k+1)∧(z9g m.inputs w).length≤6∧ ∃ c,c≤P.length∧(z1f m.rows.length (P.take c'),z0l m.rows.length (P.take c'))=(z1f m.rows.length (P.take c),z0l m.rows.length (P.take c))∧(∀ j,j<c→llt (P.getD j default).wd (z9g m.inputs w))∧ ∀ j,c≤j→j<P.length→lle (z9g m.inputs w) (P.getD j default).wd):=fun c' hc' B O=>
     ⟨by rw [A];rfl,by omega,c',hc',rfl,fun j d=>zot (B j d) L,fun j d g=>by
      rcases zwy (z9g m.inputs w) (P.getD j default).wd with h|h|h
      ·exact .inr h
      ·exact .inl h
      ·exact absurd (O j d g) (zdf (M _ (ztu.2 (o.wok j g).1) h))⟩
    have strict: ∀ j,j<P.length→lle w (P.getD j default).wd→(P.getD j default).wd≠w→llt w (P.getD j default).wd:=fun j d h Q=>h.resolve_left fun e=>Q e.symm
    have hsame:z0e m (s0:Int) w= -1∨(0≤z0e m (s0:Int) w∧ix (z0l m.rows.length (P.take c)) (z0e m (s0:Int) w)=true)→
     ∃ s':List Int×List (List Int)×List Bool,(s'.1=zl1 m.inputs (k+1)∧s'.1.length≤6∧ ∃ c,c≤P.length∧s'.2=(z1f m.rows.length (P.take c),z0l m.rows.length (P.take c))∧(∀ j,j<c→llt (P.getD j default).wd s'.1)∧ ∀ j,c≤j→j<P.length→lle s'.1 (P.getD j default).wd)∧
     (bd (bd (lu N N m (s0:Int) w) fun n=>gd ((true&&((decide (0≤n))==true))=true→okI (z0l m.rows.length (P.take c)) n)<|bif (decide (0≤n))&&(!(ix (z0l m.rows.length (P.take c)) n)) then(gd (okI (z0l m.rows.length (P.take c)) n)<|gd (okI (z1f m.rows.length (P.take c)) n)<|some ((up (z1f m.rows.length (P.take c)) n w),(up (z0l m.rows.length (P.take c)) n true))) else(some (z1f m.rows.length (P.take c),z0l m.rows.length (P.take c)))) fun G=>bd (z1x N w m.inputs) fun H=>yn N m (s0:Int) F H G.1 G.2)=yn N m (s0:Int) F s'.1 s'.2.1 s'.2.2:=fun hcase=>by
     refine⟨(z9g m.inputs w,z1f m.rows.length (P.take c),z0l m.rows.length (P.take c)),go c Z (fun j d=> .inr (q j d)) (fun j d g=>strict j g (f j d g) fun e=>?_),?_⟩
     ·have R:=o.aft j g
      rw [e] at R
      rcases hcase with h|⟨h0,h⟩
      ·rw [R] at h;omega
      ·rw [R,zpm (by omega) (by have:=o.rng j g;omega)] at h
       obtain⟨i,hi,r⟩:=z1m.1 h
       rw [List.length_take] at hi
       have hg:(P.take c).getD i default=P.getD i default:=by simp only [List.getD_eq_getElem?_getD,List.getElem?_take,if_pos (show i<c by omega)]
       rw [hg] at r
       have:=o.dis i j (by omega) g (by omega)
       omega
     ·rw [zx (show _=some (z1f m.rows.length (P.take c),z0l m.rows.length (P.take c)) from by
       rw [zx haft]
       rcases hcase with h|⟨h0,h⟩
       ·rw [h,zk (by simp)];rfl
       ·have S:z0e m (s0:Int) w<m.rows.length:=by rcases D with e|e<;>omega
        rw [zk (fun _=>⟨h0,by rw [z2o];exact S⟩),h,cf (by simp)]),zx E]
    by_cases ht:z0e m (s0:Int) w= -1
    ·exact hsame (.inl ht)
    ·obtain⟨I,T⟩:=D.resolve_left ht
     by_cases hseen:ix (z0l m.rows.length (P.take c)) (z0e m (s0:Int) w)=true
     ·exact hsame (.inr ⟨I,hseen⟩)
     ·obtain⟨j,d,r,U⟩:=o.least C _ w rfl y ht
      have V:c≤j:=by
       rcases Nat.lt_or_ge j c with h|h
       ·exfalso
        apply hseen
        rw [zpm I T]
        refine z1m.2 ⟨j,by rw [List.length_take];omega,?_⟩
        simp only [List.getD_eq_getElem?_getD,List.getElem?_take,if_pos h]
        rw [←List.getD_eq_getElem?_getD];omega
       ·exact h
      have t:(P.getD j default).wd=w:=by
       rcases U with h|h
       ·exact h
       ·exact absurd h (zdf (f j V d))
      have W:j=c:=by
       rcases Nat.lt_or_ge c j with h|h
       ·have B:=o.inc c j h d
        rw [t] at B
        exact absurd B (zdf (f c (Nat.le_refl _) (by omega)))
       ·omega
      subst W
      have J:=o.rng j d
      have X:=o.fresh d
      refine⟨(z9g m.inputs w,z1f m.rows.length (P.take (j+1)),z0l m.rows.length (P.take (j+1))),go (j+1) (by omega) (fun i hi=>?_) (fun i hi Y=>?_),?_⟩
      ·by_cases e:i=j
       ·subst e;rw [t];exact .inl rfl
       ·exact .inr (q i (by omega))
      ·have:=o.inc j i (by omega) Y
       rwa [t] at this
      ·rw [zx (show _=some (z1f m.rows.length (P.take (j+1)),z0l m.rows.length (P.take (j+1))) from by
        rw [zx haft,←r]
        rw [←r] at hseen
        rw [zk (fun _=>qo (by rw [z2o];exact J)),ct (by rw [Bool.eq_false_iff.2 hseen];simp),zk (qo (by rw [z2o];exact J)),zk (qo (by rw [z3x];exact J)),z7h,z7h,zij J,←zau P j d]
        have:=zsw J X
        rw [t,←zau P j d] at this
        rw [this]),zx E]
   ·left
    rw [uw (by omega)]
    have z:c=P.length:=by
     rcases Nat.lt_or_ge c P.length with h|h
     ·have B:=(o.wok c h).2
      have O:=o.le
      exact absurd (show llt (P.getD c default).wd w from .inl (by omega)) (zdf (f c (Nat.le_refl _) h))
     ·omega
    rw [z,List.take_length]
  ·obtain⟨w,l,is⟩:=s
   obtain⟨A,v,c,Z,p,q,f⟩:=hi
   simp only at A v p q f
   obtain⟨rfl,rfl⟩:=Prod.mk.inj p
   have h6':=zu3 m.inputs hi1 h3
   rw [←A] at h6'
   simp only [yn]
   rw [uw (by omega)]
   have z:c=P.length:=by
    rcases Nat.lt_or_ge c P.length with h|h
    ·have B:=(o.wok c h).2
     have O:=o.le
     exact absurd (show llt (P.getD c default).wd w from .inl (by omega)) (zdf (f c (Nat.le_refl _) h))
    ·omega
   rw [z,List.take_length]
  ·show lle [] _
   cases hwd:(P.getD j default).wd with
   |nil=>exact .inl rfl
   |cons a b=>exact .inr (.inl (by simp))
 rw [zx hL]
end GV
end Go.Proofs.YtkcccdcloealfaaGreat

namespace Go.Proofs.YtkcccdcloealfaaGreat
namespace GV
set_option maxRecDepth 100000
theorem zbw{N:Nat}{m:Mach}(a:MOk m)(b:200≤N):xk N m=some 0:=by rw [zcc a.small b,(z2y m).2 a]
theorem zso{N:Nat}{m:Mach}(a:MOk m)(b:400≤N)(c:m.rows.length≤6)(d:m.inputs≤3):z2i N m=some (z1f m.rows.length (rch m 0),z0l m.rows.length (rch m 0)):=by
 have e:=a.r1
 unfold z2i
 rw [zx (show z1h N m 0=_ from zwl a b c d (s0:=0) (by omega))]
def z0m(P:List BE):List Int:=P.map fun e=>(e.st:Int)
theorem zbi{N:Nat}{m:Mach}(c:MOk m)(f:200≤N):z3j N m=some (z0m (rch m 0)):=by
 have g:=c.r1
 have h:=c.r2
 have d:=zge c (s0:=0) (by omega)
 generalize hPe:rch m 0=P at d⊢
 have hple:=d.le
 unfold z3j
 rw [zx (show z7w N m 0=some (m,0) from rfl)]
 have key:=q4w (N:=N) c f (s0:=0) (by omega) (σ:=List Int) (fun a b=>
  gd (fits 8 b ([a.fC]:List Int))<|
  some (true,(b++([a.fC]:List Int)))) (fun k=>z0m (P.take k)) (fun k e=>?_)
 ·rw [zx (show z3q N m 0 (List Int) _ ([]:List Int)=_ from key),hPe,List.take_length]
 ·rw [hPe] at e⊢
  have hfit:fits 8 (z0m (P.take k)) ([((P.getD k default).st:Int)]:List Int):=by
   have:(z0m (P.take k)).length≤64:=by unfold z0m;rw [List.length_map,List.length_take];omega
   exact⟨by simp only [List.length_singleton];omega,by simp only [List.length_singleton];omega⟩
  show gd (fits 8 (z0m (P.take k)) ([((P.getD k default).st:Int)]:List Int)) (some (true,(z0m (P.take k)++([((P.getD k default).st:Int)]:List Int))))=_
  rw [zk hfit,zau P k e]
  unfold z0m
  rw [List.map_append];rfl
theorem zxg{N:Nat}{l:List Int}(d:l.length<N)(e:l.length≤1000000){σ:Type}(B:Int→σ→Option (Bool×σ))(f:Nat→σ)(c: ∀ k,k<l.length→B (l.getD k default) (f k)=some (true,f (k+1))):z3b N l σ B (f 0)=some (f l.length):=by
 unfold z3b
 refine ui (σ:=σ) (fun F k s=>ai N σ B l F s (k:Int)) l.length (fun k s=>s=f k) _ (fun F k s a hi=>?_) (fun F s hi=>?_) N 0 (f 0) (Nat.zero_le _) (by omega) rfl
 ·subst hi
  right
  refine⟨_,rfl,?_⟩
  simp only [ai]
  rw [yf (by omega),zk (qo a),z0a]
  refine(zx (c k a)).trans ?_
  refine(cf (b:= !(true,f (k+1)).1) rfl).trans ?_
  exact zk (qy (by omega))
 ·subst hi
  simp only [ai]
  rw [uw (by omega)]
theorem zwc{N:Nat}{s l:List Int}(c:l.length<N)(e:s.length+l.length≤1000000):z0c N s l=some (s++l):=by
 unfold z0c
 have key:=zxg (N:=N) c (by omega) (fun a b=>
  gd (fits 8 b ([a]:List Int))<|
  some (true,(b++([a]:List Int)))) (fun k=>s++l.take k) (fun k d=>?_)
 ·rw [List.take_zero,List.append_nil,List.take_length] at key
  rw [zx key]
 ·have hfit:fits 8 (s++l.take k) ([l.getD k default]:List Int):=by
   have:(s++l.take k).length≤1000000:=by rw [List.length_append,List.length_take];omega
   exact⟨by simp only [List.length_singleton];omega,by simp only [List.length_singleton];omega⟩
  rw [zk hfit,z99 l k d,List.append_assoc]
theorem zy2{N:Nat}{l:List Int}(a:l.length<N)(b:0<l.length)(d:l.length≤1000000):z4t N l=some (z6n l):=by
 unfold z4t z4n
 rw [zx (show (bd (z0c N [] l) fun c=>some c)=some l from by rw [zx (zwc a (by simp;omega))];rfl)]
 unfold slices_Sort_int
 rw [zk ⟨b,by omega⟩];rfl
theorem q10{N:Nat}{m:Mach}(a:MOk m)(b:200≤N):z7p N m=some (z6n (z0m (rch m 0)),0):=by
 have d:=a.r1
 have e:=a.r2
 have c:=zge a (s0:=0) (by omega)
 have g:(z0m (rch m 0)).length=(rch m 0).length:=by simp [z0m]
 have f:=c.le
 have hpos:=c.pos
 unfold z7p
 rw [zx (zbw a b),uw (by simp),zx (zbi a b),zx (show z5q N _=some _ from rfl),zx (zy2 (by omega) (by omega) (by omega)),zx zp8]
def q3l(n:Nat)(P:List BE):List Int:=((List.range n).filter fun s=>occ P s).map fun s=>((s:Nat):Int)
theorem zsx(n:Nat)(P:List BE):(q3l n P).Pairwise (· ≤ ·):=by
 unfold q3l
 rw [List.pairwise_map]
 exact((List.pairwise_lt_range (n:=n)).filter _).imp fun h=>by omega
theorem q17{m:Mach}{s0:Nat}{P:List BE}(h:Rch m s0 P):z6n (z0m P)=q3l m.rows.length P:=by
 refine zat ((zg9 _).trans ?_) (zi0 _) (zsx _ _)
 unfold z0m q3l
 have e:(P.map fun e=>(e.st:Int))=(P.map (·.st)).map fun s=>((s:Nat):Int):=by rw [List.map_map];rfl
 rw [e]
 refine List.Perm.map _ ?_
 have d:(P.map (·.st)).Nodup:=by
  rw [List.nodup_iff_pairwise_ne,List.pairwise_iff_getElem]
  intro i j hi b g e
  rw [List.length_map] at hi b
  rw [List.getElem_map,List.getElem_map] at e
  have:=h.dis i j hi b (by simpa [List.getD_eq_getElem?_getD,b,hi] using e)
  omega
 have c:((List.range m.rows.length).filter fun s=>occ P s).Nodup:=List.Pairwise.filter _ List.nodup_range
 rw [List.perm_ext_iff_of_nodup d c]
 intro a
 rw [List.mem_map,List.mem_filter,List.mem_range,z1m]
 constructor
 ·rintro⟨x,k,rfl⟩
  obtain⟨j,b,rfl⟩:=List.mem_iff_getElem.1 k
  have f:P.getD j default=P[j]:=by simp [List.getD_eq_getElem?_getD,b]
  exact⟨by rw [←f];exact h.rng j b,j,b,by rw [f]⟩
 ·rintro⟨_,j,b,rfl⟩
  exact⟨_,z1t b,rfl⟩
end GV
end Go.Proofs.YtkcccdcloealfaaGreat
