import Derived.Test.YtplgbkaollfmkaaGreatPlain04
import Derived.Test.YtplgbkaollfmkaaGreatShPl
set_option linter.unusedVariables false
set_option linter.unusedSimpArgs false
namespace Go.Proofs.YtplgbkaollfmkaaGreat
namespace GV
set_option maxRecDepth 100000
theorem q6a{N:Nat}{s:List Edge}{f:Edge→Option Bool}{p:Edge→Bool}(b: ∀ k,k<s.length→f (s.getD k default)=some (p (s.getD k default)))(c:s.length<N)(d:s.length≤4611686018427387904):
 z07 N s f=some (zkq p s):=by
 have h:wy N s f N 0=some (if s.any p=true then Ex.rt (zkq p s) else Ex.go ()):=by
  refine uk (σ:=Unit) (fun F k _=>wy N s f F (k:Int)) s.length (fun k _=>(s.take k).any p=false) _ (fun F k _ a hi=>?_) (fun F _ hi=>?_) N 0 () (Nat.zero_le _) (by omega) (by simp)
  ·simp only [wy]
   rw [uy (by omega),zk (qo a),ak,qc (b k a)]
   cases hp:p (s.getD k default)
   ·right
    refine⟨(),by rw [z7o p s k a,hi,hp];rfl,?_⟩
    rw [cf rfl,zk (qm (by omega))];rfl
   ·left
    rw [ct rfl,if_pos (List.any_eq_true.2 ⟨_,lq a,hp⟩),zgs p s k a hi hp]
  ·simp only [wy]
   rw [uo (by omega),if_neg (by rw [List.take_length] at hi;rw [hi];decide)]
 unfold z07
 rw [qc h]
 by_cases ha:s.any p=true
 ·rw [if_pos ha];rfl
 ·rw [if_neg ha,zjz p s (by simpa using ha)];rfl
theorem zzb{N:Nat}{s:List Edge}{f:Edge→Option Bool}{p:Edge→Bool}(a: ∀ k,k<s.length→f (s.getD k default)=some (p (s.getD k default)))(b:s.length<N)(c:s.length≤4611686018427387904):
 rz N s f=some (s.any p):=by
 unfold rz
 rw [qc (q6a a b c),zpz]
theorem zhx{N:Nat}{m:Mach}(b:Small m)(f:200≤N):lu N m=some (z2l m):=by
 unfold lu
 by_cases h:(16<m.inputs∨16<m.outputs)∨64<m.rows.length
 ·rw [ct (by simp;omega),zsf h]
 ·rw [cf (by simp;omega)]
  by_cases h1:(m.inputs<1∨m.outputs<1)∨m.rows.length<1
  ·rw [ct (by simp;omega),zr7 h h1]
  ·rw [cf (by simp;omega)]
   have g:=b.r
   have d:lc N m N 0=some (if m.rows.any (z3q m)=true then Ex.rt 1 else Ex.go ()):=by
    refine uk (σ:=Unit) (fun F k _=>lc N m F (k:Int)) m.rows.length (fun k _=>(m.rows.take k).any (z3q m)=false) _ (fun F k _ a hi=>?_) (fun F _ hi=>?_) N 0 () (Nat.zero_le _) (by omega) (by simp)
    ·simp only [lc]
     have i:=b.c k a
     rw [uy (by omega),zk (qo a),ak,zef (fun _=>zzb (p:=fun x=> !zib m x) (fun j l=>rfl) (by omega) (by omega))]
     have e:(decide (((m.rows.getD k default).length:Int)≠m.inputs)||((bif (true&&(decide (((m.rows.getD k default).length:Int)≠m.inputs)==false)) then some ((m.rows.getD k default).any fun x=> !zib m x) else none).getD default))=z3q m (m.rows.getD k default):=by
      unfold z3q
      cases decide (((m.rows.getD k default).length:Int)≠m.inputs)<;>rfl
     rw [e]
     cases hr:z3q m (m.rows.getD k default)
     ·right
      refine⟨(),by rw [z7o _ _ k a,hi,hr];rfl,?_⟩
      rw [cf rfl,zk (qm (by omega))];rfl
     ·left
      rw [ct rfl,if_pos (List.any_eq_true.2 ⟨_,lq a,hr⟩)]
    ·simp only [lc]
     rw [uo (by omega),if_neg (by rw [List.take_length] at hi;rw [hi];decide)]
   rw [qc d]
   by_cases ha:m.rows.any (z3q m)=true
   ·rw [if_pos ha];unfold z2l;rw [if_neg h,if_neg h1,if_pos ha];rfl
   ·rw [if_neg ha,zsi h h1 (by simpa using ha)];rfl
theorem zv0{N:Nat}{m:Mach}(a:MOk m)(h:200≤N):z1r N m=some (zrg m:Int):=by
 have j:=a.r2;have d:=a.i1;have e:=a.i2
 unfold z1r
 refine Eq.trans (qc (x:=(zrg m:Int)) ?_) rfl
 refine uk (fun F k (s:Int)=>ng N m F s (k:Int)) m.rows.length (fun k s=>s=(zav m k:Int)) _ (fun F k s b hi=> .inr ?_) (fun F s hi=>?_) N 0 0 (Nat.zero_le _) (by omega) (by simp [zav])
 ·subst hi
  have hlen:((m.rows.getD k default).length:Int)=m.inputs:=a.row k b
  have f:=zwa m a k (by omega)
  have g:xk N m (k:Int) N (zav m k:Int) 0=some (zav m (k+1):Int):=by
   rw [z9p m k b]
   refine uk (fun F i (s:Int)=>xk N m (k:Int) F s (i:Int)) m.inputs.toNat (fun i s=>s=((zav m k+zg0 (m.rows.getD k default) i:Nat):Int)) _ (fun F i s hi c=> .inr ?_) (fun F s c=>?_) N 0 _ (Nat.zero_le _) (by omega) (by simp [zk4])
   ·subst c
    have hi':i<(m.rows.getD k default).length:=by omega
    refine⟨_,rfl,?_⟩
    simp only [xk]
    have l:=zl3 (m.rows.getD k default) i
    rw [uy (by omega),zk (qo b),zk (show okI (ix m.rows (k:Int)) (i:Int) from qo hi'),zja _ _ hi']
    by_cases h0:0≤((m.rows.getD k default).getD i default).to
    ·rw [if_pos h0]
     refine Eq.trans (qc (x:=((zav m k+(zg0 (m.rows.getD k default) i+1):Nat):Int)) ?_) ?_
     ·refine Eq.trans (uy h0) ?_
      rw [zk (qm (by omega))];rfl
     ·rw [zk (qm (by omega))];rfl
    ·rw [if_neg h0]
     refine Eq.trans (qc (x:=((zav m k+(zg0 (m.rows.getD k default) i+0):Nat):Int)) ?_) ?_
     ·exact uo h0
     ·rw [zk (qm (by omega))];rfl
   ·subst c
    simp only [xk]
    rw [uo (by omega),show m.inputs.toNat=(m.rows.getD k default).length by omega]
  refine⟨_,rfl,?_⟩
  simp only [ng]
  rw [uy (by omega),qc g,zk (qm (by omega))];rfl
 ·subst hi
  simp only [ng]
  rw [uo (by omega)];rfl
theorem zq9{N:Nat}{m:Mach}(a:MOk m)(b:200≤N):z0x N m=some (oo m):=by
 unfold z0x
 have:=a.mul
 rw [qc (zv0 a b),zk (qm (by rw [this.2];omega))];rfl
theorem zn0{N:Nat}{m:Mach}(b:MOk m)(v:200≤N){a:Nat}(f:a<m.rows.length):ib N m (a:Int)=some (reachL m a):=by
 have w:=b.r2;have k:=b.i1;have l:=b.i2
 unfold ib
 rw [zk ⟨by omega,by omega,by omega⟩,z7v,zk (qo (by simpa using f)),z4g]
 refine Eq.trans (qc (x:=reachL m a) ?_) rfl
 refine uk (fun F r Y=>nk N m F (r:Int) Y) m.rows.length (fun r Y=>RInv m a r Y) _ (fun F r Y y hi=> .inr ?_) (fun F Y hi=>?_) N 0 _ (Nat.zero_le _) (by omega) (zjb f)
 ·obtain⟨Z,n,o⟩: ∃ Z,xh N m N 0 Y=some Z∧RInv m a (r+1) Z:=by
   refine fo (fun F s Z=>xh N m F (s:Int) Z) m.rows.length (fun s Z=>RPass m a Y s 0 Z) _ (fun F s Z e g=> .inr ?_) (fun F Z g=>?_) N 0 Y (Nat.zero_le _) (by omega) (zvl hi)
   ·have hlen:((m.rows.getD s default).length:Int)=m.inputs:=b.row s e
    obtain⟨V,p,q⟩: ∃ V,xn N m (s:Int) N 0 Z=some V∧RPass m a Y (s+1) 0 V:=by
     refine fo (fun F i V=>xn N m (s:Int) F (i:Int) V) m.inputs.toNat (fun i V=>RPass m a Y s i V) _ (fun F i V hi' d=> .inr ?_) (fun F V d=>?_) N 0 Z (Nat.zero_le _) (by omega) g
     ·have c:i<(m.rows.getD s default).length:=by omega
      have j:s<V.length:=by rw [d.len];exact e
      simp only [xn]
      rw [uy (by omega),zk (qo e),zk (show okI (ix m.rows (s:Int)) (i:Int) from qo c),zk (qo j)]
      by_cases hc:V.getD s default=true∧0≤((m.rows.getD s default).getD i default).to
      ·refine⟨_,q2w b d e c hc.1 hc.2,?_⟩
       have t:((m.rows.getD s default).getD i default).to.toNat<V.length:=by
        rw [d.len];rcases b.edge s i e c with h|h<;>omega
       refine Eq.trans (qc (x:=V.set ((m.rows.getD s default).getD i default).to.toNat true) ?_) ?_
       ·refine Eq.trans (ct (by show (V.getD s default&&decide (0≤((m.rows.getD s default).getD i default).to))=true;rw [hc.1,decide_eq_true hc.2];rfl)) ?_
        exact zk (show okI V ((m.rows.getD s default).getD i default).to from⟨hc.2,by omega⟩)
       ·rw [zk (qm (by omega))];rfl
      ·refine⟨V,zvw d hc,?_⟩
       refine Eq.trans (qc (x:=V) ?_) ?_
       ·refine cf (show (V.getD s default&&decide (0≤((m.rows.getD s default).getD i default).to))=false from ?_)
        cases h1:V.getD s default
        ·rfl
        ·exact decide_eq_false fun u=>hc ⟨h1,u⟩
       ·rw [zk (qm (by omega))];rfl
     ·simp only [xn]
      rw [uo (by omega)]
      exact⟨V,rfl,q1f d (by omega)⟩
    refine⟨V,q,?_⟩
    simp only [xh]
    rw [uy (by omega),qc p,zk (qm (by omega))];rfl
   ·simp only [xh]
    rw [uo (by omega)]
    exact⟨Z,rfl,q0e g (Nat.le_refl _) hi⟩
  refine⟨Z,o,?_⟩
  simp only [nk]
  rw [uy (by omega),qc n,zk (qm (by omega))];rfl
 ·simp only [nk]
  rw [uo (by omega),zrw b f hi (Nat.le_refl _)]
theorem q06{N:Nat}{m:Mach}(b:MOk m)(c:200≤N):z0p N m=some (connB m):=by
 have g:=b.r2;have d:=b.r1
 unfold z0p
 rw [qc (show ib N m 0=_ from zn0 (a:=0) b c (by omega))]
 have h:=z3i m 0
 have e:yc N (reachL m 0) N 0=some (if connB m=true then Ex.go () else Ex.rt false):=by
  refine uk (σ:=Unit) (fun F k _=>yc N (reachL m 0) F (k:Int)) m.rows.length (fun k _=> ∀ j,j<k→(reachL m 0).getD j default=true) _ (fun F k _ f hi=>?_) (fun F _ hi=>?_) N 0 () (Nat.zero_le _) (by omega) (fun j i=>by omega)
  ·simp only [yc]
   rw [uy (by omega),zk (qo (by omega)),ak]
   cases hb:(reachL m 0).getD k default
   ·left
    refine Eq.trans (ct rfl) ?_
    rw [q53 f hb];rfl
   ·right
    refine⟨(),zt0 hi hb,Eq.trans (cf rfl) ?_⟩
    rw [zk (qm (by omega))];rfl
  ·simp only [yc]
   rw [uo (by omega),q4p hi];rfl
 rw [qc e]
 cases connB m<;>rfl
/-! ### Words-/
theorem q6i{N:Nat}{s:List Int}{f:Int→Option Bool}{p:Int→Bool}(b: ∀ k,k<s.length→f (s.getD k default)=some (p (s.getD k default)))(c:s.length<N)(d:s.length≤4611686018427387904):
 z2d N s f=some (zkq p s):=by
 have h:gu N s f N 0=some (if s.any p=true then Ex.rt (zkq p s) else Ex.go ()):=by
  refine uk (σ:=Unit) (fun F k _=>gu N s f F (k:Int)) s.length (fun k _=>(s.take k).any p=false) _ (fun F k _ a hi=>?_) (fun F _ hi=>?_) N 0 () (Nat.zero_le _) (by omega) (by simp)
  ·simp only [gu]
   rw [uy (by omega),zk (qo a),ak,qc (b k a)]
   cases hp:p (s.getD k default)
   ·right
    refine⟨(),by rw [z7o p s k a,hi,hp];rfl,?_⟩
    rw [cf rfl,zk (qm (by omega))];rfl
   ·left
    rw [ct rfl,if_pos (List.any_eq_true.2 ⟨_,lq a,hp⟩),zgs p s k a hi hp]
  ·simp only [gu]
   rw [uo (by omega),if_neg (by rw [List.take_length] at hi;rw [hi];decide)]
 unfold z2d
 rw [qc h]
 by_cases ha:s.any p=true
 ·rw [if_pos ha];rfl
 ·rw [if_neg ha,zjz p s (by simpa using ha)];rfl
theorem zoz{N:Nat}{s:List Int}{f:Int→Option Bool}{p:Int→Bool}(a: ∀ k,k<s.length→f (s.getD k default)=some (p (s.getD k default)))(b:s.length<N)(c:s.length≤4611686018427387904):
 ll N s f=some (s.any p):=by
 unfold ll
 rw [qc (q6i a b c),zpz]
theorem zvb{N:Nat}{a b:List Int}(f:a.length<N)(g:a.length≤4611686018427387904):z1k N a b=some (cmpL a b):=by
 unfold z1k cmpL
 by_cases h1:a.length<b.length
 ·rw [uy (by omega),if_pos h1]
 ·rw [uo (by omega),if_neg h1]
  by_cases h2:b.length<a.length
  ·rw [uy (by omega),if_pos h2]
  ·rw [uo (by omega),if_neg h2]
   have h:a.length=b.length:=by omega
   have e:xm N a b N 0=some (if zj5 a b=0 then Ex.go () else Ex.rt (zj5 a b)):=by
    refine uk (σ:=Unit) (fun F k _=>xm N a b F (k:Int)) a.length (fun k _=>zj5 (a.drop k) (b.drop k)=zj5 a b) _ (fun F k _ d hi=>?_) (fun F _ hi=>?_) N 0 () (Nat.zero_le _) (by omega) rfl
    ·simp only [xm]
     rw [uy (by omega),zk (qo d),zk (qo (by omega))]
     have c:=zy2 d (show k<b.length by omega)
     rw [hi] at c
     by_cases h3:a.getD k default<b.getD k default
     ·left
      refine Eq.trans (uy h3) ?_
      rw [if_pos h3] at c;rw [c];rfl
     ·refine(show _∨_ from ?_)
      rw [if_neg h3] at c
      by_cases h4:b.getD k default<a.getD k default
      ·left
       refine Eq.trans (uo h3) ?_
       rw [zk (qo d),zk (qo (by omega))]
       refine Eq.trans (uy h4) ?_
       rw [if_pos h4] at c;rw [c];rfl
      ·right
       rw [if_neg h4] at c
       refine⟨(),c.symm,Eq.trans (uo h3) ?_⟩
       rw [zk (qo d),zk (qo (by omega))]
       refine Eq.trans (uo h4) ?_
       rw [zk (qm (by omega))];rfl
    ·simp only [xm]
     rw [uo (by omega)]
     have:zj5 a b=0:=by rw [←hi,List.drop_of_length_le (Nat.le_refl _)];rfl
     rw [if_pos this]
   rw [qc e]
   by_cases h5:zj5 a b=0
   ·rw [if_pos h5,h5];rfl
   ·rw [if_neg h5];rfl
theorem zt2{N:Nat}{a b:List Int}(c:a.length<N)(d:a.length≤4611686018427387904):ma N a b=some (decide (a=b)):=by
 unfold ma
 rw [qc (zvb c d)]
 by_cases h:a=b
 ·rw [decide_eq_true h,decide_eq_true ((cmpL_eq a b).2 h)]
 ·rw [decide_eq_false h,decide_eq_false (fun e=>h ((cmpL_eq a b).1 e))]
theorem zw0{N:Nat}{m:Mach}(a:MOk m){s i:Int}(b:SOk m s)(hi:0≤i∧i<m.inputs):z1t N m s i=some (ry m s i):=by
 unfold z1t ry
 rcases b with h|h
 ·rw [h];rfl
 ·have hrow:=a.row s.toNat (by omega)
  rw [uo (by omega),if_neg (by omega),zk h,zk (show okI (ix m.rows s) i from⟨hi.1,by rw [zem,hrow];exact hi.2⟩)];rfl
theorem q3j{N:Nat}{m:Mach}(d:MOk m){s:Int}{w:List Int}(f:SOk m s)(e:WOk m.inputs w)(g:w.length<N)(h:w.length≤1000000):z0z N m s w=some (vv m s w):=by
 unfold z0z
 refine Eq.trans (qc (x:=vv m s w) ?_) rfl
 refine uk (σ:=Int×List Int) (fun F k x=>si N m w F x.1 x.2 (k:Int)) w.length (fun k x=>x.1=w9 m s (w.take k)∧x.2=vv m s (w.take k)) _ (fun F k x a hi=> .inr ?_) (fun F x hi=>?_) N 0 (s,[]) (Nat.zero_le _) (by omega) (by simp [w9,vv])
 ·obtain⟨t,X⟩:=x
  obtain⟨rfl,rfl⟩:=hi
  have b:=zhg m d s (w.take k) f (zeg e k)
  refine⟨(w9 m s (w.take (k+1)),vv m s (w.take (k+1))),⟨rfl,rfl⟩,?_⟩
  simp only [si]
  have c:=z2j m s (w.take k)
  rw [List.length_take] at c
  rw [uy (by omega),zk (qo a)]
  refine Eq.trans (qc (zw0 d b (show 0≤w.getD k default∧w.getD k default<m.inputs from e k a))) ?_
  rw [zk ⟨by simp;omega,by simp;omega⟩,zk (qm (by omega)),zb6 m s w k a,zd0 m s w k a];rfl
 ·obtain⟨t,X⟩:=x
  obtain⟨rfl,rfl⟩:=hi
  simp only [si]
  rw [uo (by omega),List.take_length]
theorem zhi{N:Nat}{m:Mach}(a:MOk m): ∀ (F:Nat) (s:Int) (w:List Int),SOk m s→WOk m.inputs w→w.length<F→vg N F m s w=some (w9 m s w)
 |0,s,w,_,_,h=>by omega
 |F+1,s,[],b,_,_=>rfl
 |F+1,s,i::w,b,c,h=>by
  have hi:0≤i∧i<m.inputs:=by simpa using c 0 (by simp)
  simp only [vg]
  rw [uo (by simp;omega),zk (show okI (i::w) 0 from qo (k:=0) (by simp))]
  refine Eq.trans (qc (zw0 a b (show 0≤i∧i<m.inputs from hi))) ?_
  rw [zk ⟨by omega,by simp;omega,by simp⟩]
  have d:cut (i::w) 1 (((i::w).length:Nat):Int)=w:=by simp [cut]
  rw [d]
  refine Eq.trans (qc (zhi (N:=N) a F _ w (zll m a s i b hi).1 (fun k e=>by simpa using c (k+1) (by simpa using e)) (by simpa using h))) ?_
  rfl
theorem zy9{N:Nat}{m:Mach}(p:Small m)(u:200≤N):z2w N m=some (z2l m):=by
 have v:=p.r
 unfold z2w
 by_cases h:(16<m.inputs∨16<m.outputs)∨64<m.rows.length
 ·rw [ct (by simp;omega),zsf h]
 ·rw [cf (by simp;omega)]
  by_cases h1:(m.inputs<1∨m.outputs<1)∨m.rows.length<1
  ·rw [ct (by simp only [Bool.or_eq_true,decide_eq_true_eq];omega),zr7 h h1]
  ·rw [cf (by
    have:(m.rows.length:Int)≠0:=by omega
    simp only [Bool.or_eq_false_iff,decide_eq_false_iff_not];omega)]
   have q:yf N m N 0=some (if m.rows.any (z3q m)=true then Ex.rt 1 else Ex.go ()):=by
    refine uk (σ:=Unit) (fun F k _=>yf N m F (k:Int)) m.rows.length (fun k _=>(m.rows.take k).any (z3q m)=false) _ (fun F k _ d hi=>?_) (fun F _ hi=>?_) N 0 () (Nat.zero_le _) (by omega) (by simp)
    ·have w:=p.c k d
     have j:(bd (gd (okI m.rows (k:Int))<|bif decide (((ix m.rows (k:Int)).length:Int)≠m.inputs) then(some (Ex.rt (Ex.rt 1))) else xy N m (k:Int) N 0) fun l=>Ex.on l (fun s=>gd (in64 ((k:Int)+1))<|yf N m F ((k:Int)+1)) some)=
      if z3q m (m.rows.getD k default)=true then some (Ex.rt 1) else yf N m F ((k+1:Nat):Int):=by
      rw [zk (qo d)]
      by_cases g:((m.rows.getD k default).length:Int)≠m.inputs
      ·have b:z3q m (m.rows.getD k default)=true:=by unfold z3q;rw [decide_eq_true g];rfl
       rw [if_pos b]
       refine Eq.trans (qc (x:=Ex.rt (Ex.rt 1)) (uy g)) rfl
      ·have h2':((ix m.rows (k:Int)).length:Int)=m.inputs:=Decidable.of_not_not g
       have n:xy N m (k:Int) N 0=some (if z3q m (m.rows.getD k default)=true then Ex.rt (Ex.rt 1) else Ex.go ()):=by
        refine uk (σ:=Unit) (fun G i _=>xy N m (k:Int) G (i:Int)) m.inputs.toNat (fun i _=>(((m.rows.getD k default).take i).any fun x=> !zib m x)=false) _ (fun G i _ hi' e=>?_) (fun G _ e=>?_) N 0 () (Nat.zero_le _) (by have:((m.rows.getD k default).length:Int)=m.inputs:=h2';omega) (by simp)
        ·have a:i<(m.rows.getD k default).length:=by have:((m.rows.getD k default).length:Int)=m.inputs:=h2';omega
         simp only [xy]
         rw [uy (by omega),zk (qo d),zk (show okI (ix m.rows (k:Int)) (i:Int) from qo a)]
         have t:ix (ix m.rows (k:Int)) (i:Int)=(m.rows.getD k default).getD i default:=rfl
         rw [t]
         generalize hxe:(m.rows.getD k default).getD i default=x at*
         by_cases h3:x.to= -1∧x.out= -1
         ·right
          have f:=q1t (m:=m) (x:=x) (.inl h3)
          refine⟨(),by rw [z7o _ _ i a,e,hxe,f];rfl,?_⟩
          rw [ct (by rw [decide_eq_true h3.1,decide_eq_true h3.2];rfl),zpn,zkt,zk (qm (by omega))];rfl
         ·rw [cf (by rw [←Bool.decide_and];exact decide_eq_false h3)]
          by_cases h4:0≤x.to∧x.to<m.rows.length∧0≤x.out∧x.out<m.outputs
          ·right
           have f:=q1t (m:=m) (x:=x) (.inr h4)
           refine⟨(),by rw [z7o _ _ i a,e,hxe,f];rfl,?_⟩
           rw [cf (by simp;omega),zpn,zkt,zk (qm (by omega))];rfl
          ·left
           have f:=q6y (m:=m) (x:=x) (fun h=>h.elim h3 h4)
           rw [ct (by simp;omega),zpn,qbo,if_pos]
           unfold z3q
           rw [Bool.or_eq_true]
           exact .inr (List.any_eq_true.2 ⟨_,lq a,by rw [hxe];exact f⟩)
        ·simp only [xy]
         rw [uo (by omega),if_neg]
         have o:(m.rows.getD k default).length=m.inputs.toNat:=by have:((m.rows.getD k default).length:Int)=m.inputs:=h2';omega
         rw [←o,List.take_length] at e
         unfold z3q
         rw [e,decide_eq_false g];decide
       refine Eq.trans (qc (Eq.trans (uo (fun h=>h h2')) n)) ?_
       by_cases b:z3q m (m.rows.getD k default)=true
       ·rw [if_pos b,if_pos b];rfl
       ·rw [if_neg b,if_neg b,zkt,zk (qm (by omega))];rfl
     simp only [yf]
     rw [uy (by omega),j]
     cases hr:z3q m (m.rows.getD k default)
     ·right
      exact⟨(),by rw [z7o _ _ k d,hi,hr];rfl,if_neg (by decide)⟩
     ·left
      rw [if_pos rfl,if_pos (List.any_eq_true.2 ⟨_,lq d,hr⟩)]
    ·simp only [yf]
     rw [uo (by omega),if_neg (by rw [List.take_length] at hi;rw [hi];decide)]
   rw [qc q]
   by_cases ha:m.rows.any (z3q m)=true
   ·rw [if_pos ha];unfold z2l;rw [if_neg h,if_neg h1,if_pos ha];rfl
   ·rw [if_neg ha,zsi h h1 (by simpa using ha)];rfl
/-! ### Data-/
end GV
end Go.Proofs.YtplgbkaollfmkaaGreat
