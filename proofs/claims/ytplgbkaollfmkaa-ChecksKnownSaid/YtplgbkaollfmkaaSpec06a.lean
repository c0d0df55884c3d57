import Derived.Test.YtplgbkaollfmkaaPlain04
import Derived.Test.YtplgbkaollfmkaaShPl
set_option linter.unusedVariables false
set_option linter.unusedSimpArgs false
namespace Go.Proofs.Ytplgbkaollfmkaa
namespace GV
set_option maxRecDepth 100000
theorem q3j{N:Nat}{s:List Edge}{f:Edge→Option Bool}{p:Edge→Bool}(b: ∀ k,k<s.length→f (s.getD k default)=some (p (s.getD k default)))(c:s.length<N)(d:s.length≤4611686018427387904):
 rq N s f=some (zih p s):=by
 have h:uo N s f N 0=some (if s.any p=true then Ex.rt (zih p s) else Ex.go ()):=by
  refine ug (σ:=Unit) (fun F k _=>uo N s f F (k:Int)) s.length (fun k _=>(s.take k).any p=false) _ (fun F k _ a hi=>?_) (fun F _ hi=>?_) N 0 () (Nat.zero_le _) (by omega) (by simp)
  ·simp only [uo]
   rw [uy (by omega),zm (qx a),om,qc (b k a)]
   cases hp:p (s.getD k default)
   ·right
    refine⟨(),by rw [z7b p s k a,hi,hp];rfl,?_⟩
    rw [cf rfl,zm (qo (by omega))];rfl
   ·left
    rw [ct rfl,if_pos (List.any_eq_true.2 ⟨_,ay a,hp⟩),zf9 p s k a hi hp]
  ·simp only [uo]
   rw [ul (by omega),if_neg (by rw [List.take_length] at hi;rw [hi];decide)]
 unfold rq
 rw [qc h]
 by_cases ha:s.any p=true
 ·rw [if_pos ha];rfl
 ·rw [if_neg ha,zgx p s (by simpa using ha)];rfl
theorem zw1{N:Nat}{s:List Edge}{f:Edge→Option Bool}{p:Edge→Bool}(a: ∀ k,k<s.length→f (s.getD k default)=some (p (s.getD k default)))(b:s.length<N)(c:s.length≤4611686018427387904):
 aa N s f=some (s.any p):=by
 unfold aa
 rw [qc (q3j a b c),znh]
theorem zga{N:Nat}{m:Mach}(b:Small m)(f:200≤N):iq N m=some (z11 m):=by
 unfold iq
 by_cases h:(16<m.inputs∨16<m.outputs)∨64<m.rows.length
 ·rw [ct (by simp;omega),zpb h]
 ·rw [cf (by simp;omega)]
  by_cases h1:(m.inputs<1∨m.outputs<1)∨m.rows.length<1
  ·rw [ct (by simp;omega),zow h h1]
  ·rw [cf (by simp;omega)]
   have g:=b.r
   have d:av N m N 0=some (if m.rows.any (z2j m)=true then Ex.rt 1 else Ex.go ()):=by
    refine ug (σ:=Unit) (fun F k _=>av N m F (k:Int)) m.rows.length (fun k _=>(m.rows.take k).any (z2j m)=false) _ (fun F k _ a hi=>?_) (fun F _ hi=>?_) N 0 () (Nat.zero_le _) (by omega) (by simp)
    ·simp only [av]
     have i:=b.c k a
     rw [uy (by omega),zm (qx a),om,zgv (fun _=>zw1 (p:=fun x=> !zg7 m x) (fun j l=>rfl) (by omega) (by omega))]
     have e:(decide (((m.rows.getD k default).length:Int)≠m.inputs)||((bif (true&&(decide (((m.rows.getD k default).length:Int)≠m.inputs)==false)) then some ((m.rows.getD k default).any fun x=> !zg7 m x) else none).getD default))=z2j m (m.rows.getD k default):=by
      unfold z2j
      cases decide (((m.rows.getD k default).length:Int)≠m.inputs)<;>rfl
     rw [e]
     cases hr:z2j m (m.rows.getD k default)
     ·right
      refine⟨(),by rw [z7b _ _ k a,hi,hr];rfl,?_⟩
      rw [cf rfl,zm (qo (by omega))];rfl
     ·left
      rw [ct rfl,if_pos (List.any_eq_true.2 ⟨_,ay a,hr⟩)]
    ·simp only [av]
     rw [ul (by omega),if_neg (by rw [List.take_length] at hi;rw [hi];decide)]
   rw [qc d]
   by_cases ha:m.rows.any (z2j m)=true
   ·rw [if_pos ha];unfold z11;rw [if_neg h,if_neg h1,if_pos ha];rfl
   ·rw [if_neg ha,zou h h1 (by simpa using ha)];rfl
theorem zr0{N:Nat}{m:Mach}(a:MOk m)(h:200≤N):z0h N m=some (zvo m:Int):=by
 have j:=a.r2;have d:=a.i1;have e:=a.i2
 unfold z0h
 refine Eq.trans (qc (x:=(zvo m:Int)) ?_) rfl
 refine ug (fun F k (s:Int)=>p8 N m F s (k:Int)) m.rows.length (fun k s=>s=(zas m k:Int)) _ (fun F k s b hi=> .inr ?_) (fun F s hi=>?_) N 0 0 (Nat.zero_le _) (by omega) (by simp [zas])
 ·subst hi
  have hlen:((m.rows.getD k default).length:Int)=m.inputs:=a.row k b
  have f:=zsw m a k (by omega)
  have g:yn N m (k:Int) N (zas m k:Int) 0=some (zas m (k+1):Int):=by
   rw [zb2 m k b]
   refine ug (fun F i (s:Int)=>yn N m (k:Int) F s (i:Int)) m.inputs.toNat (fun i s=>s=((zas m k+zfi (m.rows.getD k default) i:Nat):Int)) _ (fun F i s hi c=> .inr ?_) (fun F s c=>?_) N 0 _ (Nat.zero_le _) (by omega) (by simp [zmo])
   ·subst c
    have hi':i<(m.rows.getD k default).length:=by omega
    refine⟨_,rfl,?_⟩
    simp only [yn]
    have l:=ziz (m.rows.getD k default) i
    rw [uy (by omega),zm (qx b),zm (show okI (ix m.rows (k:Int)) (i:Int) from qx hi'),zmh _ _ hi']
    by_cases h0:0≤((m.rows.getD k default).getD i default).to
    ·rw [if_pos h0]
     refine Eq.trans (qc (x:=((zas m k+(zfi (m.rows.getD k default) i+1):Nat):Int)) ?_) ?_
     ·refine Eq.trans (uy h0) ?_
      rw [zm (qo (by omega))];rfl
     ·rw [zm (qo (by omega))];rfl
    ·rw [if_neg h0]
     refine Eq.trans (qc (x:=((zas m k+(zfi (m.rows.getD k default) i+0):Nat):Int)) ?_) ?_
     ·exact ul h0
     ·rw [zm (qo (by omega))];rfl
   ·subst c
    simp only [yn]
    rw [ul (by omega),show m.inputs.toNat=(m.rows.getD k default).length by omega]
  refine⟨_,rfl,?_⟩
  simp only [p8]
  rw [uy (by omega),qc g,zm (qo (by omega))];rfl
 ·subst hi
  simp only [p8]
  rw [ul (by omega)];rfl
theorem zo0{N:Nat}{m:Mach}(a:MOk m)(b:200≤N):z09 N m=some (z0x m):=by
 unfold z09
 have:=a.mul
 rw [qc (zr0 a b),zm (qo (by rw [this.2];omega))];rfl
theorem zk4{N:Nat}{m:Mach}(b:MOk m)(v:200≤N){a:Nat}(f:a<m.rows.length):mi N m (a:Int)=some (reachL m a):=by
 have w:=b.r2;have k:=b.i1;have l:=b.i2
 unfold mi
 rw [zm ⟨by omega,by omega,by omega⟩,z6g,zm (qx (by simpa using f)),z4i]
 refine Eq.trans (qc (x:=reachL m a) ?_) rfl
 refine ug (fun F r Y=>pg N m F (r:Int) Y) m.rows.length (fun r Y=>RInv m a r Y) _ (fun F r Y y hi=> .inr ?_) (fun F Y hi=>?_) N 0 _ (Nat.zero_le _) (by omega) (zgz f)
 ·obtain⟨Z,n,o⟩: ∃ Z,yl N m N 0 Y=some Z∧RInv m a (r+1) Z:=by
   refine rf (fun F s Z=>yl N m F (s:Int) Z) m.rows.length (fun s Z=>RPass m a Y s 0 Z) _ (fun F s Z e g=> .inr ?_) (fun F Z g=>?_) N 0 Y (Nat.zero_le _) (by omega) (zsp hi)
   ·have hlen:((m.rows.getD s default).length:Int)=m.inputs:=b.row s e
    obtain⟨V,p,q⟩: ∃ V,yu N m (s:Int) N 0 Z=some V∧RPass m a Y (s+1) 0 V:=by
     refine rf (fun F i V=>yu N m (s:Int) F (i:Int) V) m.inputs.toNat (fun i V=>RPass m a Y s i V) _ (fun F i V hi' d=> .inr ?_) (fun F V d=>?_) N 0 Z (Nat.zero_le _) (by omega) g
     ·have c:i<(m.rows.getD s default).length:=by omega
      have j:s<V.length:=by rw [d.len];exact e
      simp only [yu]
      rw [uy (by omega),zm (qx e),zm (show okI (ix m.rows (s:Int)) (i:Int) from qx c),zm (qx j)]
      by_cases hc:V.getD s default=true∧0≤((m.rows.getD s default).getD i default).to
      ·refine⟨_,zyw b d e c hc.1 hc.2,?_⟩
       have t:((m.rows.getD s default).getD i default).to.toNat<V.length:=by
        rw [d.len];rcases b.edge s i e c with h|h<;>omega
       refine Eq.trans (qc (x:=V.set ((m.rows.getD s default).getD i default).to.toNat true) ?_) ?_
       ·refine Eq.trans (ct (by show (V.getD s default&&decide (0≤((m.rows.getD s default).getD i default).to))=true;rw [hc.1,decide_eq_true hc.2];rfl)) ?_
        exact zm (show okI V ((m.rows.getD s default).getD i default).to from⟨hc.2,by omega⟩)
       ·rw [zm (qo (by omega))];rfl
      ·refine⟨V,zsj d hc,?_⟩
       refine Eq.trans (qc (x:=V) ?_) ?_
       ·refine cf (show (V.getD s default&&decide (0≤((m.rows.getD s default).getD i default).to))=false from ?_)
        cases h1:V.getD s default
        ·rfl
        ·exact decide_eq_false fun u=>hc ⟨h1,u⟩
       ·rw [zm (qo (by omega))];rfl
     ·simp only [yu]
      rw [ul (by omega)]
      exact⟨V,rfl,zxc d (by omega)⟩
    refine⟨V,q,?_⟩
    simp only [yl]
    rw [uy (by omega),qc p,zm (qo (by omega))];rfl
   ·simp only [yl]
    rw [ul (by omega)]
    exact⟨Z,rfl,zx0 g (Nat.le_refl _) hi⟩
  refine⟨Z,o,?_⟩
  simp only [pg]
  rw [uy (by omega),qc n,zm (qo (by omega))];rfl
 ·simp only [pg]
  rw [ul (by omega),zox b f hi (Nat.le_refl _)]
theorem zx5{N:Nat}{m:Mach}(b:MOk m)(c:200≤N):lv N m=some (connB m):=by
 have g:=b.r2;have d:=b.r1
 unfold lv
 rw [qc (show mi N m 0=_ from zk4 (a:=0) b c (by omega))]
 have h:=z1v m 0
 have e:wh N (reachL m 0) N 0=some (if connB m=true then Ex.go () else Ex.rt false):=by
  refine ug (σ:=Unit) (fun F k _=>wh N (reachL m 0) F (k:Int)) m.rows.length (fun k _=> ∀ j,j<k→(reachL m 0).getD j default=true) _ (fun F k _ f hi=>?_) (fun F _ hi=>?_) N 0 () (Nat.zero_le _) (by omega) (fun j i=>by omega)
  ·simp only [wh]
   rw [uy (by omega),zm (qx (by omega)),om]
   cases hb:(reachL m 0).getD k default
   ·left
    refine Eq.trans (ct rfl) ?_
    rw [q02 f hb];rfl
   ·right
    refine⟨(),zoz hi hb,Eq.trans (cf rfl) ?_⟩
    rw [zm (qo (by omega))];rfl
  ·simp only [wh]
   rw [ul (by omega),q0m hi];rfl
 rw [qc e]
 cases connB m<;>rfl
/-! ### Words-/
theorem q2t{N:Nat}{s:List Int}{f:Int→Option Bool}{p:Int→Bool}(b: ∀ k,k<s.length→f (s.getD k default)=some (p (s.getD k default)))(c:s.length<N)(d:s.length≤4611686018427387904):
 z0w N s f=some (zih p s):=by
 have h:xu N s f N 0=some (if s.any p=true then Ex.rt (zih p s) else Ex.go ()):=by
  refine ug (σ:=Unit) (fun F k _=>xu N s f F (k:Int)) s.length (fun k _=>(s.take k).any p=false) _ (fun F k _ a hi=>?_) (fun F _ hi=>?_) N 0 () (Nat.zero_le _) (by omega) (by simp)
  ·simp only [xu]
   rw [uy (by omega),zm (qx a),om,qc (b k a)]
   cases hp:p (s.getD k default)
   ·right
    refine⟨(),by rw [z7b p s k a,hi,hp];rfl,?_⟩
    rw [cf rfl,zm (qo (by omega))];rfl
   ·left
    rw [ct rfl,if_pos (List.any_eq_true.2 ⟨_,ay a,hp⟩),zf9 p s k a hi hp]
  ·simp only [xu]
   rw [ul (by omega),if_neg (by rw [List.take_length] at hi;rw [hi];decide)]
 unfold z0w
 rw [qc h]
 by_cases ha:s.any p=true
 ·rw [if_pos ha];rfl
 ·rw [if_neg ha,zgx p s (by simpa using ha)];rfl
theorem zlq{N:Nat}{s:List Int}{f:Int→Option Bool}{p:Int→Bool}(a: ∀ k,k<s.length→f (s.getD k default)=some (p (s.getD k default)))(b:s.length<N)(c:s.length≤4611686018427387904):
 ig N s f=some (s.any p):=by
 unfold ig
 rw [qc (q2t a b c),znh]
theorem zqy{N:Nat}{a b:List Int}(f:a.length<N)(g:a.length≤4611686018427387904):z0g N a b=some (cmpL a b):=by
 unfold z0g cmpL
 by_cases h1:a.length<b.length
 ·rw [uy (by omega),if_pos h1]
 ·rw [ul (by omega),if_neg h1]
  by_cases h2:b.length<a.length
  ·rw [uy (by omega),if_pos h2]
  ·rw [ul (by omega),if_neg h2]
   have h:a.length=b.length:=by omega
   have e:yh N a b N 0=some (if zht a b=0 then Ex.go () else Ex.rt (zht a b)):=by
    refine ug (σ:=Unit) (fun F k _=>yh N a b F (k:Int)) a.length (fun k _=>zht (a.drop k) (b.drop k)=zht a b) _ (fun F k _ d hi=>?_) (fun F _ hi=>?_) N 0 () (Nat.zero_le _) (by omega) rfl
    ·simp only [yh]
     rw [uy (by omega),zm (qx d),zm (qx (by omega))]
     have c:=zut d (show k<b.length by omega)
     rw [hi] at c
     by_cases h3:a.getD k default<b.getD k default
     ·left
      refine Eq.trans (uy h3) ?_
      rw [if_pos h3] at c;rw [c];rfl
     ·refine(show _∨_ from ?_)
      rw [if_neg h3] at c
      by_cases h4:b.getD k default<a.getD k default
      ·left
       refine Eq.trans (ul h3) ?_
       rw [zm (qx d),zm (qx (by omega))]
       refine Eq.trans (uy h4) ?_
       rw [if_pos h4] at c;rw [c];rfl
      ·right
       rw [if_neg h4] at c
       refine⟨(),c.symm,Eq.trans (ul h3) ?_⟩
       rw [zm (qx d),zm (qx (by omega))]
       refine Eq.trans (ul h4) ?_
       rw [zm (qo (by omega))];rfl
    ·simp only [yh]
     rw [ul (by omega)]
     have:zht a b=0:=by rw [←hi,List.drop_of_length_le (Nat.le_refl _)];rfl
     rw [if_pos this]
   rw [qc e]
   by_cases h5:zht a b=0
   ·rw [if_pos h5,h5];rfl
   ·rw [if_neg h5];rfl
theorem zdk{N:Nat}{a b:List Int}(c:a.length<N)(d:a.length≤4611686018427387904):uk N a b=some (decide (a=b)):=by
 unfold uk
 rw [qc (zqy c d)]
 by_cases h:a=b
 ·rw [decide_eq_true h,decide_eq_true ((cmpL_eq a b).2 h)]
 ·rw [decide_eq_false h,decide_eq_false (fun e=>h ((cmpL_eq a b).1 e))]
theorem zt7{N:Nat}{m:Mach}(a:MOk m){s i:Int}(b:SOk m s)(hi:0≤i∧i<m.inputs):z0m N m s i=some (z1c m s i):=by
 unfold z0m z1c
 rcases b with h|h
 ·rw [h];rfl
 ·have hrow:=a.row s.toNat (by omega)
  rw [ul (by omega),if_neg (by omega),zm h,zm (show okI (ix m.rows s) i from⟨hi.1,by rw [zev,hrow];exact hi.2⟩)];rfl
theorem q19{N:Nat}{m:Mach}(d:MOk m){s:Int}{w:List Int}(f:SOk m s)(e:WOk m.inputs w)(g:w.length<N)(h:w.length≤1000000):z03 N m s w=some (z2e m s w):=by
 unfold z03
 refine Eq.trans (qc (x:=z2e m s w) ?_) rfl
 refine ug (σ:=Int×List Int) (fun F k x=>oh N m w F x.1 x.2 (k:Int)) w.length (fun k x=>x.1=dx m s (w.take k)∧x.2=z2e m s (w.take k)) _ (fun F k x a hi=> .inr ?_) (fun F x hi=>?_) N 0 (s,[]) (Nat.zero_le _) (by omega) (by simp [dx,z2e])
 ·obtain⟨t,X⟩:=x
  obtain⟨rfl,rfl⟩:=hi
  have b:=zis m d s (w.take k) f (zjn e k)
  refine⟨(dx m s (w.take (k+1)),z2e m s (w.take (k+1))),⟨rfl,rfl⟩,?_⟩
  simp only [oh]
  have c:=z6l m s (w.take k)
  rw [List.length_take] at c
  rw [uy (by omega),zm (qx a)]
  refine Eq.trans (qc (zt7 d b (show 0≤w.getD k default∧w.getD k default<m.inputs from e k a))) ?_
  rw [zm ⟨by simp;omega,by simp;omega⟩,zm (qo (by omega)),zh4 m s w k a,zmb m s w k a];rfl
 ·obtain⟨t,X⟩:=x
  obtain⟨rfl,rfl⟩:=hi
  simp only [oh]
  rw [ul (by omega),List.take_length]
theorem ztp{N:Nat}{m:Mach}(a:MOk m): ∀ (F:Nat) (s:Int) (w:List Int),SOk m s→WOk m.inputs w→w.length<F→ah N F m s w=some (dx m s w)
 |0,s,w,_,_,h=>by omega
 |F+1,s,[],b,_,_=>rfl
 |F+1,s,i::w,b,c,h=>by
  have hi:0≤i∧i<m.inputs:=by simpa using c 0 (by simp)
  simp only [ah]
  rw [ul (by simp;omega),zm (show okI (i::w) 0 from qx (k:=0) (by simp))]
  refine Eq.trans (qc (zt7 a b (show 0≤i∧i<m.inputs from hi))) ?_
  rw [zm ⟨by omega,by simp;omega,by simp⟩]
  have d:cut (i::w) 1 (((i::w).length:Nat):Int)=w:=by simp [cut]
  rw [d]
  refine Eq.trans (qc (ztp (N:=N) a F _ w (zjq m a s i b hi).1 (fun k e=>by simpa using c (k+1) (by simpa using e)) (by simpa using h))) ?_
  rfl
theorem zul{N:Nat}{m:Mach}(p:Small m)(u:200≤N):z1o N m=some (z11 m):=by
 have v:=p.r
 unfold z1o
 by_cases h:(16<m.inputs∨16<m.outputs)∨64<m.rows.length
 ·rw [ct (by simp;omega),zpb h]
 ·rw [cf (by simp;omega)]
  by_cases h1:(m.inputs<1∨m.outputs<1)∨m.rows.length<1
  ·rw [ct (by simp only [Bool.or_eq_true,decide_eq_true_eq];omega),zow h h1]
  ·rw [cf (by
    have:(m.rows.length:Int)≠0:=by omega
    simp only [Bool.or_eq_false_iff,decide_eq_false_iff_not];omega)]
   have q:wm N m N 0=some (if m.rows.any (z2j m)=true then Ex.rt 1 else Ex.go ()):=by
    refine ug (σ:=Unit) (fun F k _=>wm N m F (k:Int)) m.rows.length (fun k _=>(m.rows.take k).any (z2j m)=false) _ (fun F k _ d hi=>?_) (fun F _ hi=>?_) N 0 () (Nat.zero_le _) (by omega) (by simp)
    ·have w:=p.c k d
     have j:(bd (gd (okI m.rows (k:Int))<|bif decide (((ix m.rows (k:Int)).length:Int)≠m.inputs) then(some (Ex.rt (Ex.rt 1))) else yj N m (k:Int) N 0) fun l=>Ex.on l (fun s=>gd (in64 ((k:Int)+1))<|wm N m F ((k:Int)+1)) some)=
      if z2j m (m.rows.getD k default)=true then some (Ex.rt 1) else wm N m F ((k+1:Nat):Int):=by
      rw [zm (qx d)]
      by_cases g:((m.rows.getD k default).length:Int)≠m.inputs
      ·have b:z2j m (m.rows.getD k default)=true:=by unfold z2j;rw [decide_eq_true g];rfl
       rw [if_pos b]
       refine Eq.trans (qc (x:=Ex.rt (Ex.rt 1)) (uy g)) rfl
      ·have h2':((ix m.rows (k:Int)).length:Int)=m.inputs:=Decidable.of_not_not g
       have n:yj N m (k:Int) N 0=some (if z2j m (m.rows.getD k default)=true then Ex.rt (Ex.rt 1) else Ex.go ()):=by
        refine ug (σ:=Unit) (fun G i _=>yj N m (k:Int) G (i:Int)) m.inputs.toNat (fun i _=>(((m.rows.getD k default).take i).any fun x=> !zg7 m x)=false) _ (fun G i _ hi' e=>?_) (fun G _ e=>?_) N 0 () (Nat.zero_le _) (by have:((m.rows.getD k default).length:Int)=m.inputs:=h2';omega) (by simp)
        ·have a:i<(m.rows.getD k default).length:=by have:((m.rows.getD k default).length:Int)=m.inputs:=h2';omega
         simp only [yj]
         rw [uy (by omega),zm (qx d),zm (show okI (ix m.rows (k:Int)) (i:Int) from qx a)]
         have t:ix (ix m.rows (k:Int)) (i:Int)=(m.rows.getD k default).getD i default:=rfl
         rw [t]
         generalize hxe:(m.rows.getD k default).getD i default=x at*
         by_cases h3:x.to= -1∧x.out= -1
         ·right
          have f:=zz2 (m:=m) (x:=x) (.inl h3)
          refine⟨(),by rw [z7b _ _ i a,e,hxe,f];rfl,?_⟩
          rw [ct (by rw [decide_eq_true h3.1,decide_eq_true h3.2];rfl),zn1,zkz,zm (qo (by omega))];rfl
         ·rw [cf (by rw [←Bool.decide_and];exact decide_eq_false h3)]
          by_cases h4:0≤x.to∧x.to<m.rows.length∧0≤x.out∧x.out<m.outputs
          ·right
           have f:=zz2 (m:=m) (x:=x) (.inr h4)
           refine⟨(),by rw [z7b _ _ i a,e,hxe,f];rfl,?_⟩
           rw [cf (by simp;omega),zn1,zkz,zm (qo (by omega))];rfl
          ·left
           have f:=q2h (m:=m) (x:=x) (fun h=>h.elim h3 h4)
           rw [ct (by simp;omega),zn1,q7e,if_pos]
           unfold z2j
           rw [Bool.or_eq_true]
           exact .inr (List.any_eq_true.2 ⟨_,ay a,by rw [hxe];exact f⟩)
        ·simp only [yj]
         rw [ul (by omega),if_neg]
         have o:(m.rows.getD k default).length=m.inputs.toNat:=by have:((m.rows.getD k default).length:Int)=m.inputs:=h2';omega
         rw [←o,List.take_length] at e
         unfold z2j
         rw [e,decide_eq_false g];decide
       refine Eq.trans (qc (Eq.trans (ul (fun h=>h h2')) n)) ?_
       by_cases b:z2j m (m.rows.getD k default)=true
       ·rw [if_pos b,if_pos b];rfl
       ·rw [if_neg b,if_neg b,zkz,zm (qo (by omega))];rfl
     simp only [wm]
     rw [uy (by omega),j]
     cases hr:z2j m (m.rows.getD k default)
     ·right
      exact⟨(),by rw [z7b _ _ k d,hi,hr];rfl,if_neg (by decide)⟩
     ·left
      rw [if_pos rfl,if_pos (List.any_eq_true.2 ⟨_,ay d,hr⟩)]
    ·simp only [wm]
     rw [ul (by omega),if_neg (by rw [List.take_length] at hi;rw [hi];decide)]
   rw [qc q]
   by_cases ha:m.rows.any (z2j m)=true
   ·rw [if_pos ha];unfold z11;rw [if_neg h,if_neg h1,if_pos ha];rfl
   ·rw [if_neg ha,zou h h1 (by simpa using ha)];rfl
/-! ### Data-/
end GV
end Go.Proofs.Ytplgbkaollfmkaa
