import Derived.Test.YtncblcdhmcmkmaaPlain04
import Derived.Test.YtncblcdhmcmkmaaShPl
set_option linter.unusedVariables false
set_option linter.unusedSimpArgs false
namespace Go.Proofs.Ytncblcdhmcmkmaa
namespace GV
set_option maxRecDepth 100000
theorem ztt{N:Nat}{s:List Edge}{f:Edge→Option Bool}{p:Edge→Bool}(b: ∀ k,k<s.length→f (s.getD k default)=some (p (s.getD k default)))(c:s.length<N)(d:s.length≤4611686018427387904):
 si N s f=some (zft p s):=by
 have h:wm N s f N 0=some (if s.any p=true then Ex.rt (zft p s) else Ex.go ()):=by
  refine xw (σ:=Unit) (fun F k _=>wm N s f F (k:Int)) s.length (fun k _=>(s.take k).any p=false) _ (fun F k _ a hi=>?_) (fun F _ hi=>?_) N 0 () (Nat.zero_le _) (by omega) (by simp)
  ·simp only [wm]
   rw [mo (by omega),zh (qo a),gu,q9 (b k a)]
   cases hp:p (s.getD k default)
   ·right
    refine⟨(),by rw [z88 p s k a,hi,hp];rfl,?_⟩
    rw [cf rfl,zh (qm (by omega))];rfl
   ·left
    rw [ct rfl,if_pos (List.any_eq_true.2 ⟨_,z1g a,hp⟩),ze3 p s k a hi hp]
  ·simp only [wm]
   rw [bu (by omega),if_neg (by rw [List.take_length] at hi;rw [hi];decide)]
 unfold si
 rw [q9 h]
 by_cases ha:s.any p=true
 ·rw [if_pos ha];rfl
 ·rw [if_neg ha,zgn p s (by simpa using ha)];rfl
theorem zms{N:Nat}{s:List Edge}{f:Edge→Option Bool}{p:Edge→Bool}(a: ∀ k,k<s.length→f (s.getD k default)=some (p (s.getD k default)))(b:s.length<N)(c:s.length≤4611686018427387904):
 om N s f=some (s.any p):=by
 unfold om
 rw [q9 (ztt a b c),zlr]
theorem zf1{N:Nat}{m:Mach}(b:Small m)(f:200≤N):mh N m=some (z3m m):=by
 unfold mh
 by_cases h:(16<m.inputs∨16<m.outputs)∨64<m.rows.length
 ·rw [ct (by simp;omega),zjj h]
 ·rw [cf (by simp;omega)]
  by_cases h1:(m.inputs<1∨m.outputs<1)∨m.rows.length<1
  ·rw [ct (by simp;omega),zj4 h h1]
  ·rw [cf (by simp;omega)]
   have g:=b.r
   have d:ah N m N 0=some (if m.rows.any (z10 m)=true then Ex.rt 1 else Ex.go ()):=by
    refine xw (σ:=Unit) (fun F k _=>ah N m F (k:Int)) m.rows.length (fun k _=>(m.rows.take k).any (z10 m)=false) _ (fun F k _ a hi=>?_) (fun F _ hi=>?_) N 0 () (Nat.zero_le _) (by omega) (by simp)
    ·simp only [ah]
     have i:=b.c k a
     rw [mo (by omega),zh (qo a),gu,z4u (fun _=>zms (p:=fun x=> !zc7 m x) (fun j l=>rfl) (by omega) (by omega))]
     have e:(decide (((m.rows.getD k default).length:Int)≠m.inputs)||((bif (true&&(decide (((m.rows.getD k default).length:Int)≠m.inputs)==false)) then some ((m.rows.getD k default).any fun x=> !zc7 m x) else none).getD default))=z10 m (m.rows.getD k default):=by
      unfold z10
      cases decide (((m.rows.getD k default).length:Int)≠m.inputs)<;>rfl
     rw [e]
     cases hr:z10 m (m.rows.getD k default)
     ·right
      refine⟨(),by rw [z88 _ _ k a,hi,hr];rfl,?_⟩
      rw [cf rfl,zh (qm (by omega))];rfl
     ·left
      rw [ct rfl,if_pos (List.any_eq_true.2 ⟨_,z1g a,hr⟩)]
    ·simp only [ah]
     rw [bu (by omega),if_neg (by rw [List.take_length] at hi;rw [hi];decide)]
   rw [q9 d]
   by_cases ha:m.rows.any (z10 m)=true
   ·rw [if_pos ha];unfold z3m;rw [if_neg h,if_neg h1,if_pos ha];rfl
   ·rw [if_neg ha,zi2 h h1 (by simpa using ha)];rfl
theorem zjq{N:Nat}{m:Mach}(a:MOk m)(f:200≤N):z01 N m=some (zra m:Int):=by
 have g:=a.r2;have hi1:=a.i1;have hi2:=a.i2
 unfold z01
 refine Eq.trans (q9 (x:=(zra m:Int)) ?_) rfl
 refine xw (fun F k (s:Int)=>bg N m F s (k:Int)) m.rows.length (fun k s=>s=(zb2 m k:Int)) _ (fun F k s b hi=> .inr ?_) (fun F s hi=>?_) N 0 0 (Nat.zero_le _) (by omega) (by simp [zb2])
 ·subst hi
  have hlen:((m.rows.getD k default).length:Int)=m.inputs:=a.row k b
  have d:=zlm m a k (by omega)
  have e:xc N m (k:Int) N (zb2 m k:Int) 0=some (zb2 m (k+1):Int):=by
   rw [zcu m k b]
   refine xw (fun F i (s:Int)=>xc N m (k:Int) F s (i:Int)) m.inputs.toNat (fun i s=>s=((zb2 m k+zcg (m.rows.getD k default) i:Nat):Int)) _ (fun F i s hi c=> .inr ?_) (fun F s c=>?_) N 0 _ (Nat.zero_le _) (by omega) (by simp [zfx])
   ·subst c
    have hi':i<(m.rows.getD k default).length:=by omega
    refine⟨_,rfl,?_⟩
    simp only [xc]
    have h:=zlb (m.rows.getD k default) i
    rw [mo (by omega),zh (qo b),zh (show okI (ix m.rows (k:Int)) (i:Int) from qo hi'),zgl _ _ hi']
    by_cases h0:0≤((m.rows.getD k default).getD i default).to
    ·rw [if_pos h0]
     refine Eq.trans (q9 (x:=((zb2 m k+(zcg (m.rows.getD k default) i+1):Nat):Int)) ?_) ?_
     ·refine Eq.trans (mo h0) ?_
      rw [zh (qm (by omega))];rfl
     ·rw [zh (qm (by omega))];rfl
    ·rw [if_neg h0]
     refine Eq.trans (q9 (x:=((zb2 m k+(zcg (m.rows.getD k default) i+0):Nat):Int)) ?_) ?_
     ·exact bu h0
     ·rw [zh (qm (by omega))];rfl
   ·subst c
    simp only [xc]
    rw [bu (by omega),show m.inputs.toNat=(m.rows.getD k default).length by omega]
  refine⟨_,rfl,?_⟩
  simp only [bg]
  rw [mo (by omega),q9 e,zh (qm (by omega))];rfl
 ·subst hi
  simp only [bg]
  rw [bu (by omega)];rfl
theorem zh4{N:Nat}{m:Mach}(a:MOk m)(b:200≤N):il N m=some (zk6 m):=by
 unfold il
 have:=a.mul
 rw [q9 (zjq a b),zh (qm (by rw [this.2];omega))];rfl
theorem zkr{N:Nat}{m:Mach}(b:MOk m)(t:200≤N){a:Nat}(f:a<m.rows.length):rf N m (a:Int)=some (reachL m a):=by
 have u:=b.r2;have hi1:=b.i1;have hi2:=b.i2
 unfold rf
 rw [zh ⟨by omega,by omega,by omega⟩,z7j,zh (qo (by simpa using f)),z3a]
 refine Eq.trans (q9 (x:=reachL m a) ?_) rfl
 refine xw (fun F r Y=>bi N m F (r:Int) Y) m.rows.length (fun r Y=>RInv m a r Y) _ (fun F r Y v hi=> .inr ?_) (fun F Y hi=>?_) N 0 _ (Nat.zero_le _) (by omega) (zn2 f)
 ·obtain⟨Z,k,l⟩: ∃ Z,xe N m N 0 Y=some Z∧RInv m a (r+1) Z:=by
   refine z1a (fun F s Z=>xe N m F (s:Int) Z) m.rows.length (fun s Z=>RPass m a Y s 0 Z) _ (fun F s Z e g=> .inr ?_) (fun F Z g=>?_) N 0 Y (Nat.zero_le _) (by omega) (zsc hi)
   ·have hlen:((m.rows.getD s default).length:Int)=m.inputs:=b.row s e
    obtain⟨V,n,o⟩: ∃ V,yx N m (s:Int) N 0 Z=some V∧RPass m a Y (s+1) 0 V:=by
     refine z1a (fun F i V=>yx N m (s:Int) F (i:Int) V) m.inputs.toNat (fun i V=>RPass m a Y s i V) _ (fun F i V hi' d=> .inr ?_) (fun F V d=>?_) N 0 Z (Nat.zero_le _) (by omega) g
     ·have c:i<(m.rows.getD s default).length:=by omega
      have j:s<V.length:=by rw [d.len];exact e
      simp only [yx]
      rw [mo (by omega),zh (qo e),zh (show okI (ix m.rows (s:Int)) (i:Int) from qo c),zh (qo j)]
      by_cases hc:V.getD s default=true∧0≤((m.rows.getD s default).getD i default).to
      ·refine⟨_,zt6 b d e c hc.1 hc.2,?_⟩
       have p:((m.rows.getD s default).getD i default).to.toNat<V.length:=by
        rw [d.len];rcases b.edge s i e c with h|h<;>omega
       refine Eq.trans (q9 (x:=V.set ((m.rows.getD s default).getD i default).to.toNat true) ?_) ?_
       ·refine Eq.trans (ct (by show (V.getD s default&&decide (0≤((m.rows.getD s default).getD i default).to))=true;rw [hc.1,decide_eq_true hc.2];rfl)) ?_
        exact zh (show okI V ((m.rows.getD s default).getD i default).to from⟨hc.2,by omega⟩)
       ·rw [zh (qm (by omega))];rfl
      ·refine⟨V,zs2 d hc,?_⟩
       refine Eq.trans (q9 (x:=V) ?_) ?_
       ·refine cf (show (V.getD s default&&decide (0≤((m.rows.getD s default).getD i default).to))=false from ?_)
        cases h1:V.getD s default
        ·rfl
        ·exact decide_eq_false fun q=>hc ⟨h1,q⟩
       ·rw [zh (qm (by omega))];rfl
     ·simp only [yx]
      rw [bu (by omega)]
      exact⟨V,rfl,zsp d (by omega)⟩
    refine⟨V,o,?_⟩
    simp only [xe]
    rw [mo (by omega),q9 n,zh (qm (by omega))];rfl
   ·simp only [xe]
    rw [bu (by omega)]
    exact⟨Z,rfl,zt1 g (Nat.le_refl _) hi⟩
  refine⟨Z,l,?_⟩
  simp only [bi]
  rw [mo (by omega),q9 k,zh (qm (by omega))];rfl
 ·simp only [bi]
  rw [bu (by omega),zpl b f hi (Nat.le_refl _)]
theorem zq9{N:Nat}{m:Mach}(b:MOk m)(c:200≤N):ai N m=some (connB m):=by
 have g:=b.r2;have d:=b.r1
 unfold ai
 rw [q9 (show rf N m 0=_ from zkr (a:=0) b c (by omega))]
 have h:=zaq m 0
 have e:vv N (reachL m 0) N 0=some (if connB m=true then Ex.go () else Ex.rt false):=by
  refine xw (σ:=Unit) (fun F k _=>vv N (reachL m 0) F (k:Int)) m.rows.length (fun k _=> ∀ j,j<k→(reachL m 0).getD j default=true) _ (fun F k _ f hi=>?_) (fun F _ hi=>?_) N 0 () (Nat.zero_le _) (by omega) (fun j i=>by omega)
  ·simp only [vv]
   rw [mo (by omega),zh (qo (by omega)),gu]
   cases hb:(reachL m 0).getD k default
   ·left
    refine Eq.trans (ct rfl) ?_
    rw [zs3 f hb];rfl
   ·right
    refine⟨(),z9w hi hb,Eq.trans (cf rfl) ?_⟩
    rw [zh (qm (by omega))];rfl
  ·simp only [vv]
   rw [bu (by omega),zm1 hi];rfl
 rw [q9 e]
 cases connB m<;>rfl
/-! ### Words-/
theorem zt7{N:Nat}{s:List Int}{f:Int→Option Bool}{p:Int→Bool}(b: ∀ k,k<s.length→f (s.getD k default)=some (p (s.getD k default)))(c:s.length<N)(d:s.length≤4611686018427387904):
 z0h N s f=some (zft p s):=by
 have h:xu N s f N 0=some (if s.any p=true then Ex.rt (zft p s) else Ex.go ()):=by
  refine xw (σ:=Unit) (fun F k _=>xu N s f F (k:Int)) s.length (fun k _=>(s.take k).any p=false) _ (fun F k _ a hi=>?_) (fun F _ hi=>?_) N 0 () (Nat.zero_le _) (by omega) (by simp)
  ·simp only [xu]
   rw [mo (by omega),zh (qo a),gu,q9 (b k a)]
   cases hp:p (s.getD k default)
   ·right
    refine⟨(),by rw [z88 p s k a,hi,hp];rfl,?_⟩
    rw [cf rfl,zh (qm (by omega))];rfl
   ·left
    rw [ct rfl,if_pos (List.any_eq_true.2 ⟨_,z1g a,hp⟩),ze3 p s k a hi hp]
  ·simp only [xu]
   rw [bu (by omega),if_neg (by rw [List.take_length] at hi;rw [hi];decide)]
 unfold z0h
 rw [q9 h]
 by_cases ha:s.any p=true
 ·rw [if_pos ha];rfl
 ·rw [if_neg ha,zgn p s (by simpa using ha)];rfl
theorem zo0{N:Nat}{s:List Int}{f:Int→Option Bool}{p:Int→Bool}(a: ∀ k,k<s.length→f (s.getD k default)=some (p (s.getD k default)))(b:s.length<N)(c:s.length≤4611686018427387904):
 lg N s f=some (s.any p):=by
 unfold lg
 rw [q9 (zt7 a b c),zlr]
theorem zkk{N:Nat}{a b:List Int}(f:a.length<N)(g:a.length≤4611686018427387904):z02 N a b=some (cmpL a b):=by
 unfold z02 cmpL
 by_cases h1:a.length<b.length
 ·rw [mo (by omega),if_pos h1]
 ·rw [bu (by omega),if_neg h1]
  by_cases h2:b.length<a.length
  ·rw [mo (by omega),if_pos h2]
  ·rw [bu (by omega),if_neg h2]
   have h:a.length=b.length:=by omega
   have e:xk N a b N 0=some (if zch a b=0 then Ex.go () else Ex.rt (zch a b)):=by
    refine xw (σ:=Unit) (fun F k _=>xk N a b F (k:Int)) a.length (fun k _=>zch (a.drop k) (b.drop k)=zch a b) _ (fun F k _ d hi=>?_) (fun F _ hi=>?_) N 0 () (Nat.zero_le _) (by omega) rfl
    ·simp only [xk]
     rw [mo (by omega),zh (qo d),zh (qo (by omega))]
     have c:=znk d (show k<b.length by omega)
     rw [hi] at c
     by_cases h3:a.getD k default<b.getD k default
     ·left
      refine Eq.trans (mo h3) ?_
      rw [if_pos h3] at c;rw [c];rfl
     ·refine(show _∨_ from ?_)
      rw [if_neg h3] at c
      by_cases h4:b.getD k default<a.getD k default
      ·left
       refine Eq.trans (bu h3) ?_
       rw [zh (qo d),zh (qo (by omega))]
       refine Eq.trans (mo h4) ?_
       rw [if_pos h4] at c;rw [c];rfl
      ·right
       rw [if_neg h4] at c
       refine⟨(),c.symm,Eq.trans (bu h3) ?_⟩
       rw [zh (qo d),zh (qo (by omega))]
       refine Eq.trans (bu h4) ?_
       rw [zh (qm (by omega))];rfl
    ·simp only [xk]
     rw [bu (by omega)]
     have:zch a b=0:=by rw [←hi,List.drop_of_length_le (Nat.le_refl _)];rfl
     rw [if_pos this]
   rw [q9 e]
   by_cases h5:zch a b=0
   ·rw [if_pos h5,h5];rfl
   ·rw [if_neg h5];rfl
theorem zcc{N:Nat}{a b:List Int}(c:a.length<N)(d:a.length≤4611686018427387904):bv N a b=some (decide (a=b)):=by
 unfold bv
 rw [q9 (zkk c d)]
 by_cases h:a=b
 ·rw [decide_eq_true h,decide_eq_true ((cmpL_eq a b).2 h)]
 ·rw [decide_eq_false h,decide_eq_false (fun e=>h ((cmpL_eq a b).1 e))]
theorem zdr{N:Nat}{l w:List Int}{e f:Int}(a:l.length<N)(b:l.length≤4611686018427387904):jm N l e w f=some (decide (e=f)&&decide (l=w)):=by
 unfold jm
 rw [z4u (fun _=>zcc a b)]
 by_cases h:e=f
 ·rw [decide_eq_true h];simp
 ·rw [decide_eq_false h];simp
theorem zly{N:Nat}{m:Mach}(a:MOk m){s i:Int}(b:SOk m s)(hi:0≤i∧i<m.inputs):z05 N m s i=some (z1m m s i):=by
 unfold z05 z1m
 rcases b with h|h
 ·rw [h];rfl
 ·have hrow:=a.row s.toNat (by omega)
  rw [bu (by omega),if_neg (by omega),zh h,zh (show okI (ix m.rows s) i from⟨hi.1,by rw [zjv,hrow];exact hi.2⟩)];rfl
theorem zdu{N:Nat}{m:Mach}(d:MOk m){s:Int}{w:List Int}(f:SOk m s)(e:WOk m.inputs w)(g:w.length<N)(h:w.length≤1000000):bq N m s w=some (z4l m s w):=by
 unfold bq
 refine Eq.trans (q9 (x:=z4l m s w) ?_) rfl
 refine xw (σ:=Int×List Int) (fun F k x=>mr N m w F x.1 x.2 (k:Int)) w.length (fun k x=>x.1=z2q m s (w.take k)∧x.2=z4l m s (w.take k)) _ (fun F k x a hi=> .inr ?_) (fun F x hi=>?_) N 0 (s,[]) (Nat.zero_le _) (by omega) (by simp [z2q,z4l])
 ·obtain⟨t,X⟩:=x
  obtain⟨rfl,rfl⟩:=hi
  have b:=zh0 m d s (w.take k) f (zpn e k)
  refine⟨(z2q m s (w.take (k+1)),z4l m s (w.take (k+1))),⟨rfl,rfl⟩,?_⟩
  simp only [mr]
  have c:=z7g m s (w.take k)
  rw [List.length_take] at c
  rw [mo (by omega),zh (qo a)]
  refine Eq.trans (q9 (zly d b (show 0≤w.getD k default∧w.getD k default<m.inputs from e k a))) ?_
  rw [zh ⟨by simp;omega,by simp;omega⟩,zh (qm (by omega)),zn7 m s w k a,zmk m s w k a];rfl
 ·obtain⟨t,X⟩:=x
  obtain⟨rfl,rfl⟩:=hi
  simp only [mr]
  rw [bu (by omega),List.take_length]
theorem zdy{N:Nat}{m:Mach}(a:MOk m): ∀ (F:Nat) (s:Int) (w:List Int),SOk m s→WOk m.inputs w→w.length<F→gq N F m s w=some (z2q m s w)
 |0,s,w,_,_,h=>by omega
 |F+1,s,[],b,_,_=>rfl
 |F+1,s,i::w,b,c,h=>by
  have hi:0≤i∧i<m.inputs:=by simpa using c 0 (by simp)
  simp only [gq]
  rw [bu (by simp;omega),zh (show okI (i::w) 0 from qo (k:=0) (by simp))]
  refine Eq.trans (q9 (zly a b (show 0≤i∧i<m.inputs from hi))) ?_
  rw [zh ⟨by omega,by simp;omega,by simp⟩]
  have d:cut (i::w) 1 (((i::w).length:Nat):Int)=w:=by simp [cut]
  rw [d]
  refine Eq.trans (q9 (zdy (N:=N) a F _ w (zeh m a s i b hi).1 (fun k e=>by simpa using c (k+1) (by simpa using e)) (by simpa using h))) ?_
  rfl
theorem zme{N:Nat}{m:Mach}(p:Small m)(u:200≤N):z0r N m=some (z3m m):=by
 have v:=p.r
 unfold z0r
 by_cases h:(16<m.inputs∨16<m.outputs)∨64<m.rows.length
 ·rw [ct (by simp;omega),zjj h]
 ·rw [cf (by simp;omega)]
  by_cases h1:(m.inputs<1∨m.outputs<1)∨m.rows.length<1
  ·rw [ct (by simp only [Bool.or_eq_true,decide_eq_true_eq];omega),zj4 h h1]
  ·rw [cf (by
    have:(m.rows.length:Int)≠0:=by omega
    simp only [Bool.or_eq_false_iff,decide_eq_false_iff_not];omega)]
   have q:vz N m N 0=some (if m.rows.any (z10 m)=true then Ex.rt 1 else Ex.go ()):=by
    refine xw (σ:=Unit) (fun F k _=>vz N m F (k:Int)) m.rows.length (fun k _=>(m.rows.take k).any (z10 m)=false) _ (fun F k _ d hi=>?_) (fun F _ hi=>?_) N 0 () (Nat.zero_le _) (by omega) (by simp)
    ·have w:=p.c k d
     have j:(bd (gd (okI m.rows (k:Int))<|bif decide (((ix m.rows (k:Int)).length:Int)≠m.inputs) then(some (Ex.rt (Ex.rt 1))) else x9 N m (k:Int) N 0) fun l=>Ex.on l (fun s=>gd (in64 ((k:Int)+1))<|vz N m F ((k:Int)+1)) some)=
      if z10 m (m.rows.getD k default)=true then some (Ex.rt 1) else vz N m F ((k+1:Nat):Int):=by
      rw [zh (qo d)]
      by_cases g:((m.rows.getD k default).length:Int)≠m.inputs
      ·have b:z10 m (m.rows.getD k default)=true:=by unfold z10;rw [decide_eq_true g];rfl
       rw [if_pos b]
       refine Eq.trans (q9 (x:=Ex.rt (Ex.rt 1)) (mo g)) rfl
      ·have h2':((ix m.rows (k:Int)).length:Int)=m.inputs:=Decidable.of_not_not g
       have n:x9 N m (k:Int) N 0=some (if z10 m (m.rows.getD k default)=true then Ex.rt (Ex.rt 1) else Ex.go ()):=by
        refine xw (σ:=Unit) (fun G i _=>x9 N m (k:Int) G (i:Int)) m.inputs.toNat (fun i _=>(((m.rows.getD k default).take i).any fun x=> !zc7 m x)=false) _ (fun G i _ hi' e=>?_) (fun G _ e=>?_) N 0 () (Nat.zero_le _) (by have:((m.rows.getD k default).length:Int)=m.inputs:=h2';omega) (by simp)
        ·have a:i<(m.rows.getD k default).length:=by have:((m.rows.getD k default).length:Int)=m.inputs:=h2';omega
         simp only [x9]
         rw [mo (by omega),zh (qo d),zh (show okI (ix m.rows (k:Int)) (i:Int) from qo a)]
         have t:ix (ix m.rows (k:Int)) (i:Int)=(m.rows.getD k default).getD i default:=rfl
         rw [t]
         generalize hxe:(m.rows.getD k default).getD i default=x at*
         by_cases h3:x.to= -1∧x.out= -1
         ·right
          have f:=zom (m:=m) (x:=x) (.inl h3)
          refine⟨(),by rw [z88 _ _ i a,e,hxe,f];rfl,?_⟩
          rw [ct (by rw [decide_eq_true h3.1,decide_eq_true h3.2];rfl),zrx,zdl,zh (qm (by omega))];rfl
         ·rw [cf (by rw [←Bool.decide_and];exact decide_eq_false h3)]
          by_cases h4:0≤x.to∧x.to<m.rows.length∧0≤x.out∧x.out<m.outputs
          ·right
           have f:=zom (m:=m) (x:=x) (.inr h4)
           refine⟨(),by rw [z88 _ _ i a,e,hxe,f];rfl,?_⟩
           rw [cf (by simp;omega),zrx,zdl,zh (qm (by omega))];rfl
          ·left
           have f:=zsy (m:=m) (x:=x) (fun h=>h.elim h3 h4)
           rw [ct (by simp;omega),zrx,zuy,if_pos]
           unfold z10
           rw [Bool.or_eq_true]
           exact .inr (List.any_eq_true.2 ⟨_,z1g a,by rw [hxe];exact f⟩)
        ·simp only [x9]
         rw [bu (by omega),if_neg]
         have o:(m.rows.getD k default).length=m.inputs.toNat:=by have:((m.rows.getD k default).length:Int)=m.inputs:=h2';omega
         rw [←o,List.take_length] at e
         unfold z10
         rw [e,decide_eq_false g];decide
       refine Eq.trans (q9 (Eq.trans (bu (fun h=>h h2')) n)) ?_
       by_cases b:z10 m (m.rows.getD k default)=true
       ·rw [if_pos b,if_pos b];rfl
       ·rw [if_neg b,if_neg b,zdl,zh (qm (by omega))];rfl
     simp only [vz]
     rw [mo (by omega),j]
     cases hr:z10 m (m.rows.getD k default)
     ·right
      exact⟨(),by rw [z88 _ _ k d,hi,hr];rfl,if_neg (by decide)⟩
     ·left
      rw [if_pos rfl,if_pos (List.any_eq_true.2 ⟨_,z1g d,hr⟩)]
    ·simp only [vz]
     rw [bu (by omega),if_neg (by rw [List.take_length] at hi;rw [hi];decide)]
   rw [q9 q]
   by_cases ha:m.rows.any (z10 m)=true
   ·rw [if_pos ha];unfold z3m;rw [if_neg h,if_neg h1,if_pos ha];rfl
   ·rw [if_neg ha,zi2 h h1 (by simpa using ha)];rfl
theorem zn6{N:Nat}{a b:List Edge}(f:a.length<N)(g:a.length≤4611686018427387904):z03 N a b=some (decide (a=b)):=by
 unfold z03
 by_cases h:(a.length:Int)≠b.length
 ·rw [mo h,decide_eq_false (fun e=>h (by rw [e]))]
 ·rw [bu h]
  have hl':a.length=b.length:=by omega
  have c:xh N a b N 0=some (if a=b then Ex.go () else Ex.rt false):=by
   refine xw (σ:=Unit) (fun F k _=>xh N a b F (k:Int)) a.length (fun k _=> ∀ j,j<k→a.getD j default=b.getD j default) _ (fun F k _ d hi=>?_) (fun F _ hi=>?_) N 0 () (Nat.zero_le _) (by omega) (fun j i=>by omega)
   ·simp only [xh]
    rw [mo (by omega),zh (qo d),zh (qo (by omega))]
    by_cases he:a.getD k default=b.getD k default
    ·right
     refine⟨(),z9w hi he,Eq.trans (bu (show¬ ¬((a.getD k default).to=(b.getD k default).to∧(a.getD k default).out=(b.getD k default).out) from fun h=>h (by rw [he];exact⟨rfl,rfl⟩))) ?_⟩
     rw [zh (qm (by omega))];rfl
    ·left
     refine Eq.trans (mo (show¬((a.getD k default).to=(b.getD k default).to∧(a.getD k default).out=(b.getD k default).out) from fun h=>he (zi7 h))) ?_
     rw [if_neg (fun e=>he (by rw [e]))]
   ·simp only [xh]
    rw [bu (by omega),if_pos (z0t hl' hi)]
  rw [q9 c]
  by_cases he:a=b
  ·rw [if_pos he,decide_eq_true he];rfl
  ·rw [if_neg he,decide_eq_false he];rfl
theorem znw{N:Nat}{a b:List (List Edge)}{f:List Edge→List Edge→Option Bool}(d: ∀ k,k<a.length→f (a.getD k default) (b.getD k default)=some (decide (a.getD k default=b.getD k default)))(i:a.length<N)(l:a.length≤4611686018427387904):
 ic N a b f=some (decide (a=b)):=by
 unfold ic
 by_cases h:(a.length:Int)≠b.length
 ·rw [mo h,decide_eq_false (fun e=>h (by rw [e]))]
 ·rw [bu h]
  have hl':a.length=b.length:=by omega
  have g:uo N a b f N 0=some (if a=b then Ex.go () else Ex.rt false):=by
   refine xw (σ:=Unit) (fun F k _=>uo N a b f F (k:Int)) a.length (fun k _=> ∀ j,j<k→a.getD j default=b.getD j default) _ (fun F k _ c hi=>?_) (fun F _ hi=>?_) N 0 () (Nat.zero_le _) (by omega) (fun j m=>by omega)
   ·simp only [uo]
    rw [mo (by omega),zh (qo c),zh (qo (by omega))]
    refine(show _∨_ from ?_)
    have hk':=d k c
    by_cases he:a.getD k default=b.getD k default
    ·rw [decide_eq_true he] at hk'
     right
     refine⟨(),z9w hi he,Eq.trans (q9 hk') (Eq.trans (cf rfl) ?_)⟩
     rw [zh (qm (by omega))];rfl
    ·rw [decide_eq_false he] at hk'
     left
     refine Eq.trans (q9 hk') (Eq.trans (ct rfl) ?_)
     rw [if_neg (fun e=>he (by rw [e]))]
   ·simp only [uo]
    rw [bu (by omega),if_pos (z0t hl' hi)]
  rw [q9 g]
  by_cases he:a=b
  ·rw [if_pos he,decide_eq_true he];rfl
  ·rw [if_neg he,decide_eq_false he];rfl
theorem ziy{N:Nat}{a b:Mach}(d:Small a)(g:Small b)(e:200≤N):z1l N a b=some (ziw a b):=by
 unfold z1l ziw
 have h:=d.r
 rw [q9 (zf1 d e),z4u (fun _=>zf1 g e),z4u (fun _=>znw (fun k f=>zn6 (by have:=d.c k f;omega) (by have:=d.c k f;omega)) (by omega) (by omega))]
 cases decide (z3m a=0)
 ·rfl
 ·simp only [Bool.true_and,beq_true,cond_true,Option.getD_some]
  cases decide (z3m b=0)<;>cases decide (a.inputs=b.inputs)<;>cases decide (a.outputs=b.outputs)<;>rfl
theorem zes{N:Nat}{a b:Mach}(q:Small a)(y:200≤N):fe N a b=some (decide (a=b)):=by
 have z:=q.r
 unfold fe
 by_cases h:(a.inputs≠b.inputs∨a.outputs≠b.outputs)∨(a.rows.length:Int)≠b.rows.length
 ·rw [ct (by simpa only [Bool.or_eq_true,decide_eq_true_eq] using h),decide_eq_false]
  rintro rfl
  rcases h with(h|h)|h<;>exact h rfl
 ·rw [cf (by simpa only [Bool.or_eq_false_iff,decide_eq_false_iff_not,not_or] using h)]
  simp only [not_or,Decidable.not_not] at h
  obtain⟨⟨s,t⟩,A⟩:=h
  have h3':a.rows.length=b.rows.length:=by omega
  have d:(a=b)↔a.rows=b.rows:=⟨fun e=>by rw [e],fun e=>zdz.2 ⟨s,t,e⟩⟩
  have u:yu N a b N 0=some (if a.rows=b.rows then Ex.go () else Ex.rt false):=by
   refine xw (σ:=Unit) (fun F k _=>yu N a b F (k:Int)) a.rows.length (fun k _=> ∀ j,j<k→a.rows.getD j default=b.rows.getD j default) _ (fun F k _ f hi=>?_) (fun F _ hi=>?_) N 0 () (Nat.zero_le _) (by omega) (fun j v=>by omega)
   ·have B:=q.c k f
    have m:(bd (gd (okI a.rows (k:Int))<|gd (okI b.rows (k:Int))<|bif decide (((ix a.rows (k:Int)).length:Int)≠((ix b.rows (k:Int)).length:Int)) then(some (Ex.rt (Ex.rt false))) else xz N a b (k:Int) N 0) fun n=>Ex.on n (fun w=>gd (in64 ((k:Int)+1))<|yu N a b F ((k:Int)+1)) some)=
     if a.rows.getD k default=b.rows.getD k default then yu N a b F ((k+1:Nat):Int) else some (Ex.rt false):=by
     rw [zh (qo f),zh (qo (by omega))]
     by_cases g:((ix a.rows (k:Int)).length:Int)≠((ix b.rows (k:Int)).length:Int)
     ·rw [if_neg (show¬a.rows.getD k default=b.rows.getD k default from fun e=>g (congrArg (fun l:List Edge=>(l.length:Int)) e))]
      exact Eq.trans (q9 (x:=Ex.rt (Ex.rt false)) (mo g)) rfl
     ·have h4':(a.rows.getD k default).length=(b.rows.getD k default).length:=by
       have:((ix a.rows (k:Int)).length:Int)=((ix b.rows (k:Int)).length:Int):=Decidable.of_not_not g
       exact Int.ofNat.inj this
      have o:xz N a b (k:Int) N 0=some (if a.rows.getD k default=b.rows.getD k default then Ex.go () else Ex.rt (Ex.rt false)):=by
       refine xw (σ:=Unit) (fun G i _=>xz N a b (k:Int) G (i:Int)) (a.rows.getD k default).length (fun i _=> ∀ j,j<i→(a.rows.getD k default).getD j default=(b.rows.getD k default).getD j default) _ (fun G i _ hi' p=>?_) (fun G _ p=>?_) N 0 () (Nat.zero_le _) (by omega) (fun j v=>by omega)
       ·simp only [xz]
        rw [zh (qo f)]
        refine(show _∨_ from ?_)
        have hi2:(i:Int)<((ix a.rows (k:Int)).length:Int):=Int.ofNat_lt.2 hi'
        rw [mo hi2,zh (qo f),zh (show okI (ix a.rows (k:Int)) (i:Int) from qo hi'),zh (qo (by omega)),zh (show okI (ix b.rows (k:Int)) (i:Int) from qo (show i<(b.rows.getD k default).length by omega))]
        by_cases he:(a.rows.getD k default).getD i default=(b.rows.getD k default).getD i default
        ·right
         refine⟨(),z9w p he,Eq.trans (bu (fun h=>h (show ((a.rows.getD k default).getD i default).to=((b.rows.getD k default).getD i default).to∧((a.rows.getD k default).getD i default).out=((b.rows.getD k default).getD i default).out by rw [he];exact⟨rfl,rfl⟩))) ?_⟩
         rw [zh (qm (by omega))];rfl
        ·left
         refine Eq.trans (mo (fun h=>he (zi7 h))) ?_
         rw [if_neg (fun e=>he (by rw [e]))]
       ·simp only [xz]
        have hi2: ¬((((a.rows.getD k default).length:Nat):Int)<((ix a.rows (k:Int)).length:Int)):=Int.lt_irrefl _
        rw [zh (qo f),bu hi2,if_pos (z0t h4' p)]
      refine Eq.trans (q9 (Eq.trans (bu g) o)) ?_
      by_cases he:a.rows.getD k default=b.rows.getD k default
      ·rw [if_pos he,if_pos he,zdl,zh (qm (by omega))];rfl
      ·rw [if_neg he,if_neg he];rfl
    simp only [yu]
    rw [mo (by omega),m]
    by_cases he:a.rows.getD k default=b.rows.getD k default
    ·right;exact⟨(),z9w hi he,if_pos he⟩
    ·left;rw [if_neg he,if_neg (fun e=>he (by rw [e]))]
   ·simp only [yu]
    rw [bu (by omega),if_pos (z0t h3' hi)]
  rw [q9 u]
  by_cases he:a.rows=b.rows
  ·rw [if_pos he,decide_eq_true (d.2 he)];rfl
  ·rw [if_neg he,decide_eq_false (fun e=>he (d.1 e))];rfl
/-! ### Data-/
theorem zt4{N:Nat}{x:MDat}(b:MDOk x)(o:200≤N){s:Nat}(p:s<6):bz N x (s:Int) N [] 0=some (zhk x s):=by
 have q:=b.st;have r:=b.ins;have t:=b.outs
 have hinp:x.inp=1+x.ins%3:=rfl
 refine xw (fun F i acc=>bz N x (s:Int) F acc (i:Int)) x.inp.toNat (fun i acc=>acc=(List.range i).map (zbg x s)) _ (fun F i acc hi hacc=> .inr ?_) (fun F acc hacc=>?_) N 0 [] (Nat.zero_le _) (by omega) rfl
 ·subst hacc
  refine⟨_,rfl,?_⟩
  have g:=znp (k:=s) (a:=x.inp) (by omega) (by omega)
  have j:(s:Int)*((1:Int)+x.ins%3)+(i:Int)=((s*x.inp.toNat+i:Nat):Int):=by
   rw [←hinp,g.2.2];rfl
  have hnum:=b.num (s*x.inp.toNat+i)
  simp only [bz]
  rw [mo (by omega)]
  have l:(gd (in64 ((s:Int)*((1:Int)+(x.ins%3))))<|gd (in64 (((s:Int)*((1:Int)+(x.ins%3)))+(i:Int)))<|bif decide (((s:Int)*((1:Int)+(x.ins%3)))+(i:Int)<(x.edges.length:Int)) then(gd (okI x.edges (((s:Int)*((1:Int)+(x.ins%3)))+(i:Int)))<|gd (in64 (ix x.edges (((s:Int)*((1:Int)+(x.ins%3)))+(i:Int))))<|some (ix x.edges (((s:Int)*((1:Int)+(x.ins%3)))+(i:Int)))) else(some (0:Int)))=some (x.num (s*x.inp.toNat+i)):=by
   rw [zh (qm (by rw [←hinp];omega)),j,zh (qm (by omega))]
   unfold MDat.num
   by_cases hk:s*x.inp.toNat+i<x.edges.length
   ·have m:=b.ed _ hk
    rw [mo (by omega),if_pos hk,zh (qo hk),zh (show in64 (ix x.edges ((s*x.inp.toNat+i:Nat):Int)) from qm (show-4611686018427387904≤x.edges.getD (s*x.inp.toNat+i) default∧x.edges.getD (s*x.inp.toNat+i) default≤4611686018427387904 by omega))];rfl
   ·rw [bu (by omega),if_neg hk]
  have hacc:((List.range i).map (zbg x s)).length=i:=by simp
  refine Eq.trans (q9 (x:=(List.range (i+1)).map (zbg x s)) (Eq.trans (q9 l) ?_)) ?_
  ·rw [zh (fun _=>⟨hnum.1,by omega⟩),zaw]
   by_cases hp:x.part=true∧x.num (s*x.inp.toNat+i)%4=3
   ·rw [ct (by rw [hp.1,decide_eq_true hp.2];rfl),zh ⟨by rw [hacc];simp;omega,by rw [hacc];simp;omega⟩,zqm rfl hp]
   ·have c:x.n=1+x.states%6:=rfl
    have d:x.out=1+x.outs%3:=rfl
    have e:0≤x.num (s*x.inp.toNat+i)/4:=by omega
    have f:0≤x.num (s*x.inp.toNat+i)/4/x.n:=Int.ediv_nonneg e (by omega)
    rw [cf (by
     rw [Bool.and_eq_false_iff]
     by_cases h:x.part=true
     ·exact .inr (decide_eq_false fun h'=>hp ⟨h,h'⟩)
     ·exact .inl (by simpa using h)),←c,←d,zh ⟨by omega,by omega,by omega⟩,zh ⟨e,by omega⟩,zh ⟨by omega,by omega,by omega⟩,zh ⟨e,by omega,by omega⟩,zh ⟨f,by omega⟩,zh ⟨by rw [hacc];simp;omega,by rw [hacc];simp;omega⟩,zrt rfl (fun h h'=>hp ⟨h,h'⟩)]
  ·rw [zh (qm (by omega))];rfl
 ·subst hacc
  simp only [bz]
  rw [bu (by omega)];rfl
theorem zcs{N:Nat}{x:MDat}(a:MDOk x)(b:200≤N):ni N x=some (mOf x):=by
 have d:=a.st;have e:=a.ins;have f:=a.outs
 have c:x.n=1+x.states%6:=rfl
 unfold ni
 rw [zh ⟨by omega,by omega⟩,zh (qm (by omega)),zh (qm (by omega)),zh ⟨by omega,by omega⟩,zh (qm (by omega)),zh (qm (by omega)),zh ⟨by omega,by omega⟩,zh (qm (by omega)),zh (qm (by omega))]
 refine Eq.trans (q9 (x:=(List.range x.n.toNat).map (zhk x)) ?_) rfl
 refine xw (fun F s acc=>nu N x F (s:Int) acc) x.n.toNat (fun s acc=>acc=(List.range s).map (zhk x)) _ (fun F s acc g hacc=> .inr ?_) (fun F acc hacc=>?_) N 0 [] (Nat.zero_le _) (by omega) rfl
 ·subst hacc
  refine⟨_,rfl,?_⟩
  simp only [nu]
  rw [mo (by omega),q9 (zt4 a b (by omega)),zh ⟨by simp;omega,by simp;omega⟩,zh (qm (by omega)),zaw];rfl
 ·subst hacc
  simp only [nu]
  rw [bu (by omega)]
theorem zpr{N:Nat}{x:WDat}(b:WDOk x){n:Int}(c:1≤n)(d:200≤N):z0a N x n=some (wOf x n):=by
 unfold z0a
 refine Eq.trans (q9 (x:=wOf x n) ?_) rfl
 refine xw (fun F k acc=>ny N x n F acc (k:Int)) (min x.syms.length 12) (fun k acc=>acc=(x.syms.take k).map (· %n)) _ (fun F k acc e hacc=> .inr ?_) (fun F acc hacc=>?_) N 0 [] (Nat.zero_le _) (by omega) (by simp)
 ·subst hacc
  have hk':k<x.syms.length:=by omega
  have a:=b.sy k hk'
  refine⟨_,rfl,?_⟩
  simp only [ny]
  rw [ct (by simp;omega),zh (qo hk'),zh (show in64 (ix x.syms (k:Int)) from qm (show-4611686018427387904≤x.syms.getD k default∧x.syms.getD k default≤4611686018427387904 by omega)),zh (show okR (ix x.syms (k:Int)) n from⟨a.1,by omega⟩),zh ⟨by simp;omega,by simp;omega⟩,zh (qm (by omega)),zqi hk'];rfl
 ·subst hacc
  simp only [ny]
  rw [cf (by simp;omega),zs1 (by omega) (by omega) (by omega)]
end GV
end Go.Proofs.Ytncblcdhmcmkmaa
