import Derived.Test.YtplgbkaollfmkaaGreatPlain04
import Derived.Test.YtplgbkaollfmkaaGreatShPl
set_option linter.unusedVariables false
set_option linter.unusedSimpArgs false
namespace Go.Proofs.YtplgbkaollfmkaaGreat
namespace GV
set_option maxRecDepth 100000
theorem q7n{N:Nat}{s:List Edge}{f:Edge→Option Bool}{p:Edge→Bool}(b: ∀ k,k<s.length→f (s.getD k default)=some (p (s.getD k default)))(c:s.length<N)(d:s.length≤4611686018427387904):
 z0f N s f=some (zl0 p s):=by
 have h:uz N s f N 0=some (if s.any p=true then Ex.rt (zl0 p s) else Ex.go ()):=by
  refine kz (σ:=Unit) (fun F k _=>uz N s f F (k:Int)) s.length (fun k _=>(s.take k).any p=false) _ (fun F k _ a hi=>?_) (fun F _ hi=>?_) N 0 () (Nat.zero_le _) (by omega) (by simp)
  ·simp only [uz]
   rw [ui (by omega),zh (ql a),dn,q8 (b k a)]
   cases hp:p (s.getD k default)
   ·right
    refine⟨(),by rw [z7j p s k a,hi,hp];rfl,?_⟩
    rw [cf rfl,zh (qh (by omega))];rfl
   ·left
    rw [ct rfl,if_pos (List.any_eq_true.2 ⟨_,l8 a,hp⟩),zhf p s k a hi hp]
  ·simp only [uz]
   rw [uh (by omega),if_neg (by rw [List.take_length] at hi;rw [hi];decide)]
 unfold z0f
 rw [q8 h]
 by_cases ha:s.any p=true
 ·rw [if_pos ha];rfl
 ·rw [if_neg ha,zj6 p s (by simpa using ha)];rfl
theorem zzm{N:Nat}{s:List Edge}{f:Edge→Option Bool}{p:Edge→Bool}(a: ∀ k,k<s.length→f (s.getD k default)=some (p (s.getD k default)))(b:s.length<N)(c:s.length≤4611686018427387904):
 rq N s f=some (s.any p):=by
 unfold rq
 rw [q8 (q7n a b c),zr0]
theorem zj0{N:Nat}{m:Mach}(b:Small m)(f:200≤N):z00 N m=some (z2w m):=by
 unfold z00
 by_cases h:(16<m.inputs∨16<m.outputs)∨64<m.rows.length
 ·rw [ct (by simp;omega),zt5 h]
 ·rw [cf (by simp;omega)]
  by_cases h1:(m.inputs<1∨m.outputs<1)∨m.rows.length<1
  ·rw [ct (by simp;omega),zsh h h1]
  ·rw [cf (by simp;omega)]
   have g:=b.r
   have d:lg N m N 0=some (if m.rows.any (z4k m)=true then Ex.rt 1 else Ex.go ()):=by
    refine kz (σ:=Unit) (fun F k _=>lg N m F (k:Int)) m.rows.length (fun k _=>(m.rows.take k).any (z4k m)=false) _ (fun F k _ a hi=>?_) (fun F _ hi=>?_) N 0 () (Nat.zero_le _) (by omega) (by simp)
    ·simp only [lg]
     have i:=b.c k a
     rw [ui (by omega),zh (ql a),dn,zek (fun _=>zzm (p:=fun x=> !zj3 m x) (fun j l=>rfl) (by omega) (by omega))]
     have e:(decide (((m.rows.getD k default).length:Int)≠m.inputs)||((bif (true&&(decide (((m.rows.getD k default).length:Int)≠m.inputs)==false)) then some ((m.rows.getD k default).any fun x=> !zj3 m x) else none).getD default))=z4k m (m.rows.getD k default):=by
      unfold z4k
      cases decide (((m.rows.getD k default).length:Int)≠m.inputs)<;>rfl
     rw [e]
     cases hr:z4k m (m.rows.getD k default)
     ·right
      refine⟨(),by rw [z7j _ _ k a,hi,hr];rfl,?_⟩
      rw [cf rfl,zh (qh (by omega))];rfl
     ·left
      rw [ct rfl,if_pos (List.any_eq_true.2 ⟨_,l8 a,hr⟩)]
    ·simp only [lg]
     rw [uh (by omega),if_neg (by rw [List.take_length] at hi;rw [hi];decide)]
   rw [q8 d]
   by_cases ha:m.rows.any (z4k m)=true
   ·rw [if_pos ha];unfold z2w;rw [if_neg h,if_neg h1,if_pos ha];rfl
   ·rw [if_neg ha,zro h h1 (by simpa using ha)];rfl
theorem zv7{N:Nat}{m:Mach}(a:MOk m)(h:200≤N):z1x N m=some (zue m:Int):=by
 have j:=a.r2;have d:=a.i1;have e:=a.i2
 unfold z1x
 refine Eq.trans (q8 (x:=(zue m:Int)) ?_) rfl
 refine kz (fun F k (s:Int)=>ni N m F s (k:Int)) m.rows.length (fun k s=>s=(zbk m k:Int)) _ (fun F k s b hi=> .inr ?_) (fun F s hi=>?_) N 0 0 (Nat.zero_le _) (by omega) (by simp [zbk])
 ·subst hi
  have hlen:((m.rows.getD k default).length:Int)=m.inputs:=a.row k b
  have f:=zx3 m a k (by omega)
  have g:yx N m (k:Int) N (zbk m k:Int) 0=some (zbk m (k+1):Int):=by
   rw [zaw m k b]
   refine kz (fun F i (s:Int)=>yx N m (k:Int) F s (i:Int)) m.inputs.toNat (fun i s=>s=((zbk m k+zgf (m.rows.getD k default) i:Nat):Int)) _ (fun F i s hi c=> .inr ?_) (fun F s c=>?_) N 0 _ (Nat.zero_le _) (by omega) (by simp [zjq])
   ·subst c
    have hi':i<(m.rows.getD k default).length:=by omega
    refine⟨_,rfl,?_⟩
    simp only [yx]
    have l:=zla (m.rows.getD k default) i
    rw [ui (by omega),zh (ql b),zh (show okI (ix m.rows (k:Int)) (i:Int) from ql hi'),zjf _ _ hi']
    by_cases h0:0≤((m.rows.getD k default).getD i default).to
    ·rw [if_pos h0]
     refine Eq.trans (q8 (x:=((zbk m k+(zgf (m.rows.getD k default) i+1):Nat):Int)) ?_) ?_
     ·refine Eq.trans (ui h0) ?_
      rw [zh (qh (by omega))];rfl
     ·rw [zh (qh (by omega))];rfl
    ·rw [if_neg h0]
     refine Eq.trans (q8 (x:=((zbk m k+(zgf (m.rows.getD k default) i+0):Nat):Int)) ?_) ?_
     ·exact uh h0
     ·rw [zh (qh (by omega))];rfl
   ·subst c
    simp only [yx]
    rw [uh (by omega),show m.inputs.toNat=(m.rows.getD k default).length by omega]
  refine⟨_,rfl,?_⟩
  simp only [ni]
  rw [ui (by omega),q8 g,zh (qh (by omega))];rfl
 ·subst hi
  simp only [ni]
  rw [uh (by omega)];rfl
theorem zpi{N:Nat}{m:Mach}(a:MOk m)(b:200≤N):z1h N m=some (mr m):=by
 unfold z1h
 have:=a.mul
 rw [q8 (zv7 a b),zh (qh (by rw [this.2];omega))];rfl
theorem zn6{N:Nat}{m:Mach}(b:MOk m)(v:200≤N){a:Nat}(f:a<m.rows.length):av N m (a:Int)=some (reachL m a):=by
 have w:=b.r2;have k:=b.i1;have l:=b.i2
 unfold av
 rw [zh ⟨by omega,by omega,by omega⟩,z6f,zh (ql (by simpa using f)),z1n]
 refine Eq.trans (q8 (x:=reachL m a) ?_) rfl
 refine kz (fun F r Y=>ng N m F (r:Int) Y) m.rows.length (fun r Y=>RInv m a r Y) _ (fun F r Y y hi=> .inr ?_) (fun F Y hi=>?_) N 0 _ (Nat.zero_le _) (by omega) (zjg f)
 ·obtain⟨Z,n,o⟩: ∃ Z,xg N m N 0 Y=some Z∧RInv m a (r+1) Z:=by
   refine iy (fun F s Z=>xg N m F (s:Int) Z) m.rows.length (fun s Z=>RPass m a Y s 0 Z) _ (fun F s Z e g=> .inr ?_) (fun F Z g=>?_) N 0 Y (Nat.zero_le _) (by omega) (zvx hi)
   ·have hlen:((m.rows.getD s default).length:Int)=m.inputs:=b.row s e
    obtain⟨V,p,q⟩: ∃ V,xu N m (s:Int) N 0 Z=some V∧RPass m a Y (s+1) 0 V:=by
     refine iy (fun F i V=>xu N m (s:Int) F (i:Int) V) m.inputs.toNat (fun i V=>RPass m a Y s i V) _ (fun F i V hi' d=> .inr ?_) (fun F V d=>?_) N 0 Z (Nat.zero_le _) (by omega) g
     ·have c:i<(m.rows.getD s default).length:=by omega
      have j:s<V.length:=by rw [d.len];exact e
      simp only [xu]
      rw [ui (by omega),zh (ql e),zh (show okI (ix m.rows (s:Int)) (i:Int) from ql c),zh (ql j)]
      by_cases hc:V.getD s default=true∧0≤((m.rows.getD s default).getD i default).to
      ·refine⟨_,q1w b d e c hc.1 hc.2,?_⟩
       have t:((m.rows.getD s default).getD i default).to.toNat<V.length:=by
        rw [d.len];rcases b.edge s i e c with h|h<;>omega
       refine Eq.trans (q8 (x:=V.set ((m.rows.getD s default).getD i default).to.toNat true) ?_) ?_
       ·refine Eq.trans (ct (by show (V.getD s default&&decide (0≤((m.rows.getD s default).getD i default).to))=true;rw [hc.1,decide_eq_true hc.2];rfl)) ?_
        exact zh (show okI V ((m.rows.getD s default).getD i default).to from⟨hc.2,by omega⟩)
       ·rw [zh (qh (by omega))];rfl
      ·refine⟨V,zvu d hc,?_⟩
       refine Eq.trans (q8 (x:=V) ?_) ?_
       ·refine cf (show (V.getD s default&&decide (0≤((m.rows.getD s default).getD i default).to))=false from ?_)
        cases h1:V.getD s default
        ·rfl
        ·exact decide_eq_false fun u=>hc ⟨h1,u⟩
       ·rw [zh (qh (by omega))];rfl
     ·simp only [xu]
      rw [uh (by omega)]
      exact⟨V,rfl,q3b d (by omega)⟩
    refine⟨V,q,?_⟩
    simp only [xg]
    rw [ui (by omega),q8 p,zh (qh (by omega))];rfl
   ·simp only [xg]
    rw [uh (by omega)]
    exact⟨Z,rfl,q17 g (Nat.le_refl _) hi⟩
  refine⟨Z,o,?_⟩
  simp only [ng]
  rw [ui (by omega),q8 n,zh (qh (by omega))];rfl
 ·simp only [ng]
  rw [uh (by omega),zt9 b f hi (Nat.le_refl _)]
theorem q33{N:Nat}{m:Mach}(b:MOk m)(c:200≤N):z15 N m=some (connB m):=by
 have g:=b.r2;have d:=b.r1
 unfold z15
 rw [q8 (show av N m 0=_ from zn6 (a:=0) b c (by omega))]
 have h:=z3r m 0
 have e:vv N (reachL m 0) N 0=some (if connB m=true then Ex.go () else Ex.rt false):=by
  refine kz (σ:=Unit) (fun F k _=>vv N (reachL m 0) F (k:Int)) m.rows.length (fun k _=> ∀ j,j<k→(reachL m 0).getD j default=true) _ (fun F k _ f hi=>?_) (fun F _ hi=>?_) N 0 () (Nat.zero_le _) (by omega) (fun j i=>by omega)
  ·simp only [vv]
   rw [ui (by omega),zh (ql (by omega)),dn]
   cases hb:(reachL m 0).getD k default
   ·left
    refine Eq.trans (ct rfl) ?_
    rw [q5b f hb];rfl
   ·right
    refine⟨(),zt2 hi hb,Eq.trans (cf rfl) ?_⟩
    rw [zh (qh (by omega))];rfl
  ·simp only [vv]
   rw [uh (by omega),q53 hi];rfl
 rw [q8 e]
 cases connB m<;>rfl
/-! ### Words-/
theorem q6h{N:Nat}{s:List Int}{f:Int→Option Bool}{p:Int→Bool}(b: ∀ k,k<s.length→f (s.getD k default)=some (p (s.getD k default)))(c:s.length<N)(d:s.length≤4611686018427387904):
 z2u N s f=some (zl0 p s):=by
 have h:bn N s f N 0=some (if s.any p=true then Ex.rt (zl0 p s) else Ex.go ()):=by
  refine kz (σ:=Unit) (fun F k _=>bn N s f F (k:Int)) s.length (fun k _=>(s.take k).any p=false) _ (fun F k _ a hi=>?_) (fun F _ hi=>?_) N 0 () (Nat.zero_le _) (by omega) (by simp)
  ·simp only [bn]
   rw [ui (by omega),zh (ql a),dn,q8 (b k a)]
   cases hp:p (s.getD k default)
   ·right
    refine⟨(),by rw [z7j p s k a,hi,hp];rfl,?_⟩
    rw [cf rfl,zh (qh (by omega))];rfl
   ·left
    rw [ct rfl,if_pos (List.any_eq_true.2 ⟨_,l8 a,hp⟩),zhf p s k a hi hp]
  ·simp only [bn]
   rw [uh (by omega),if_neg (by rw [List.take_length] at hi;rw [hi];decide)]
 unfold z2u
 rw [q8 h]
 by_cases ha:s.any p=true
 ·rw [if_pos ha];rfl
 ·rw [if_neg ha,zj6 p s (by simpa using ha)];rfl
theorem zow{N:Nat}{s:List Int}{f:Int→Option Bool}{p:Int→Bool}(a: ∀ k,k<s.length→f (s.getD k default)=some (p (s.getD k default)))(b:s.length<N)(c:s.length≤4611686018427387904):
 lq N s f=some (s.any p):=by
 unfold lq
 rw [q8 (q6h a b c),zr0]
theorem zu9{N:Nat}{a b:List Int}(f:a.length<N)(g:a.length≤4611686018427387904):z1v N a b=some (cmpL a b):=by
 unfold z1v cmpL
 by_cases h1:a.length<b.length
 ·rw [ui (by omega),if_pos h1]
 ·rw [uh (by omega),if_neg h1]
  by_cases h2:b.length<a.length
  ·rw [ui (by omega),if_pos h2]
  ·rw [uh (by omega),if_neg h2]
   have h:a.length=b.length:=by omega
   have e:xe N a b N 0=some (if zjs a b=0 then Ex.go () else Ex.rt (zjs a b)):=by
    refine kz (σ:=Unit) (fun F k _=>xe N a b F (k:Int)) a.length (fun k _=>zjs (a.drop k) (b.drop k)=zjs a b) _ (fun F k _ d hi=>?_) (fun F _ hi=>?_) N 0 () (Nat.zero_le _) (by omega) rfl
    ·simp only [xe]
     rw [ui (by omega),zh (ql d),zh (ql (by omega))]
     have c:=zzv d (show k<b.length by omega)
     rw [hi] at c
     by_cases h3:a.getD k default<b.getD k default
     ·left
      refine Eq.trans (ui h3) ?_
      rw [if_pos h3] at c;rw [c];rfl
     ·refine(show _∨_ from ?_)
      rw [if_neg h3] at c
      by_cases h4:b.getD k default<a.getD k default
      ·left
       refine Eq.trans (uh h3) ?_
       rw [zh (ql d),zh (ql (by omega))]
       refine Eq.trans (ui h4) ?_
       rw [if_pos h4] at c;rw [c];rfl
      ·right
       rw [if_neg h4] at c
       refine⟨(),c.symm,Eq.trans (uh h3) ?_⟩
       rw [zh (ql d),zh (ql (by omega))]
       refine Eq.trans (uh h4) ?_
       rw [zh (qh (by omega))];rfl
    ·simp only [xe]
     rw [uh (by omega)]
     have:zjs a b=0:=by rw [←hi,List.drop_of_length_le (Nat.le_refl _)];rfl
     rw [if_pos this]
   rw [q8 e]
   by_cases h5:zjs a b=0
   ·rw [if_pos h5,h5];rfl
   ·rw [if_neg h5];rfl
theorem zf0{N:Nat}{a b:List Int}(c:a.length<N)(d:a.length≤4611686018427387904):wm N a b=some (decide (a=b)):=by
 unfold wm
 rw [q8 (zu9 c d)]
 by_cases h:a=b
 ·rw [decide_eq_true h,decide_eq_true ((cmpL_eq a b).2 h)]
 ·rw [decide_eq_false h,decide_eq_false (fun e=>h ((cmpL_eq a b).1 e))]
theorem zwg{N:Nat}{m:Mach}(a:MOk m){s i:Int}(b:SOk m s)(hi:0≤i∧i<m.inputs):z2a N m s i=some (z1m m s i):=by
 unfold z2a z1m
 rcases b with h|h
 ·rw [h];rfl
 ·have hrow:=a.row s.toNat (by omega)
  rw [uh (by omega),if_neg (by omega),zh h,zh (show okI (ix m.rows s) i from⟨hi.1,by rw [zfd,hrow];exact hi.2⟩)];rfl
theorem q5d{N:Nat}{m:Mach}(d:MOk m){s:Int}{w:List Int}(f:SOk m s)(e:WOk m.inputs w)(g:w.length<N)(h:w.length≤1000000):z1k N m s w=some (z4c m s w):=by
 unfold z1k
 refine Eq.trans (q8 (x:=z4c m s w) ?_) rfl
 refine kz (σ:=Int×List Int) (fun F k x=>iw N m w F x.1 x.2 (k:Int)) w.length (fun k x=>x.1=uk m s (w.take k)∧x.2=z4c m s (w.take k)) _ (fun F k x a hi=> .inr ?_) (fun F x hi=>?_) N 0 (s,[]) (Nat.zero_le _) (by omega) (by simp [uk,z4c])
 ·obtain⟨t,X⟩:=x
  obtain⟨rfl,rfl⟩:=hi
  have b:=zlg m d s (w.take k) f (zhp e k)
  refine⟨(uk m s (w.take (k+1)),z4c m s (w.take (k+1))),⟨rfl,rfl⟩,?_⟩
  simp only [iw]
  have c:=z8a m s (w.take k)
  rw [List.length_take] at c
  rw [ui (by omega),zh (ql a)]
  refine Eq.trans (q8 (zwg d b (show 0≤w.getD k default∧w.getD k default<m.inputs from e k a))) ?_
  rw [zh ⟨by simp;omega,by simp;omega⟩,zh (qh (by omega)),zg6 m s w k a,zoo m s w k a];rfl
 ·obtain⟨t,X⟩:=x
  obtain⟨rfl,rfl⟩:=hi
  simp only [iw]
  rw [uh (by omega),List.take_length]
theorem zin{N:Nat}{m:Mach}(a:MOk m): ∀ (F:Nat) (s:Int) (w:List Int),SOk m s→WOk m.inputs w→w.length<F→ww N F m s w=some (uk m s w)
 |0,s,w,_,_,h=>by omega
 |F+1,s,[],b,_,_=>rfl
 |F+1,s,i::w,b,c,h=>by
  have hi:0≤i∧i<m.inputs:=by simpa using c 0 (by simp)
  simp only [ww]
  rw [uh (by simp;omega),zh (show okI (i::w) 0 from ql (k:=0) (by simp))]
  refine Eq.trans (q8 (zwg a b (show 0≤i∧i<m.inputs from hi))) ?_
  rw [zh ⟨by omega,by simp;omega,by simp⟩]
  have d:cut (i::w) 1 (((i::w).length:Nat):Int)=w:=by simp [cut]
  rw [d]
  refine Eq.trans (q8 (zin (N:=N) a F _ w (zm9 m a s i b hi).1 (fun k e=>by simpa using c (k+1) (by simpa using e)) (by simpa using h))) ?_
  rfl
theorem zyz{N:Nat}{m:Mach}(p:Small m)(u:200≤N):z3n N m=some (z2w m):=by
 have v:=p.r
 unfold z3n
 by_cases h:(16<m.inputs∨16<m.outputs)∨64<m.rows.length
 ·rw [ct (by simp;omega),zt5 h]
 ·rw [cf (by simp;omega)]
  by_cases h1:(m.inputs<1∨m.outputs<1)∨m.rows.length<1
  ·rw [ct (by simp only [Bool.or_eq_true,decide_eq_true_eq];omega),zsh h h1]
  ·rw [cf (by
    have:(m.rows.length:Int)≠0:=by omega
    simp only [Bool.or_eq_false_iff,decide_eq_false_iff_not];omega)]
   have q:yc N m N 0=some (if m.rows.any (z4k m)=true then Ex.rt 1 else Ex.go ()):=by
    refine kz (σ:=Unit) (fun F k _=>yc N m F (k:Int)) m.rows.length (fun k _=>(m.rows.take k).any (z4k m)=false) _ (fun F k _ d hi=>?_) (fun F _ hi=>?_) N 0 () (Nat.zero_le _) (by omega) (by simp)
    ·have w:=p.c k d
     have j:(bd (gd (okI m.rows (k:Int))<|bif decide (((ix m.rows (k:Int)).length:Int)≠m.inputs) then(some (Ex.rt (Ex.rt 1))) else xn N m (k:Int) N 0) fun l=>Ex.on l (fun s=>gd (in64 ((k:Int)+1))<|yc N m F ((k:Int)+1)) some)=
      if z4k m (m.rows.getD k default)=true then some (Ex.rt 1) else yc N m F ((k+1:Nat):Int):=by
      rw [zh (ql d)]
      by_cases g:((m.rows.getD k default).length:Int)≠m.inputs
      ·have b:z4k m (m.rows.getD k default)=true:=by unfold z4k;rw [decide_eq_true g];rfl
       rw [if_pos b]
       refine Eq.trans (q8 (x:=Ex.rt (Ex.rt 1)) (ui g)) rfl
      ·have h2':((ix m.rows (k:Int)).length:Int)=m.inputs:=Decidable.of_not_not g
       have n:xn N m (k:Int) N 0=some (if z4k m (m.rows.getD k default)=true then Ex.rt (Ex.rt 1) else Ex.go ()):=by
        refine kz (σ:=Unit) (fun G i _=>xn N m (k:Int) G (i:Int)) m.inputs.toNat (fun i _=>(((m.rows.getD k default).take i).any fun x=> !zj3 m x)=false) _ (fun G i _ hi' e=>?_) (fun G _ e=>?_) N 0 () (Nat.zero_le _) (by have:((m.rows.getD k default).length:Int)=m.inputs:=h2';omega) (by simp)
        ·have a:i<(m.rows.getD k default).length:=by have:((m.rows.getD k default).length:Int)=m.inputs:=h2';omega
         simp only [xn]
         rw [ui (by omega),zh (ql d),zh (show okI (ix m.rows (k:Int)) (i:Int) from ql a)]
         have t:ix (ix m.rows (k:Int)) (i:Int)=(m.rows.getD k default).getD i default:=rfl
         rw [t]
         generalize hxe:(m.rows.getD k default).getD i default=x at*
         by_cases h3:x.to= -1∧x.out= -1
         ·right
          have f:=q1i (m:=m) (x:=x) (.inl h3)
          refine⟨(),by rw [z7j _ _ i a,e,hxe,f];rfl,?_⟩
          rw [ct (by rw [decide_eq_true h3.1,decide_eq_true h3.2];rfl),zpx,zi9,zh (qh (by omega))];rfl
         ·rw [cf (by rw [←Bool.decide_and];exact decide_eq_false h3)]
          by_cases h4:0≤x.to∧x.to<m.rows.length∧0≤x.out∧x.out<m.outputs
          ·right
           have f:=q1i (m:=m) (x:=x) (.inr h4)
           refine⟨(),by rw [z7j _ _ i a,e,hxe,f];rfl,?_⟩
           rw [cf (by simp;omega),zpx,zi9,zh (qh (by omega))];rfl
          ·left
           have f:=q7k (m:=m) (x:=x) (fun h=>h.elim h3 h4)
           rw [ct (by simp;omega),zpx,qc9,if_pos]
           unfold z4k
           rw [Bool.or_eq_true]
           exact .inr (List.any_eq_true.2 ⟨_,l8 a,by rw [hxe];exact f⟩)
        ·simp only [xn]
         rw [uh (by omega),if_neg]
         have o:(m.rows.getD k default).length=m.inputs.toNat:=by have:((m.rows.getD k default).length:Int)=m.inputs:=h2';omega
         rw [←o,List.take_length] at e
         unfold z4k
         rw [e,decide_eq_false g];decide
       refine Eq.trans (q8 (Eq.trans (uh (fun h=>h h2')) n)) ?_
       by_cases b:z4k m (m.rows.getD k default)=true
       ·rw [if_pos b,if_pos b];rfl
       ·rw [if_neg b,if_neg b,zi9,zh (qh (by omega))];rfl
     simp only [yc]
     rw [ui (by omega),j]
     cases hr:z4k m (m.rows.getD k default)
     ·right
      exact⟨(),by rw [z7j _ _ k d,hi,hr];rfl,if_neg (by decide)⟩
     ·left
      rw [if_pos rfl,if_pos (List.any_eq_true.2 ⟨_,l8 d,hr⟩)]
    ·simp only [yc]
     rw [uh (by omega),if_neg (by rw [List.take_length] at hi;rw [hi];decide)]
   rw [q8 q]
   by_cases ha:m.rows.any (z4k m)=true
   ·rw [if_pos ha];unfold z2w;rw [if_neg h,if_neg h1,if_pos ha];rfl
   ·rw [if_neg ha,zro h h1 (by simpa using ha)];rfl
/-! ### Data-/
end GV
end Go.Proofs.YtplgbkaollfmkaaGreat
