import Derived.Test.YtkhihcleegljhaaGreatPlain04z
import Derived.Test.YtkhihcleegljhaaGreatShPl
set_option linter.unusedVariables false
set_option linter.unusedSimpArgs false
namespace Go.Proofs.YtkhihcleegljhaaGreat
namespace GV
set_option maxRecDepth 100000
theorem zmq{N:Nat}{s:List Edge}{f:Edge→Option Bool}{p:Edge→Bool}(b: ∀ k,k<s.length→f (s.getD k default)=some (p (s.getD k default)))(c:s.length<N)(d:s.length≤4611686018427387904):
 oo N s f=some (zdi p s):=by
 have h:ky N s f N 0=some (if s.any p=true then Ex.rt (zdi p s) else Ex.go ()):=by
  refine z19 (σ:=Unit) (fun F k _=>ky N s f F (k:Int)) s.length (fun k _=>(s.take k).any p=false) _ (fun F k _ a hi=>?_) (fun F _ hi=>?_) N 0 () (Nat.zero_le _) (by omega) (by simp)
  ·simp only [ky]
   rw [dn (by omega),j5 (jy a),z03,jm (b k a)]
   cases hp:p (s.getD k default)
   ·right
    refine⟨(),by rw [z7q p s k a,hi,hp];rfl,?_⟩
    rw [cf rfl,j5 (xe (by omega))];rfl
   ·left
    rw [ct rfl,if_pos (List.any_eq_true.2 ⟨_,z2p a,hp⟩),zcx p s k a hi hp]
  ·simp only [ky]
   rw [dh (by omega),if_neg (by rw [List.take_length] at hi;rw [hi];decide)]
 unfold oo
 rw [jm h]
 by_cases ha:s.any p=true
 ·rw [if_pos ha];rfl
 ·rw [if_neg ha,zdt p s (by simpa using ha)];rfl
theorem zil{N:Nat}{s:List Edge}{f:Edge→Option Bool}{p:Edge→Bool}(a: ∀ k,k<s.length→f (s.getD k default)=some (p (s.getD k default)))(b:s.length<N)(c:s.length≤4611686018427387904):
 di N s f=some (s.any p):=by
 unfold di
 rw [jm (zmq a b c),zhr]
theorem zbn{N:Nat}{m:Mach}(b:Small m)(f:200≤N):lq N m=some (si m):=by
 unfold lq
 by_cases h:(16<m.inputs∨16<m.outputs)∨64<m.rows.length
 ·rw [ct (by simp;omega),zfh h]
 ·rw [cf (by simp;omega)]
  by_cases h1:(m.inputs<1∨m.outputs<1)∨m.rows.length<1
  ·rw [ct (by simp;omega),zfl h h1]
  ·rw [cf (by simp;omega)]
   have g:=b.r
   have d:ng N m N 0=some (if m.rows.any (z0j m)=true then Ex.rt 1 else Ex.go ()):=by
    refine z19 (σ:=Unit) (fun F k _=>ng N m F (k:Int)) m.rows.length (fun k _=>(m.rows.take k).any (z0j m)=false) _ (fun F k _ a hi=>?_) (fun F _ hi=>?_) N 0 () (Nat.zero_le _) (by omega) (by simp)
    ·simp only [ng]
     have i:=b.c k a
     rw [dn (by omega),j5 (jy a),z03,zlb (fun _=>zil (p:=fun x=> !zal m x) (fun j l=>rfl) (by omega) (by omega))]
     have e:(decide (((m.rows.getD k default).length:Int)≠m.inputs)||((bif (true&&(decide (((m.rows.getD k default).length:Int)≠m.inputs)==false)) then some ((m.rows.getD k default).any fun x=> !zal m x) else none).getD default))=z0j m (m.rows.getD k default):=by
      unfold z0j
      cases decide (((m.rows.getD k default).length:Int)≠m.inputs)<;>rfl
     rw [e]
     cases hr:z0j m (m.rows.getD k default)
     ·right
      refine⟨(),by rw [z7q _ _ k a,hi,hr];rfl,?_⟩
      rw [cf rfl,j5 (xe (by omega))];rfl
     ·left
      rw [ct rfl,if_pos (List.any_eq_true.2 ⟨_,z2p a,hr⟩)]
    ·simp only [ng]
     rw [dh (by omega),if_neg (by rw [List.take_length] at hi;rw [hi];decide)]
   rw [jm d]
   by_cases ha:m.rows.any (z0j m)=true
   ·rw [if_pos ha];unfold si;rw [if_neg h,if_neg h1,if_pos ha];rfl
   ·rw [if_neg ha,zg4 h h1 (by simpa using ha)];rfl
theorem zk1{N:Nat}{m:Mach}(a:Small m)(b:200≤N)(s:Int):z2d N m s=some (z7c m s):=by
 unfold z2d z7c
 rw [jm (zbn a b)]
 by_cases h:si m≠0
 ·rw [dn h,if_pos h]
 ·rw [dh h,if_neg h]
  by_cases h1:s<0∨(m.rows.length:Int)≤s
  ·rw [ct (by simpa using h1),if_pos h1]
  ·rw [cf (by simpa using h1),if_neg h1]
theorem zn4{N:Nat}{s:List Int}{f:Int→Option Bool}{p:Int→Bool}(b: ∀ k,k<s.length→f (s.getD k default)=some (p (s.getD k default)))(c:s.length<N)(d:s.length≤4611686018427387904):
 iq N s f=some (zdi p s):=by
 have h:wy N s f N 0=some (if s.any p=true then Ex.rt (zdi p s) else Ex.go ()):=by
  refine z19 (σ:=Unit) (fun F k _=>wy N s f F (k:Int)) s.length (fun k _=>(s.take k).any p=false) _ (fun F k _ a hi=>?_) (fun F _ hi=>?_) N 0 () (Nat.zero_le _) (by omega) (by simp)
  ·simp only [wy]
   rw [dn (by omega),j5 (jy a),z03,jm (b k a)]
   cases hp:p (s.getD k default)
   ·right
    refine⟨(),by rw [z7q p s k a,hi,hp];rfl,?_⟩
    rw [cf rfl,j5 (xe (by omega))];rfl
   ·left
    rw [ct rfl,if_pos (List.any_eq_true.2 ⟨_,z2p a,hp⟩),zcx p s k a hi hp]
  ·simp only [wy]
   rw [dh (by omega),if_neg (by rw [List.take_length] at hi;rw [hi];decide)]
 unfold iq
 rw [jm h]
 by_cases ha:s.any p=true
 ·rw [if_pos ha];rfl
 ·rw [if_neg ha,zdt p s (by simpa using ha)];rfl
theorem zie{N:Nat}{s:List Int}{f:Int→Option Bool}{p:Int→Bool}(a: ∀ k,k<s.length→f (s.getD k default)=some (p (s.getD k default)))(b:s.length<N)(c:s.length≤4611686018427387904):
 nz N s f=some (s.any p):=by
 unfold nz
 rw [jm (zn4 a b c),zhr]
theorem zdq{N:Nat}{w:List Int}{n:Int}(b:w.length<N)(c:w.length≤4611686018427387904):z16 N w n=some (ny w n):=by
 unfold z16
 by_cases h:16<n∨256<w.length
 ·rw [ct (by simp;omega),zcq h]
 ·rw [cf (by simp;omega)]
  rw [zlb (fun _=>zie (p:=z3l n) (fun j d=>rfl) b c)]
  by_cases h1:n<1∨w.any (z3l n)=true
  ·rw [zfw h h1]
   refine ct ?_
   by_cases a:n<1
   ·rw [decide_eq_true a];rfl
   ·rw [decide_eq_false a];exact h1.resolve_left a
  ·rw [zjk h h1]
   refine cf ?_
   rw [decide_eq_false (fun a=>h1 (.inl a))]
   exact Bool.eq_false_iff.2 fun a=>h1 (.inr a)
theorem zmm{N:Nat}{m:Mach}(e:MOk m){s:Int}{w:List Int}(g:SOk m s)(f:WOk m.inputs w)(j:w.length<N)(l:w.length≤1000000):z3t N m s w=some (z4d m s w,z4s m s w):=by
 unfold z3t
 rw [j5 ⟨by omega,by omega,by omega⟩,zgw]
 refine Eq.trans (jm (x:=(z4s m s w,z4d m s w)) ?_) rfl
 refine z19 (σ:=Int×List Int) (fun F k x=>fo N m w F x.1 (k:Int) x.2) w.length (fun k x=>x.1=z4s m s (w.take k)∧x.2=z4d m s (w.take k)++List.replicate (w.length-k) (0:Int)) _ (fun F k x a hi=> .inr ?_) (fun F x hi=>?_) N 0 (s,List.replicate w.length 0) (Nat.zero_le _) (by omega) (by simp [z4s,z4d])
 ·obtain⟨t,X⟩:=x
  obtain⟨rfl,rfl⟩:=hi
  have d:=zf4 m e s (w.take k) g (zfv f k)
  have b:=f k a
  refine⟨(z4s m s (w.take (k+1)),z4d m s (w.take (k+1))++List.replicate (w.length-(k+1)) (0:Int)),⟨rfl,rfl⟩,?_⟩
  simp only [fo]
  rw [dn (by omega),j5 (jy a),show z2t N=some ⟨-1,-1⟩ from rfl,zfb]
  have i:(bif decide (z4s m s (w.take k)≠ -1) then gd (okI m.rows (z4s m s (w.take k)))<|gd (okI (ix m.rows (z4s m s (w.take k))) (ix w (k:Int)))<|some ((ix (ix m.rows (z4s m s (w.take k))) (ix w (k:Int))).to,(ix (ix m.rows (z4s m s (w.take k))) (ix w (k:Int))).out) else some ((-1:Int),(-1:Int)))=
   some ((z6q m (z4s m s (w.take k)) (w.getD k default)).to,(z6q m (z4s m s (w.take k)) (w.getD k default)).out):=by
   rcases d with h|h
   ·rw [h];rfl
   ·have hrow:=e.row (z4s m s (w.take k)).toNat (by omega)
    rw [dn (by omega),j5 h,j5 (show okI (ix m.rows (z4s m s (w.take k))) (ix w (k:Int)) from⟨b.1,show w.getD k default<((m.rows.getD (z4s m s (w.take k)).toNat default).length:Int) from by rw [hrow];exact b.2⟩)]
    unfold z6q
    rw [if_neg (by omega)];rfl
  refine Eq.trans (jm i) ?_
  have c:=z1x m s (w.take k)
  rw [List.length_take] at c
  rw [j5 (jy (by rw [List.length_append,List.length_replicate,c];omega)),j5 (xe (by omega)),zew,zl5 _ _ _ _ (by omega) a,←zef m s w k a,←zdp m s w k a];rfl
 ·obtain⟨t,X⟩:=x
  obtain⟨rfl,rfl⟩:=hi
  simp only [fo]
  rw [dh (by omega),List.take_length,Nat.sub_self,List.replicate_zero,List.append_nil]
theorem zn3{N:Nat}{m:Mach}(c:Small m){s:Int}{w:List Int}(e:400≤N)(a:w.length<N)(hl':w.length≤1000000):z1h N m s w=some (zn7 m s w,zmo m s w):=by
 unfold z1h zn7 zmo
 rw [jm (zk1 c (by omega) s)]
 by_cases h:z7c m s≠0
 ·rw [dn h,if_pos h,if_pos h]
 ·rw [dh h,if_neg h,if_neg h,jm (zdq a (by omega))]
  by_cases h1:ny w m.inputs≠0
  ·rw [dn h1,if_pos h1]
  ·have b:=zkw (m:=m) (s:=s) (by simpa using h)
   have d:=z9g (w:=w) (n:=m.inputs) (by simpa using h1)
   rw [dh h1,if_neg h1,jm (zmm b.1 (.inr b.2) d.1 a hl'),show ny w m.inputs=0 by simpa using h1]
theorem zm0{N:Nat}{m:Mach}(a:MOk m){s i:Int}(b:SOk m s)(hi:0≤i∧i<m.inputs):z0h N m s i=some (z6q m s i):=by
 unfold z0h z6q
 rcases b with h|h
 ·rw [h];rfl
 ·have hrow:=a.row s.toNat (by omega)
  rw [dh (by omega),if_neg (by omega),j5 h,j5 (show okI (ix m.rows s) i from⟨hi.1,by rw [zmu,hrow];exact hi.2⟩)];rfl
theorem zia{N:Nat}{m:Mach}(d:MOk m){s:Int}{w:List Int}(f:SOk m s)(e:WOk m.inputs w)(g:w.length<N)(h:w.length≤1000000):z01 N m s w=some (z4d m s w):=by
 unfold z01
 refine Eq.trans (jm (x:=z4d m s w) ?_) rfl
 refine z19 (σ:=Int×List Int) (fun F k x=>p8 N m w F x.1 x.2 (k:Int)) w.length (fun k x=>x.1=z4s m s (w.take k)∧x.2=z4d m s (w.take k)) _ (fun F k x a hi=> .inr ?_) (fun F x hi=>?_) N 0 (s,[]) (Nat.zero_le _) (by omega) (by simp [z4s,z4d])
 ·obtain⟨t,X⟩:=x
  obtain⟨rfl,rfl⟩:=hi
  have b:=zf4 m d s (w.take k) f (zfv e k)
  refine⟨(z4s m s (w.take (k+1)),z4d m s (w.take (k+1))),⟨rfl,rfl⟩,?_⟩
  simp only [p8]
  have c:=z1x m s (w.take k)
  rw [List.length_take] at c
  rw [dn (by omega),j5 (jy a)]
  refine Eq.trans (jm (zm0 d b (show 0≤w.getD k default∧w.getD k default<m.inputs from e k a))) ?_
  rw [j5 ⟨by simp;omega,by simp;omega⟩,j5 (xe (by omega)),zef m s w k a,zdp m s w k a];rfl
 ·obtain⟨t,X⟩:=x
  obtain⟨rfl,rfl⟩:=hi
  simp only [p8]
  rw [dh (by omega),List.take_length]
theorem ze9{N:Nat}{m:Mach}(p:Small m)(u:200≤N):oq N m=some (si m):=by
 have v:=p.r
 unfold oq
 by_cases h:(16<m.inputs∨16<m.outputs)∨64<m.rows.length
 ·rw [ct (by simp;omega),zfh h]
 ·rw [cf (by simp;omega)]
  by_cases h1:(m.inputs<1∨m.outputs<1)∨m.rows.length<1
  ·rw [ct (by simp only [Bool.or_eq_true,decide_eq_true_eq];omega),zfl h h1]
  ·rw [cf (by
    have:(m.rows.length:Int)≠0:=by omega
    simp only [Bool.or_eq_false_iff,decide_eq_false_iff_not];omega)]
   have q:uh N m N 0=some (if m.rows.any (z0j m)=true then Ex.rt 1 else Ex.go ()):=by
    refine z19 (σ:=Unit) (fun F k _=>uh N m F (k:Int)) m.rows.length (fun k _=>(m.rows.take k).any (z0j m)=false) _ (fun F k _ d hi=>?_) (fun F _ hi=>?_) N 0 () (Nat.zero_le _) (by omega) (by simp)
    ·have w:=p.c k d
     have j:(bd (gd (okI m.rows (k:Int))<|bif decide (((ix m.rows (k:Int)).length:Int)≠m.inputs) then(some (Ex.rt (Ex.rt 1))) else wm N m (k:Int) N 0) fun l=>Ex.on l (fun s=>gd (in64 ((k:Int)+1))<|uh N m F ((k:Int)+1)) some)=
      if z0j m (m.rows.getD k default)=true then some (Ex.rt 1) else uh N m F ((k+1:Nat):Int):=by
      rw [j5 (jy d)]
      by_cases g:((m.rows.getD k default).length:Int)≠m.inputs
      ·have b:z0j m (m.rows.getD k default)=true:=by unfold z0j;rw [decide_eq_true g];rfl
       rw [if_pos b]
       refine Eq.trans (jm (x:=Ex.rt (Ex.rt 1)) (dn g)) rfl
      ·have h2':((ix m.rows (k:Int)).length:Int)=m.inputs:=Decidable.of_not_not g
       have n:wm N m (k:Int) N 0=some (if z0j m (m.rows.getD k default)=true then Ex.rt (Ex.rt 1) else Ex.go ()):=by
        refine z19 (σ:=Unit) (fun G i _=>wm N m (k:Int) G (i:Int)) m.inputs.toNat (fun i _=>(((m.rows.getD k default).take i).any fun x=> !zal m x)=false) _ (fun G i _ hi' e=>?_) (fun G _ e=>?_) N 0 () (Nat.zero_le _) (by have:((m.rows.getD k default).length:Int)=m.inputs:=h2';omega) (by simp)
        ·have a:i<(m.rows.getD k default).length:=by have:((m.rows.getD k default).length:Int)=m.inputs:=h2';omega
         simp only [wm]
         rw [dn (by omega),j5 (jy d),j5 (show okI (ix m.rows (k:Int)) (i:Int) from jy a)]
         have t:ix (ix m.rows (k:Int)) (i:Int)=(m.rows.getD k default).getD i default:=rfl
         rw [t]
         generalize hxe:(m.rows.getD k default).getD i default=x at*
         by_cases h3:x.to= -1∧x.out= -1
         ·right
          have f:=zjl (m:=m) (x:=x) (.inl h3)
          refine⟨(),by rw [z7q _ _ i a,e,hxe,f];rfl,?_⟩
          rw [ct (by rw [decide_eq_true h3.1,decide_eq_true h3.2];rfl),zfb,zff,j5 (xe (by omega))];rfl
         ·rw [cf (by rw [←Bool.decide_and];exact decide_eq_false h3)]
          by_cases h4:0≤x.to∧x.to<m.rows.length∧0≤x.out∧x.out<m.outputs
          ·right
           have f:=zjl (m:=m) (x:=x) (.inr h4)
           refine⟨(),by rw [z7q _ _ i a,e,hxe,f];rfl,?_⟩
           rw [cf (by simp;omega),zfb,zff,j5 (xe (by omega))];rfl
          ·left
           have f:=zmx (m:=m) (x:=x) (fun h=>h.elim h3 h4)
           rw [ct (by simp;omega),zfb,zmk,if_pos]
           unfold z0j
           rw [Bool.or_eq_true]
           exact .inr (List.any_eq_true.2 ⟨_,z2p a,by rw [hxe];exact f⟩)
        ·simp only [wm]
         rw [dh (by omega),if_neg]
         have o:(m.rows.getD k default).length=m.inputs.toNat:=by have:((m.rows.getD k default).length:Int)=m.inputs:=h2';omega
         rw [←o,List.take_length] at e
         unfold z0j
         rw [e,decide_eq_false g];decide
       refine Eq.trans (jm (Eq.trans (dh (fun h=>h h2')) n)) ?_
       by_cases b:z0j m (m.rows.getD k default)=true
       ·rw [if_pos b,if_pos b];rfl
       ·rw [if_neg b,if_neg b,zff,j5 (xe (by omega))];rfl
     simp only [uh]
     rw [dn (by omega),j]
     cases hr:z0j m (m.rows.getD k default)
     ·right
      exact⟨(),by rw [z7q _ _ k d,hi,hr];rfl,if_neg (by decide)⟩
     ·left
      rw [if_pos rfl,if_pos (List.any_eq_true.2 ⟨_,z2p d,hr⟩)]
    ·simp only [uh]
     rw [dh (by omega),if_neg (by rw [List.take_length] at hi;rw [hi];decide)]
   rw [jm q]
   by_cases ha:m.rows.any (z0j m)=true
   ·rw [if_pos ha];unfold si;rw [if_neg h,if_neg h1,if_pos ha];rfl
   ·rw [if_neg ha,zg4 h h1 (by simpa using ha)];rfl
end GV
end Go.Proofs.YtkhihcleegljhaaGreat
