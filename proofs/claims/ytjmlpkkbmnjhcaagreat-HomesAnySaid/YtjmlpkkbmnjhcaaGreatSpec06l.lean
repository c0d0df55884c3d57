
import Derived.Test.YtjmlpkkbmnjhcaaGreatPlain04
import Derived.Test.YtjmlpkkbmnjhcaaGreatShPl
import Derived.Test.YtjmlpkkbmnjhcaaGreatBfs06
set_option linter.unusedVariables false
set_option linter.unusedSimpArgs false
set_option linter.unusedSectionVars false
namespace Go.Proofs.YtjmlpkkbmnjhcaaGreat
namespace GV
set_option maxRecDepth 100000
theorem q6r{N:Nat}{s:List Edge}{f:Edge→Option Bool}{p:Edge→Bool}(b: ∀ k,k<s.length→f (s.getD k default)=some (p (s.getD k default)))(c:s.length<N)(d:s.length≤4611686018427387904):
 z1r N s f=some (zmr p s):=by
 have h:xm N s f N 0=some (if s.any p=true then Ex.rt (zmr p s) else Ex.go ()):=by
  refine z19 (σ:=Unit) (fun F k _=>xm N s f F (k:Int)) s.length (fun k _=>(s.take k).any p=false) _ (fun F k _ a hi=>?_) (fun F _ hi=>?_) N 0 () (Nat.zero_le _) (by omega) (by simp)
  ·simp only [xm]
   rw [ut (by omega),zm (ky a),lg,qh (b k a)]
   cases hp:p (s.getD k default)
   ·right
    refine⟨(),by rw [zd3 p s k a,hi,hp];rfl,?_⟩
    rw [cf rfl,zm (j3 (by omega))];rfl
   ·left
    rw [ct rfl,if_pos (List.any_eq_true.2 ⟨_,z2e a,hp⟩),zkx p s k a hi hp]
  ·simp only [xm]
   rw [ul (by omega),if_neg (by rw [List.take_length] at hi;rw [hi];decide)]
 unfold z1r
 rw [qh h]
 by_cases ha:s.any p=true
 ·rw [if_pos ha];rfl
 ·rw [if_neg ha,zoh p s (by simpa using ha)];rfl
theorem zxv{N:Nat}{s:List Edge}{f:Edge→Option Bool}{p:Edge→Bool}(a: ∀ k,k<s.length→f (s.getD k default)=some (p (s.getD k default)))(b:s.length<N)(c:s.length≤4611686018427387904):
 z0p N s f=some (s.any p):=by
 unfold z0p
 rw [qh (q6r a b c),zvq]
theorem zra{N:Nat}{m:Mach}(b:Small m)(f:200≤N):z6n N m=some (z2l m):=by
 unfold z6n
 by_cases h:(16<m.inputs∨16<m.outputs)∨64<m.rows.length
 ·rw [ct (by simp;omega),zrm h]
 ·rw [cf (by simp;omega)]
  by_cases h1:(m.inputs<1∨m.outputs<1)∨m.rows.length<1
  ·rw [ct (by simp;omega),zsa h h1]
  ·rw [cf (by simp;omega)]
   have g:=b.r
   have d:z0x N m N 0=some (if m.rows.any (z5g m)=true then Ex.rt 1 else Ex.go ()):=by
    refine z19 (σ:=Unit) (fun F k _=>z0x N m F (k:Int)) m.rows.length (fun k _=>(m.rows.take k).any (z5g m)=false) _ (fun F k _ a hi=>?_) (fun F _ hi=>?_) N 0 () (Nat.zero_le _) (by omega) (by simp)
    ·simp only [z0x]
     have i:=b.c k a
     rw [ut (by omega),zm (ky a),lg,q1j (fun _=>zxv (p:=fun x=> !zif m x) (fun j l=>rfl) (by omega) (by omega))]
     have e:(decide (((m.rows.getD k default).length:Int)≠m.inputs)||((bif (true&&(decide (((m.rows.getD k default).length:Int)≠m.inputs)==false)) then some ((m.rows.getD k default).any fun x=> !zif m x) else none).getD default))=z5g m (m.rows.getD k default):=by
      unfold z5g
      cases decide (((m.rows.getD k default).length:Int)≠m.inputs)<;>rfl
     rw [e]
     cases hr:z5g m (m.rows.getD k default)
     ·right
      refine⟨(),by rw [zd3 _ _ k a,hi,hr];rfl,?_⟩
      rw [cf rfl,zm (j3 (by omega))];rfl
     ·left
      rw [ct rfl,if_pos (List.any_eq_true.2 ⟨_,z2e a,hr⟩)]
    ·simp only [z0x]
     rw [ul (by omega),if_neg (by rw [List.take_length] at hi;rw [hi];decide)]
   rw [qh d]
   by_cases ha:m.rows.any (z5g m)=true
   ·rw [if_pos ha];unfold z2l;rw [if_neg h,if_neg h1,if_pos ha];rfl
   ·rw [if_neg ha,zrq h h1 (by simpa using ha)];rfl
theorem zt1{N:Nat}{m:Mach}(a:MOk m)(h:200≤N):z3q N m=some (zxj m:Int):=by
 have j:=a.r2;have d:=a.i1;have e:=a.i2
 unfold z3q
 refine Eq.trans (qh (x:=(zxj m:Int)) ?_) rfl
 refine z19 (fun F k (s:Int)=>ik N m F s (k:Int)) m.rows.length (fun k s=>s=(zd6 m k:Int)) _ (fun F k s b hi=> .inr ?_) (fun F s hi=>?_) N 0 0 (Nat.zero_le _) (by omega) (by simp [zd6])
 ·subst hi
  have hlen:((m.rows.getD k default).length:Int)=m.inputs:=a.row k b
  have f:=zur m a k (by omega)
  have g:cu N m (k:Int) N (zd6 m k:Int) 0=some (zd6 m (k+1):Int):=by
   rw [zd4 m k b]
   refine z19 (fun F i (s:Int)=>cu N m (k:Int) F s (i:Int)) m.inputs.toNat (fun i s=>s=((zd6 m k+zh8 (m.rows.getD k default) i:Nat):Int)) _ (fun F i s hi c=> .inr ?_) (fun F s c=>?_) N 0 _ (Nat.zero_le _) (by omega) (by simp [znf])
   ·subst c
    have hi':i<(m.rows.getD k default).length:=by omega
    refine⟨_,rfl,?_⟩
    simp only [cu]
    have l:=zk9 (m.rows.getD k default) i
    rw [ut (by omega),zm (ky b),zm (show okI (ix m.rows (k:Int)) (i:Int) from ky hi'),zn6 _ _ hi']
    by_cases h0:0≤((m.rows.getD k default).getD i default).to
    ·rw [if_pos h0]
     refine Eq.trans (qh (x:=((zd6 m k+(zh8 (m.rows.getD k default) i+1):Nat):Int)) ?_) ?_
     ·refine Eq.trans (ut h0) ?_
      rw [zm (j3 (by omega))];rfl
     ·rw [zm (j3 (by omega))];rfl
    ·rw [if_neg h0]
     refine Eq.trans (qh (x:=((zd6 m k+(zh8 (m.rows.getD k default) i+0):Nat):Int)) ?_) ?_
     ·exact ul h0
     ·rw [zm (j3 (by omega))];rfl
   ·subst c
    simp only [cu]
    rw [ul (by omega),show m.inputs.toNat=(m.rows.getD k default).length by omega]
  refine⟨_,rfl,?_⟩
  simp only [ik]
  rw [ut (by omega),qh g,zm (j3 (by omega))];rfl
 ·subst hi
  simp only [ik]
  rw [ul (by omega)];rfl
theorem zpg{N:Nat}{m:Mach}(a:MOk m)(b:200≤N):z3a N m=some (zdx m):=by
 unfold z3a
 have:=a.mul
 rw [qh (zt1 a b),zm (j3 (by rw [this.2];omega))];rfl
/-! ### Words-/
theorem q6p{N:Nat}{s:List Int}{f:Int→Option Bool}{p:Int→Bool}(b: ∀ k,k<s.length→f (s.getD k default)=some (p (s.getD k default)))(c:s.length<N)(d:s.length≤4611686018427387904):
 z4i N s f=some (zmr p s):=by
 have h:mr N s f N 0=some (if s.any p=true then Ex.rt (zmr p s) else Ex.go ()):=by
  refine z19 (σ:=Unit) (fun F k _=>mr N s f F (k:Int)) s.length (fun k _=>(s.take k).any p=false) _ (fun F k _ a hi=>?_) (fun F _ hi=>?_) N 0 () (Nat.zero_le _) (by omega) (by simp)
  ·simp only [mr]
   rw [ut (by omega),zm (ky a),lg,qh (b k a)]
   cases hp:p (s.getD k default)
   ·right
    refine⟨(),by rw [zd3 p s k a,hi,hp];rfl,?_⟩
    rw [cf rfl,zm (j3 (by omega))];rfl
   ·left
    rw [ct rfl,if_pos (List.any_eq_true.2 ⟨_,z2e a,hp⟩),zkx p s k a hi hp]
  ·simp only [mr]
   rw [ul (by omega),if_neg (by rw [List.take_length] at hi;rw [hi];decide)]
 unfold z4i
 rw [qh h]
 by_cases ha:s.any p=true
 ·rw [if_pos ha];rfl
 ·rw [if_neg ha,zoh p s (by simpa using ha)];rfl
theorem zws{N:Nat}{s:List Int}{f:Int→Option Bool}{p:Int→Bool}(a: ∀ k,k<s.length→f (s.getD k default)=some (p (s.getD k default)))(b:s.length<N)(c:s.length≤4611686018427387904):
 z2p N s f=some (s.any p):=by
 unfold z2p
 rw [qh (q6p a b c),zvq]
theorem zso{N:Nat}{a b:List Int}(f:a.length<N)(g:a.length≤4611686018427387904):z3m N a b=some (cmpL a b):=by
 unfold z3m cmpL
 by_cases h1:a.length<b.length
 ·rw [ut (by omega),if_pos h1]
 ·rw [ul (by omega),if_neg h1]
  by_cases h2:b.length<a.length
  ·rw [ut (by omega),if_pos h2]
  ·rw [ul (by omega),if_neg h2]
   have h:a.length=b.length:=by omega
   have e:dz N a b N 0=some (if ze1 a b=0 then Ex.go () else Ex.rt (ze1 a b)):=by
    refine z19 (σ:=Unit) (fun F k _=>dz N a b F (k:Int)) a.length (fun k _=>ze1 (a.drop k) (b.drop k)=ze1 a b) _ (fun F k _ d hi=>?_) (fun F _ hi=>?_) N 0 () (Nat.zero_le _) (by omega) rfl
    ·simp only [dz]
     rw [ut (by omega),zm (ky d),zm (ky (by omega))]
     have c:=zo7 d (show k<b.length by omega)
     rw [hi] at c
     by_cases h3:a.getD k default<b.getD k default
     ·left
      refine Eq.trans (ut h3) ?_
      rw [if_pos h3] at c;rw [c];rfl
     ·refine(show _∨_ from ?_)
      rw [if_neg h3] at c
      by_cases h4:b.getD k default<a.getD k default
      ·left
       refine Eq.trans (ul h3) ?_
       rw [zm (ky d),zm (ky (by omega))]
       refine Eq.trans (ut h4) ?_
       rw [if_pos h4] at c;rw [c];rfl
      ·right
       rw [if_neg h4] at c
       refine⟨(),c.symm,Eq.trans (ul h3) ?_⟩
       rw [zm (ky d),zm (ky (by omega))]
       refine Eq.trans (ul h4) ?_
       rw [zm (j3 (by omega))];rfl
    ·simp only [dz]
     rw [ul (by omega)]
     have:ze1 a b=0:=by rw [←hi,List.drop_of_length_le (Nat.le_refl _)];rfl
     rw [if_pos this]
   rw [qh e]
   by_cases h5:ze1 a b=0
   ·rw [if_pos h5,h5];rfl
   ·rw [if_neg h5];rfl
theorem q1b{N:Nat}{a b:List Int}(c:a.length<N)(d:a.length≤4611686018427387904):z5o N a b=some (decide (a=b)):=by
 unfold z5o
 rw [qh (zso c d)]
 by_cases h:a=b
 ·rw [decide_eq_true h,decide_eq_true ((cmpL_eq a b).2 h)]
 ·rw [decide_eq_false h,decide_eq_false (fun e=>h ((cmpL_eq a b).1 e))]
theorem zug{N:Nat}{m:Mach}(a:MOk m){s i:Int}(b:SOk m s)(hi:0≤i∧i<m.inputs):z2k N m s i=some (z5c m s i):=by
 unfold z2k z5c
 rcases b with h|h
 ·rw [h];rfl
 ·have hrow:=a.row s.toNat (by omega)
  rw [ul (by omega),if_neg (by omega),zm h,zm (show okI (ix m.rows s) i from⟨hi.1,by rw [ztv,hrow];exact hi.2⟩)];rfl
theorem q2d{N:Nat}{m:Mach}(d:MOk m){s:Int}{w:List Int}(f:SOk m s)(e:WOk m.inputs w)(g:w.length<N)(h:w.length≤1000000):ma N m s w=some (yx m s w):=by
 unfold ma
 refine Eq.trans (qh (x:=yx m s w) ?_) rfl
 refine z19 (σ:=Int×List Int) (fun F k x=>iy N m w F x.1 x.2 (k:Int)) w.length (fun k x=>x.1=yo m s (w.take k)∧x.2=yx m s (w.take k)) _ (fun F k x a hi=> .inr ?_) (fun F x hi=>?_) N 0 (s,[]) (Nat.zero_le _) (by omega) (by simp [yo,yx])
 ·obtain⟨t,X⟩:=x
  obtain⟨rfl,rfl⟩:=hi
  have b:=zp5 m d s (w.take k) f (zqw e k)
  refine⟨(yo m s (w.take (k+1)),yx m s (w.take (k+1))),⟨rfl,rfl⟩,?_⟩
  simp only [iy]
  have c:=z1g m s (w.take k)
  rw [List.length_take] at c
  rw [ut (by omega),zm (ky a)]
  refine Eq.trans (qh (zug d b (show 0≤w.getD k default∧w.getD k default<m.inputs from e k a))) ?_
  rw [zm ⟨by simp;omega,by simp;omega⟩,zm (j3 (by omega)),znz m s w k a,znb m s w k a];rfl
 ·obtain⟨t,X⟩:=x
  obtain⟨rfl,rfl⟩:=hi
  simp only [iy]
  rw [ul (by omega),List.take_length]
theorem zul{N:Nat}{m:Mach}(a:MOk m): ∀ (F:Nat) (s:Int) (w:List Int),SOk m s→WOk m.inputs w→w.length<F→vo N F m s w=some (yo m s w)
 |0,s,w,_,_,h=>by omega
 |F+1,s,[],b,_,_=>rfl
 |F+1,s,i::w,b,c,h=>by
  have hi:0≤i∧i<m.inputs:=by simpa using c 0 (by simp)
  simp only [vo]
  rw [ul (by simp;omega),zm (show okI (i::w) 0 from ky (k:=0) (by simp))]
  refine Eq.trans (qh (zug a b (show 0≤i∧i<m.inputs from hi))) ?_
  rw [zm ⟨by omega,by simp;omega,by simp⟩]
  have d:cut (i::w) 1 (((i::w).length:Nat):Int)=w:=by simp [cut]
  rw [d]
  refine Eq.trans (qh (zul (N:=N) a F _ w (zlx m a s i b hi).1 (fun k e=>by simpa using c (k+1) (by simpa using e)) (by simpa using h))) ?_
  rfl
theorem zx4{N:Nat}{m:Mach}(p:Small m)(u:200≤N):z4s N m=some (z2l m):=by
 have v:=p.r
 unfold z4s
 by_cases h:(16<m.inputs∨16<m.outputs)∨64<m.rows.length
 ·rw [ct (by simp;omega),zrm h]
 ·rw [cf (by simp;omega)]
  by_cases h1:(m.inputs<1∨m.outputs<1)∨m.rows.length<1
  ·rw [ct (by simp only [Bool.or_eq_true,decide_eq_true_eq];omega),zsa h h1]
  ·rw [cf (by
    have:(m.rows.length:Int)≠0:=by omega
    simp only [Bool.or_eq_false_iff,decide_eq_false_iff_not];omega)]
   have q:bg N m N 0=some (if m.rows.any (z5g m)=true then Ex.rt 1 else Ex.go ()):=by
    refine z19 (σ:=Unit) (fun F k _=>bg N m F (k:Int)) m.rows.length (fun k _=>(m.rows.take k).any (z5g m)=false) _ (fun F k _ d hi=>?_) (fun F _ hi=>?_) N 0 () (Nat.zero_le _) (by omega) (by simp)
    ·have w:=p.c k d
     have j:(bd (gd (okI m.rows (k:Int))<|bif decide (((ix m.rows (k:Int)).length:Int)≠m.inputs) then(some (Ex.rt (Ex.rt 1))) else cz N m (k:Int) N 0) fun l=>Ex.on l (fun s=>gd (in64 ((k:Int)+1))<|bg N m F ((k:Int)+1)) some)=
      if z5g m (m.rows.getD k default)=true then some (Ex.rt 1) else bg N m F ((k+1:Nat):Int):=by
      rw [zm (ky d)]
      by_cases g:((m.rows.getD k default).length:Int)≠m.inputs
      ·have b:z5g m (m.rows.getD k default)=true:=by unfold z5g;rw [decide_eq_true g];rfl
       rw [if_pos b]
       refine Eq.trans (qh (x:=Ex.rt (Ex.rt 1)) (ut g)) rfl
      ·have h2':((ix m.rows (k:Int)).length:Int)=m.inputs:=Decidable.of_not_not g
       have n:cz N m (k:Int) N 0=some (if z5g m (m.rows.getD k default)=true then Ex.rt (Ex.rt 1) else Ex.go ()):=by
        refine z19 (σ:=Unit) (fun G i _=>cz N m (k:Int) G (i:Int)) m.inputs.toNat (fun i _=>(((m.rows.getD k default).take i).any fun x=> !zif m x)=false) _ (fun G i _ hi' e=>?_) (fun G _ e=>?_) N 0 () (Nat.zero_le _) (by have:((m.rows.getD k default).length:Int)=m.inputs:=h2';omega) (by simp)
        ·have a:i<(m.rows.getD k default).length:=by have:((m.rows.getD k default).length:Int)=m.inputs:=h2';omega
         simp only [cz]
         rw [ut (by omega),zm (ky d),zm (show okI (ix m.rows (k:Int)) (i:Int) from ky a)]
         have t:ix (ix m.rows (k:Int)) (i:Int)=(m.rows.getD k default).getD i default:=rfl
         rw [t]
         generalize hxe:(m.rows.getD k default).getD i default=x at*
         by_cases h3:x.to= -1∧x.out= -1
         ·right
          have f:=q0s (m:=m) (x:=x) (.inl h3)
          refine⟨(),by rw [zd3 _ _ i a,e,hxe,f];rfl,?_⟩
          rw [ct (by rw [decide_eq_true h3.1,decide_eq_true h3.2];rfl),z2r,z6z,zm (j3 (by omega))];rfl
         ·rw [cf (by rw [←Bool.decide_and];exact decide_eq_false h3)]
          by_cases h4:0≤x.to∧x.to<m.rows.length∧0≤x.out∧x.out<m.outputs
          ·right
           have f:=q0s (m:=m) (x:=x) (.inr h4)
           refine⟨(),by rw [zd3 _ _ i a,e,hxe,f];rfl,?_⟩
           rw [cf (by simp;omega),z2r,z6z,zm (j3 (by omega))];rfl
          ·left
           have f:=q5j (m:=m) (x:=x) (fun h=>h.elim h3 h4)
           rw [ct (by simp;omega),z2r,z9e,if_pos]
           unfold z5g
           rw [Bool.or_eq_true]
           exact .inr (List.any_eq_true.2 ⟨_,z2e a,by rw [hxe];exact f⟩)
        ·simp only [cz]
         rw [ul (by omega),if_neg]
         have o:(m.rows.getD k default).length=m.inputs.toNat:=by have:((m.rows.getD k default).length:Int)=m.inputs:=h2';omega
         rw [←o,List.take_length] at e
         unfold z5g
         rw [e,decide_eq_false g];decide
       refine Eq.trans (qh (Eq.trans (ul (fun h=>h h2')) n)) ?_
       by_cases b:z5g m (m.rows.getD k default)=true
       ·rw [if_pos b,if_pos b];rfl
       ·rw [if_neg b,if_neg b,z6z,zm (j3 (by omega))];rfl
     simp only [bg]
     rw [ut (by omega),j]
     cases hr:z5g m (m.rows.getD k default)
     ·right
      exact⟨(),by rw [zd3 _ _ k d,hi,hr];rfl,if_neg (by decide)⟩
     ·left
      rw [if_pos rfl,if_pos (List.any_eq_true.2 ⟨_,z2e d,hr⟩)]
    ·simp only [bg]
     rw [ul (by omega),if_neg (by rw [List.take_length] at hi;rw [hi];decide)]
   rw [qh q]
   by_cases ha:m.rows.any (z5g m)=true
   ·rw [if_pos ha];unfold z2l;rw [if_neg h,if_neg h1,if_pos ha];rfl
   ·rw [if_neg ha,zrq h h1 (by simpa using ha)];rfl
/-! ### Data-/
theorem q63{N:Nat}{x:MDat}(b:MDOk x)(m:200≤N){s:Nat}(o:s<6):fu N x (s:Int) N [] 0=some (zmt x s):=by
 have p:=b.st;have q:=b.ins;have r:=b.outs
 have hinp:x.inp=1+x.ins%3:=rfl
 refine z19 (fun F i acc=>fu N x (s:Int) F acc (i:Int)) x.inp.toNat (fun i acc=>acc=(List.range i).map (zhk x s)) _ (fun F i acc hi hacc=> .inr ?_) (fun F acc hacc=>?_) N 0 [] (Nat.zero_le _) (by omega) rfl
 ·subst hacc
  refine⟨_,rfl,?_⟩
  have f:=zxm (k:=s) (a:=x.inp) (by omega) (by omega)
  have g:(s:Int)*((1:Int)+x.ins%3)+(i:Int)=((s*x.inp.toNat+i:Nat):Int):=by
   rw [←hinp,f.2.2];rfl
  have hnum:=b.num (s*x.inp.toNat+i)
  simp only [fu]
  rw [ut (by omega)]
  have j:(gd (in64 ((s:Int)*((1:Int)+(x.ins%3))))<|gd (in64 (((s:Int)*((1:Int)+(x.ins%3)))+(i:Int)))<|bif decide (((s:Int)*((1:Int)+(x.ins%3)))+(i:Int)<(x.edges.length:Int)) then(gd (okI x.edges (((s:Int)*((1:Int)+(x.ins%3)))+(i:Int)))<|gd (in64 (ix x.edges (((s:Int)*((1:Int)+(x.ins%3)))+(i:Int))))<|some (ix x.edges (((s:Int)*((1:Int)+(x.ins%3)))+(i:Int)))) else(some (0:Int)))=some (x.num (s*x.inp.toNat+i)):=by
   rw [zm (j3 (by rw [←hinp];omega)),g,zm (j3 (by omega))]
   unfold MDat.num
   by_cases hk:s*x.inp.toNat+i<x.edges.length
   ·have l:=b.ed _ hk
    rw [ut (by omega),if_pos hk,zm (ky hk),zm (show in64 (ix x.edges ((s*x.inp.toNat+i:Nat):Int)) from j3 (show-4611686018427387904≤x.edges.getD (s*x.inp.toNat+i) default∧x.edges.getD (s*x.inp.toNat+i) default≤4611686018427387904 by omega))];rfl
   ·rw [ul (by omega),if_neg hk]
  have hacc:((List.range i).map (zhk x s)).length=i:=by simp
  refine Eq.trans (qh (x:=(List.range (i+1)).map (zhk x s)) (Eq.trans (qh j) ?_)) ?_
  ·rw [zm (fun _=>⟨hnum.1,by omega⟩),zmo]
   by_cases hp:x.part=true∧x.num (s*x.inp.toNat+i)%4=3
   ·rw [ct (by rw [hp.1,decide_eq_true hp.2];rfl),zm ⟨by rw [hacc];simp;omega,by rw [hacc];simp;omega⟩,q3i rfl hp]
   ·have c:x.n=1+x.states%6:=rfl
    have d:x.out=1+x.outs%3:=rfl
    have hd:0≤x.num (s*x.inp.toNat+i)/4:=by omega
    have e:0≤x.num (s*x.inp.toNat+i)/4/x.n:=Int.ediv_nonneg hd (by omega)
    rw [cf (by
     rw [Bool.and_eq_false_iff]
     by_cases h:x.part=true
     ·exact .inr (decide_eq_false fun h'=>hp ⟨h,h'⟩)
     ·exact .inl (by simpa using h)),←c,←d,zm ⟨by omega,by omega,by omega⟩,zm ⟨hd,by omega⟩,zm ⟨by omega,by omega,by omega⟩,zm ⟨hd,by omega,by omega⟩,zm ⟨e,by omega⟩,zm ⟨by rw [hacc];simp;omega,by rw [hacc];simp;omega⟩,q3j rfl (fun h h'=>hp ⟨h,h'⟩)]
  ·rw [zm (j3 (by omega))];rfl
 ·subst hacc
  simp only [fu]
  rw [ul (by omega)];rfl
theorem q6y{N:Nat}{x:MDat}(a:MDOk x)(b:200≤N):z5j N x=some (mOf x):=by
 have d:=a.st;have e:=a.ins;have f:=a.outs
 have c:x.n=1+x.states%6:=rfl
 unfold z5j
 rw [zm ⟨by omega,by omega⟩,zm (j3 (by omega)),zm (j3 (by omega)),zm ⟨by omega,by omega⟩,zm (j3 (by omega)),zm (j3 (by omega)),zm ⟨by omega,by omega⟩,zm (j3 (by omega)),zm (j3 (by omega))]
 refine Eq.trans (qh (x:=(List.range x.n.toNat).map (zmt x)) ?_) rfl
 refine z19 (fun F s acc=>z01 N x F (s:Int) acc) x.n.toNat (fun s acc=>acc=(List.range s).map (zmt x)) _ (fun F s acc g hacc=> .inr ?_) (fun F acc hacc=>?_) N 0 [] (Nat.zero_le _) (by omega) rfl
 ·subst hacc
  refine⟨_,rfl,?_⟩
  simp only [z01]
  rw [ut (by omega),qh (q63 a b (by omega)),zm ⟨by simp;omega,by simp;omega⟩,zm (j3 (by omega)),zmo];rfl
 ·subst hacc
  simp only [z01]
  rw [ul (by omega)]
end GV
end Go.Proofs.YtjmlpkkbmnjhcaaGreat

namespace Go.Proofs.YtjmlpkkbmnjhcaaGreat
namespace GV
set_option maxRecDepth 100000
theorem zi2{m:Mach}{k i:Nat}(hi:i<m.inputs.toNat):za9 m (k*m.inputs.toNat+i)=(m.rows.getD k default).getD i default:=by
 unfold za9;rw [znt hi,zne hi]
theorem zsn{N:Nat}{m:Mach}(a:MOk m)(j:200≤N){σ:Type}(B:((Int×Int)×Edge)→σ→Option (Bool×σ))(f:Nat→σ)
 (d: ∀ k i,k<m.rows.length→i<m.inputs.toNat→B (((k:Int),(i:Int)),(m.rows.getD k default).getD i default) (f (k*m.inputs.toNat+i))=some (true,f (k*m.inputs.toNat+i+1))):
 z6k N m σ B (f 0)=some (f (m.rows.length*m.inputs.toNat)):=by
 have l:=a.r2;have e:=a.i1;have g:=a.i2
 unfold z6k
 refine z19 (fun F k s=>z0t N σ B m F s (k:Int)) m.rows.length (fun k s=>s=f (k*m.inputs.toNat)) _ (fun F k s b hi=> .inr ?_) (fun F s hi=>?_) N 0 (f 0) (Nat.zero_le _) (by omega) (by simp)
 ·subst hi
  refine⟨f ((k+1)*m.inputs.toNat),rfl,?_⟩
  have hlen:((ix m.rows (k:Int)).length:Int)=m.inputs:=a.row k b
  have h:z09 N σ B m (k:Int) N (f (k*m.inputs.toNat)) 0=some (Ex.go (f ((k+1)*m.inputs.toNat))):=by
   refine z19 (fun F i s=>z09 N σ B m (k:Int) F s (i:Int)) m.inputs.toNat (fun i s=>s=f (k*m.inputs.toNat+i)) _ (fun F i s hi c=> .inr ?_) (fun F s c=>?_) N 0 _ (Nat.zero_le _) (by omega) (by simp)
   ·subst c
    refine⟨_,rfl,?_⟩
    simp only [z09]
    rw [ut (by omega),zm (ky (by omega))]
    refine Eq.trans (qh (d k i b hi)) ?_
    refine Eq.trans (cf rfl) ?_
    rw [zm (j3 (by omega))];rfl
   ·subst c
    simp only [z09]
    rw [ul (by omega),Nat.succ_mul]
  simp only [z0t]
  rw [ut (by omega),zm (ky b),qh h,z6z,zm (j3 (by omega))];rfl
 ·subst hi
  simp only [z0t]
  rw [ul (by omega)]
theorem q02{N:Nat}{m:Mach}(d:MOk m)(e:200≤N):z5m N m=some (ziw m):=by
 unfold z5m
 rw [show z9l N m=some m from rfl,z2r]
 have hmul:=d.mul.1
 have h:=zsn d e (fun(a:(Int×Int)×Edge) (b:List (Int×Int))=>
  bd (z4y N) fun c=>
  bif decide (a.2.to=c.to∧a.2.out=c.out) then(
  gd (fits 16 b ([((a.1.1,a.1.2):(Int×Int))]:List (Int×Int)))<|
  some (true,(b++([((a.1.1,a.1.2):(Int×Int))]:List (Int×Int))))) else(
  some (true,b))) (z9m m) (fun k i f hi=>by
   have g:=q0u f hi
   have j:=zxf m (k*m.inputs.toNat+i)
   rw [show z4y N=some ⟨-1,-1⟩ from rfl,z2r,zjj,zi2 hi,znt hi,zne hi]
   by_cases he:((m.rows.getD k default).getD i default).to= -1∧((m.rows.getD k default).getD i default).out= -1
   ·rw [ut he,if_pos he,zm ⟨by simp;omega,by simp;omega⟩]
   ·rw [ul he,if_neg he,List.append_nil])
 rw [zs3] at h
 rw [qh h]
 unfold z7e
 rw [zm (zvi _),z2r,zuf];rfl
theorem zjq{N:Nat}{m:Mach}(b:Small m)(a:200≤N):z6a N m=some (zhh m,z2l m):=by
 unfold z6a zhh
 rw [qh (zra b a)]
 by_cases h:z2l m≠0
 ·rw [ut h,if_pos h]
 ·rw [ul h,if_neg h]
  have c:MOk m:=(z6w m).1 (by simpa using h)
  rw [qh (q02 c a),show z2l m=0 by simpa using h]
end GV
end Go.Proofs.YtjmlpkkbmnjhcaaGreat

namespace Go.Proofs.YtjmlpkkbmnjhcaaGreat
namespace GV
set_option maxRecDepth 100000
end GV
end Go.Proofs.YtjmlpkkbmnjhcaaGreat

namespace Go.Proofs.YtjmlpkkbmnjhcaaGreat
namespace GV
set_option maxRecDepth 100000
def wdOf(P:List BE)(t:Nat):List Int:=((P.find? fun e=>decide (e.st=t)).map (·.wd)).getD []
theorem zwu(P:List BE)(e:BE)(t:Nat):wdOf (P++[e]) t=if occ P t=true then wdOf P t else if e.st=t then e.wd else []:=by
 unfold wdOf occ
 rw [List.find?_append]
 by_cases h:(P.any fun e=>decide (e.st=t))=true
 ·rw [if_pos h]
  obtain⟨x,a,b⟩:=List.any_eq_true.1 h
  cases hf:P.find? (fun e=>decide (e.st=t)) with
  |none=>exact absurd b (by simpa using List.find?_eq_none.1 hf x a)
  |some y=>rfl
 ·rw [if_neg h]
  have c:P.find? (fun e=>decide (e.st=t))=none:=List.find?_eq_none.2 fun x a b=>h (List.any_eq_true.2 ⟨x,a,b⟩)
  rw [c]
  by_cases he:e.st=t
  ·simp [he]
  ·simp [he]
theorem zu9(P:List BE)(k:Nat)(h:k<P.length):P.take (k+1)=P.take k++[P.getD k default]:=by
 rw [List.take_add_one];simp [List.getD_eq_getElem?_getD,h]
section rch
variable {m : Mach} {s0 : Nat} {P : List BE}
theorem Rch.find(h:Rch m s0 P){j:Nat}: ∀ k,k≤P.length→j<k→wdOf (P.take k) (P.getD j default).st=(P.getD j default).wd
 |0,_,c=>by omega
 |k+1,f,c=>by
  rw [zu9 P k (by omega),zwu]
  by_cases e:j=k
  ·subst e
   have a:occ (P.take j) (P.getD j default).st=false:=by
    cases hc:occ (P.take j) (P.getD j default).st with
    |false=>rfl
    |true=>
     obtain⟨i,hi,b⟩:=zih.1 hc
     rw [List.length_take] at hi
     have d:(P.take j).getD i default=P.getD i default:=by simp only [List.getD_eq_getElem?_getD,List.getElem?_take,if_pos (show i<j by omega)]
     rw [d] at b
     have:=h.dis i j (by omega) (by omega) b
     omega
   rw [a,if_neg (by decide),if_pos rfl]
  ·have ih:=Rch.find h k (by omega) (show j<k by omega)
   have a:occ (P.take k) (P.getD j default).st=true:=zih.2 ⟨j,by rw [List.length_take];omega,by simp only [List.getD_eq_getElem?_getD,List.getElem?_take,if_pos (show j<k by omega)]⟩
   rw [if_pos a,ih]
theorem Rch.fresh(h:Rch m s0 P){k:Nat}(b:k<P.length):occ (P.take k) (P.getD k default).st=false:=by
 cases hc:occ (P.take k) (P.getD k default).st with
 |false=>rfl
 |true=>
  obtain⟨i,hi,a⟩:=zih.1 hc
  rw [List.length_take] at hi
  have c:(P.take k).getD i default=P.getD i default:=by simp only [List.getD_eq_getElem?_getD,List.getElem?_take,if_pos (show i<k by omega)]
  rw [c] at a
  have:=h.dis i k (by omega) b a
  omega
theorem Rch.wdOf(h:Rch m s0 P){j:Nat}(a:j<P.length):wdOf P (P.getD j default).st=(P.getD j default).wd:=by
 have:=h.find P.length (Nat.le_refl _) a
 rwa [List.take_length] at this
end rch
theorem ze3{N:Nat}{s:List Int}:z0q N s=some s:=by
 unfold z0q
 rw [zm (zvi s),zuf]
end GV
end Go.Proofs.YtjmlpkkbmnjhcaaGreat

namespace Go.Proofs.YtjmlpkkbmnjhcaaGreat
namespace GV
set_option maxRecDepth 100000
def nxt(K:Int):List Int→Option (List Int)
 | []=>none
 |d::r=>match nxt K r with
  |some r'=>some (d::r')
  |none=>if d+1<K then some ((d+1)::List.replicate r.length 0) else none
def zfu(K:Int)(w:List Int):List Int:=(nxt K w).getD (List.replicate w.length 0++[0])
def Dg(K:Int)(w:List Int):Prop:= ∀ d∈w,0≤d∧d<K
theorem q6l{K:Int}{w:List Int}:Dg K w↔WOk K w:=by
 constructor
 ·intro h k a;exact h _ (z2e a)
 ·intro h d hd
  obtain⟨k,a,rfl⟩:=List.mem_iff_getElem.1 hd
  have:=h k a
  simpa [List.getD_eq_getElem?_getD,a] using this
theorem zfo: ∀ {v:List Int} {n:Nat},(∀ d∈v,0≤d)→ ¬zb5 v (List.replicate n 0)
 | [],_,_,h=>h
 |_::_,0,_,h=>h
 |d::v,n+1,hd,h=>by
  rw [List.replicate_succ] at h
  have:=hd d (by simp)
  rcases h with h|⟨_,h⟩
  ·omega
  ·exact zfo (fun x a=>hd x (by simp [a])) h
theorem zlz{K:Int}: ∀ {w v:List Int},nxt K w=none→Dg K v→ ¬zb5 w v
 | [],_,_,_,h=>h
 |_::_,[],_,_,h=>h
 |d::r,e::v,a,b,h=>by
  unfold nxt at a
  cases hr:nxt K r with
  |some r'=>rw [hr] at a;cases a
  |none=>
   rw [hr] at a
   simp only at a
   split at a
   ·cases a
   ·have:=b e (by simp)
    rcases h with h|⟨_,h⟩
    ·omega
    ·exact zlz hr (fun x c=>b x (by simp [c])) h
theorem zm7{K:Int}: ∀ {w u:List Int},nxt K w=some u→u.length=w.length∧(Dg K w→Dg K u)∧zb5 w u∧ ∀ v,Dg K v→zb5 v u→ ¬zb5 w v
 | [],_,h=>by cases h
 |d::r,u,h=>by
  unfold nxt at h
  cases hr:nxt K r with
  |some r'=>
   rw [hr] at h
   simp only [Option.some.injEq] at h
   subst h
   obtain⟨g,i,j,k⟩:=zm7 hr
   refine⟨by simp [g],fun hd x b=>?_,.inr ⟨rfl,j⟩,fun v f a hlt'=>?_⟩
   ·rcases List.mem_cons.1 b with rfl|b
    ·exact hd _ (by simp)
    ·exact i (fun y l=>hd y (by simp [l])) x b
   ·cases v with
    |nil=>exact a
    |cons e v=>
     rcases a with a|⟨rfl,a⟩
     ·rcases hlt' with hlt'|⟨rfl,_⟩<;>omega
     ·rcases hlt' with hlt'|⟨_,hlt'⟩
      ·omega
      ·exact k v (fun x b=>f x (by simp [b])) a hlt'
  |none=>
   rw [hr] at h
   simp only at h
   split at h
   ·rename_i hK
    simp only [Option.some.injEq] at h
    subst h
    refine⟨by simp,fun hd x b=>?_,.inl (by omega),fun v f a hlt'=>?_⟩
    ·rcases List.mem_cons.1 b with rfl|b
     ·have:=hd d (by simp);omega
     ·have:=(List.mem_replicate.1 b).2
      have:=hd d (by simp);omega
    ·cases v with
     |nil=>exact a
     |cons e v=>
      have c:Dg K v:=fun x b=>f x (by simp [b])
      rcases a with a|⟨rfl,a⟩
      ·rcases hlt' with hlt'|⟨rfl,hlt'⟩
       ·omega
       ·exact zlz hr c hlt'
      ·exact zfo (fun x b=>(c x b).1) a
   ·cases h
theorem zqo{K:Int}(p:1≤K){w:List Int}(i:Dg K w):Dg K (zfu K w)∧llt w (zfu K w)∧ ∀ v,Dg K v→llt v (zfu K w)→lle v w:=by
 unfold zfu
 cases h:nxt K w with
 |some u=>
  obtain⟨j,l,m,n⟩:=zm7 h
  refine⟨l i,.inr ⟨j.symm,m⟩,fun v f c=>?_⟩
  rcases c with c|⟨g,c⟩
  ·exact .inr (.inl (by simp only [Option.getD_some] at c;omega))
  ·simp only [Option.getD_some] at g c
   rcases zg5 (a:=v) (b:=w) (by omega) with k|rfl|k
   ·exact .inr (.inr ⟨by omega,k⟩)
   ·exact .inl rfl
   ·exact absurd k (n v f c)
 |none=>
  simp only [Option.getD_none]
  have e:List.replicate w.length (0:Int)++[0]=List.replicate (w.length+1) 0:=by rw [List.replicate_succ']
  rw [e]
  refine⟨fun d hd=>by rw [(List.mem_replicate.1 hd).2];omega,.inl (by simp),fun v f c=>?_⟩
  rcases c with c|⟨g,c⟩
  ·rw [List.length_replicate] at c
   by_cases hvl:v.length=w.length
   ·rcases zg5 hvl with k|rfl|k
    ·exact .inr (.inr ⟨hvl,k⟩)
    ·exact .inl rfl
    ·exact absurd k (zlz h f)
   ·exact .inr (.inl (by omega))
  ·exact absurd c (zfo fun x o=>(f x o).1)
theorem zue{K:Int}{b b':List Int}(h:nxt K b=some b'): ∀ a:List Int,nxt K (a++b)=some (a++b')
 | []=>h
 |d::a=>by
  show (match nxt K (a++b) with|some r'=>some (d::r')|none=>_)=_
  rw [zue h a];rfl
theorem q2m{K:Int}{w:List Int}:w.length≤(zfu K w).length∧(zfu K w).length≤w.length+1:=by
 unfold zfu
 cases h:nxt K w with
 |some u=>have:=(zm7 h).1;simp only [Option.getD_some];omega
 |none=>simp
theorem set_mid{A B:List Int}{c v:Int}:((A++[c])++B).set A.length v=A++v::B:=by
 rw [List.append_assoc,List.set_append_right _ _ (Nat.le_refl _),Nat.sub_self];rfl
theorem zyr{N:Nat}{K:Int}{w:List Int}(o:w.length<N)(q:w.length≤100000)(l:Dg K w)(r:K≤1000):z5d N w K=some (zfu K w):=by
 unfold z5d
 have f:fits 8 ([]:List Int) w:=⟨by simp only [List.length_nil];omega,by simp only [List.length_nil];omega⟩
 rw [zm f,List.nil_append]
 have m:tu N K N ((w.length:Int)-1) w=some (match nxt K w with|some u=>Ex.rt u|none=>Ex.go (List.replicate w.length 0)):=by
  have key:=z19 (σ:=List Int) (fun F k s=>tu N K F ((w.length:Int)-1-(k:Int)) s) w.length
   (fun k s=>k≤w.length∧s=w.take (w.length-k)++List.replicate k 0∧nxt K (w.drop (w.length-k))=none) (match nxt K w with|some u=>Ex.rt u|none=>Ex.go (List.replicate w.length 0)) (fun F k s t hi=>?_) (fun F s hi=>?_) N 0 w (Nat.zero_le _) (by omega) ⟨Nat.zero_le _,by simp,by rw [Nat.sub_zero,List.drop_length];rfl⟩
  ·simpa using key
  ·obtain⟨_,rfl,e⟩:=hi
   have b:w.length-1-k<w.length:=by omega
   generalize hpe:w.length-1-k=p at b
   have hidx:(w.length:Int)-1-(k:Int)=(p:Int):=by omega
   have htake:w.take (w.length-k)=w.take p++[w.getD p default]:=by rw [show w.length-k=p+1 by omega];exact ziz w p b
   have hdrop:w.drop p=w.getD p default::w.drop (w.length-k):=by rw [zj2 w p b,show p+1=w.length-k by omega]
   have a:(w.take (w.length-k)++List.replicate k (0:Int)).length=w.length:=by simp;omega
   have g:ix (w.take (w.length-k)++List.replicate k (0:Int)) (p:Int)=w.getD p default:=by
    rw [lg,List.getD_eq_getElem?_getD,List.getElem?_append_left (by rw [List.length_take];omega),List.getElem?_take,if_pos (by omega),←List.getD_eq_getElem?_getD]
   have n:=q6l.1 l p b
   have hsplit:w=w.take p++(w.getD p default::w.drop (w.length-k)):=by rw [←hdrop,List.take_append_drop]
   have hset: ∀ v,up (w.take (w.length-k)++List.replicate k (0:Int)) (p:Int) v=w.take p++v::List.replicate k 0:=fun v=>by
    rw [zt0,htake]
    have:=set_mid (A:=w.take p) (B:=List.replicate k (0:Int)) (c:=w.getD p default) (v:=v)
    rwa [List.length_take,Nat.min_eq_left (by omega)] at this
   have i:(w.drop (w.length-k)).length=k:=by rw [List.length_drop];omega
   have d:nxt K (w.getD p default::w.drop (w.length-k))=if w.getD p default+1<K then some ((w.getD p default+1)::List.replicate k 0) else none:=by
    show (match nxt K (w.drop (w.length-k)) with|some r'=>_|none=>_)=_
    rw [e,i]
   simp only [tu]
   simp only [hidx,g]
   rw [ut (by omega),zm (ky (by rw [a];exact b)),zm (j3 (by omega))]
   by_cases hc:w.getD p default+1<K
   ·left
    rw [ut hc,zm (ky (by rw [a];exact b)),zm (j3 (by omega)),zm (ky (by rw [a];exact b)),hset]
    rw [if_pos hc] at d
    have hw':nxt K w=some (w.take p++((w.getD p default+1)::List.replicate k 0)):=by
     have:=zue d (w.take p)
     rwa [←hsplit] at this
    rw [hw']
   ·right
    refine⟨w.take p++0::List.replicate k 0,⟨by omega,?_,?_⟩,?_⟩
    ·rw [show w.length-(k+1)=p by omega,List.replicate_succ]
    ·rw [show w.length-(k+1)=p by omega,hdrop,d,if_neg hc]
    ·rw [ul hc,zm (ky (by rw [a];exact b)),zm (j3 (by omega)),hset]
     congr 1
     omega
  ·obtain⟨_,rfl,e⟩:=hi
   rw [Nat.sub_self,List.drop_zero] at e
   simp only [tu]
   rw [ul (by omega),e,Nat.sub_self,List.take_zero,List.nil_append]
 rw [qh (show (gd (in64 ((w.length:Int)-1)) (tu N K N ((w.length:Int)-1) w))=some (match nxt K w with|some u=>Ex.rt u|none=>Ex.go (List.replicate w.length 0)) from by rw [zm (j3 (by omega)),m])]
 unfold zfu
 cases h:nxt K w with
 |some u=>rfl
 |none=>
  simp only
  rw [z6z]
  have j:fits 8 (List.replicate w.length (0:Int)) ([0]:List Int):=⟨by simp only [List.length_replicate,List.length_singleton];omega,by simp only [List.length_replicate,List.length_singleton];omega⟩
  rw [zm j];rfl
def zc8(K:Int):Nat→List Int
 |0=>[]
 |k+1=>zfu K (zc8 K k)
theorem zsj: ∀ K,1≤K→K≤3→6≤(zc8 K 364).length:=by
 intro K a b
 have:K=1∨K=2∨K=3:=by omega
 rcases this with rfl|rfl|rfl<;>decide+kernel
theorem zr4{K:Int}(a:1≤K): ∀ k,Dg K (zc8 K k)
 |0=>fun d hd=>by simp [zc8] at hd
 |k+1=>(zqo a (zr4 a k)).1
end GV
end Go.Proofs.YtjmlpkkbmnjhcaaGreat

namespace Go.Proofs.YtjmlpkkbmnjhcaaGreat
namespace GV
set_option maxRecDepth 100000
end GV
end Go.Proofs.YtjmlpkkbmnjhcaaGreat

namespace Go.Proofs.YtjmlpkkbmnjhcaaGreat
namespace GV
set_option maxRecDepth 100000
structure CDOk (x:Sd):Prop where
 st:0≤x.fD∧x.fD≤255
 ins:0≤x.fB∧x.fB≤255
 outs:0≤x.fC∧x.fC≤255
 tr: ∀ k,k<x.fG.length→0≤x.fG.getD k default∧x.fG.getD k default≤255
 ed: ∀ k,k<x.fM.length→0≤x.fM.getD k default∧x.fM.getD k default≤65535
structure CMach (m:Mach):Prop where
 ok:MOk m
 rows:m.rows.length≤6
 ins:m.inputs≤3
 outs:m.outputs≤3
 full: ∀ s i,s<m.rows.length→i<(m.rows.getD s default).length→0≤((m.rows.getD s default).getD i default).to
 tree: ∀ t,0<t→t<m.rows.length→ ∃ a i,a<t∧i<(m.rows.getD a default).length∧((m.rows.getD a default).getD i default).to=(t:Int)
def cel(X:List (List Edge))(a i:Nat):Edge:=(X.getD a default).getD i default
structure CSh (n I:Nat) (O:Int) (X:List (List Edge)):Prop where
 len:X.length=n
 row: ∀ a,a<n→(X.getD a default).length=I
 out: ∀ a i,a<n→i<I→0≤(cel X a i).out∧(cel X a i).out<O
theorem zit{α:Type}[Inhabited α]{X:List α}{a b:Nat}{e:α}(c:a<X.length):(X.set a e).getD b default=if b=a then e else X.getD b default:=by
 simp only [List.getD_eq_getElem?_getD,List.getElem?_set]
 by_cases h:a=b
 ·subst h;simp [c]
 ·rw [if_neg h,if_neg (fun e=>h e.symm)]
def zri(X:List (List Edge))(a i:Nat)(e:Edge):List (List Edge):=X.set a ((X.getD a default).set i e)
theorem zld{n I:Nat}{O:Int}{X:List (List Edge)}(h:CSh n I O X){a i:Nat}{e:Edge}(c:a<n)(hi:i<I)(b j:Nat):cel (zri X a i e) b j=if b=a∧j=i then e else cel X b j:=by
 unfold cel zri
 rw [zit (by rw [h.len];exact c)]
 by_cases hb:b=a
 ·subst hb
  rw [if_pos rfl,zit (by rw [h.row b c];exact hi)]
  by_cases hj:j=i
  ·rw [if_pos hj,if_pos ⟨rfl,hj⟩]
  ·rw [if_neg hj,if_neg (fun k=>hj k.2)]
 ·rw [if_neg hb,if_neg (fun k=>hb k.1)]
theorem zq3{n I:Nat}{O:Int}{X:List (List Edge)}(h:CSh n I O X){a i:Nat}{e:Edge}(c:a<n)(hi:i<I)(f:0≤e.out∧e.out<O):CSh n I O (zri X a i e):=by
 refine⟨by unfold zri;rw [List.length_set];exact h.len,fun b d=>?_,fun b j d g=>?_⟩
 ·unfold zri
  rw [zit (by rw [h.len];exact c)]
  by_cases hba:b=a
  ·rw [if_pos hba,List.length_set];exact h.row a c
  ·rw [if_neg hba];exact h.row b d
 ·rw [zld h c hi]
  split
  ·exact f
  ·exact h.out b j d g
theorem number_eq{N:Nat}{l:List Int}(a: ∀ k,k<l.length→0≤l.getD k default∧l.getD k default≤65535)(k:Nat): ∃ v,z2n N l (k:Int)=some v∧0≤v∧v≤65535:=by
 unfold z2n
 by_cases h:k<l.length
 ·have:=a k h
  exact⟨l.getD k default,by rw [ut (by omega),zm (ky h),zm (show in64 (ix l (k:Int)) from j3 (show-4611686018427387904≤l.getD k default∧l.getD k default≤4611686018427387904 by omega))];rfl,this⟩
 ·exact⟨0,by rw [ul (by omega)],by omega⟩
section cof
variable {N : Nat} {x : Sd} {n I : Nat} {O : Int}
theorem zk6(a b:Nat):(a:Int)*(b:Int)=((a*b:Nat):Int):=(Int.natCast_mul a b).symm
theorem q8v(d:CDOk x)(q:200≤N)(e:(1:Int)+x.fD%6=n)(c:(1:Int)+x.fB%3=I)(f:(1:Int)+x.fC%3=O)(t:1≤n)(g:I≤3)(h:1≤O){s:Nat}(u:s<6):
 ∃ r,l6 N x (s:Int) N [] 0=some r∧r.length=I∧ ∀ j,j<I→(r.getD j default).to= -1∧0≤(r.getD j default).out∧(r.getD j default).out<O:=by
 refine rq (fun F k (acc:List Edge)=>l6 N x (s:Int) F acc (k:Int)) I (fun k acc=>acc.length=k∧ ∀ j,j<k→(acc.getD j default).to= -1∧0≤(acc.getD j default).out∧(acc.getD j default).out<O) _ (fun F k acc w hi=> .inr ?_) (fun F acc hi=>?_) N 0 [] (Nat.zero_le _) (by omega) ⟨rfl,fun j i=>by omega⟩
 ·obtain⟨v,l,a,m⟩:=number_eq (N:=N) d.ed (s*I+k)
  have o:s*I≤6*3:=Nat.mul_le_mul (by omega) g
  have hd:0≤v/(n:Int):=Int.ediv_nonneg a (by omega)
  have p:=Int.emod_nonneg (v/(n:Int)) (show O≠0 by omega)
  have b:=Int.emod_lt_of_pos (v/(n:Int)) (show 0<O by omega)
  refine⟨acc++[(⟨-1,v/(n:Int)%O⟩:Edge)],⟨by simp [hi.1],fun j i=>?_⟩,?_⟩
  ·by_cases hjk:j<k
   ·rw [List.getD_eq_getElem?_getD,List.getElem?_append_left (by omega),←List.getD_eq_getElem?_getD];exact hi.2 j hjk
   ·have:j=acc.length:=by omega
    subst this
    rw [List.getD_eq_getElem?_getD,List.getElem?_concat_length]
    exact⟨rfl,p,b⟩
  ·simp only [l6]
   rw [c,e,f,ut (by omega),zk6,zm (j3 (by omega)),show ((s*I:Nat):Int)+(k:Int)=((s*I+k:Nat):Int) from rfl,zm (j3 (by omega)),qh l,zm ⟨a,by omega,by omega⟩,zm ⟨hd,h⟩,zm ⟨by simp only [List.length_singleton];omega,by simp only [List.length_singleton];omega⟩,zm (j3 (by omega))]
   rfl
 ·simp only [l6]
  rw [c,ul (by omega)]
  exact⟨_,rfl,hi⟩
theorem q70(f:CDOk x)(g:200≤N)(c:(1:Int)+x.fD%6=n)(h:(1:Int)+x.fB%3=I)(m:(1:Int)+x.fC%3=O)(o:1≤n)(w:n≤6)(p:I≤3)(q:1≤O):
 ∃ X,o5 N x N 0 []=some X∧CSh n I O X∧ ∀ a i,a<n→i<I→(cel X a i).to= -1:=by
 obtain⟨X,t,u,d⟩: ∃ X,o5 N x N 0 []=some X∧X.length=n∧ ∀ a,a<n→(X.getD a default).length=I∧ ∀ j,j<I→((X.getD a default).getD j default).to= -1∧0≤((X.getD a default).getD j default).out∧((X.getD a default).getD j default).out<O:=by
  refine rq (fun F k (acc:List (List Edge))=>o5 N x F (k:Int) acc) n (fun k acc=>acc.length=k∧ ∀ a,a<k→(acc.getD a default).length=I∧ ∀ j,j<I→((acc.getD a default).getD j default).to= -1∧0≤((acc.getD a default).getD j default).out∧((acc.getD a default).getD j default).out<O) _ (fun F k acc y hi=> .inr ?_) (fun F acc hi=>?_) N 0 [] (Nat.zero_le _) (by omega) ⟨rfl,fun j z=>by omega⟩
  ·obtain⟨r,v,e⟩:=q8v (N:=N) (s:=k) f g c h m o p q (by omega)
   refine⟨acc++[r],⟨by simp [hi.1],fun a b=>?_⟩,?_⟩
   ·by_cases hjk:a<k
    ·rw [List.getD_eq_getElem?_getD (l:=acc++[r]),List.getElem?_append_left (by omega),←List.getD_eq_getElem?_getD];exact hi.2 a hjk
    ·have:a=acc.length:=by omega
     subst this
     rw [List.getD_eq_getElem?_getD (l:=acc++[r]),List.getElem?_concat_length]
     exact e
   ·simp only [o5]
    rw [c,ut (by omega),qh v,zm ⟨by simp only [List.length_singleton];omega,by simp only [List.length_singleton];omega⟩,zm (j3 (by omega))]
    rfl
  ·simp only [o5]
   rw [c,ul (by omega)]
   exact⟨_,rfl,hi⟩
 exact⟨X,t,⟨u,fun a b=>(d a b).1,fun a i b hi=>((d a b).2 i hi).2⟩,fun a i b hi=>((d a b).2 i hi).1⟩
theorem q5i(u:200≤N){X:List (List Edge)}(d:(1:Int)+x.fB%3=I)(h:CSh n I O X)(v:1≤I)(m:I≤3)(w:n≤6){s:Nat}(A:s<n):
 ∃ l,pu N x (s:Int) X N [] 0=some l∧(∀ z∈l,∃ k:Nat,z=(k:Int)∧k<s*I∧(cel X (k/I) (k%I)).to<0)∧(∀ k:Nat,k<s*I→(cel X (k/I) (k%I)).to<0→((k:Nat):Int)∈l)∧l.length≤s*I:=by
 have o:s*I≤6*3:=Nat.mul_le_mul (by omega) m
 have hrows: ∀ k,k<s*I→k/I<n∧k%I<I:=fun k c=>⟨Nat.lt_of_lt_of_le (Nat.div_lt_of_lt_mul (by rw [Nat.mul_comm];exact c)) (by omega),Nat.mod_lt _ (by omega)⟩
 refine rq (fun F k (acc:List Int)=>pu N x (s:Int) X F acc (k:Int)) (s*I) (fun k acc=>(∀ z∈acc,∃ k:Nat,z=(k:Int)∧k<s*I∧(cel X (k/I) (k%I)).to<0)∧(∀ j:Nat,j<k→(cel X (j/I) (j%I)).to<0→((j:Nat):Int)∈acc)∧acc.length≤k) _ (fun F k acc c hi=> .inr ?_) (fun F acc hi=>?_) N 0 [] (Nat.zero_le _) (by omega) ⟨fun z b=>by simp at b,fun j f=>by omega,by simp⟩
 ·obtain⟨g,p⟩:=hrows k c
  have q:(k:Int)/(I:Int)=((k/I:Nat):Int):=rfl
  have r:(k:Int)%(I:Int)=((k%I:Nat):Int):=rfl
  have t: ∀ (y:List Int),y=(if(cel X (k/I) (k%I)).to<0 then acc++[((k:Nat):Int)] else acc)→
   pu N x (s:Int) X (F+1) acc (k:Int)=pu N x (s:Int) X F y ((k+1:Nat):Int):=fun y i=>by
   simp only [pu]
   rw [d,zk6,zm (j3 (by omega)),ut (by omega),q,r]
   refine(qh (x:=y) ?_).trans (by rw [zm (j3 (by omega))];rfl)
   rw [zm ⟨by omega,by omega,by omega⟩,zm (ky (by rw [h.len];exact g)),zm ⟨by omega,by omega⟩,lg,zm (ky (by rw [h.row _ g];exact p)),lg]
   show (bif decide ((cel X (k/I) (k%I)).to<0) then _ else _)=_
   by_cases hc:(cel X (k/I) (k%I)).to<0
   ·rw [ut hc,i,if_pos hc]
    exact zm ⟨by simp only [List.length_singleton];omega,by simp only [List.length_singleton];omega⟩
   ·rw [ul hc,i,if_neg hc]
  refine⟨_,?_,t _ rfl⟩
  by_cases hc:(cel X (k/I) (k%I)).to<0
  ·rw [if_pos hc]
   refine⟨fun z b=>?_,fun j f a=>?_,by simp;omega⟩
   ·rcases List.mem_append.1 b with b|b
    ·exact hi.1 z b
    ·rw [List.mem_singleton] at b
     exact⟨k,b,c,hc⟩
   ·by_cases e:j=k
    ·subst e;simp
    ·exact List.mem_append_left _ (hi.2.1 j (by omega) a)
  ·rw [if_neg hc]
   refine⟨hi.1,fun j f a=>?_,by omega⟩
   by_cases e:j=k
   ·subst e;exact absurd a hc
   ·exact hi.2.1 j (by omega) a
 ·simp only [pu]
  rw [d,zk6,zm (j3 (by omega)),ul (by omega)]
  exact⟨_,rfl,hi⟩
structure CTree (n I:Nat) (O:Int) (s:Nat) (X:List (List Edge)):Prop where
 sh:CSh n I O X
 rng: ∀ a i,a<n→i<I→(cel X a i).to= -1∨(0≤(cel X a i).to∧(cel X a i).to<n)
 late: ∀ a i,s≤a+1→a<n→i<I→(cel X a i).to= -1
 tree: ∀ t,0<t→t<s→ ∃ a i,a<t∧i<I∧(cel X a i).to=(t:Int)
theorem ztm{s:Nat}{X:List (List Edge)}(h:CTree n I O s X)(m:0<s)(o:s<n){a i:Nat}(k:a<s)(hi:i<I)(p:(cel X a i).to<0):CTree n I O (s+1) (zri X a i ⟨(s:Int),(cel X a i).out⟩):=by
 have cs:=fun b j=>zld h.sh (e:=⟨(s:Int),(cel X a i).out⟩) (show a<n by omega) hi b j
 refine⟨zq3 h.sh (by omega) hi (h.sh.out a i (by omega) hi),fun b j c d=>?_,fun b j l c d=>?_,fun t f q=>?_⟩
 ·rw [cs]
  split
  ·exact .inr ⟨by simp,by simp;omega⟩
  ·exact h.rng b j c d
 ·rw [cs,if_neg (fun e=>by omega)]
  exact h.late b j (by omega) c d
 ·by_cases e:t=s
  ·subst e
   exact⟨a,i,k,hi,by rw [cs,if_pos ⟨rfl,rfl⟩]⟩
  ·obtain⟨b,j,c,d,g⟩:=h.tree t f (by omega)
   refine⟨b,j,c,d,?_⟩
   rw [cs,if_neg]
   ·exact g
   ·rintro⟨rfl,rfl⟩;omega
theorem q6n(w:CDOk x)(z:200≤N){X:List (List Edge)}(p:(1:Int)+x.fD%6=n)(r:(1:Int)+x.fB%3=I)(A:1≤I)(t:I≤3)(B:1≤n)(C:n≤6)(h:CTree n I O 1 X):
 ∃ Y,l7 N x N 1 X=some Y∧CTree n I O n Y:=by
 refine rq (fun F k (acc:List (List Edge))=>l7 N x F (k:Int) acc) n (fun k acc=>0<k∧CTree n I O k acc) _ (fun F s acc u hi=> .inr ?_) (fun F acc hi=>?_) N 1 X B (by omega) ⟨by omega,h⟩
 ·obtain⟨c,a⟩:=hi
  obtain⟨l,D,d,f,E⟩:=q5i (x:=x) z r a.sh A t C u
  have G:s*I≤6*3:=Nat.mul_le_mul (by omega) t
  have hpos:0<l.length:=by
   have g:((s-1)*I)/I=s-1:=Nat.mul_div_cancel _ (by omega)
   have i:((s-1)*I)%I=0:=Nat.mul_mod_left _ _
   have:=f ((s-1)*I) (Nat.mul_lt_mul_of_pos_right (by omega) (by omega)) (by rw [g,i,a.late (s-1) 0 (by omega) (by omega) (by omega)];omega)
   exact List.length_pos_of_mem this
  obtain⟨q,hq,j⟩: ∃ q,q<l.length∧(bd (
   gd (in64 ((s:Int)-1))<|
   bif decide (((s:Int)-1)<(x.fG.length:Int)) then(
   gd (in64 ((s:Int)-1))<|
   gd (okI x.fG ((s:Int)-1))<|
   gd (in64 (ix x.fG ((s:Int)-1)))<|
   gd (okR (ix x.fG ((s:Int)-1)) (l.length:Int))<|
   gd (okI l ((ix x.fG ((s:Int)-1))%(l.length:Int)))<|
   some (ix l ((ix x.fG ((s:Int)-1))%(l.length:Int)))) else(
   some (ix l 0))) some)=some (l.getD q default):=by
   rw [zm (j3 (by omega)),show (s:Int)-1=((s-1:Nat):Int) by omega]
   by_cases ht:s-1<x.fG.length
   ·have b:=w.tr _ ht
    refine⟨(x.fG.getD (s-1) default).toNat%l.length,Nat.mod_lt _ hpos,?_⟩
    have e:x.fG.getD (s-1) default%(l.length:Int)=(((x.fG.getD (s-1) default).toNat%l.length:Nat):Int):=by
     rw [Int.natCast_emod,Int.toNat_of_nonneg b.1]
    rw [ut (by omega),zm (j3 (by omega)),zm (ky ht),lg,zm (j3 (by omega)),zm ⟨b.1,by omega⟩,e,zm (ky (Nat.mod_lt _ hpos))]
    rfl
   ·exact⟨0,hpos,by rw [ul (by omega)];rfl⟩
  obtain⟨k,H,m,o⟩:=d _ (z2e hq)
  have J:k/I<s:=Nat.div_lt_of_lt_mul (by rw [Nat.mul_comm];exact m)
  have v:k%I<I:=Nat.mod_lt _ (by omega)
  have g:(k:Int)/(I:Int)=((k/I:Nat):Int):=rfl
  have i:(k:Int)%(I:Int)=((k%I:Nat):Int):=rfl
  refine⟨zri acc (k/I) (k%I) ⟨(s:Int),(cel acc (k/I) (k%I)).out⟩,⟨by omega,ztm a c u J v o⟩,?_⟩
  simp only [l7]
  rw [r,p,ut (by omega),qh D,zm (show okI l 0 from⟨by omega,by omega⟩)]
  have hqe':=j
  rw [H] at hqe'
  refine(qh (x:=(k:Int)) ?_).trans ?_
  ·obtain⟨y,K,L⟩:=zu hqe'
   rw [K,←L]
  ·rw [g,i,zm ⟨by omega,by omega,by omega⟩,zm (ky (by rw [a.sh.len];omega)),zm ⟨by omega,by omega⟩,lg,zm (ky (by rw [a.sh.row _ (by omega)];exact v)),zm (j3 (by omega))]
   rfl
 ·simp only [l7]
  rw [p,ul (by omega)]
  exact⟨_,rfl,hi.2⟩
structure CFill (n I:Nat) (O:Int) (s k:Nat) (X:List (List Edge)):Prop where
 sh:CSh n I O X
 rng: ∀ a i,a<n→i<I→(cel X a i).to= -1∨(0≤(cel X a i).to∧(cel X a i).to<n)
 done: ∀ a i,a<n→i<I→(a<s∨(a=s∧i<k))→0≤(cel X a i).to
 tree: ∀ t,0<t→t<n→ ∃ a i,a<t∧i<I∧(cel X a i).to=(t:Int)
theorem zy2(y:CDOk x)(H:200≤N){X:List (List Edge)}(z:(1:Int)+x.fD%6=n)(p:(1:Int)+x.fB%3=I)(A:I≤3)(J:1≤n)(K:n≤6){s:Nat}(f:s<n)(h:CFill n I O s 0 X):
 ∃ Y,pq N x (s:Int) N 0 X=some Y∧CFill n I O s I Y:=by
 have B:s*I≤6*3:=Nat.mul_le_mul (by omega) A
 refine rq (fun F k (acc:List (List Edge))=>pq N x (s:Int) F (k:Int) acc) I (fun k acc=>CFill n I O s k acc) _ (fun F k acc g a=> .inr ?_) (fun F acc hi=>?_) N 0 X (Nat.zero_le _) (by omega) h
 ·obtain⟨v,C,i,D⟩:=number_eq (N:=N) y.ed (s*I+k)
  have q:=Int.emod_nonneg v (show (n:Int)≠0 by omega)
  have l:=Int.emod_lt_of_pos v (show 0<(n:Int) by omega)
  have E: ∀ Y,Y=(if(cel acc s k).to<0 then zri acc s k ⟨v%(n:Int),(cel acc s k).out⟩ else acc)→pq N x (s:Int) (F+1) (k:Int) acc=pq N x (s:Int) F ((k+1:Nat):Int) Y:=fun Y r=>by
   simp only [pq]
   rw [p,z,ut (by omega)]
   refine(qh (x:=Y) ?_).trans (by rw [zm (j3 (by omega))];rfl)
   have u:okI acc (s:Int):=ky (by rw [a.sh.len];exact f)
   have w:okI (ix acc (s:Int)) (k:Int):=ky (show k<(acc.getD s default).length by rw [a.sh.row _ f];exact g)
   rw [zm u,zm w]
   show (bif decide ((cel acc s k).to<0) then _ else _)=_
   by_cases hc:(cel acc s k).to<0
   ·rw [ut hc,r,if_pos hc,zm u,zk6,zm (j3 (by omega)),show ((s*I:Nat):Int)+(k:Int)=((s*I+k:Nat):Int) from rfl,zm (j3 (by omega)),qh C,zm ⟨i,by omega⟩,zm w]
    rfl
   ·rw [ul hc,r,if_neg hc]
  refine⟨_,?_,E _ rfl⟩
  by_cases hc:(cel acc s k).to<0
  ·rw [if_pos hc]
   have cs:=fun b j=>zld a.sh (e:=⟨v%(n:Int),(cel acc s k).out⟩) f g b j
   refine⟨zq3 a.sh f g (a.sh.out s k f g),fun b j c d=>?_,fun b j c d hd=>?_,fun t m G=>?_⟩
   ·rw [cs]
    split
    ·exact .inr ⟨q,l⟩
    ·exact a.rng b j c d
   ·rw [cs]
    split
    ·exact q
    ·rename_i hne
     exact a.done b j c d (by rcases hd with hd|⟨rfl,hd⟩;exact .inl hd;exact .inr ⟨rfl,by have: ¬j=k:=fun e=>hne ⟨rfl,e⟩;omega⟩)
   ·obtain⟨b,j,c,d,o⟩:=a.tree t m G
    refine⟨b,j,c,d,?_⟩
    rw [cs,if_neg]
    ·exact o
    ·rintro⟨rfl,rfl⟩;omega
  ·rw [if_neg hc]
   refine⟨a.sh,a.rng,fun b j c d hd=>?_,a.tree⟩
   by_cases e:b=s∧j=k
   ·obtain⟨rfl,rfl⟩:=e;omega
   ·exact a.done b j c d (by rcases hd with hd|⟨rfl,hd⟩;exact .inl hd;exact .inr ⟨rfl,by have: ¬j=k:=fun e'=>e ⟨rfl,e'⟩;omega⟩)
 ·simp only [pq]
  rw [p,ul (by omega)]
  exact⟨_,rfl,hi⟩
theorem q5b(d:CDOk x)(e:200≤N){X:List (List Edge)}(c:(1:Int)+x.fD%6=n)(f:(1:Int)+x.fB%3=I)(g:I≤3)(j:1≤n)(l:n≤6)(h:CFill n I O 0 0 X):
 ∃ Y,fe N x N 0 X=some Y∧CFill n I O n 0 Y:=by
 refine rq (fun F k (acc:List (List Edge))=>fe N x F (k:Int) acc) n (fun k acc=>CFill n I O k 0 acc) _ (fun F s acc m o=> .inr ?_) (fun F acc hi=>?_) N 0 X (Nat.zero_le _) (by omega) h
 ·obtain⟨Y,p,b⟩:=zy2 (N:=N) d e c f g j l m o
  refine⟨Y,⟨b.sh,b.rng,fun a i q hi hd=>b.done a i q hi (by rcases hd with hd|⟨_,hd⟩;exact(Nat.lt_or_ge a s).imp id (fun _=>⟨by omega,hi⟩);omega),b.tree⟩,?_⟩
  simp only [fe]
  rw [c,ut (by omega),qh p,zm (j3 (by omega))]
  rfl
 ·simp only [fe]
  rw [c,ul (by omega)]
  exact⟨_,rfl,hi⟩
end cof
theorem q3u{N:Nat}{x:Sd}(c:CDOk x)(g:200≤N): ∃ m,z1a N x=some m∧CMach m∧(m.rows.length:Int)=1+x.fD%6:=by
 obtain⟨u,D⟩:=c.st;obtain⟨E,F⟩:=c.ins;obtain⟨G,H⟩:=c.outs
 obtain⟨n,e⟩: ∃ n:Nat,(1:Int)+x.fD%6=n:=⟨((1:Int)+x.fD%6).toNat,by omega⟩
 obtain⟨I,f⟩: ∃ n:Nat,(1:Int)+x.fB%3=n:=⟨((1:Int)+x.fB%3).toNat,by omega⟩
 obtain⟨O,p⟩: ∃ O:Int,(1:Int)+x.fC%3=O:=⟨_,rfl⟩
 have h:1≤n:=by omega
 have j:n≤6:=by omega
 have v:1≤I:=by omega
 have k:I≤3:=by omega
 have q:1≤O:=by omega
 have w:O≤3:=by omega
 obtain⟨X,y,sX,fX⟩:=q70 (N:=N) c g e f p h j k q
 obtain⟨Y,z,tY⟩:=q6n (N:=N) (O:=O) c g e f v k h j (X:=X) ⟨sX,fun a i d hi=> .inl (fX a i d hi),fun a i _ d hi=>fX a i d hi,fun t J u=>by omega⟩
 obtain⟨Z,A,tZ⟩:=q5b (N:=N) (O:=O) c g e f k h j (X:=Y) ⟨tY.sh,tY.rng,fun a i d hi hd=>by omega,tY.tree⟩
 refine⟨⟨(1:Int)+x.fB%3,(1:Int)+x.fC%3,Z⟩,?_,?_,by rw [e];exact congrArg Nat.cast tZ.sh.len⟩
 ·unfold z1a
  rw [zm ⟨by omega,by omega⟩,zm (j3 (by omega)),zm (j3 (by omega)),zm ⟨by omega,by omega⟩,zm (j3 (by omega)),zm (j3 (by omega)),zm ⟨by omega,by omega⟩,zm (j3 (by omega)),zm (j3 (by omega)),qh y,qh z,qh A]
 ·rw [f,p]
  have hrow: ∀ s,s<Z.length→(Z.getD s default).length=I:=fun s b=>tZ.sh.row s (by rw [tZ.sh.len] at b;exact b)
  have hlen:=tZ.sh.len
  have hdone: ∀ s i,s<n→i<I→0≤(cel Z s i).to:=fun s i b hi=>tZ.done s i b hi (.inl b)
  refine⟨⟨by show 1≤(I:Int);omega,by show (I:Int)≤16;omega,q,by show O≤16;omega,by show 1≤Z.length;omega,by show Z.length≤64;omega,fun s b=>by rw [hrow s b],fun s i b hi=>?_⟩,by show Z.length≤6;omega,by show (I:Int)≤3;omega,w,fun s i b hi=>?_,fun t l B=>?_⟩
  ·have hs':s<Z.length:=b
   have hi':i<(Z.getD s default).length:=hi
   rw [hrow s hs'] at hi'
   rw [hlen] at hs'
   have C:=hdone s i hs' hi'
   have K:=tZ.rng s i hs' hi'
   have r:=tZ.sh.out s i hs' hi'
   exact .inr ⟨C,by show (cel Z s i).to<(Z.length:Int);omega,r.1,r.2⟩
  ·have hs':s<Z.length:=b
   have hi':i<(Z.getD s default).length:=hi
   rw [hrow s hs'] at hi'
   rw [hlen] at hs'
   exact hdone s i hs' hi'
  ·have ht':t<Z.length:=B
   obtain⟨a,i,d,hi,o⟩:=tZ.tree t l (by omega)
   exact⟨a,i,d,by show i<(Z.getD a default).length;rw [hrow a (by omega)];exact hi,o⟩
theorem ztc{N:Nat}{x:Sd}(a:CDOk x)(b:200≤N): ∃ m,z1a N x=some m∧CMach m:=by
 obtain⟨m,c,d,_⟩:=q3u a b
 exact⟨m,c,d⟩
theorem CMach.all{m:Mach}(h:CMach m): ∀ t,t<m.rows.length→ ∃ j,j<(rch m 0).length∧((rch m 0).getD j default).st=t:=by
 have c:=h.ok
 have b:=q0w c (s0:=0) (by have:=c.r1;omega)
 generalize rch m 0=P at b⊢
 intro t
 induction t using Nat.strongRecOn with
 |ind t ih=>
  intro f
  by_cases h0:t=0
  ·subst h0;exact⟨0,b.pos,by rw [b.root]⟩
  ·obtain⟨a,i,g,hi,d⟩:=h.tree t (by omega) f
   obtain⟨q,k,e⟩:=ih a g (by omega)
   have hrow:=c.row a (by omega)
   have l:ed m (P.getD q default).st i=(t:Int):=by rw [e];exact d
   obtain⟨j,n,o,_⟩:=b.cls q i k (by omega) (by rw [l];omega)
   exact⟨j,n,by omega⟩
theorem CMach.len{m:Mach}(h:CMach m):(rch m 0).length=m.rows.length:=by
 have b:=h.ok
 have c:=q0w b (s0:=0) (by have:=b.r1;omega)
 have hall:=h.all
 generalize rch m 0=P at c hall⊢
 have f:=c.le
 have hsub:List.range m.rows.length⊆P.map (·.st):=by
  intro t d
  rw [List.mem_range] at d
  obtain⟨j,e,a⟩:=hall t d
  exact List.mem_map.2 ⟨_,z2e e,a⟩
 have:=List.Nodup.length_le_of_subset List.nodup_range hsub
 rw [List.length_range,List.length_map] at this
 omega
end GV
end Go.Proofs.YtjmlpkkbmnjhcaaGreat
