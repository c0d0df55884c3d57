
import Derived.Test.YtohjnbajgbdhhaaPlain04
import Derived.Test.YtohjnbajgbdhhaaShPl
set_option linter.unusedVariables false
set_option linter.unusedSimpArgs false
namespace Go.Proofs.Ytohjnbajgbdhhaa
namespace GV
set_option maxRecDepth 100000
theorem zhf(N:Nat)(m:Mach)(x:Edge):z0z N m x=some (z1a m x):=rfl
theorem znv{N:Nat}{s:List Edge}{f:Edge→Option Bool}{p:Edge→Bool}(b: ∀ k,k<s.length→f (s.getD k default)=some (p (s.getD k default)))(c:s.length<N)(d:s.length≤4611686018427387904):
 o8 N s f=some (zb6 p s):=by
 have h:uw N s f N 0=some (if s.any p=true then Ex.rt (zb6 p s) else Ex.go ()):=by
  refine bn (σ:=Unit) (fun F k _=>uw N s f F (k:Int)) s.length (fun k _=>(s.take k).any p=false) _ (fun F k _ a hi=>?_) (fun F _ hi=>?_) N 0 () (Nat.zero_le _) (by omega) (by simp)
  ·simp only [uw]
   rw [nk (by omega),zu (jo a),z6r,qf (b k a)]
   cases hp:p (s.getD k default)
   ·right
    refine⟨(),by rw [z3b p s k a,hi,hp];rfl,?_⟩
    rw [cf rfl,zu (jc (by omega))];rfl
   ·left
    rw [ct rfl,if_pos (List.any_eq_true.2 ⟨_,z0i a,hp⟩),z8y p s k a hi hp]
  ·simp only [uw]
   rw [dx (by omega),if_neg (by rw [List.take_length] at hi;rw [hi];decide)]
 unfold o8
 rw [qf h]
 by_cases ha:s.any p=true
 ·rw [if_pos ha];rfl
 ·rw [if_neg ha,zat p s (by simpa using ha)];rfl
theorem zim{N:Nat}{s:List Edge}{f:Edge→Option Bool}{p:Edge→Bool}(a: ∀ k,k<s.length→f (s.getD k default)=some (p (s.getD k default)))(b:s.length<N)(c:s.length≤4611686018427387904):
 pz N s f=some (s.any p):=by
 unfold pz
 rw [qf (znv a b c),ze4]
theorem z3t{N:Nat}{m:Mach}(b:Small m)(f:200≤N):uj N m=some (u7 m):=by
 unfold uj
 by_cases h:(16<m.inputs∨16<m.outputs)∨64<m.rows.length
 ·rw [ct (by simp;omega),zep h]
 ·rw [cf (by simp;omega)]
  by_cases h1:(m.inputs<1∨m.outputs<1)∨m.rows.length<1
  ·rw [ct (by simp;omega),zg1 h h1]
  ·rw [cf (by simp;omega)]
   have g:=b.r
   have d:cz N m N 0=some (if m.rows.any (lv m)=true then Ex.rt 1 else Ex.go ()):=by
    refine bn (σ:=Unit) (fun F k _=>cz N m F (k:Int)) m.rows.length (fun k _=>(m.rows.take k).any (lv m)=false) _ (fun F k _ a hi=>?_) (fun F _ hi=>?_) N 0 () (Nat.zero_le _) (by omega) (by simp)
    ·simp only [cz]
     have i:=b.c k a
     rw [nk (by omega),zu (jo a),z6r,dw (fun _=>zim (p:=fun x=> !z1a m x) (fun j l=>rfl) (by omega) (by omega))]
     have e:(decide (((m.rows.getD k default).length:Int)≠m.inputs)||((bif (true&&(decide (((m.rows.getD k default).length:Int)≠m.inputs)==false)) then some ((m.rows.getD k default).any fun x=> !z1a m x) else none).getD default))=lv m (m.rows.getD k default):=by
      unfold lv
      cases decide (((m.rows.getD k default).length:Int)≠m.inputs)<;>rfl
     rw [e]
     cases hr:lv m (m.rows.getD k default)
     ·right
      refine⟨(),by rw [z3b _ _ k a,hi,hr];rfl,?_⟩
      rw [cf rfl,zu (jc (by omega))];rfl
     ·left
      rw [ct rfl,if_pos (List.any_eq_true.2 ⟨_,z0i a,hr⟩)]
    ·simp only [cz]
     rw [dx (by omega),if_neg (by rw [List.take_length] at hi;rw [hi];decide)]
   rw [qf d]
   by_cases ha:m.rows.any (lv m)=true
   ·rw [if_pos ha];unfold u7;rw [if_neg h,if_neg h1,if_pos ha];rfl
   ·rw [if_neg ha,zf2 h h1 (by simpa using ha)];rfl
end GV
end Go.Proofs.Ytohjnbajgbdhhaa

namespace Go.Proofs.Ytohjnbajgbdhhaa
namespace GV
set_option maxRecDepth 100000
theorem za2{m:Mach}{k i:Nat}(hi:i<m.inputs.toNat):z14 m (k*m.inputs.toNat+i)=(m.rows.getD k default).getD i default:=by
 unfold z14;rw [zd0 hi,zda hi]
theorem zh8{N:Nat}{m:Mach}(a:MOk m)(j:200≤N){σ:Type}(B:((Int×Int)×Edge)→σ→Option (Bool×σ))(f:Nat→σ)
 (d: ∀ k i,k<m.rows.length→i<m.inputs.toNat→B (((k:Int),(i:Int)),(m.rows.getD k default).getD i default) (f (k*m.inputs.toNat+i))=some (true,f (k*m.inputs.toNat+i+1))):
 z0c N m σ B (f 0)=some (f (m.rows.length*m.inputs.toNat)):=by
 have l:=a.r2;have e:=a.i1;have g:=a.i2
 unfold z0c
 refine bn (fun F k s=>dn N σ B m F s (k:Int)) m.rows.length (fun k s=>s=f (k*m.inputs.toNat)) _ (fun F k s b hi=> .inr ?_) (fun F s hi=>?_) N 0 (f 0) (Nat.zero_le _) (by omega) (by simp)
 ·subst hi
  refine⟨f ((k+1)*m.inputs.toNat),rfl,?_⟩
  have hlen:((ix m.rows (k:Int)).length:Int)=m.inputs:=a.row k b
  have h:bz N σ B m (k:Int) N (f (k*m.inputs.toNat)) 0=some (Ex.go (f ((k+1)*m.inputs.toNat))):=by
   refine bn (fun F i s=>bz N σ B m (k:Int) F s (i:Int)) m.inputs.toNat (fun i s=>s=f (k*m.inputs.toNat+i)) _ (fun F i s hi c=> .inr ?_) (fun F s c=>?_) N 0 _ (Nat.zero_le _) (by omega) (by simp)
   ·subst c
    refine⟨_,rfl,?_⟩
    simp only [bz]
    rw [nk (by omega),zu (jo (by omega))]
    refine Eq.trans (qf (d k i b hi)) ?_
    refine Eq.trans (cf rfl) ?_
    rw [zu (jc (by omega))];rfl
   ·subst c
    simp only [bz]
    rw [dx (by omega),Nat.succ_mul]
  simp only [dn]
  rw [nk (by omega),zu (jo b),qf h,zcn,zu (jc (by omega))];rfl
 ·subst hi
  simp only [dn]
  rw [dx (by omega)]
theorem zc2{N:Nat}{m:Mach}(d:MOk m)(e:200≤N):ae N m=some (z01 m):=by
 unfold ae
 rw [show z2w N m=some m from rfl,zbi]
 have hmul:=d.mul.1
 have h:=zh8 d e (fun(a:(Int×Int)×Edge) (b:List (Int×Int))=>
  bd (lh N) fun c=>
  bif decide (a.2.to=c.to∧a.2.out=c.out) then(
  gd (fits 16 b ([((a.1.1,a.1.2):(Int×Int))]:List (Int×Int)))<|
  some (true,(b++([((a.1.1,a.1.2):(Int×Int))]:List (Int×Int))))) else(
  some (true,b))) (z2y m) (fun k i f hi=>by
   have g:=zk2 f hi
   have j:=zd1 m (k*m.inputs.toNat+i)
   rw [show lh N=some ⟨-1,-1⟩ from rfl,zbi,zaz,za2 hi,zd0 hi,zda hi]
   by_cases he:((m.rows.getD k default).getD i default).to= -1∧((m.rows.getD k default).getD i default).out= -1
   ·rw [nk he,if_pos he,zu ⟨by simp;omega,by simp;omega⟩]
   ·rw [dx he,if_neg he,List.append_nil])
 rw [zew] at h
 rw [qf h]
 unfold z0n
 rw [zu (zhv _),zbi,zic];rfl
theorem zb2{N:Nat}{m:Mach}(b:Small m)(a:200≤N):ol N m=some (zau m,u7 m):=by
 unfold ol zau
 rw [qf (z3t b a)]
 by_cases h:u7 m≠0
 ·rw [nk h,if_pos h]
 ·rw [dx h,if_neg h]
  have c:MOk m:=(oz m).1 (by simpa using h)
  rw [qf (zc2 c a),show u7 m=0 by simpa using h]
theorem zf1{N:Nat}{m:Mach}(d:Small m)(b:200≤N):mo N m=some (zjb m,u7 m):=by
 unfold mo zjb
 rw [qf (z3t d b)]
 by_cases h:u7 m≠0
 ·rw [nk h,if_pos h]
 ·rw [dx h,if_neg h]
  have c:MOk m:=(oz m).1 (by simpa using h)
  have hmul:=c.mul
  have a:=zd1 m (m.rows.length*m.inputs.toNat)
  have hle':(z01 m).length≤m.rows.length*m.inputs.toNat:=a
  rw [zu (jc (by rw [hmul.2];omega)),qf (zc2 c b),zu (jc (by rw [hmul.2];omega)),show u7 m=0 by simpa using h]
theorem z9x{N:Nat}{m:Mach}(b:Small m)(a:200≤N):aj N m=some (zjd m,u7 m):=by
 unfold aj zjd
 rw [qf (z3t b a)]
 by_cases h:u7 m≠0
 ·rw [nk h,if_pos h]
 ·rw [dx h,if_neg h]
  have c:MOk m:=(oz m).1 (by simpa using h)
  rw [qf (zc2 c a),show u7 m=0 by simpa using h]
theorem indexB{N:Nat}{s:List Bool}(b:s.length<N)(c:s.length≤4611686018427387904):z08 N s false=some (zb6 (fun x=>decide (false=x)) s):=by
 have h:gu N s false N 0=some (if(s.any fun x=>decide (false=x))=true then Ex.rt (zb6 (fun x=>decide (false=x)) s) else Ex.go ()):=by
  refine bn (σ:=Unit) (fun F k _=>gu N s false F (k:Int)) s.length (fun k _=>((s.take k).any fun x=>decide (false=x))=false) _ (fun F k _ a hi=>?_) (fun F _ hi=>?_) N 0 () (Nat.zero_le _) (by omega) (by simp)
  ·simp only [gu]
   rw [nk (by omega),zu (jo a),z6r]
   cases hp:decide (false=s.getD k default)
   ·right
    refine⟨(),by rw [z3b (fun x=>decide (false=x)) s k a,hi,hp];rfl,?_⟩
    rw [cf rfl,zu (jc (by omega))];rfl
   ·left
    rw [ct rfl,if_pos (List.any_eq_true.2 ⟨_,z0i a,hp⟩),z8y (fun x=>decide (false=x)) s k a hi hp]
  ·simp only [gu]
   rw [dx (by omega),if_neg (by rw [List.take_length] at hi;rw [hi];decide)]
 unfold z08
 rw [qf h]
 by_cases ha:(s.any fun x=>decide (false=x))=true
 ·rw [if_pos ha];rfl
 ·rw [if_neg ha,zat (fun x=>decide (false=x)) s (by simpa using ha)];rfl
theorem zjc{N:Nat}{s:List Bool}(a:s.length<N)(b:s.length≤4611686018427387904):l8 N s false=some (s.contains false):=by
 unfold l8
 rw [qf (indexB a b),ze4,ze9]
theorem zfc{N:Nat}{m:Mach}(b:MOk m)(n:200≤N): ∀ (F:Nat) (X:List Bool) (s:Int),X.length=m.rows.length→SOk m s→X.count false<F→ ∃ Y,yz N F s X m=some Y∧Vis m X s Y
 |0,X,s,_,_,h=>by omega
 |F+1,X,s,o,i,r=>by
  simp only [yz]
  by_cases hd:s= -1∨X.getD s.toNat default=true
  ·refine⟨X,?_,zl6 hd (by rcases i with h|h;exact .inl h;exact .inr h.1)⟩
   rcases i with h|h
   ·rw [zu (by rw [decide_eq_true h];intro e;cases e),ct (by rw [decide_eq_true h];rfl)]
   ·have a: ¬s= -1:=by omega
    have c:X.getD s.toNat default=true:=hd.resolve_left a
    rw [zu (fun _=>⟨h.1,by omega⟩),ct (by rw [z88,c];simp)]
  ·have a: ¬s= -1:=fun e=>hd (.inl e)
   have g:0≤s∧s<m.rows.length:=i.resolve_left a
   have c:X.getD s.toNat default=false:=by
    cases e:X.getD s.toNat default
    ·rfl
    ·exact absurd (.inr e) hd
   have d:s.toNat<X.length:=by omega
   have t:=b.r2;have p:=b.i2
   have hrow:=b.row s.toNat (by omega)
   have hcnt:=z8x d c
   rw [zu (fun _=>⟨g.1,by omega⟩),cf (by rw [z88,c,decide_eq_false a];rfl),zu ⟨g.1,by omega⟩,zu g]
   refine z4r (fun G k Y=>xz N (yz N F) s m G (k:Int) Y) (m.rows.getD s.toNat default).length (fun k Y=>VisK m X s.toNat k Y∧Y.length=m.rows.length) (fun Y=>Vis m X s Y)
    (fun G k Y j hi=> .inr ?_) (fun G Y hi=>?_) N 0 (up X s true) (Nat.zero_le _) (by omega) ⟨zih d c,by simp [up,o]⟩
   ·simp only [xz]
    have l:k<(ix m.rows s).length:=j
    rw [nk (by omega),zu (jo l)]
    obtain⟨Z,q,f⟩:=zfc b n F Y ((m.rows.getD s.toNat default).getD k default).to hi.2 (zoz b s k (by omega) j) (by
     have:=hi.1.cnt
     omega)
    refine⟨Z,⟨zie hi.1 (by omega) j f,by rw [f.len];exact hi.2⟩,Eq.trans (qf q) ?_⟩
    rw [zu (jc (by omega))];rfl
   ·simp only [xz]
    have e:(ix m.rows s).length=(m.rows.getD s.toNat default).length:=rfl
    rw [dx (by omega)]
    exact⟨Y,rfl,zlz g.1 hi.1 (Nat.lt_irrefl _)⟩
theorem z9o{N:Nat}{m:Mach}(d:Small m)(b:200≤N):ah N m=some ((if u7 m≠0 then false else connB m),u7 m):=by
 unfold ah
 rw [qf (z3t d b)]
 by_cases h:u7 m≠0
 ·rw [nk h,if_pos h]
 ·rw [dx h,if_neg h]
  have a:MOk m:=(oz m).1 (by simpa using h)
  have i:=a.r2;have e:=a.r1
  obtain⟨Y,f,c⟩:=zfc a b N (List.replicate m.rows.length false) 0 (by simp) (.inr ⟨by omega,by omega⟩) (by simp;omega)
  have g:Y.length=m.rows.length:=by rw [c.len];simp
  rw [zu ⟨by omega,by omega,by omega⟩,zc1,qf f,qf (zjc (by omega) (by omega)),←zkl a rfl c,show u7 m=0 by simpa using h]
end GV
end Go.Proofs.Ytohjnbajgbdhhaa

namespace Go.Proofs.Ytohjnbajgbdhhaa
namespace GV
set_option maxRecDepth 100000
theorem zcj{N:Nat}{m:Mach}(a:MOk m)(h:200≤N):om N m=some (zct m:Int):=by
 have j:=a.r2;have d:=a.i1;have e:=a.i2
 unfold om
 refine Eq.trans (qf (x:=(zct m:Int)) ?_) rfl
 refine bn (fun F k (s:Int)=>xe N m F s (k:Int)) m.rows.length (fun k s=>s=(z5y m k:Int)) _ (fun F k s b hi=> .inr ?_) (fun F s hi=>?_) N 0 0 (Nat.zero_le _) (by omega) (by simp [z5y])
 ·subst hi
  have hlen:((m.rows.getD k default).length:Int)=m.inputs:=a.row k b
  have f:=zib m a k (by omega)
  have g:yf N m (k:Int) N (z5y m k:Int) 0=some (z5y m (k+1):Int):=by
   rw [z6l m k b]
   refine bn (fun F i (s:Int)=>yf N m (k:Int) F s (i:Int)) m.inputs.toNat (fun i s=>s=((z5y m k+z97 (m.rows.getD k default) i:Nat):Int)) _ (fun F i s hi c=> .inr ?_) (fun F s c=>?_) N 0 _ (Nat.zero_le _) (by omega) (by simp [zd4])
   ·subst c
    have hi':i<(m.rows.getD k default).length:=by omega
    refine⟨_,rfl,?_⟩
    simp only [yf]
    have l:=zbg (m.rows.getD k default) i
    rw [nk (by omega),zu (jo b),zu (show okI (ix m.rows (k:Int)) (i:Int) from jo hi'),zcz _ _ hi']
    by_cases h0:0≤((m.rows.getD k default).getD i default).to
    ·rw [if_pos h0]
     refine Eq.trans (qf (x:=((z5y m k+(z97 (m.rows.getD k default) i+1):Nat):Int)) ?_) ?_
     ·refine Eq.trans (nk h0) ?_
      rw [zu (jc (by omega))];rfl
     ·rw [zu (jc (by omega))];rfl
    ·rw [if_neg h0]
     refine Eq.trans (qf (x:=((z5y m k+(z97 (m.rows.getD k default) i+0):Nat):Int)) ?_) ?_
     ·exact dx h0
     ·rw [zu (jc (by omega))];rfl
   ·subst c
    simp only [yf]
    rw [dx (by omega),show m.inputs.toNat=(m.rows.getD k default).length by omega]
  refine⟨_,rfl,?_⟩
  simp only [xe]
  rw [nk (by omega),qf g,zu (jc (by omega))];rfl
 ·subst hi
  simp only [xe]
  rw [dx (by omega)];rfl
theorem z9f{N:Nat}{m:Mach}(a:MOk m)(b:200≤N):tu N m=some (z5g m):=by
 unfold tu
 have:=a.mul
 rw [qf (zcj a b),zu (jc (by rw [this.2];omega))];rfl
theorem zgu{N:Nat}{m:Mach}(b:MOk m)(v:200≤N){a:Nat}(f:a<m.rows.length):oq N m (a:Int)=some (reachL m a):=by
 have w:=b.r2;have k:=b.i1;have l:=b.i2
 unfold oq
 rw [zu ⟨by omega,by omega,by omega⟩,zc1,zu (jo (by simpa using f)),zea]
 refine Eq.trans (qf (x:=reachL m a) ?_) rfl
 refine bn (fun F r Y=>xc N m F (r:Int) Y) m.rows.length (fun r Y=>RInv m a r Y) _ (fun F r Y y hi=> .inr ?_) (fun F Y hi=>?_) N 0 _ (Nat.zero_le _) (by omega) (zj7 f)
 ·obtain⟨Z,n,o⟩: ∃ Z,yc N m N 0 Y=some Z∧RInv m a (r+1) Z:=by
   refine z4r (fun F s Z=>yc N m F (s:Int) Z) m.rows.length (fun s Z=>RPass m a Y s 0 Z) _ (fun F s Z e g=> .inr ?_) (fun F Z g=>?_) N 0 Y (Nat.zero_le _) (by omega) (zmf hi)
   ·have hlen:((m.rows.getD s default).length:Int)=m.inputs:=b.row s e
    obtain⟨V,p,q⟩: ∃ V,yj N m (s:Int) N 0 Z=some V∧RPass m a Y (s+1) 0 V:=by
     refine z4r (fun F i V=>yj N m (s:Int) F (i:Int) V) m.inputs.toNat (fun i V=>RPass m a Y s i V) _ (fun F i V hi' d=> .inr ?_) (fun F V d=>?_) N 0 Z (Nat.zero_le _) (by omega) g
     ·have c:i<(m.rows.getD s default).length:=by omega
      have j:s<V.length:=by rw [d.len];exact e
      simp only [yj]
      rw [nk (by omega),zu (jo e),zu (show okI (ix m.rows (s:Int)) (i:Int) from jo c),zu (jo j)]
      by_cases hc:V.getD s default=true∧0≤((m.rows.getD s default).getD i default).to
      ·refine⟨_,znk b d e c hc.1 hc.2,?_⟩
       have t:((m.rows.getD s default).getD i default).to.toNat<V.length:=by
        rw [d.len];rcases b.edge s i e c with h|h<;>omega
       refine Eq.trans (qf (x:=V.set ((m.rows.getD s default).getD i default).to.toNat true) ?_) ?_
       ·refine Eq.trans (ct (by show (V.getD s default&&decide (0≤((m.rows.getD s default).getD i default).to))=true;rw [hc.1,decide_eq_true hc.2];rfl)) ?_
        exact zu (show okI V ((m.rows.getD s default).getD i default).to from⟨hc.2,by omega⟩)
       ·rw [zu (jc (by omega))];rfl
      ·refine⟨V,zmn d hc,?_⟩
       refine Eq.trans (qf (x:=V) ?_) ?_
       ·refine cf (show (V.getD s default&&decide (0≤((m.rows.getD s default).getD i default).to))=false from ?_)
        cases h1:V.getD s default
        ·rfl
        ·exact decide_eq_false fun u=>hc ⟨h1,u⟩
       ·rw [zu (jc (by omega))];rfl
     ·simp only [yj]
      rw [dx (by omega)]
      exact⟨V,rfl,znj d (by omega)⟩
    refine⟨V,q,?_⟩
    simp only [yc]
    rw [nk (by omega),qf p,zu (jc (by omega))];rfl
   ·simp only [yc]
    rw [dx (by omega)]
    exact⟨Z,rfl,zoe g (Nat.le_refl _) hi⟩
  refine⟨Z,o,?_⟩
  simp only [xc]
  rw [nk (by omega),qf n,zu (jc (by omega))];rfl
 ·simp only [xc]
  rw [dx (by omega),zkn b f hi (Nat.le_refl _)]
theorem zlf{N:Nat}{m:Mach}(b:MOk m)(c:200≤N):ak N m=some (connB m):=by
 have g:=b.r2;have d:=b.r1
 unfold ak
 rw [qf (show oq N m 0=_ from zgu (a:=0) b c (by omega))]
 have h:=z8r m 0
 have e:wz N (reachL m 0) N 0=some (if connB m=true then Ex.go () else Ex.rt false):=by
  refine bn (σ:=Unit) (fun F k _=>wz N (reachL m 0) F (k:Int)) m.rows.length (fun k _=> ∀ j,j<k→(reachL m 0).getD j default=true) _ (fun F k _ f hi=>?_) (fun F _ hi=>?_) N 0 () (Nat.zero_le _) (by omega) (fun j i=>by omega)
  ·simp only [wz]
   rw [nk (by omega),zu (jo (by omega)),z6r]
   cases hb:(reachL m 0).getD k default
   ·left
    refine Eq.trans (ct rfl) ?_
    rw [zmp f hb];rfl
   ·right
    refine⟨(),z7h hi hb,Eq.trans (cf rfl) ?_⟩
    rw [zu (jc (by omega))];rfl
  ·simp only [wz]
   rw [dx (by omega),zmr hi];rfl
 rw [qf e]
 cases connB m<;>rfl
/-! ### Words-/
theorem z7q{N:Nat}{m:Mach}(a:Small m)(b:200≤N)(s:Int):iq N m s=some (mh m s):=by
 unfold iq mh
 rw [qf (z3t a b)]
 by_cases h:u7 m≠0
 ·rw [nk h,if_pos h]
 ·rw [dx h,if_neg h]
  by_cases h1:s<0∨(m.rows.length:Int)≤s
  ·rw [ct (by simpa using h1),if_pos h1]
  ·rw [cf (by simpa using h1),if_neg h1]
theorem zny{N:Nat}{s:List Int}{f:Int→Option Bool}{p:Int→Bool}(b: ∀ k,k<s.length→f (s.getD k default)=some (p (s.getD k default)))(c:s.length<N)(d:s.length≤4611686018427387904):
 l6 N s f=some (zb6 p s):=by
 have h:yl N s f N 0=some (if s.any p=true then Ex.rt (zb6 p s) else Ex.go ()):=by
  refine bn (σ:=Unit) (fun F k _=>yl N s f F (k:Int)) s.length (fun k _=>(s.take k).any p=false) _ (fun F k _ a hi=>?_) (fun F _ hi=>?_) N 0 () (Nat.zero_le _) (by omega) (by simp)
  ·simp only [yl]
   rw [nk (by omega),zu (jo a),z6r,qf (b k a)]
   cases hp:p (s.getD k default)
   ·right
    refine⟨(),by rw [z3b p s k a,hi,hp];rfl,?_⟩
    rw [cf rfl,zu (jc (by omega))];rfl
   ·left
    rw [ct rfl,if_pos (List.any_eq_true.2 ⟨_,z0i a,hp⟩),z8y p s k a hi hp]
  ·simp only [yl]
   rw [dx (by omega),if_neg (by rw [List.take_length] at hi;rw [hi];decide)]
 unfold l6
 rw [qf h]
 by_cases ha:s.any p=true
 ·rw [if_pos ha];rfl
 ·rw [if_neg ha,zat p s (by simpa using ha)];rfl
theorem zjj{N:Nat}{s:List Int}{f:Int→Option Bool}{p:Int→Bool}(a: ∀ k,k<s.length→f (s.getD k default)=some (p (s.getD k default)))(b:s.length<N)(c:s.length≤4611686018427387904):
 av N s f=some (s.any p):=by
 unfold av
 rw [qf (zny a b c),ze4]
theorem zdb{N:Nat}{w:List Int}{n:Int}(b:w.length<N)(c:w.length≤4611686018427387904):z2q N w n=some (z0g w n):=by
 unfold z2q
 by_cases h:16<n∨256<w.length
 ·rw [ct (by simp;omega),zfg h]
 ·rw [cf (by simp;omega)]
  rw [dw (fun _=>zjj (p:=z2j n) (fun j d=>rfl) b c)]
  by_cases h1:n<1∨w.any (z2j n)=true
  ·rw [zc6 h h1]
   refine ct ?_
   by_cases a:n<1
   ·rw [decide_eq_true a];rfl
   ·rw [decide_eq_false a];exact h1.resolve_left a
  ·rw [zeu h h1]
   refine cf ?_
   rw [decide_eq_false (fun a=>h1 (.inl a))]
   exact Bool.eq_false_iff.2 fun a=>h1 (.inr a)
theorem zkh{N:Nat}{m:Mach}(e:MOk m){s:Int}{w:List Int}(g:SOk m s)(f:WOk m.inputs w)(j:w.length<N)(l:w.length≤1000000):z1o N m s w=some (aa m s w,af m s w):=by
 unfold z1o
 rw [zu ⟨by omega,by omega,by omega⟩,zc1]
 refine Eq.trans (qf (x:=(af m s w,aa m s w)) ?_) rfl
 refine bn (σ:=Int×List Int) (fun F k x=>sj N m w F x.1 (k:Int) x.2) w.length (fun k x=>x.1=af m s (w.take k)∧x.2=aa m s (w.take k)++List.replicate (w.length-k) (0:Int)) _ (fun F k x a hi=> .inr ?_) (fun F x hi=>?_) N 0 (s,List.replicate w.length 0) (Nat.zero_le _) (by omega) (by simp [af,aa])
 ·obtain⟨t,X⟩:=x
  obtain⟨rfl,rfl⟩:=hi
  have d:=z9r m e s (w.take k) g (z9t f k)
  have b:=f k a
  refine⟨(af m s (w.take (k+1)),aa m s (w.take (k+1))++List.replicate (w.length-(k+1)) (0:Int)),⟨rfl,rfl⟩,?_⟩
  simp only [sj]
  rw [nk (by omega),zu (jo a),show lh N=some ⟨-1,-1⟩ from rfl,zbi]
  have i:(bif decide (af m s (w.take k)≠ -1) then gd (okI m.rows (af m s (w.take k)))<|gd (okI (ix m.rows (af m s (w.take k))) (ix w (k:Int)))<|some ((ix (ix m.rows (af m s (w.take k))) (ix w (k:Int))).to,(ix (ix m.rows (af m s (w.take k))) (ix w (k:Int))).out) else some ((-1:Int),(-1:Int)))=
   some ((fo m (af m s (w.take k)) (w.getD k default)).to,(fo m (af m s (w.take k)) (w.getD k default)).out):=by
   rcases d with h|h
   ·rw [h];rfl
   ·have hrow:=e.row (af m s (w.take k)).toNat (by omega)
    rw [nk (by omega),zu h,zu (show okI (ix m.rows (af m s (w.take k))) (ix w (k:Int)) from⟨b.1,show w.getD k default<((m.rows.getD (af m s (w.take k)).toNat default).length:Int) from by rw [hrow];exact b.2⟩)]
    unfold fo
    rw [if_neg (by omega)];rfl
  refine Eq.trans (qf i) ?_
  have c:=z07 m s (w.take k)
  rw [List.length_take] at c
  rw [zu (jo (by rw [List.length_append,List.length_replicate,c];omega)),zu (jc (by omega)),zea,zly _ _ _ _ (by omega) a,←zaj m s w k a,←za8 m s w k a];rfl
 ·obtain⟨t,X⟩:=x
  obtain⟨rfl,rfl⟩:=hi
  simp only [sj]
  rw [dx (by omega),List.take_length,Nat.sub_self,List.replicate_zero,List.append_nil]
theorem zcg{N:Nat}{m:Mach}(c:Small m){s:Int}{w:List Int}(e:400≤N)(a:w.length<N)(hl':w.length≤1000000):il N m s w=some (zej m s w,z8u m s w):=by
 unfold il zej z8u
 rw [qf (z7q c (by omega) s)]
 by_cases h:mh m s≠0
 ·rw [nk h,if_pos h,if_pos h]
 ·rw [dx h,if_neg h,if_neg h,qf (zdb a (by omega))]
  by_cases h1:z0g w m.inputs≠0
  ·rw [nk h1,if_pos h1]
  ·have b:=z3w (m:=m) (s:=s) (by simpa using h)
   have d:=zcc (w:=w) (n:=m.inputs) (by simpa using h1)
   rw [dx h1,if_neg h1,qf (zkh b.1 (.inr b.2) d.1 a hl'),show z0g w m.inputs=0 by simpa using h1]
theorem z7o{N:Nat}{m:Mach}(c:Small m){s:Int}{w:List Int}(e:400≤N)(a:w.length<N)(hl':w.length≤1000000):bf N m s w=some (zf6 m s w,z8u m s w):=by
 unfold bf zf6 z8u
 rw [qf (z7q c (by omega) s)]
 by_cases h:mh m s≠0
 ·rw [nk h,if_pos h,if_pos h]
 ·rw [dx h,if_neg h,if_neg h,qf (zdb a (by omega))]
  by_cases h1:z0g w m.inputs≠0
  ·rw [nk h1,if_pos h1]
  ·have b:=z3w (m:=m) (s:=s) (by simpa using h)
   have d:=zcc (w:=w) (n:=m.inputs) (by simpa using h1)
   rw [dx h1,if_neg h1,qf (zkh b.1 (.inr b.2) d.1 a hl'),show z0g w m.inputs=0 by simpa using h1]
theorem zhz{N:Nat}{m:Mach}(b:Small m){s i:Int}(c:200≤N):ig N m s i=some (zax m s i,z3d m s i):=by
 unfold ig zax z3d
 rw [qf (z7q b c s)]
 by_cases h:mh m s≠0
 ·rw [nk h,if_pos h,if_pos h]
 ·rw [dx h,if_neg h,if_neg h]
  by_cases h1:i<0∨m.inputs≤i
  ·rw [ct (by simpa using h1),if_pos h1,if_pos h1]
  ·have a:=z3w (m:=m) (s:=s) (by simpa using h)
   have hrow:=a.1.row s.toNat (by omega)
   rw [cf (by simpa using h1),if_neg h1,if_neg h1,zu a.2,zu (show okI (ix m.rows s) i from⟨by omega,by rw [z88,hrow];omega⟩)];rfl
end GV
end Go.Proofs.Ytohjnbajgbdhhaa

namespace Go.Proofs.Ytohjnbajgbdhhaa
namespace GV
set_option maxRecDepth 100000
theorem zhc{N:Nat}{a b:List Int}(f:a.length<N)(g:a.length≤4611686018427387904):sw N a b=some (cmpL a b):=by
 unfold sw cmpL
 by_cases h1:a.length<b.length
 ·rw [nk (by omega),if_pos h1]
 ·rw [dx (by omega),if_neg h1]
  by_cases h2:b.length<a.length
  ·rw [nk (by omega),if_pos h2]
  ·rw [dx (by omega),if_neg h2]
   have h:a.length=b.length:=by omega
   have e:y5 N a b N 0=some (if zac a b=0 then Ex.go () else Ex.rt (zac a b)):=by
    refine bn (σ:=Unit) (fun F k _=>y5 N a b F (k:Int)) a.length (fun k _=>zac (a.drop k) (b.drop k)=zac a b) _ (fun F k _ d hi=>?_) (fun F _ hi=>?_) N 0 () (Nat.zero_le _) (by omega) rfl
    ·simp only [y5]
     rw [nk (by omega),zu (jo d),zu (jo (by omega))]
     have c:=zj3 d (show k<b.length by omega)
     rw [hi] at c
     by_cases h3:a.getD k default<b.getD k default
     ·left
      refine Eq.trans (nk h3) ?_
      rw [if_pos h3] at c;rw [c];rfl
     ·refine(show _∨_ from ?_)
      rw [if_neg h3] at c
      by_cases h4:b.getD k default<a.getD k default
      ·left
       refine Eq.trans (dx h3) ?_
       rw [zu (jo d),zu (jo (by omega))]
       refine Eq.trans (nk h4) ?_
       rw [if_pos h4] at c;rw [c];rfl
      ·right
       rw [if_neg h4] at c
       refine⟨(),c.symm,Eq.trans (dx h3) ?_⟩
       rw [zu (jo d),zu (jo (by omega))]
       refine Eq.trans (dx h4) ?_
       rw [zu (jc (by omega))];rfl
    ·simp only [y5]
     rw [dx (by omega)]
     have:zac a b=0:=by rw [←hi,List.drop_of_length_le (Nat.le_refl _)];rfl
     rw [if_pos this]
   rw [qf e]
   by_cases h5:zac a b=0
   ·rw [if_pos h5,h5];rfl
   ·rw [if_neg h5];rfl
theorem zc0{N:Nat}{a b:List Int}(c:a.length<N)(d:a.length≤4611686018427387904):eu N a b=some (decide (a=b)):=by
 unfold eu
 rw [qf (zhc c d)]
 by_cases h:a=b
 ·rw [decide_eq_true h,decide_eq_true ((cmpL_eq a b).2 h)]
 ·rw [decide_eq_false h,decide_eq_false (fun e=>h ((cmpL_eq a b).1 e))]
theorem ze2{N:Nat}{l w:List Int}{e f:Int}(a:l.length<N)(b:l.length≤4611686018427387904):pg N l e w f=some (decide (e=f)&&decide (l=w)):=by
 unfold pg
 rw [dw (fun _=>zc0 a b)]
 by_cases h:e=f
 ·rw [decide_eq_true h];simp
 ·rw [decide_eq_false h];simp
theorem zi3{N:Nat}{m:Mach}(a:MOk m){s i:Int}(b:SOk m s)(hi:0≤i∧i<m.inputs):rz N m s i=some (fo m s i):=by
 unfold rz fo
 rcases b with h|h
 ·rw [h];rfl
 ·have hrow:=a.row s.toNat (by omega)
  rw [dx (by omega),if_neg (by omega),zu h,zu (show okI (ix m.rows s) i from⟨hi.1,by rw [z88,hrow];exact hi.2⟩)];rfl
theorem zi1{N:Nat}{m:Mach}(d:MOk m){s:Int}{w:List Int}(f:SOk m s)(e:WOk m.inputs w)(g:w.length<N)(h:w.length≤1000000):lc N m s w=some (aa m s w):=by
 unfold lc
 refine Eq.trans (qf (x:=aa m s w) ?_) rfl
 refine bn (σ:=Int×List Int) (fun F k x=>p8 N m w F x.1 x.2 (k:Int)) w.length (fun k x=>x.1=af m s (w.take k)∧x.2=aa m s (w.take k)) _ (fun F k x a hi=> .inr ?_) (fun F x hi=>?_) N 0 (s,[]) (Nat.zero_le _) (by omega) (by simp [af,aa])
 ·obtain⟨t,X⟩:=x
  obtain⟨rfl,rfl⟩:=hi
  have b:=z9r m d s (w.take k) f (z9t e k)
  refine⟨(af m s (w.take (k+1)),aa m s (w.take (k+1))),⟨rfl,rfl⟩,?_⟩
  simp only [p8]
  have c:=z07 m s (w.take k)
  rw [List.length_take] at c
  rw [nk (by omega),zu (jo a)]
  refine Eq.trans (qf (zi3 d b (show 0≤w.getD k default∧w.getD k default<m.inputs from e k a))) ?_
  rw [zu ⟨by simp;omega,by simp;omega⟩,zu (jc (by omega)),zaj m s w k a,za8 m s w k a];rfl
 ·obtain⟨t,X⟩:=x
  obtain⟨rfl,rfl⟩:=hi
  simp only [p8]
  rw [dx (by omega),List.take_length]
theorem zeb{N:Nat}{m:Mach}(a:MOk m): ∀ (F:Nat) (s:Int) (w:List Int),SOk m s→WOk m.inputs w→w.length<F→dm N F m s w=some (af m s w)
 |0,s,w,_,_,h=>by omega
 |F+1,s,[],b,_,_=>rfl
 |F+1,s,i::w,b,c,h=>by
  have hi:0≤i∧i<m.inputs:=by simpa using c 0 (by simp)
  simp only [dm]
  rw [dx (by simp;omega),zu (show okI (i::w) 0 from jo (k:=0) (by simp))]
  refine Eq.trans (qf (zi3 a b (show 0≤i∧i<m.inputs from hi))) ?_
  rw [zu ⟨by omega,by simp;omega,by simp⟩]
  have d:cut (i::w) 1 (((i::w).length:Nat):Int)=w:=by simp [cut]
  rw [d]
  refine Eq.trans (qf (zeb (N:=N) a F _ w (zeg m a s i b hi).1 (fun k e=>by simpa using c (k+1) (by simpa using e)) (by simpa using h))) ?_
  rfl
theorem zf0{N:Nat}{m:Mach}(e:200≤N):iw N m=some (z3c m):=by
 unfold iw
 by_cases h:70<m.rows.length
 ·rw [nk (by omega),zmk h]
 ·rw [dx (by omega)]
  have b:yx N m N 0=some (if(m.rows.any fun r=>decide (20<r.length))=true then Ex.rt 1 else Ex.go ()):=by
   refine bn (σ:=Unit) (fun F k _=>yx N m F (k:Int)) m.rows.length (fun k _=>((m.rows.take k).any fun r=>decide (20<r.length))=false) _ (fun F k _ a hi=>?_) (fun F _ hi=>?_) N 0 () (Nat.zero_le _) (by omega) (by simp)
   ·simp only [yx]
    rw [nk (by omega),zu (jo a)]
    by_cases h1:20<(m.rows.getD k default).length
    ·left
     refine Eq.trans (nk (show (20:Int)<(((m.rows.getD k default).length:Nat):Int) by omega)) ?_
     rw [if_pos (List.any_eq_true.2 ⟨_,z0i a,decide_eq_true h1⟩)]
    ·right
     refine⟨(),by rw [z3b _ _ k a,hi,decide_eq_false h1];rfl,Eq.trans (dx (show¬(20:Int)<(((m.rows.getD k default).length:Nat):Int) by omega)) ?_⟩
     rw [zu (jc (by omega))];rfl
   ·simp only [yx]
    rw [dx (by omega),if_neg (by rw [List.take_length] at hi;rw [hi];decide)]
  rw [qf b]
  by_cases ha:(m.rows.any fun r=>decide (20<r.length))=true
  ·rw [if_pos ha]
   obtain⟨r,c,d⟩:=List.any_eq_true.1 ha
   obtain⟨k,a,rfl⟩:=List.getElem_of_mem c
   rw [zii k a (by simpa [List.getD_eq_getElem?_getD,a] using d)];rfl
  ·rw [if_neg ha,zm4 h (by simpa using ha)];rfl
theorem zar{N:Nat}{m:Mach}(p:Small m)(u:200≤N):og N m=some (u7 m):=by
 have v:=p.r
 unfold og
 by_cases h:(16<m.inputs∨16<m.outputs)∨64<m.rows.length
 ·rw [ct (by simp;omega),zep h]
 ·rw [cf (by simp;omega)]
  by_cases h1:(m.inputs<1∨m.outputs<1)∨m.rows.length<1
  ·rw [ct (by simp only [Bool.or_eq_true,decide_eq_true_eq];omega),zg1 h h1]
  ·rw [cf (by
    have:(m.rows.length:Int)≠0:=by omega
    simp only [Bool.or_eq_false_iff,decide_eq_false_iff_not];omega)]
   have q:vg N m N 0=some (if m.rows.any (lv m)=true then Ex.rt 1 else Ex.go ()):=by
    refine bn (σ:=Unit) (fun F k _=>vg N m F (k:Int)) m.rows.length (fun k _=>(m.rows.take k).any (lv m)=false) _ (fun F k _ d hi=>?_) (fun F _ hi=>?_) N 0 () (Nat.zero_le _) (by omega) (by simp)
    ·have w:=p.c k d
     have j:(bd (gd (okI m.rows (k:Int))<|bif decide (((ix m.rows (k:Int)).length:Int)≠m.inputs) then(some (Ex.rt (Ex.rt 1))) else yh N m (k:Int) N 0) fun l=>Ex.on l (fun s=>gd (in64 ((k:Int)+1))<|vg N m F ((k:Int)+1)) some)=
      if lv m (m.rows.getD k default)=true then some (Ex.rt 1) else vg N m F ((k+1:Nat):Int):=by
      rw [zu (jo d)]
      by_cases g:((m.rows.getD k default).length:Int)≠m.inputs
      ·have b:lv m (m.rows.getD k default)=true:=by unfold lv;rw [decide_eq_true g];rfl
       rw [if_pos b]
       refine Eq.trans (qf (x:=Ex.rt (Ex.rt 1)) (nk g)) rfl
      ·have h2':((ix m.rows (k:Int)).length:Int)=m.inputs:=Decidable.of_not_not g
       have n:yh N m (k:Int) N 0=some (if lv m (m.rows.getD k default)=true then Ex.rt (Ex.rt 1) else Ex.go ()):=by
        refine bn (σ:=Unit) (fun G i _=>yh N m (k:Int) G (i:Int)) m.inputs.toNat (fun i _=>(((m.rows.getD k default).take i).any fun x=> !z1a m x)=false) _ (fun G i _ hi' e=>?_) (fun G _ e=>?_) N 0 () (Nat.zero_le _) (by have:((m.rows.getD k default).length:Int)=m.inputs:=h2';omega) (by simp)
        ·have a:i<(m.rows.getD k default).length:=by have:((m.rows.getD k default).length:Int)=m.inputs:=h2';omega
         simp only [yh]
         rw [nk (by omega),zu (jo d),zu (show okI (ix m.rows (k:Int)) (i:Int) from jo a)]
         have t:ix (ix m.rows (k:Int)) (i:Int)=(m.rows.getD k default).getD i default:=rfl
         rw [t]
         generalize hxe:(m.rows.getD k default).getD i default=x at*
         by_cases h3:x.to= -1∧x.out= -1
         ·right
          have f:=zki (m:=m) (x:=x) (.inl h3)
          refine⟨(),by rw [z3b _ _ i a,e,hxe,f];rfl,?_⟩
          rw [ct (by rw [decide_eq_true h3.1,decide_eq_true h3.2];rfl),zbi,zcn,zu (jc (by omega))];rfl
         ·rw [cf (by rw [←Bool.decide_and];exact decide_eq_false h3)]
          by_cases h4:0≤x.to∧x.to<m.rows.length∧0≤x.out∧x.out<m.outputs
          ·right
           have f:=zki (m:=m) (x:=x) (.inr h4)
           refine⟨(),by rw [z3b _ _ i a,e,hxe,f];rfl,?_⟩
           rw [cf (by simp;omega),zbi,zcn,zu (jc (by omega))];rfl
          ·left
           have f:=znq (m:=m) (x:=x) (fun h=>h.elim h3 h4)
           rw [ct (by simp;omega),zbi,zq6,if_pos]
           unfold lv
           rw [Bool.or_eq_true]
           exact .inr (List.any_eq_true.2 ⟨_,z0i a,by rw [hxe];exact f⟩)
        ·simp only [yh]
         rw [dx (by omega),if_neg]
         have o:(m.rows.getD k default).length=m.inputs.toNat:=by have:((m.rows.getD k default).length:Int)=m.inputs:=h2';omega
         rw [←o,List.take_length] at e
         unfold lv
         rw [e,decide_eq_false g];decide
       refine Eq.trans (qf (Eq.trans (dx (fun h=>h h2')) n)) ?_
       by_cases b:lv m (m.rows.getD k default)=true
       ·rw [if_pos b,if_pos b];rfl
       ·rw [if_neg b,if_neg b,zcn,zu (jc (by omega))];rfl
     simp only [vg]
     rw [nk (by omega),j]
     cases hr:lv m (m.rows.getD k default)
     ·right
      exact⟨(),by rw [z3b _ _ k d,hi,hr];rfl,if_neg (by decide)⟩
     ·left
      rw [if_pos rfl,if_pos (List.any_eq_true.2 ⟨_,z0i d,hr⟩)]
    ·simp only [vg]
     rw [dx (by omega),if_neg (by rw [List.take_length] at hi;rw [hi];decide)]
   rw [qf q]
   by_cases ha:m.rows.any (lv m)=true
   ·rw [if_pos ha];unfold u7;rw [if_neg h,if_neg h1,if_pos ha];rfl
   ·rw [if_neg ha,zf2 h h1 (by simpa using ha)];rfl
end GV
end Go.Proofs.Ytohjnbajgbdhhaa

namespace Go.Proofs.Ytohjnbajgbdhhaa
namespace GV
set_option maxRecDepth 100000
theorem zix{N:Nat}{a b:List Edge}(f:a.length<N)(g:a.length≤4611686018427387904):r9 N a b=some (decide (a=b)):=by
 unfold r9
 by_cases h:(a.length:Int)≠b.length
 ·rw [nk h,decide_eq_false (fun e=>h (by rw [e]))]
 ·rw [dx h]
  have hl':a.length=b.length:=by omega
  have c:yg N a b N 0=some (if a=b then Ex.go () else Ex.rt false):=by
   refine bn (σ:=Unit) (fun F k _=>yg N a b F (k:Int)) a.length (fun k _=> ∀ j,j<k→a.getD j default=b.getD j default) _ (fun F k _ d hi=>?_) (fun F _ hi=>?_) N 0 () (Nat.zero_le _) (by omega) (fun j i=>by omega)
   ·simp only [yg]
    rw [nk (by omega),zu (jo d),zu (jo (by omega))]
    by_cases he:a.getD k default=b.getD k default
    ·right
     refine⟨(),z7h hi he,Eq.trans (dx (show¬ ¬((a.getD k default).to=(b.getD k default).to∧(a.getD k default).out=(b.getD k default).out) from fun h=>h (by rw [he];exact⟨rfl,rfl⟩))) ?_⟩
     rw [zu (jc (by omega))];rfl
    ·left
     refine Eq.trans (nk (show¬((a.getD k default).to=(b.getD k default).to∧(a.getD k default).out=(b.getD k default).out) from fun h=>he (z9l h))) ?_
     rw [if_neg (fun e=>he (by rw [e]))]
   ·simp only [yg]
    rw [dx (by omega),if_pos (z3u hl' hi)]
  rw [qf c]
  by_cases he:a=b
  ·rw [if_pos he,decide_eq_true he];rfl
  ·rw [if_neg he,decide_eq_false he];rfl
theorem zja{N:Nat}{a b:List (List Edge)}{f:List Edge→List Edge→Option Bool}(d: ∀ k,k<a.length→f (a.getD k default) (b.getD k default)=some (decide (a.getD k default=b.getD k default)))(i:a.length<N)(l:a.length≤4611686018427387904):
 mg N a b f=some (decide (a=b)):=by
 unfold mg
 by_cases h:(a.length:Int)≠b.length
 ·rw [nk h,decide_eq_false (fun e=>h (by rw [e]))]
 ·rw [dx h]
  have hl':a.length=b.length:=by omega
  have g:uo N a b f N 0=some (if a=b then Ex.go () else Ex.rt false):=by
   refine bn (σ:=Unit) (fun F k _=>uo N a b f F (k:Int)) a.length (fun k _=> ∀ j,j<k→a.getD j default=b.getD j default) _ (fun F k _ c hi=>?_) (fun F _ hi=>?_) N 0 () (Nat.zero_le _) (by omega) (fun j m=>by omega)
   ·simp only [uo]
    rw [nk (by omega),zu (jo c),zu (jo (by omega))]
    refine(show _∨_ from ?_)
    have hk':=d k c
    by_cases he:a.getD k default=b.getD k default
    ·rw [decide_eq_true he] at hk'
     right
     refine⟨(),z7h hi he,Eq.trans (qf hk') (Eq.trans (cf rfl) ?_)⟩
     rw [zu (jc (by omega))];rfl
    ·rw [decide_eq_false he] at hk'
     left
     refine Eq.trans (qf hk') (Eq.trans (ct rfl) ?_)
     rw [if_neg (fun e=>he (by rw [e]))]
   ·simp only [uo]
    rw [dx (by omega),if_pos (z3u hl' hi)]
  rw [qf g]
  by_cases he:a=b
  ·rw [if_pos he,decide_eq_true he];rfl
  ·rw [if_neg he,decide_eq_false he];rfl
theorem z3a{N:Nat}{a b:Mach}(d:Small a)(g:Small b)(e:200≤N):dh N a b=some (z6j a b):=by
 unfold dh z6j
 have h:=d.r
 rw [qf (z3t d e),dw (fun _=>z3t g e),dw (fun _=>zja (fun k f=>zix (by have:=d.c k f;omega) (by have:=d.c k f;omega)) (by omega) (by omega))]
 cases decide (u7 a=0)
 ·rfl
 ·simp only [Bool.true_and,beq_true,cond_true,Option.getD_some]
  cases decide (u7 b=0)<;>cases decide (a.inputs=b.inputs)<;>cases decide (a.outputs=b.outputs)<;>rfl
theorem z6g{N:Nat}{a b:Mach}(s:Small a)(z:200≤N):bg N a b=some (decide (a=b)):=by
 have A:=s.r
 unfold bg
 by_cases h:(a.inputs≠b.inputs∨a.outputs≠b.outputs)∨(a.rows.length:Int)≠b.rows.length
 ·rw [ct (by simpa only [Bool.or_eq_true,decide_eq_true_eq] using h),decide_eq_false]
  rintro rfl
  rcases h with(h|h)|h<;>exact h rfl
 ·rw [cf (by simpa only [Bool.or_eq_false_iff,decide_eq_false_iff_not,not_or] using h)]
  simp only [not_or,Decidable.not_not] at h
  obtain⟨⟨t,u⟩,B⟩:=h
  have h3':a.rows.length=b.rows.length:=by omega
  have f:(a=b)↔a.rows=b.rows:=⟨fun e=>by rw [e],fun e=>zbf.2 ⟨t,u,e⟩⟩
  have v:vv N a b N 0=some (if a.rows=b.rows then Ex.go () else Ex.rt false):=by
   refine bn (σ:=Unit) (fun F k _=>vv N a b F (k:Int)) a.rows.length (fun k _=> ∀ j,j<k→a.rows.getD j default=b.rows.getD j default) _ (fun F k _ g hi=>?_) (fun F _ hi=>?_) N 0 () (Nat.zero_le _) (by omega) (fun j w=>by omega)
   ·have C:=s.c k g
    have n:(bd (gd (okI a.rows (k:Int))<|gd (okI b.rows (k:Int))<|bif decide (((ix a.rows (k:Int)).length:Int)≠((ix b.rows (k:Int)).length:Int)) then(some (Ex.rt (Ex.rt false))) else yn N a b (k:Int) N 0) fun o=>Ex.on o (fun y=>gd (in64 ((k:Int)+1))<|vv N a b F ((k:Int)+1)) some)=
     if a.rows.getD k default=b.rows.getD k default then vv N a b F ((k+1:Nat):Int) else some (Ex.rt false):=by
     rw [zu (jo g),zu (jo (by omega))]
     by_cases m:((ix a.rows (k:Int)).length:Int)≠((ix b.rows (k:Int)).length:Int)
     ·rw [if_neg (show¬a.rows.getD k default=b.rows.getD k default from fun e=>m (congrArg (fun l:List Edge=>(l.length:Int)) e))]
      exact Eq.trans (qf (x:=Ex.rt (Ex.rt false)) (nk m)) rfl
     ·have h4':(a.rows.getD k default).length=(b.rows.getD k default).length:=by
       have:((ix a.rows (k:Int)).length:Int)=((ix b.rows (k:Int)).length:Int):=Decidable.of_not_not m
       exact Int.ofNat.inj this
      have p:yn N a b (k:Int) N 0=some (if a.rows.getD k default=b.rows.getD k default then Ex.go () else Ex.rt (Ex.rt false)):=by
       refine bn (σ:=Unit) (fun G i _=>yn N a b (k:Int) G (i:Int)) (a.rows.getD k default).length (fun i _=> ∀ j,j<i→(a.rows.getD k default).getD j default=(b.rows.getD k default).getD j default) _ (fun G i _ hi' q=>?_) (fun G _ q=>?_) N 0 () (Nat.zero_le _) (by omega) (fun j w=>by omega)
       ·simp only [yn]
        rw [zu (jo g)]
        refine(show _∨_ from ?_)
        have d:(i:Int)<((ix a.rows (k:Int)).length:Int):=Int.ofNat_lt.2 hi'
        rw [nk d,zu (jo g),zu (show okI (ix a.rows (k:Int)) (i:Int) from jo hi'),zu (jo (by omega)),zu (show okI (ix b.rows (k:Int)) (i:Int) from jo (show i<(b.rows.getD k default).length by omega))]
        by_cases he:(a.rows.getD k default).getD i default=(b.rows.getD k default).getD i default
        ·right
         refine⟨(),z7h q he,Eq.trans (dx (fun h=>h (show ((a.rows.getD k default).getD i default).to=((b.rows.getD k default).getD i default).to∧((a.rows.getD k default).getD i default).out=((b.rows.getD k default).getD i default).out by rw [he];exact⟨rfl,rfl⟩))) ?_⟩
         rw [zu (jc (by omega))];rfl
        ·left
         refine Eq.trans (nk (fun h=>he (z9l h))) ?_
         rw [if_neg (fun e=>he (by rw [e]))]
       ·simp only [yn]
        have d: ¬((((a.rows.getD k default).length:Nat):Int)<((ix a.rows (k:Int)).length:Int)):=Int.lt_irrefl _
        rw [zu (jo g),dx d,if_pos (z3u h4' q)]
      refine Eq.trans (qf (Eq.trans (dx m) p)) ?_
      by_cases he:a.rows.getD k default=b.rows.getD k default
      ·rw [if_pos he,if_pos he,zcn,zu (jc (by omega))];rfl
      ·rw [if_neg he,if_neg he];rfl
    simp only [vv]
    rw [nk (by omega),n]
    by_cases he:a.rows.getD k default=b.rows.getD k default
    ·right;exact⟨(),z7h hi he,if_pos he⟩
    ·left;rw [if_neg he,if_neg (fun e=>he (by rw [e]))]
   ·simp only [vv]
    rw [dx (by omega),if_pos (z3u h3' hi)]
  rw [qf v]
  by_cases he:a.rows=b.rows
  ·rw [if_pos he,decide_eq_true (f.2 he)];rfl
  ·rw [if_neg he,decide_eq_false (fun e=>he (f.1 e))];rfl
/-! ### Data-/
theorem zo9{N:Nat}{x:MDat}(b:MDOk x)(o:200≤N){s:Nat}(p:s<6):xq N x (s:Int) N [] 0=some (zds x s):=by
 have q:=b.st;have r:=b.ins;have t:=b.outs
 have hinp:x.inp=1+x.ins%3:=rfl
 refine bn (fun F i acc=>xq N x (s:Int) F acc (i:Int)) x.inp.toNat (fun i acc=>acc=(List.range i).map (za4 x s)) _ (fun F i acc hi hacc=> .inr ?_) (fun F acc hacc=>?_) N 0 [] (Nat.zero_le _) (by omega) rfl
 ·subst hacc
  refine⟨_,rfl,?_⟩
  have g:=zjv (k:=s) (a:=x.inp) (by omega) (by omega)
  have j:(s:Int)*((1:Int)+x.ins%3)+(i:Int)=((s*x.inp.toNat+i:Nat):Int):=by
   rw [←hinp,g.2.2];rfl
  have hnum:=b.num (s*x.inp.toNat+i)
  simp only [xq]
  rw [nk (by omega)]
  have l:(gd (in64 ((s:Int)*((1:Int)+(x.ins%3))))<|gd (in64 (((s:Int)*((1:Int)+(x.ins%3)))+(i:Int)))<|bif decide (((s:Int)*((1:Int)+(x.ins%3)))+(i:Int)<(x.edges.length:Int)) then(gd (okI x.edges (((s:Int)*((1:Int)+(x.ins%3)))+(i:Int)))<|gd (in64 (ix x.edges (((s:Int)*((1:Int)+(x.ins%3)))+(i:Int))))<|some (ix x.edges (((s:Int)*((1:Int)+(x.ins%3)))+(i:Int)))) else(some (0:Int)))=some (x.num (s*x.inp.toNat+i)):=by
   rw [zu (jc (by rw [←hinp];omega)),j,zu (jc (by omega))]
   unfold MDat.num
   by_cases hk:s*x.inp.toNat+i<x.edges.length
   ·have m:=b.ed _ hk
    rw [nk (by omega),if_pos hk,zu (jo hk),zu (show in64 (ix x.edges ((s*x.inp.toNat+i:Nat):Int)) from jc (show-4611686018427387904≤x.edges.getD (s*x.inp.toNat+i) default∧x.edges.getD (s*x.inp.toNat+i) default≤4611686018427387904 by omega))];rfl
   ·rw [dx (by omega),if_neg hk]
  have hacc:((List.range i).map (za4 x s)).length=i:=by simp
  refine Eq.trans (qf (x:=(List.range (i+1)).map (za4 x s)) (Eq.trans (qf l) ?_)) ?_
  ·rw [zu (fun _=>⟨hnum.1,by omega⟩),zc3]
   by_cases hp:x.part=true∧x.num (s*x.inp.toNat+i)%4=3
   ·rw [ct (by rw [hp.1,decide_eq_true hp.2];rfl),zu ⟨by rw [hacc];simp;omega,by rw [hacc];simp;omega⟩,zmw rfl hp]
   ·have c:x.n=1+x.states%6:=rfl
    have d:x.out=1+x.outs%3:=rfl
    have e:0≤x.num (s*x.inp.toNat+i)/4:=by omega
    have f:0≤x.num (s*x.inp.toNat+i)/4/x.n:=Int.ediv_nonneg e (by omega)
    rw [cf (by
     rw [Bool.and_eq_false_iff]
     by_cases h:x.part=true
     ·exact .inr (decide_eq_false fun h'=>hp ⟨h,h'⟩)
     ·exact .inl (by simpa using h)),←c,←d,zu ⟨by omega,by omega,by omega⟩,zu ⟨e,by omega⟩,zu ⟨by omega,by omega,by omega⟩,zu ⟨e,by omega,by omega⟩,zu ⟨f,by omega⟩,zu ⟨by rw [hacc];simp;omega,by rw [hacc];simp;omega⟩,zn3 rfl (fun h h'=>hp ⟨h,h'⟩)]
  ·rw [zu (jc (by omega))];rfl
 ·subst hacc
  simp only [xq]
  rw [dx (by omega)];rfl
theorem z95{N:Nat}{x:MDat}(a:MDOk x)(b:200≤N):xh N x=some (mOf x):=by
 have d:=a.st;have e:=a.ins;have f:=a.outs
 have c:x.n=1+x.states%6:=rfl
 unfold xh
 rw [zu ⟨by omega,by omega⟩,zu (jc (by omega)),zu (jc (by omega)),zu ⟨by omega,by omega⟩,zu (jc (by omega)),zu (jc (by omega)),zu ⟨by omega,by omega⟩,zu (jc (by omega)),zu (jc (by omega))]
 refine Eq.trans (qf (x:=(List.range x.n.toNat).map (zds x)) ?_) rfl
 refine bn (fun F s acc=>bu N x F (s:Int) acc) x.n.toNat (fun s acc=>acc=(List.range s).map (zds x)) _ (fun F s acc g hacc=> .inr ?_) (fun F acc hacc=>?_) N 0 [] (Nat.zero_le _) (by omega) rfl
 ·subst hacc
  refine⟨_,rfl,?_⟩
  simp only [bu]
  rw [nk (by omega),qf (zo9 a b (by omega)),zu ⟨by simp;omega,by simp;omega⟩,zu (jc (by omega)),zc3];rfl
 ·subst hacc
  simp only [bu]
  rw [dx (by omega)]
theorem zga{N:Nat}{x:WDat}(b:WDOk x){n:Int}(c:1≤n)(d:200≤N):ai N x n=some (wOf x n):=by
 unfold ai
 refine Eq.trans (qf (x:=wOf x n) ?_) rfl
 refine bn (fun F k acc=>bq N x n F acc (k:Int)) (min x.syms.length 12) (fun k acc=>acc=(x.syms.take k).map (· %n)) _ (fun F k acc e hacc=> .inr ?_) (fun F acc hacc=>?_) N 0 [] (Nat.zero_le _) (by omega) (by simp)
 ·subst hacc
  have hk':k<x.syms.length:=by omega
  have a:=b.sy k hk'
  refine⟨_,rfl,?_⟩
  simp only [bq]
  rw [ct (by simp;omega),zu (jo hk'),zu (show in64 (ix x.syms (k:Int)) from jc (show-4611686018427387904≤x.syms.getD k default∧x.syms.getD k default≤4611686018427387904 by omega)),zu (show okR (ix x.syms (k:Int)) n from⟨a.1,by omega⟩),zu ⟨by simp;omega,by simp;omega⟩,zu (jc (by omega)),zkq hk'];rfl
 ·subst hacc
  simp only [bq]
  rw [cf (by simp;omega),zmy (by omega) (by omega) (by omega)]
theorem zhj{N:Nat}{a b:List Int}(f:a.length≤100)(g:b.length≤100)(h:200≤N):ry N a b=some (a++b):=by
 unfold ry
 have d:xn N a N [] 0=some a:=by
  refine bn (fun F k acc=>xn N a F acc (k:Int)) a.length (fun k acc=>acc=a.take k) _ (fun F k acc c hacc=> .inr ?_) (fun F acc hacc=>?_) N 0 [] (Nat.zero_le _) (by omega) (by simp)
  ·subst hacc
   refine⟨_,rfl,?_⟩
   simp only [xn]
   rw [nk (by omega),zu (jo c),zu ⟨by simp;omega,by simp;omega⟩,zu (jc (by omega)),z6f a k c];rfl
  ·subst hacc
   simp only [xn]
   rw [dx (by omega),List.take_length]
 have e:xw N b N 0 a=some (a++b):=by
  refine bn (fun F k acc=>xw N b F (k:Int) acc) b.length (fun k acc=>acc=a++b.take k) _ (fun F k acc c hacc=> .inr ?_) (fun F acc hacc=>?_) N 0 a (Nat.zero_le _) (by omega) (by simp)
  ·subst hacc
   refine⟨_,rfl,?_⟩
   simp only [xw]
   rw [nk (by omega),zu (jo c),zu ⟨by simp;omega,by simp;omega⟩,zu (jc (by omega)),z6f b k c,←List.append_assoc];rfl
  ·subst hacc
   simp only [xw]
   rw [dx (by omega),List.take_length]
 rw [qf d,qf e]
end GV
end Go.Proofs.Ytohjnbajgbdhhaa
