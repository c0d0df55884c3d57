import Derived.Test.YtkcccdcloealfaaGreatSpec06e
set_option linter.unusedVariables false
set_option linter.unusedSimpArgs false
namespace Go.Proofs.YtkcccdcloealfaaGreat
namespace GV
set_option maxRecDepth 100000
theorem zhj{m:Mach}{k i:Nat}(hi:i<m.inputs.toNat):z9y m (k*m.inputs.toNat+i)=(m.rows.getD k default).getD i default:=by
 unfold z9y;rw [zmy hi,zne hi]
theorem zsa{N:Nat}{m:Mach}(a:MOk m)(g:200≤N){σ:Type}(B:((Int×Int)×Edge)→σ→Option (Bool×σ))(f:Nat→σ)
 (d: ∀ k i,k<m.rows.length→i<m.inputs.toNat→B (((k:Int),(i:Int)),(m.rows.getD k default).getD i default) (f (k*m.inputs.toNat+i))=some (true,f (k*m.inputs.toNat+i+1))):
 z4z N m σ B (f 0)=some (f (m.rows.length*m.inputs.toNat)):=by
 have h:=a.r2;have hi1:=a.i1;have hi2:=a.i2
 unfold z4z
 refine ui (fun F k s=>lq N σ B m F s (k:Int)) m.rows.length (fun k s=>s=f (k*m.inputs.toNat)) _ (fun F k s b hi=> .inr ?_) (fun F s hi=>?_) N 0 (f 0) (Nat.zero_le _) (by omega) (by simp)
 ·subst hi
  refine⟨f ((k+1)*m.inputs.toNat),rfl,?_⟩
  have hlen:((ix m.rows (k:Int)).length:Int)=m.inputs:=a.row k b
  have e:ik N σ B m (k:Int) N (f (k*m.inputs.toNat)) 0=some (Ex.go (f ((k+1)*m.inputs.toNat))):=by
   refine ui (fun F i s=>ik N σ B m (k:Int) F s (i:Int)) m.inputs.toNat (fun i s=>s=f (k*m.inputs.toNat+i)) _ (fun F i s hi c=> .inr ?_) (fun F s c=>?_) N 0 _ (Nat.zero_le _) (by omega) (by simp)
   ·subst c
    refine⟨_,rfl,?_⟩
    simp only [ik]
    rw [yf (by omega),zk (qo (by omega))]
    refine Eq.trans (zx (d k i b hi)) ?_
    refine Eq.trans (cf rfl) ?_
    rw [zk (qy (by omega))];rfl
   ·subst c
    simp only [ik]
    rw [uw (by omega),Nat.succ_mul]
  simp only [lq]
  rw [yf (by omega),zk (qo b),zx e,zir,zk (qy (by omega))];rfl
 ·subst hi
  simp only [lq]
  rw [uw (by omega)]
theorem zzx{N:Nat}{m:Mach}(d:MOk m)(e:200≤N):z4b N m=some (zo6 m):=by
 unfold z4b
 rw [show z8d N m=some m from rfl,zml]
 have hmul:=d.mul.1
 have h:=zsa d e (fun(a:(Int×Int)×Edge) (b:List (Int×Int))=>
  bd (z5o N) fun c=>
  bif decide (a.2.to=c.to∧a.2.out=c.out) then(
  gd (fits 16 b ([((a.1.1,a.1.2):(Int×Int))]:List (Int×Int)))<|
  some (true,(b++([((a.1.1,a.1.2):(Int×Int))]:List (Int×Int))))) else(
  some (true,b))) (z90 m) (fun k i f hi=>by
   have g:=q1b f hi
   have j:=zy3 m (k*m.inputs.toNat+i)
   rw [show z5o N=some ⟨-1,-1⟩ from rfl,zml,zj6,zhj hi,zmy hi,zne hi]
   by_cases he:((m.rows.getD k default).getD i default).to= -1∧((m.rows.getD k default).getD i default).out= -1
   ·rw [yf he,if_pos he,zk ⟨by simp;omega,by simp;omega⟩]
   ·rw [uw he,if_neg he,List.append_nil])
 rw [zqx] at h
 rw [zx h]
 unfold z5i
 rw [zk (zog _),zml,zoi];rfl
theorem zqz{N:Nat}{m:Mach}(b:Small m)(a:200≤N):z4p N m=some (zoe m,z0z m):=by
 unfold z4p zoe
 rw [zx (zcc b a)]
 by_cases h:z0z m≠0
 ·rw [yf h,if_pos h]
 ·rw [uw h,if_neg h]
  have c:MOk m:=(z2y m).1 (by simpa using h)
  rw [zx (zzx c a),show z0z m=0 by simpa using h]
theorem indexB{N:Nat}{s:List Bool}(b:s.length<N)(c:s.length≤4611686018427387904):z4i N s false=some (zjq (fun x=>decide (false=x)) s):=by
 have h:au N s false N 0=some (if(s.any fun x=>decide (false=x))=true then Ex.rt (zjq (fun x=>decide (false=x)) s) else Ex.go ()):=by
  refine ui (σ:=Unit) (fun F k _=>au N s false F (k:Int)) s.length (fun k _=>((s.take k).any fun x=>decide (false=x))=false) _ (fun F k _ a hi=>?_) (fun F _ hi=>?_) N 0 () (Nat.zero_le _) (by omega) (by simp)
  ·simp only [au]
   rw [yf (by omega),zk (qo a),z0a]
   cases hp:decide (false=s.getD k default)
   ·right
    refine⟨(),by rw [z9o (fun x=>decide (false=x)) s k a,hi,hp];rfl,?_⟩
    rw [cf rfl,zk (qy (by omega))];rfl
   ·left
    rw [ct rfl,if_pos (List.any_eq_true.2 ⟨_,z1t a,hp⟩),zfv (fun x=>decide (false=x)) s k a hi hp]
  ·simp only [au]
   rw [uw (by omega),if_neg (by rw [List.take_length] at hi;rw [hi];decide)]
 unfold z4i
 rw [zx h]
 by_cases ha:(s.any fun x=>decide (false=x))=true
 ·rw [if_pos ha];rfl
 ·rw [if_neg ha,zif (fun x=>decide (false=x)) s (by simpa using ha)];rfl
theorem zw5{N:Nat}{s:List Bool}(a:s.length<N)(b:s.length≤4611686018427387904):z2k N s false=some (s.contains false):=by
 unfold z2k
 rw [zx (indexB a b),zof,zpo]
theorem zq3{N:Nat}{m:Mach}(b:MOk m)(n:200≤N): ∀ (F:Nat) (X:List Bool) (s:Int),X.length=m.rows.length→SOk m s→X.count false<F→ ∃ Y,ma N F s X m=some Y∧Vis m X s Y
 |0,X,s,_,_,h=>by omega
 |F+1,X,s,o,i,q=>by
  simp only [ma]
  by_cases hd:s= -1∨X.getD s.toNat default=true
  ·refine⟨X,?_,q1i hd (by rcases i with h|h;exact .inl h;exact .inr h.1)⟩
   rcases i with h|h
   ·rw [zk (by rw [decide_eq_true h];intro e;cases e),ct (by rw [decide_eq_true h];rfl)]
   ·have a: ¬s= -1:=by omega
    have c:X.getD s.toNat default=true:=hd.resolve_left a
    rw [zk (fun _=>⟨h.1,by omega⟩),ct (by rw [zo7,c];simp)]
  ·have a: ¬s= -1:=fun e=>hd (.inl e)
   have g:0≤s∧s<m.rows.length:=i.resolve_left a
   have c:X.getD s.toNat default=false:=by
    cases e:X.getD s.toNat default
    ·rfl
    ·exact absurd (.inr e) hd
   have d:s.toNat<X.length:=by omega
   have r:=b.r2;have hi2:=b.i2
   have hrow:=b.row s.toNat (by omega)
   have hcnt:=zgm d c
   rw [zk (fun _=>⟨g.1,by omega⟩),cf (by rw [zo7,c,decide_eq_false a];rfl),zk ⟨g.1,by omega⟩,zk g]
   refine z3c (fun G k Y=>om N (ma N F) s m G (k:Int) Y) (m.rows.getD s.toNat default).length (fun k Y=>VisK m X s.toNat k Y∧Y.length=m.rows.length) (fun Y=>Vis m X s Y)
    (fun G k Y j hi=> .inr ?_) (fun G Y hi=>?_) N 0 (up X s true) (Nat.zero_le _) (by omega) ⟨zxn d c,by simp [up,o]⟩
   ·simp only [om]
    have l:k<(ix m.rows s).length:=j
    rw [yf (by omega),zk (qo l)]
    obtain⟨Z,p,f⟩:=zq3 b n F Y ((m.rows.getD s.toNat default).getD k default).to hi.2 (q83 b s k (by omega) j) (by
     have:=hi.1.cnt
     omega)
    refine⟨Z,⟨zw0 hi.1 (by omega) j f,by rw [f.len];exact hi.2⟩,Eq.trans (zx p) ?_⟩
    rw [zk (qy (by omega))];rfl
   ·simp only [om]
    have e:(ix m.rows s).length=(m.rows.getD s.toNat default).length:=rfl
    rw [uw (by omega)]
    exact⟨Y,rfl,zyf g.1 hi.1 (Nat.lt_irrefl _)⟩
theorem zpa{N:Nat}{m:Mach}(d:Small m)(b:200≤N):z3z N m=some ((if z0z m≠0 then false else connB m),z0z m):=by
 unfold z3z
 rw [zx (zcc d b)]
 by_cases h:z0z m≠0
 ·rw [yf h,if_pos h]
 ·rw [uw h,if_neg h]
  have a:MOk m:=(z2y m).1 (by simpa using h)
  have i:=a.r2;have e:=a.r1
  obtain⟨Y,f,c⟩:=zq3 a b N (List.replicate m.rows.length false) 0 (by simp) (.inr ⟨by omega,by omega⟩) (by simp;omega)
  have g:Y.length=m.rows.length:=by rw [c.len];simp
  rw [zk ⟨by omega,by omega,by omega⟩,z8x,zx f,zx (zw5 (by omega) (by omega)),←q0e a rfl c,show z0z m=0 by simpa using h]
end GV
end Go.Proofs.YtkcccdcloealfaaGreat
