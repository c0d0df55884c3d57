import Derived.Test.YtplgbkaollfmkaaSpec06a
set_option linter.unusedVariables false
set_option linter.unusedSimpArgs false
namespace Go.Proofs.Ytplgbkaollfmkaa
namespace GV
set_option maxRecDepth 100000
theorem zgl{m:Mach}{k i:Nat}(hi:i<m.inputs.toNat):z8t m (k*m.inputs.toNat+i)=(m.rows.getD k default).getD i default:=by
 unfold z8t;rw [zlv hi,zmq hi]
theorem zr1{N:Nat}{m:Mach}(a:MOk m)(j:200≤N){σ:Type}(B:((Int×Int)×Edge)→σ→Option (Bool×σ))(f:Nat→σ)
 (d: ∀ k i,k<m.rows.length→i<m.inputs.toNat→B (((k:Int),(i:Int)),(m.rows.getD k default).getD i default) (f (k*m.inputs.toNat+i))=some (true,f (k*m.inputs.toNat+i+1))):
 z3s N m σ B (f 0)=some (f (m.rows.length*m.inputs.toNat)):=by
 have l:=a.r2;have e:=a.i1;have g:=a.i2
 unfold z3s
 refine ug (fun F k s=>aj N σ B m F s (k:Int)) m.rows.length (fun k s=>s=f (k*m.inputs.toNat)) _ (fun F k s b hi=> .inr ?_) (fun F s hi=>?_) N 0 (f 0) (Nat.zero_le _) (by omega) (by simp)
 ·subst hi
  refine⟨f ((k+1)*m.inputs.toNat),rfl,?_⟩
  have hlen:((ix m.rows (k:Int)).length:Int)=m.inputs:=a.row k b
  have h:tq N σ B m (k:Int) N (f (k*m.inputs.toNat)) 0=some (Ex.go (f ((k+1)*m.inputs.toNat))):=by
   refine ug (fun F i s=>tq N σ B m (k:Int) F s (i:Int)) m.inputs.toNat (fun i s=>s=f (k*m.inputs.toNat+i)) _ (fun F i s hi c=> .inr ?_) (fun F s c=>?_) N 0 _ (Nat.zero_le _) (by omega) (by simp)
   ·subst c
    refine⟨_,rfl,?_⟩
    simp only [tq]
    rw [uy (by omega),zm (qx (by omega))]
    refine Eq.trans (qc (d k i b hi)) ?_
    refine Eq.trans (cf rfl) ?_
    rw [zm (qo (by omega))];rfl
   ·subst c
    simp only [tq]
    rw [ul (by omega),Nat.succ_mul]
  simp only [aj]
  rw [uy (by omega),zm (qx b),qc h,zkz,zm (qo (by omega))];rfl
 ·subst hi
  simp only [aj]
  rw [ul (by omega)]
theorem zy4{N:Nat}{m:Mach}(d:MOk m)(e:200≤N):z2h N m=some (zna m):=by
 unfold z2h
 rw [show z7i N m=some m from rfl,zn1]
 have hmul:=d.mul.1
 have h:=zr1 d e (fun(a:(Int×Int)×Edge) (b:List (Int×Int))=>
  bd (z1x N) fun c=>
  bif decide (a.2.to=c.to∧a.2.out=c.out) then(
  gd (fits 16 b ([((a.1.1,a.1.2):(Int×Int))]:List (Int×Int)))<|
  some (true,(b++([((a.1.1,a.1.2):(Int×Int))]:List (Int×Int))))) else(
  some (true,b))) (z7q m) (fun k i f hi=>by
   have g:=zys f hi
   have j:=zv5 m (k*m.inputs.toNat+i)
   rw [show z1x N=some ⟨-1,-1⟩ from rfl,zn1,zi7,zgl hi,zlv hi,zmq hi]
   by_cases he:((m.rows.getD k default).getD i default).to= -1∧((m.rows.getD k default).getD i default).out= -1
   ·rw [uy he,if_pos he,zm ⟨by simp;omega,by simp;omega⟩]
   ·rw [ul he,if_neg he,List.append_nil])
 rw [zoq] at h
 rw [qc h]
 unfold z2f
 rw [zm (zti _),zn1,ziw];rfl
theorem zom{N:Nat}{m:Mach}(b:Small m)(a:200≤N):z3h N m=some (zne m,z11 m):=by
 unfold z3h zne
 rw [qc (zga b a)]
 by_cases h:z11 m≠0
 ·rw [uy h,if_pos h]
 ·rw [ul h,if_neg h]
  have c:MOk m:=(z4k m).1 (by simpa using h)
  rw [qc (zy4 c a),show z11 m=0 by simpa using h]
theorem indexB{N:Nat}{s:List Bool}(b:s.length<N)(c:s.length≤4611686018427387904):z3f N s false=some (zih (fun x=>decide (false=x)) s):=by
 have h:ng N s false N 0=some (if(s.any fun x=>decide (false=x))=true then Ex.rt (zih (fun x=>decide (false=x)) s) else Ex.go ()):=by
  refine ug (σ:=Unit) (fun F k _=>ng N s false F (k:Int)) s.length (fun k _=>((s.take k).any fun x=>decide (false=x))=false) _ (fun F k _ a hi=>?_) (fun F _ hi=>?_) N 0 () (Nat.zero_le _) (by omega) (by simp)
  ·simp only [ng]
   rw [uy (by omega),zm (qx a),om]
   cases hp:decide (false=s.getD k default)
   ·right
    refine⟨(),by rw [z7b (fun x=>decide (false=x)) s k a,hi,hp];rfl,?_⟩
    rw [cf rfl,zm (qo (by omega))];rfl
   ·left
    rw [ct rfl,if_pos (List.any_eq_true.2 ⟨_,ay a,hp⟩),zf9 (fun x=>decide (false=x)) s k a hi hp]
  ·simp only [ng]
   rw [ul (by omega),if_neg (by rw [List.take_length] at hi;rw [hi];decide)]
 unfold z3f
 rw [qc h]
 by_cases ha:(s.any fun x=>decide (false=x))=true
 ·rw [if_pos ha];rfl
 ·rw [if_neg ha,zgx (fun x=>decide (false=x)) s (by simpa using ha)];rfl
theorem zwb{N:Nat}{s:List Bool}(a:s.length<N)(b:s.length≤4611686018427387904):z14 N s false=some (s.contains false):=by
 unfold z14
 rw [qc (indexB a b),znh,zno]
theorem zpe{N:Nat}{m:Mach}(b:MOk m)(n:200≤N): ∀ (F:Nat) (X:List Bool) (s:Int),X.length=m.rows.length→SOk m s→X.count false<F→ ∃ Y,p9 N F s X m=some Y∧Vis m X s Y
 |0,X,s,_,_,h=>by omega
 |F+1,X,s,o,i,r=>by
  simp only [p9]
  by_cases hd:s= -1∨X.getD s.toNat default=true
  ·refine⟨X,?_,zx8 hd (by rcases i with h|h;exact .inl h;exact .inr h.1)⟩
   rcases i with h|h
   ·rw [zm (by rw [decide_eq_true h];intro e;cases e),ct (by rw [decide_eq_true h];rfl)]
   ·have a: ¬s= -1:=by omega
    have c:X.getD s.toNat default=true:=hd.resolve_left a
    rw [zm (fun _=>⟨h.1,by omega⟩),ct (by rw [zev,c];simp)]
  ·have a: ¬s= -1:=fun e=>hd (.inl e)
   have g:0≤s∧s<m.rows.length:=i.resolve_left a
   have c:X.getD s.toNat default=false:=by
    cases e:X.getD s.toNat default
    ·rfl
    ·exact absurd (.inr e) hd
   have d:s.toNat<X.length:=by omega
   have t:=b.r2;have p:=b.i2
   have hrow:=b.row s.toNat (by omega)
   have hcnt:=zfb d c
   rw [zm (fun _=>⟨g.1,by omega⟩),cf (by rw [zev,c,decide_eq_false a];rfl),zm ⟨g.1,by omega⟩,zm g]
   refine rf (fun G k Y=>dn N (p9 N F) s m G (k:Int) Y) (m.rows.getD s.toNat default).length (fun k Y=>VisK m X s.toNat k Y∧Y.length=m.rows.length) (fun Y=>Vis m X s Y)
    (fun G k Y j hi=> .inr ?_) (fun G Y hi=>?_) N 0 (up X s true) (Nat.zero_le _) (by omega) ⟨zvp d c,by simp [up,o]⟩
   ·simp only [dn]
    have l:k<(ix m.rows s).length:=j
    rw [uy (by omega),zm (qx l)]
    obtain⟨Z,q,f⟩:=zpe b n F Y ((m.rows.getD s.toNat default).getD k default).to hi.2 (q49 b s k (by omega) j) (by
     have:=hi.1.cnt
     omega)
    refine⟨Z,⟨zv9 hi.1 (by omega) j f,by rw [f.len];exact hi.2⟩,Eq.trans (qc q) ?_⟩
    rw [zm (qo (by omega))];rfl
   ·simp only [dn]
    have e:(ix m.rows s).length=(m.rows.getD s.toNat default).length:=rfl
    rw [ul (by omega)]
    exact⟨Y,rfl,zwn g.1 hi.1 (Nat.lt_irrefl _)⟩
theorem zfq{N:Nat}{m:Mach}(d:Small m)(b:200≤N):z0p N m=some ((if z11 m≠0 then false else connB m),z11 m):=by
 unfold z0p
 rw [qc (zga d b)]
 by_cases h:z11 m≠0
 ·rw [uy h,if_pos h]
 ·rw [ul h,if_neg h]
  have a:MOk m:=(z4k m).1 (by simpa using h)
  have i:=a.r2;have e:=a.r1
  obtain⟨Y,f,c⟩:=zpe a b N (List.replicate m.rows.length false) 0 (by simp) (.inr ⟨by omega,by omega⟩) (by simp;omega)
  have g:Y.length=m.rows.length:=by rw [c.len];simp
  rw [zm ⟨by omega,by omega,by omega⟩,z6g,qc f,qc (zwb (by omega) (by omega)),←zyb a rfl c,show z11 m=0 by simpa using h]
end GV
end Go.Proofs.Ytplgbkaollfmkaa
