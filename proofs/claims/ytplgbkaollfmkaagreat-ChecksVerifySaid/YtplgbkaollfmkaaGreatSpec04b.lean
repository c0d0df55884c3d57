import Derived.Test.YtplgbkaollfmkaaGreatSpec06a
set_option linter.unusedVariables false
set_option linter.unusedSimpArgs false
namespace Go.Proofs.YtplgbkaollfmkaaGreat
namespace GV
set_option maxRecDepth 100000
theorem zhr{m:Mach}{k i:Nat}(hi:i<m.inputs.toNat):za8 m (k*m.inputs.toNat+i)=(m.rows.getD k default).getD i default:=by
 unfold za8;rw [zpg hi,zol hi]
theorem zvk{N:Nat}{m:Mach}(a:MOk m)(j:200≤N){σ:Type}(B:((Int×Int)×Edge)→σ→Option (Bool×σ))(f:Nat→σ)
 (d: ∀ k i,k<m.rows.length→i<m.inputs.toNat→B (((k:Int),(i:Int)),(m.rows.getD k default).getD i default) (f (k*m.inputs.toNat+i))=some (true,f (k*m.inputs.toNat+i+1))):
 z5n N m σ B (f 0)=some (f (m.rows.length*m.inputs.toNat)):=by
 have l:=a.r2;have e:=a.i1;have g:=a.i2
 unfold z5n
 refine kz (fun F k s=>fw N σ B m F s (k:Int)) m.rows.length (fun k s=>s=f (k*m.inputs.toNat)) _ (fun F k s b hi=> .inr ?_) (fun F s hi=>?_) N 0 (f 0) (Nat.zero_le _) (by omega) (by simp)
 ·subst hi
  refine⟨f ((k+1)*m.inputs.toNat),rfl,?_⟩
  have hlen:((ix m.rows (k:Int)).length:Int)=m.inputs:=a.row k b
  have h:ic N σ B m (k:Int) N (f (k*m.inputs.toNat)) 0=some (Ex.go (f ((k+1)*m.inputs.toNat))):=by
   refine kz (fun F i s=>ic N σ B m (k:Int) F s (i:Int)) m.inputs.toNat (fun i s=>s=f (k*m.inputs.toNat+i)) _ (fun F i s hi c=> .inr ?_) (fun F s c=>?_) N 0 _ (Nat.zero_le _) (by omega) (by simp)
   ·subst c
    refine⟨_,rfl,?_⟩
    simp only [ic]
    rw [ui (by omega),zh (ql (by omega))]
    refine Eq.trans (q8 (d k i b hi)) ?_
    refine Eq.trans (cf rfl) ?_
    rw [zh (qh (by omega))];rfl
   ·subst c
    simp only [ic]
    rw [uh (by omega),Nat.succ_mul]
  simp only [fw]
  rw [ui (by omega),zh (ql b),q8 h,zi9,zh (qh (by omega))];rfl
 ·subst hi
  simp only [fw]
  rw [uh (by omega)]
theorem q1o{N:Nat}{m:Mach}(d:MOk m)(e:200≤N):z4b N m=some (zpt m):=by
 unfold z4b
 rw [show z8q N m=some m from rfl,zpx]
 have hmul:=d.mul.1
 have h:=zvk d e (fun(a:(Int×Int)×Edge) (b:List (Int×Int))=>
  bd (z3t N) fun c=>
  bif decide (a.2.to=c.to∧a.2.out=c.out) then(
  gd (fits 16 b ([((a.1.1,a.1.2):(Int×Int))]:List (Int×Int)))<|
  some (true,(b++([((a.1.1,a.1.2):(Int×Int))]:List (Int×Int))))) else(
  some (true,b))) (z9e m) (fun k i f hi=>by
   have g:=q1d f hi
   have j:=zyn m (k*m.inputs.toNat+i)
   rw [show z3t N=some ⟨-1,-1⟩ from rfl,zpx,zkn,zhr hi,zpg hi,zol hi]
   by_cases he:((m.rows.getD k default).getD i default).to= -1∧((m.rows.getD k default).getD i default).out= -1
   ·rw [ui he,if_pos he,zh ⟨by simp;omega,by simp;omega⟩]
   ·rw [uh he,if_neg he,List.append_nil])
 rw [zrq] at h
 rw [q8 h]
 unfold z0u
 rw [zh (zlb _),zpx,zg5];rfl
theorem zsk{N:Nat}{m:Mach}(b:Small m)(a:200≤N):z4x N m=some (zqp m,z2w m):=by
 unfold z4x zqp
 rw [q8 (zj0 b a)]
 by_cases h:z2w m≠0
 ·rw [ui h,if_pos h]
 ·rw [uh h,if_neg h]
  have c:MOk m:=(z5u m).1 (by simpa using h)
  rw [q8 (q1o c a),show z2w m=0 by simpa using h]
theorem indexB{N:Nat}{s:List Bool}(b:s.length<N)(c:s.length≤4611686018427387904):z4u N s false=some (zl0 (fun x=>decide (false=x)) s):=by
 have h:ol N s false N 0=some (if(s.any fun x=>decide (false=x))=true then Ex.rt (zl0 (fun x=>decide (false=x)) s) else Ex.go ()):=by
  refine kz (σ:=Unit) (fun F k _=>ol N s false F (k:Int)) s.length (fun k _=>((s.take k).any fun x=>decide (false=x))=false) _ (fun F k _ a hi=>?_) (fun F _ hi=>?_) N 0 () (Nat.zero_le _) (by omega) (by simp)
  ·simp only [ol]
   rw [ui (by omega),zh (ql a),dn]
   cases hp:decide (false=s.getD k default)
   ·right
    refine⟨(),by rw [z7j (fun x=>decide (false=x)) s k a,hi,hp];rfl,?_⟩
    rw [cf rfl,zh (qh (by omega))];rfl
   ·left
    rw [ct rfl,if_pos (List.any_eq_true.2 ⟨_,l8 a,hp⟩),zhf (fun x=>decide (false=x)) s k a hi hp]
  ·simp only [ol]
   rw [uh (by omega),if_neg (by rw [List.take_length] at hi;rw [hi];decide)]
 unfold z4u
 rw [q8 h]
 by_cases ha:(s.any fun x=>decide (false=x))=true
 ·rw [if_pos ha];rfl
 ·rw [if_neg ha,zj6 (fun x=>decide (false=x)) s (by simpa using ha)];rfl
theorem zz3{N:Nat}{s:List Bool}(a:s.length<N)(b:s.length≤4611686018427387904):z2v N s false=some (s.contains false):=by
 unfold z2v
 rw [q8 (indexB a b),zr0,zqd]
theorem zs4{N:Nat}{m:Mach}(b:MOk m)(n:200≤N): ∀ (F:Nat) (X:List Bool) (s:Int),X.length=m.rows.length→SOk m s→X.count false<F→ ∃ Y,cz N F s X m=some Y∧Vis m X s Y
 |0,X,s,_,_,h=>by omega
 |F+1,X,s,o,i,r=>by
  simp only [cz]
  by_cases hd:s= -1∨X.getD s.toNat default=true
  ·refine⟨X,?_,q0x hd (by rcases i with h|h;exact .inl h;exact .inr h.1)⟩
   rcases i with h|h
   ·rw [zh (by rw [decide_eq_true h];intro e;cases e),ct (by rw [decide_eq_true h];rfl)]
   ·have a: ¬s= -1:=by omega
    have c:X.getD s.toNat default=true:=hd.resolve_left a
    rw [zh (fun _=>⟨h.1,by omega⟩),ct (by rw [zfd,c];simp)]
  ·have a: ¬s= -1:=fun e=>hd (.inl e)
   have g:0≤s∧s<m.rows.length:=i.resolve_left a
   have c:X.getD s.toNat default=false:=by
    cases e:X.getD s.toNat default
    ·rfl
    ·exact absurd (.inr e) hd
   have d:s.toNat<X.length:=by omega
   have t:=b.r2;have p:=b.i2
   have hrow:=b.row s.toNat (by omega)
   have hcnt:=zh3 d c
   rw [zh (fun _=>⟨g.1,by omega⟩),cf (by rw [zfd,c,decide_eq_false a];rfl),zh ⟨g.1,by omega⟩,zh g]
   refine iy (fun G k Y=>mq N (cz N F) s m G (k:Int) Y) (m.rows.getD s.toNat default).length (fun k Y=>VisK m X s.toNat k Y∧Y.length=m.rows.length) (fun Y=>Vis m X s Y)
    (fun G k Y j hi=> .inr ?_) (fun G Y hi=>?_) N 0 (up X s true) (Nat.zero_le _) (by omega) ⟨zzq d c,by simp [up,o]⟩
   ·simp only [mq]
    have l:k<(ix m.rows s).length:=j
    rw [ui (by omega),zh (ql l)]
    obtain⟨Z,q,f⟩:=zs4 b n F Y ((m.rows.getD s.toNat default).getD k default).to hi.2 (q9q b s k (by omega) j) (by
     have:=hi.1.cnt
     omega)
    refine⟨Z,⟨zz0 hi.1 (by omega) j f,by rw [f.len];exact hi.2⟩,Eq.trans (q8 q) ?_⟩
    rw [zh (qh (by omega))];rfl
   ·simp only [mq]
    have e:(ix m.rows s).length=(m.rows.getD s.toNat default).length:=rfl
    rw [uh (by omega)]
    exact⟨Y,rfl,q0h g.1 hi.1 (Nat.lt_irrefl _)⟩
theorem zim{N:Nat}{m:Mach}(d:Small m)(b:200≤N):z2d N m=some ((if z2w m≠0 then false else connB m),z2w m):=by
 unfold z2d
 rw [q8 (zj0 d b)]
 by_cases h:z2w m≠0
 ·rw [ui h,if_pos h]
 ·rw [uh h,if_neg h]
  have a:MOk m:=(z5u m).1 (by simpa using h)
  have i:=a.r2;have e:=a.r1
  obtain⟨Y,f,c⟩:=zs4 a b N (List.replicate m.rows.length false) 0 (by simp) (.inr ⟨by omega,by omega⟩) (by simp;omega)
  have g:Y.length=m.rows.length:=by rw [c.len];simp
  rw [zh ⟨by omega,by omega,by omega⟩,z6f,q8 f,q8 (zz3 (by omega) (by omega)),←q03 a rfl c,show z2w m=0 by simpa using h]
end GV
end Go.Proofs.YtplgbkaollfmkaaGreat
