import Derived.Test.YtplgbkaollfmkaaGreatSpec06a
set_option linter.unusedVariables false
set_option linter.unusedSimpArgs false
namespace Go.Proofs.YtplgbkaollfmkaaGreat
namespace GV
set_option maxRecDepth 100000
theorem zhh{m:Mach}{k i:Nat}(hi:i<m.inputs.toNat):zal m (k*m.inputs.toNat+i)=(m.rows.getD k default).getD i default:=by
 unfold zal;rw [zpg hi,zon hi]
theorem zur{N:Nat}{m:Mach}(a:MOk m)(j:200≤N){σ:Type}(B:((Int×Int)×Edge)→σ→Option (Bool×σ))(f:Nat→σ)
 (d: ∀ k i,k<m.rows.length→i<m.inputs.toNat→B (((k:Int),(i:Int)),(m.rows.getD k default).getD i default) (f (k*m.inputs.toNat+i))=some (true,f (k*m.inputs.toNat+i+1))):
 z5a N m σ B (f 0)=some (f (m.rows.length*m.inputs.toNat)):=by
 have l:=a.r2;have e:=a.i1;have g:=a.i2
 unfold z5a
 refine uk (fun F k s=>l6 N σ B m F s (k:Int)) m.rows.length (fun k s=>s=f (k*m.inputs.toNat)) _ (fun F k s b hi=> .inr ?_) (fun F s hi=>?_) N 0 (f 0) (Nat.zero_le _) (by omega) (by simp)
 ·subst hi
  refine⟨f ((k+1)*m.inputs.toNat),rfl,?_⟩
  have hlen:((ix m.rows (k:Int)).length:Int)=m.inputs:=a.row k b
  have h:ig N σ B m (k:Int) N (f (k*m.inputs.toNat)) 0=some (Ex.go (f ((k+1)*m.inputs.toNat))):=by
   refine uk (fun F i s=>ig N σ B m (k:Int) F s (i:Int)) m.inputs.toNat (fun i s=>s=f (k*m.inputs.toNat+i)) _ (fun F i s hi c=> .inr ?_) (fun F s c=>?_) N 0 _ (Nat.zero_le _) (by omega) (by simp)
   ·subst c
    refine⟨_,rfl,?_⟩
    simp only [ig]
    rw [uy (by omega),zk (qo (by omega))]
    refine Eq.trans (qc (d k i b hi)) ?_
    refine Eq.trans (cf rfl) ?_
    rw [zk (qm (by omega))];rfl
   ·subst c
    simp only [ig]
    rw [uo (by omega),Nat.succ_mul]
  simp only [l6]
  rw [uy (by omega),zk (qo b),qc h,zkt,zk (qm (by omega))];rfl
 ·subst hi
  simp only [l6]
  rw [uo (by omega)]
theorem zzz{N:Nat}{m:Mach}(d:MOk m)(e:200≤N):z3x N m=some (zpw m):=by
 unfold z3x
 rw [show z8r N m=some m from rfl,zpn]
 have hmul:=d.mul.1
 have h:=zur d e (fun(a:(Int×Int)×Edge) (b:List (Int×Int))=>
  bd (z3j N) fun c=>
  bif decide (a.2.to=c.to∧a.2.out=c.out) then(
  gd (fits 16 b ([((a.1.1,a.1.2):(Int×Int))]:List (Int×Int)))<|
  some (true,(b++([((a.1.1,a.1.2):(Int×Int))]:List (Int×Int))))) else(
  some (true,b))) (z9h m) (fun k i f hi=>by
   have g:=q0t f hi
   have j:=zww m (k*m.inputs.toNat+i)
   rw [show z3j N=some ⟨-1,-1⟩ from rfl,zpn,zkf,zhh hi,zpg hi,zon hi]
   by_cases he:((m.rows.getD k default).getD i default).to= -1∧((m.rows.getD k default).getD i default).out= -1
   ·rw [uy he,if_pos he,zk ⟨by simp;omega,by simp;omega⟩]
   ·rw [uo he,if_neg he,List.append_nil])
 rw [zsn] at h
 rw [qc h]
 unfold z0m
 rw [zk (zq3 _),zpn,zj2];rfl
theorem zsk{N:Nat}{m:Mach}(b:Small m)(a:200≤N):z4s N m=some (zpk m,z2l m):=by
 unfold z4s zpk
 rw [qc (zhx b a)]
 by_cases h:z2l m≠0
 ·rw [uy h,if_pos h]
 ·rw [uo h,if_neg h]
  have c:MOk m:=(z5l m).1 (by simpa using h)
  rw [qc (zzz c a),show z2l m=0 by simpa using h]
theorem indexB{N:Nat}{s:List Bool}(b:s.length<N)(c:s.length≤4611686018427387904):z4r N s false=some (zkq (fun x=>decide (false=x)) s):=by
 have h:aj N s false N 0=some (if(s.any fun x=>decide (false=x))=true then Ex.rt (zkq (fun x=>decide (false=x)) s) else Ex.go ()):=by
  refine uk (σ:=Unit) (fun F k _=>aj N s false F (k:Int)) s.length (fun k _=>((s.take k).any fun x=>decide (false=x))=false) _ (fun F k _ a hi=>?_) (fun F _ hi=>?_) N 0 () (Nat.zero_le _) (by omega) (by simp)
  ·simp only [aj]
   rw [uy (by omega),zk (qo a),ak]
   cases hp:decide (false=s.getD k default)
   ·right
    refine⟨(),by rw [z7o (fun x=>decide (false=x)) s k a,hi,hp];rfl,?_⟩
    rw [cf rfl,zk (qm (by omega))];rfl
   ·left
    rw [ct rfl,if_pos (List.any_eq_true.2 ⟨_,lq a,hp⟩),zgs (fun x=>decide (false=x)) s k a hi hp]
  ·simp only [aj]
   rw [uo (by omega),if_neg (by rw [List.take_length] at hi;rw [hi];decide)]
 unfold z4r
 rw [qc h]
 by_cases ha:(s.any fun x=>decide (false=x))=true
 ·rw [if_pos ha];rfl
 ·rw [if_neg ha,zjz (fun x=>decide (false=x)) s (by simpa using ha)];rfl
theorem zzd{N:Nat}{s:List Bool}(a:s.length<N)(b:s.length≤4611686018427387904):z2f N s false=some (s.contains false):=by
 unfold z2f
 rw [qc (indexB a b),zpz,zpj]
theorem zs3{N:Nat}{m:Mach}(b:MOk m)(n:200≤N): ∀ (F:Nat) (X:List Bool) (s:Int),X.length=m.rows.length→SOk m s→X.count false<F→ ∃ Y,nu N F s X m=some Y∧Vis m X s Y
 |0,X,s,_,_,h=>by omega
 |F+1,X,s,o,i,r=>by
  simp only [nu]
  by_cases hd:s= -1∨X.getD s.toNat default=true
  ·refine⟨X,?_,q33 hd (by rcases i with h|h;exact .inl h;exact .inr h.1)⟩
   rcases i with h|h
   ·rw [zk (by rw [decide_eq_true h];intro e;cases e),ct (by rw [decide_eq_true h];rfl)]
   ·have a: ¬s= -1:=by omega
    have c:X.getD s.toNat default=true:=hd.resolve_left a
    rw [zk (fun _=>⟨h.1,by omega⟩),ct (by rw [zem,c];simp)]
  ·have a: ¬s= -1:=fun e=>hd (.inl e)
   have g:0≤s∧s<m.rows.length:=i.resolve_left a
   have c:X.getD s.toNat default=false:=by
    cases e:X.getD s.toNat default
    ·rfl
    ·exact absurd (.inr e) hd
   have d:s.toNat<X.length:=by omega
   have t:=b.r2;have p:=b.i2
   have hrow:=b.row s.toNat (by omega)
   have hcnt:=zgy d c
   rw [zk (fun _=>⟨g.1,by omega⟩),cf (by rw [zem,c,decide_eq_false a];rfl),zk ⟨g.1,by omega⟩,zk g]
   refine fo (fun G k Y=>og N (nu N F) s m G (k:Int) Y) (m.rows.getD s.toNat default).length (fun k Y=>VisK m X s.toNat k Y∧Y.length=m.rows.length) (fun Y=>Vis m X s Y)
    (fun G k Y j hi=> .inr ?_) (fun G Y hi=>?_) N 0 (up X s true) (Nat.zero_le _) (by omega) ⟨zyu d c,by simp [up,o]⟩
   ·simp only [og]
    have l:k<(ix m.rows s).length:=j
    rw [uy (by omega),zk (qo l)]
    obtain⟨Z,q,f⟩:=zs3 b n F Y ((m.rows.getD s.toNat default).getD k default).to hi.2 (q8j b s k (by omega) j) (by
     have:=hi.1.cnt
     omega)
    refine⟨Z,⟨zzf hi.1 (by omega) j f,by rw [f.len];exact hi.2⟩,Eq.trans (qc q) ?_⟩
    rw [zk (qm (by omega))];rfl
   ·simp only [og]
    have e:(ix m.rows s).length=(m.rows.getD s.toNat default).length:=rfl
    rw [uo (by omega)]
    exact⟨Y,rfl,q09 g.1 hi.1 (Nat.lt_irrefl _)⟩
theorem zif{N:Nat}{m:Mach}(d:Small m)(b:200≤N):z1v N m=some ((if z2l m≠0 then false else connB m),z2l m):=by
 unfold z1v
 rw [qc (zhx d b)]
 by_cases h:z2l m≠0
 ·rw [uy h,if_pos h]
 ·rw [uo h,if_neg h]
  have a:MOk m:=(z5l m).1 (by simpa using h)
  have i:=a.r2;have e:=a.r1
  obtain⟨Y,f,c⟩:=zs3 a b N (List.replicate m.rows.length false) 0 (by simp) (.inr ⟨by omega,by omega⟩) (by simp;omega)
  have g:Y.length=m.rows.length:=by rw [c.len];simp
  rw [zk ⟨by omega,by omega,by omega⟩,z7v,qc f,qc (zzd (by omega) (by omega)),←q20 a rfl c,show z2l m=0 by simpa using h]
end GV
end Go.Proofs.YtplgbkaollfmkaaGreat
