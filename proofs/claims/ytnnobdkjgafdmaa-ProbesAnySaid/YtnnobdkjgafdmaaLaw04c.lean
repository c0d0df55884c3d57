
import Derived.Test.YtnnobdkjgafdmaaSpec06g
set_option linter.unusedVariables false
set_option linter.unusedSimpArgs false
set_option linter.unusedSectionVars false
namespace Go.Proofs.Ytnnobdkjgafdmaa
namespace GV
set_option maxRecDepth 100000
structure Num (n:Nat) (L:List Nat):Prop where
 len:L.length=n
 rng: ∀ k,k<n→L.getD k 0<n
 inj: ∀ i j,i<n→j<n→L.getD i 0=L.getD j 0→i=j
 sur: ∀ s,s<n→ ∃ k,k<n∧L.getD k 0=s
 zero:L.getD 0 0=0
def tr(a b k:Nat):Nat:=if k=b then a else if k=a then b else k
section
variable {m : Mach} {L : List Nat}
end
end GV
end Go.Proofs.Ytnnobdkjgafdmaa

namespace Go.Proofs.Ytnnobdkjgafdmaa
namespace GV
set_option maxRecDepth 100000
end GV
end Go.Proofs.Ytnnobdkjgafdmaa

namespace Go.Proofs.Ytnnobdkjgafdmaa
namespace GV
set_option maxRecDepth 100000
end GV
end Go.Proofs.Ytnnobdkjgafdmaa

namespace Go.Proofs.Ytnnobdkjgafdmaa
namespace GV
set_option maxRecDepth 100000
section
variable {N : Nat} {m : Mach}
end
end GV
end Go.Proofs.Ytnnobdkjgafdmaa

namespace Go.Proofs.Ytnnobdkjgafdmaa
namespace GV
set_option maxRecDepth 100000
structure CDOk (x:Sg):Prop where
 st:0≤x.fK∧x.fK≤255
 ins:0≤x.fM∧x.fM≤255
 outs:0≤x.fJ∧x.fJ≤255
 tr: ∀ k,k<x.fO.length→0≤x.fO.getD k default∧x.fO.getD k default≤255
 ed: ∀ k,k<x.fH.length→0≤x.fH.getD k default∧x.fH.getD k default≤65535
structure CMach (m:Mach):Prop where
 ok:MOk m
 rows:m.rows.length≤6
 ins:m.inputs≤3
 outs:m.outputs≤3
 full: ∀ s i,s<m.rows.length→i<(m.rows.getD s default).length→0≤((m.rows.getD s default).getD i default).to
 tree: ∀ t,0<t→t<m.rows.length→ ∃ a i,a<t∧i<(m.rows.getD a default).length∧((m.rows.getD a default).getD i default).to=(t:Int)
def cel(X:List (List Edge))(a i:Nat):Edge:=(X.getD a default).getD i default
structure CSh (n I:Nat) (O:Int) (X:List (List Edge)):Prop where
 len:X.length=n
 row: ∀ a,a<n→(X.getD a default).length=I
 out: ∀ a i,a<n→i<I→0≤(cel X a i).out∧(cel X a i).out<O
section cof
variable {N : Nat} {x : Sg} {n I : Nat} {O : Int}
structure CTree (n I:Nat) (O:Int) (s:Nat) (X:List (List Edge)):Prop where
 sh:CSh n I O X
 rng: ∀ a i,a<n→i<I→(cel X a i).to= -1∨(0≤(cel X a i).to∧(cel X a i).to<n)
 late: ∀ a i,s≤a+1→a<n→i<I→(cel X a i).to= -1
 tree: ∀ t,0<t→t<s→ ∃ a i,a<t∧i<I∧(cel X a i).to=(t:Int)
structure CFill (n I:Nat) (O:Int) (s k:Nat) (X:List (List Edge)):Prop where
 sh:CSh n I O X
 rng: ∀ a i,a<n→i<I→(cel X a i).to= -1∨(0≤(cel X a i).to∧(cel X a i).to<n)
 done: ∀ a i,a<n→i<I→(a<s∨(a=s∧i<k))→0≤(cel X a i).to
 tree: ∀ t,0<t→t<n→ ∃ a i,a<t∧i<I∧(cel X a i).to=(t:Int)
end cof
theorem CMach.all{m:Mach}(h:CMach m): ∀ t,t<m.rows.length→ ∃ j,j<(rch m 0).length∧((rch m 0).getD j default).st=t:=by
 have c:=h.ok
 have b:=zuu c (s0:=0) (by have:=c.r1;omega)
 generalize rch m 0=P at b⊢
 intro t
 induction t using Nat.strongRecOn with
 |ind t ih=>
  intro f
  by_cases h0:t=0
  ·subst h0;exact⟨0,b.pos,by rw [b.root]⟩
  ·obtain⟨a,i,g,hi,d⟩:=h.tree t (by omega) f
   obtain⟨q,k,e⟩:=ih a g (by omega)
   have hrow:=c.row a (by omega)
   have l:ed m (P.getD q default).st i=(t:Int):=by rw [e];exact d
   obtain⟨j,n,o,_⟩:=b.cls q i k (by omega) (by rw [l];omega)
   exact⟨j,n,by omega⟩
theorem CMach.len{m:Mach}(h:CMach m):(rch m 0).length=m.rows.length:=by
 have b:=h.ok
 have c:=zuu b (s0:=0) (by have:=b.r1;omega)
 have hall:=h.all
 generalize rch m 0=P at c hall⊢
 have f:=c.le
 have hsub:List.range m.rows.length⊆P.map (·.st):=by
  intro t d
  rw [List.mem_range] at d
  obtain⟨j,e,a⟩:=hall t d
  exact List.mem_map.2 ⟨_,z1o e,a⟩
 have:=List.Nodup.length_le_of_subset List.nodup_range hsub
 rw [List.length_range,List.length_map] at this
 omega
end GV
end Go.Proofs.Ytnnobdkjgafdmaa

namespace Go.Proofs.Ytnnobdkjgafdmaa
namespace GV
set_option maxRecDepth 1000000
def RngL(b:Int)(l:List Int):Prop:= ∀ z∈l,0≤z∧z≤b
theorem RngL.get{b:Int}{l:List Int}(h:RngL b l)(k:Nat)(a:k<l.length):0≤l.getD k default∧l.getD k default≤b:=h _ (z1o a)
theorem RngL.snoc{b z:Int}{l:List Int}(h:RngL b l)(c:0≤z∧z≤b):RngL b (l++[z]):=fun y a=>by
 rcases List.mem_append.1 a with a|a
 ·exact h y a
 ·rw [List.mem_singleton] at a;subst a;exact c
end GV
end Go.Proofs.Ytnnobdkjgafdmaa

namespace Go.Proofs.Ytnnobdkjgafdmaa
namespace GV
set_option maxRecDepth 100000
theorem zcq{m:Mach}{k i:Nat}(hi:i<m.inputs.toNat):z6g m (k*m.inputs.toNat+i)=(m.rows.getD k default).getD i default:=by
 unfold z6g;rw [zjm hi,zje hi]
theorem zpk{N:Nat}{m:Mach}(a:MOk m)(j:200≤N){σ:Type}(B:((Int×Int)×Edge)→σ→Option (Bool×σ))(f:Nat→σ)
 (d: ∀ k i,k<m.rows.length→i<m.inputs.toNat→B (((k:Int),(i:Int)),(m.rows.getD k default).getD i default) (f (k*m.inputs.toNat+i))=some (true,f (k*m.inputs.toNat+i+1))):
 z1l N m σ B (f 0)=some (f (m.rows.length*m.inputs.toNat)):=by
 have l:=a.r2;have e:=a.i1;have g:=a.i2
 unfold z1l
 refine oh (fun F k s=>dx N σ B m F s (k:Int)) m.rows.length (fun k s=>s=f (k*m.inputs.toNat)) _ (fun F k s b hi=> .inr ?_) (fun F s hi=>?_) N 0 (f 0) (Nat.zero_le _) (by omega) (by simp)
 ·subst hi
  refine⟨f ((k+1)*m.inputs.toNat),rfl,?_⟩
  have hlen:((ix m.rows (k:Int)).length:Int)=m.inputs:=a.row k b
  have h:bn N σ B m (k:Int) N (f (k*m.inputs.toNat)) 0=some (Ex.go (f ((k+1)*m.inputs.toNat))):=by
   refine oh (fun F i s=>bn N σ B m (k:Int) F s (i:Int)) m.inputs.toNat (fun i s=>s=f (k*m.inputs.toNat+i)) _ (fun F i s hi c=> .inr ?_) (fun F s c=>?_) N 0 _ (Nat.zero_le _) (by omega) (by simp)
   ·subst c
    refine⟨_,rfl,?_⟩
    simp only [bn]
    rw [xu (by omega),zl (jk (by omega))]
    refine Eq.trans (qc (d k i b hi)) ?_
    refine Eq.trans (cf rfl) ?_
    rw [zl (jb (by omega))];rfl
   ·subst c
    simp only [bn]
    rw [yo (by omega),Nat.succ_mul]
  simp only [dx]
  rw [xu (by omega),zl (jk b),qc h,zgk,zl (jb (by omega))];rfl
 ·subst hi
  simp only [dx]
  rw [yo (by omega)]
theorem zwm{N:Nat}{m:Mach}(d:MOk m)(e:200≤N):z0o N m=some (zkn m):=by
 unfold z0o
 rw [show z4k N m=some m from rfl,zcb]
 have hmul:=d.mul.1
 have h:=zpk d e (fun(a:(Int×Int)×Edge) (b:List (Int×Int))=>
  bd (z2i N) fun c=>
  bif decide (a.2.to=c.to∧a.2.out=c.out) then(
  gd (fits 16 b ([((a.1.1,a.1.2):(Int×Int))]:List (Int×Int)))<|
  some (true,(b++([((a.1.1,a.1.2):(Int×Int))]:List (Int×Int))))) else(
  some (true,b))) (z5e m) (fun k i f hi=>by
   have g:=zts f hi
   have j:=zsx m (k*m.inputs.toNat+i)
   rw [show z2i N=some ⟨-1,-1⟩ from rfl,zcb,zfi,zcq hi,zjm hi,zje hi]
   by_cases he:((m.rows.getD k default).getD i default).to= -1∧((m.rows.getD k default).getD i default).out= -1
   ·rw [xu he,if_pos he,zl ⟨by simp;omega,by simp;omega⟩]
   ·rw [yo he,if_neg he,List.append_nil])
 rw [znr] at h
 rw [qc h]
 unfold z1x
 rw [zl (zl1 _),zcb,zku];rfl
theorem znl{N:Nat}{m:Mach}(b:Small m)(a:200≤N):z16 N m=some (zln m,lh m):=by
 unfold z16 zln
 rw [qc (zdd b a)]
 by_cases h:lh m≠0
 ·rw [xu h,if_pos h]
 ·rw [yo h,if_neg h]
  have c:MOk m:=(z3b m).1 (by simpa using h)
  rw [qc (zwm c a),show lh m=0 by simpa using h]
theorem indexB{N:Nat}{s:List Bool}(b:s.length<N)(c:s.length≤4611686018427387904):z15 N s false=some (zg1 (fun x=>decide (false=x)) s):=by
 have h:gq N s false N 0=some (if(s.any fun x=>decide (false=x))=true then Ex.rt (zg1 (fun x=>decide (false=x)) s) else Ex.go ()):=by
  refine oh (σ:=Unit) (fun F k _=>gq N s false F (k:Int)) s.length (fun k _=>((s.take k).any fun x=>decide (false=x))=false) _ (fun F k _ a hi=>?_) (fun F _ hi=>?_) N 0 () (Nat.zero_le _) (by omega) (by simp)
  ·simp only [gq]
   rw [xu (by omega),zl (jk a),z0g]
   cases hp:decide (false=s.getD k default)
   ·right
    refine⟨(),by rw [z6x (fun x=>decide (false=x)) s k a,hi,hp];rfl,?_⟩
    rw [cf rfl,zl (jb (by omega))];rfl
   ·left
    rw [ct rfl,if_pos (List.any_eq_true.2 ⟨_,z1o a,hp⟩),zco (fun x=>decide (false=x)) s k a hi hp]
  ·simp only [gq]
   rw [yo (by omega),if_neg (by rw [List.take_length] at hi;rw [hi];decide)]
 unfold z15
 rw [qc h]
 by_cases ha:(s.any fun x=>decide (false=x))=true
 ·rw [if_pos ha];rfl
 ·rw [if_neg ha,zf6 (fun x=>decide (false=x)) s (by simpa using ha)];rfl
theorem zrs{N:Nat}{s:List Bool}(a:s.length<N)(b:s.length≤4611686018427387904):lm N s false=some (s.contains false):=by
 unfold lm
 rw [qc (indexB a b),zkz,zkt]
theorem zlx{N:Nat}{m:Mach}(b:MOk m)(n:200≤N): ∀ (F:Nat) (X:List Bool) (s:Int),X.length=m.rows.length→SOk m s→X.count false<F→ ∃ Y,xe N F s X m=some Y∧Vis m X s Y
 |0,X,s,_,_,h=>by omega
 |F+1,X,s,o,i,r=>by
  simp only [xe]
  by_cases hd:s= -1∨X.getD s.toNat default=true
  ·refine⟨X,?_,ztn hd (by rcases i with h|h;exact .inl h;exact .inr h.1)⟩
   rcases i with h|h
   ·rw [zl (by rw [decide_eq_true h];intro e;cases e),ct (by rw [decide_eq_true h];rfl)]
   ·have a: ¬s= -1:=by omega
    have c:X.getD s.toNat default=true:=hd.resolve_left a
    rw [zl (fun _=>⟨h.1,by omega⟩),ct (by rw [zps,c];simp)]
  ·have a: ¬s= -1:=fun e=>hd (.inl e)
   have g:0≤s∧s<m.rows.length:=i.resolve_left a
   have c:X.getD s.toNat default=false:=by
    cases e:X.getD s.toNat default
    ·rfl
    ·exact absurd (.inr e) hd
   have d:s.toNat<X.length:=by omega
   have t:=b.r2;have p:=b.i2
   have hrow:=b.row s.toNat (by omega)
   have hcnt:=zc0 d c
   rw [zl (fun _=>⟨g.1,by omega⟩),cf (by rw [zps,c,decide_eq_false a];rfl),zl ⟨g.1,by omega⟩,zl g]
   refine z4q (fun G k Y=>xw N (xe N F) s m G (k:Int) Y) (m.rows.getD s.toNat default).length (fun k Y=>VisK m X s.toNat k Y∧Y.length=m.rows.length) (fun Y=>Vis m X s Y)
    (fun G k Y j hi=> .inr ?_) (fun G Y hi=>?_) N 0 (up X s true) (Nat.zero_le _) (by omega) ⟨zsh d c,by simp [up,o]⟩
   ·simp only [xw]
    have l:k<(ix m.rows s).length:=j
    rw [xu (by omega),zl (jk l)]
    obtain⟨Z,q,f⟩:=zlx b n F Y ((m.rows.getD s.toNat default).getD k default).to hi.2 (q2m b s k (by omega) j) (by
     have:=hi.1.cnt
     omega)
    refine⟨Z,⟨zt2 hi.1 (by omega) j f,by rw [f.len];exact hi.2⟩,Eq.trans (qc q) ?_⟩
    rw [zl (jb (by omega))];rfl
   ·simp only [xw]
    have e:(ix m.rows s).length=(m.rows.getD s.toNat default).length:=rfl
    rw [yo (by omega)]
    exact⟨Y,rfl,zvv g.1 hi.1 (Nat.lt_irrefl _)⟩
theorem zlp{N:Nat}{m:Mach}(d:Small m)(b:200≤N):z0x N m=some ((if lh m≠0 then false else connB m),lh m):=by
 unfold z0x
 rw [qc (zdd d b)]
 by_cases h:lh m≠0
 ·rw [xu h,if_pos h]
 ·rw [yo h,if_neg h]
  have a:MOk m:=(z3b m).1 (by simpa using h)
  have i:=a.r2;have e:=a.r1
  obtain⟨Y,f,c⟩:=zlx a b N (List.replicate m.rows.length false) 0 (by simp) (.inr ⟨by omega,by omega⟩) (by simp;omega)
  have g:Y.length=m.rows.length:=by rw [c.len];simp
  rw [zl ⟨by omega,by omega,by omega⟩,zef,qc f,qc (zrs (by omega) (by omega)),←zv3 a rfl c,show lh m=0 by simpa using h]
end GV
end Go.Proofs.Ytnnobdkjgafdmaa

namespace Go.Proofs.Ytnnobdkjgafdmaa
namespace GV
set_option maxRecDepth 100000
/-! ### The shape of a machine-/
theorem zwd{m:Mach}(a:MOk m){k i:Nat}(b:k<m.rows.length)(hi:i<m.inputs.toNat):(z6g m (k*m.inputs.toNat+i)).to= -1∧(z6g m (k*m.inputs.toNat+i)).out= -1∧ ¬0≤((m.rows.getD k default).getD i default).to∨
 ¬((z6g m (k*m.inputs.toNat+i)).to= -1∧(z6g m (k*m.inputs.toNat+i)).out= -1)∧0≤((m.rows.getD k default).getD i default).to:=by
 rw [zcq hi]
 have hrow:=a.row k b
 rcases a.edge k i b (by omega) with h|h
 ·left;omega
 ·right;omega
theorem zjc{m:Mach}(a:MOk m): ∀ k,k≤m.rows.length→z8p m k+(z5e m (k*m.inputs.toNat)).length=k*m.inputs.toNat
 |0,_=>by simp [z8p,z5e]
 |k+1,f=>by
  have ih:=zjc a k (by omega)
  have hrow:=a.row k (by omega)
  have inner: ∀ i,i≤m.inputs.toNat→zcj (m.rows.getD k default) i+(z5e m (k*m.inputs.toNat+i)).length=(z5e m (k*m.inputs.toNat)).length+i:=by
   intro i
   induction i with
   |zero=>intro _;simp [zjr]
   |succ i ih'=>
    intro hi
    have g:=ih' (by omega)
    have b:i<(m.rows.getD k default).length:=by omega
    rw [zjo _ _ b,←Nat.add_assoc,zfi,List.length_append]
    rcases zwd a (by omega:k<m.rows.length) (by omega:i<m.inputs.toNat) with⟨c,d,e⟩|⟨c,d⟩
    ·rw [if_neg e,if_pos ⟨c,d⟩,List.length_singleton];omega
    ·rw [if_pos d,if_neg c,List.length_nil];omega
  have:=inner m.inputs.toNat (Nat.le_refl _)
  rw [z8x m k (by omega),Nat.succ_mul,show (m.rows.getD k default).length=m.inputs.toNat by omega]
  omega
end GV
end Go.Proofs.Ytnnobdkjgafdmaa
