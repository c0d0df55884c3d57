
import Derived.Test.YtkhihcleegljhaaShPlain
import Derived.Test.YtkhihcleegljhaaShPl
set_option linter.unusedVariables false
set_option linter.unusedSimpArgs false
namespace Go.Proofs.Ytkhihcleegljhaa
namespace GV
theorem z1y{x:Int}(h: -4611686018427387904≤x∧x≤4611686018427387904):IntKind.i64.wrap x=x:=by
 simp [IntKind.wrap,IntKind.signed,IntKind.bits];omega
theorem z4k{σ ρ:Type}(L:Nat→Nat→σ→Option ρ)(n:Nat)(st:Nat→σ)(r:ρ)(step: ∀ F k,k<n→L (F+1) k (st k)=L F (k+1) (st (k+1)))(fin: ∀ F,L (F+1) n (st n)=some r){F:Nat}(c:n<F):L F 0 (st 0)=some r:=
 zea L n (fun k s=>s=st k) r (fun F k s b a=> .inr ⟨st (k+1),rfl,by rw [a];exact step F k b⟩) (fun F s a=>by rw [a];exact fin F) F 0 (st 0) (Nat.zero_le _) (by omega) rfl
theorem z4a{ρ:Type}(L:Nat→Nat→Option ρ)(n:Nat)(p:Nat→Bool)(d f:ρ)(b: ∀ F k,k<n→p k=true→L (F+1) k=some f)(skip: ∀ F k,k<n→p k=false→L (F+1) k=L F (k+1))(fin: ∀ F,L (F+1) n=some d){F:Nat}(h:n<F):
 L F 0=some (bif (List.range n).any p then f else d):=by
 refine zea (σ:=Unit) (fun F k _=>L F k) n (fun k _=> ∀ j,j<k→p j=false) _ (fun F k s a c=>?_) (fun F s c=>?_) F 0 () (Nat.zero_le _) (by omega) (fun j g=>absurd g (by omega))
 ·cases hp:p k with
  |true=>
   left
   have:(List.range n).any p=true:=by rw [List.any_eq_true];exact⟨k,List.mem_range.2 a,hp⟩
   rw [this];exact b F k a hp
  |false=>
   right
   refine⟨(),fun j g=>?_,skip F k a hp⟩
   by_cases e:j=k
   ·subst e;exact hp
   ·exact c j (by omega)
 ·have:(List.range n).any p=false:=by rw [List.any_eq_false];intro k a;rw [c k (List.mem_range.1 a)];simp
  rw [this];exact fin F
theorem og{n:Nat}{p:Nat→Bool}:(List.range n).any p=false↔ ∀ k,k<n→p k=false:=by
 rw [List.any_eq_false]
 exact⟨fun h k a=>by have:=h k (List.mem_range.2 a);simpa using this,fun h k a=>by rw [h k (List.mem_range.1 a)];simp⟩
theorem z3n{n:Nat}{p:Nat→Bool}:(List.range n).any p=true↔ ∃ k,k<n∧p k=true:=by
 rw [List.any_eq_true]
 exact⟨fun⟨k,a,b⟩=>⟨k,List.mem_range.1 a,b⟩,fun⟨k,a,b⟩=>⟨k,List.mem_range.2 a,b⟩⟩
/-! ### What is reckoned-/
def z4z(X:List (List Int)):Nat→Nat
 |0=>0
 |k+1=>max (z4z X k) (X.getD k default).length
def z5o(X:List (List Int)):Nat→Nat
 |0=>0
 |k+1=>z5o X k+(X.getD k default).length
def cols(X:List (List Int)):Nat:=z4z X X.length
def tot(X:List (List Int)):Nat:=z5o X X.length
def z3r(v:Int):Bool:= !(decide (v< -1))&& !(decide (256≤v))
def zbm(n:Nat)(r:List Int):Bool:=decide (r.length=n)&&(List.range r.length).all fun j=>z3r (r.getD j default)
def zd6(X:List (List Int)):Bool:=(List.range X.length).all fun k=>zbm (cols X) (X.getD k default)
def zf8(X:List (List Int)):Int:=bif zd6 X then 0 else 1
structure Bx (X:List (List Int)):Prop where
 rows:X.length≤100
 tot:tot X≤3000
theorem zfd{X:List (List Int)}: ∀ n k,k<n→(X.getD k default).length≤z5o X n
 |n+1,k,h=>by
  unfold z5o
  by_cases e:k=n
  ·subst e;omega
  ·have:=zfd (X:=X) n k (by omega);omega
theorem zaz{X:List (List Int)}: ∀ n k,k≤n→z5o X k≤z5o X n
 |0,k,h=>by
  have:k=0:=by omega
  subst this;exact Nat.le_refl _
 |n+1,k,h=>by
  by_cases e:k=n+1
  ·subst e;exact Nat.le_refl _
  ·have:=zaz (X:=X) n k (by omega)
   have a:z5o X (n+1)=z5o X n+(X.getD n default).length:=rfl
   omega
theorem zde{X:List (List Int)}: ∀ n k,k<n→(X.getD k default).length≤z4z X n
 |n+1,k,h=>by
  unfold z4z
  by_cases e:k=n
  ·subst e;omega
  ·have:=zde (X:=X) n k (by omega);omega
theorem zfg{X:List (List Int)}: ∀ n,z4z X n≤z5o X n
 |0=>Nat.le_refl _
 |n+1=>by have:=zfg (X:=X) n;unfold z4z z5o;omega
theorem zft{X:List (List Int)}{m:Nat}: ∀ n,(∀ k,k<n→(X.getD k default).length=m)→z4z X n=if n=0 then 0 else m
 |0,_=>rfl
 |n+1,h=>by
  unfold z4z
  rw [zft n fun k a=>h k (by omega),h n (by omega),if_neg (Nat.succ_ne_zero n)]
  split<;>omega
theorem Bx.row{X:List (List Int)}(h:Bx X){k:Nat}(a:k<X.length):(X.getD k default).length≤3000:=Nat.le_trans (zfd _ _ a) h.tot
theorem Bx.cols{X:List (List Int)}(h:Bx X):cols X≤3000:=Nat.le_trans (zfg _) h.tot
/-! ### columns-/
theorem z5l{N:Nat}{X:List (List Int)}(h:Bx X)(c:200≤N):uz N ⟨X⟩=some (cols X:Int):=by
 have d:=h.rows
 have a:jv N ⟨X⟩ N 0 0=some (cols X:Int):=by
  refine z4k (fun F k s=>jv N ⟨X⟩ F s (k:Int)) X.length (fun k=>(z4z X k:Int)) _ (fun F k b=>?_) (fun F=>?_) (by omega)
  ·simp only [jv]
   rw [bi (by omega),zo (uy b),zo (kw (by omega)),tq]
   congr 1
   simp only [z4z];omega
  ·simp only [jv]
   rw [pq (by omega)];rfl
 unfold uz
 rw [qf a]
theorem zba{N:Nat}{X:List (List Int)}(h:Bx X)(c:200≤N):bv N ⟨X⟩=some (cols X:Int):=by
 have d:=h.rows
 have a:ku N ⟨X⟩ N 0 0=some (cols X:Int):=by
  refine z4k (fun F k s=>ku N ⟨X⟩ F s (k:Int)) X.length (fun k=>(z4z X k:Int)) _ (fun F k b=>?_) (fun F=>?_) (by omega)
  ·simp only [ku]
   rw [bi (by omega),zo (uy b),zo (kw (by omega)),tq]
   congr 1
   simp only [z4z];omega
  ·simp only [ku]
   rw [pq (by omega)];rfl
 unfold bv
 rw [qf a]
/-! ### Check-/
theorem z4p{N:Nat}{X:List (List Int)}(h:Bx X)(m:5000≤N):w9 N ⟨X⟩=some (zf8 X):=by
 have n:=h.rows
 have o:=h.tot
 have p:=h.cols
 have i:xq N ⟨X⟩ N 0 0=some (tot X:Int):=by
  refine z4k (fun F k s=>xq N ⟨X⟩ F s (k:Int)) X.length (fun k=>(z5o X k:Int)) _ (fun F k b=>?_) (fun F=>?_) (by omega)
  ·have q:z5o X (k+1)≤tot X:=zaz _ _ b
   have hm':z5o X (k+1)=z5o X k+(X.getD k default).length:=rfl
   simp only [xq]
   rw [bi (by omega),zo (uy b),tq,z1y (by omega),z1y (by omega)]
   congr 1
  ·simp only [xq]
   rw [pq (by omega)];rfl
 have g: ∀ k,k<X.length→ny N ⟨X⟩ (k:Int) N 0=some (bif (List.range (X.getD k default).length).any (fun j=> !z3r ((X.getD k default).getD j default)) then Ex.rt (Ex.rt 1) else Ex.go ()):=by
  intro k b
  have r:=h.row b
  refine z4a (fun F j=>ny N ⟨X⟩ (k:Int) F (j:Int)) (X.getD k default).length _ _ _ (fun F j d a=>?_) (fun F j d a=>?_) (fun F=>?_) (by omega)
  ·simp only [ny]
   rw [bi (by rw [tq];omega),zo (uy (by rw [tq];exact d))]
   have a:(!z3r (ix (ix X (k:Int)) (j:Int)))=true:=a
   simp only [z3r] at a
   by_cases e:ix (ix X (k:Int)) (j:Int)< -1
   ·rw [bi e];rfl
   ·rw [pq e]
    by_cases f:256≤ix (ix X (k:Int)) (j:Int)
    ·rw [bi f];rfl
    ·simp [e,f] at a
  ·simp only [ny]
   rw [bi (by rw [tq];omega),zo (uy (by rw [tq];exact d))]
   have a:(!z3r (ix (ix X (k:Int)) (j:Int)))=false:=a
   simp only [z3r] at a
   have e: ¬ix (ix X (k:Int)) (j:Int)< -1:=by intro e;simp [e] at a
   have f: ¬256≤ix (ix X (k:Int)) (j:Int):=by intro f;simp [f] at a
   rw [pq e,pq f,z3m,zn4,z3m,zia,z1y (by omega)];rfl
  ·simp only [ny]
   rw [pq (by rw [tq];omega)]
 have l:nz N ⟨X⟩ (cols X:Int) N 0=some (bif (List.range X.length).any (fun k=> !zbm (cols X) (X.getD k default)) then Ex.rt 1 else Ex.go ()):=by
  refine z4a (fun F k=>nz N ⟨X⟩ (cols X:Int) F (k:Int)) X.length _ _ _ (fun F k b a=>?_) (fun F k b a=>?_) (fun F=>?_) (by omega)
  ·simp only [nz]
   rw [bi (by omega),zo (uy b),tq]
   by_cases hl:(X.getD k default).length=cols X
   ·have hany:(List.range (X.getD k default).length).any (fun j=> !z3r ((X.getD k default).getD j default))=true:=by
     simp only [zbm,hl,decide_true,Bool.true_and,Bool.not_eq_true',List.all_eq_false] at a
     obtain⟨j,d,c⟩:=a
     rw [List.any_eq_true]
     exact⟨j,by rw [hl];exact d,by simpa using c⟩
    rw [pq (by omega),g k b,hany];rfl
   ·rw [bi (by omega)];rfl
  ·simp only [nz]
   rw [bi (by omega),zo (uy b),tq]
   simp only [zbm,Bool.not_eq_false',Bool.and_eq_true,decide_eq_true_eq,List.all_eq_true] at a
   have hany:(List.range (X.getD k default).length).any (fun j=> !z3r ((X.getD k default).getD j default))=false:=by
    rw [List.any_eq_false];intro j d;rw [a.2 j d];simp
   rw [pq (by omega),g k b,hany,cond_false,z3m,zia,z1y (by omega)];rfl
  ·simp only [nz]
   rw [pq (by omega)]
 unfold w9
 rw [qf (z5l h (by omega)),qf i]
 rw [cf (by rw [decide_eq_false (by show¬(4096:Int)<(X.length:Int);omega),decide_eq_false (by omega),decide_eq_false (by omega)];rfl),qf l]
 unfold zf8 zd6
 cases c:(List.range X.length).all (fun k=>zbm (cols X) (X.getD k default)) with
 |true=>
  have:(List.range X.length).any (fun k=> !zbm (cols X) (X.getD k default))=false:=by
   rw [List.any_eq_false];intro k b;rw [List.all_eq_true] at c;rw [c k b];simp
  rw [this];rfl
 |false=>
  have:(List.range X.length).any (fun k=> !zbm (cols X) (X.getD k default))=true:=by
   rw [List.all_eq_false] at c;obtain⟨k,b,c⟩:=c;rw [List.any_eq_true];exact⟨k,b,by simpa using c⟩
  rw [this];rfl
/-! ### What a valid matrix is-/
structure VX (X:List (List Int)):Prop extends Bx X where
 len: ∀ k,k<X.length→(X.getD k default).length=_root_.Go.Proofs.Ytkhihcleegljhaa.GV.cols X
 cell: ∀ k,k<X.length→ ∀ j,j<(X.getD k default).length→ -1≤(X.getD k default).getD j default∧(X.getD k default).getD j default≤255
theorem zkz{X:List (List Int)}(h:Bx X):zd6 X=true↔VX X:=by
 unfold zd6
 rw [List.all_eq_true]
 constructor
 ·intro b
  refine⟨h,fun k a=>?_,fun k a j c=>?_⟩
  ·have:=b k (List.mem_range.2 a)
   simp only [zbm,Bool.and_eq_true,decide_eq_true_eq] at this
   exact this.1
  ·have:=b k (List.mem_range.2 a)
   simp only [zbm,Bool.and_eq_true,decide_eq_true_eq,List.all_eq_true] at this
   have:=this.2 j (List.mem_range.2 c)
   simp only [z3r,Bool.and_eq_true,Bool.not_eq_true',decide_eq_false_iff_not] at this
   omega
 ·intro b k a
  have a:=List.mem_range.1 a
  simp only [zbm,Bool.and_eq_true,decide_eq_true_eq,List.all_eq_true]
  refine⟨b.len k a,fun j c=>?_⟩
  have:=b.cell k a j (List.mem_range.1 c)
  simp only [z3r,Bool.and_eq_true,Bool.not_eq_true',decide_eq_false_iff_not]
  omega
theorem z2s{X:List (List Int)}(h:VX X):zf8 X=0:=by unfold zf8;rw [(zkz h.toBx).2 h];rfl
theorem zad{X:List (List Int)}(h:Bx X)(a: ¬VX X):zf8 X=1:=by
 unfold zf8
 cases hv:zd6 X with
 |true=>exact absurd ((zkz h).1 hv) a
 |false=>rfl
/-! ### Killers-/
def z7c(r:List Int)(j:Nat):Bool:=decide (r.getD j default≠ -1)
def z3u(p:Nat→Bool):Nat→List Int
 |0=>[]
 |j+1=>bif p j then z3u p j++[(j:Int)] else z3u p j
def kl(r:List Int):List Int:=z3u (z7c r) r.length
theorem z3e(p:Nat→Bool): ∀ j,(z3u p j).length≤j
 |0=>Nat.le_refl _
 |j+1=>by
  have:=z3e p j
  unfold z3u
  cases p j
  ·simp only [cond_false];omega
  ·simp only [cond_true,List.length_append,List.length_singleton];omega
theorem z3o{p:Nat→Bool}{c:Int}: ∀ {j:Nat},c∈z3u p j↔ ∃ i:Nat,i<j∧c=i∧p i=true
 |0=>⟨fun h=>absurd h (by simp [z3u]),fun⟨i,h,_⟩=>absurd h (by omega)⟩
 |j+1=>by
  unfold z3u
  cases hb:p j
  ·simp only [cond_false]
   rw [z3o (j:=j)]
   constructor
   ·rintro⟨i,d,a⟩;exact⟨i,by omega,a⟩
   ·rintro⟨i,d,a,b⟩
    have:i≠j:=fun e=>by subst e;rw [hb] at b;cases b
    exact⟨i,by omega,a,b⟩
  ·simp only [cond_true,List.mem_append,List.mem_singleton]
   rw [z3o (j:=j)]
   constructor
   ·rintro(⟨i,d,a⟩|rfl)
    ·exact⟨i,by omega,a⟩
    ·exact⟨j,by omega,rfl,hb⟩
   ·rintro⟨i,d,a,b⟩
    by_cases e:i=j
    ·subst e;exact .inr a
    ·exact .inl ⟨i,by omega,a,b⟩
theorem zlh{p:Nat→Bool}{n:Nat}:(z3u p n).length=0↔ ∀ j,j<n→p j=false:=by
 rw [List.length_eq_zero_iff,List.eq_nil_iff_forall_not_mem]
 constructor
 ·intro h j b
  cases hp:p j with
  |false=>rfl
  |true=>exact absurd (z3o.2 ⟨j,b,rfl,hp⟩) (h j)
 ·intro h c d
  obtain⟨i,e,_,a⟩:=z3o.1 d
  rw [h i e] at a;cases a
theorem za0{N:Nat}{X:List (List Int)}{k j:Nat}(a:k<X.length)(b:j<(X.getD k default).length):ed N ⟨X⟩ (k:Int) (j:Int)=some (z7c (X.getD k default) j):=by
 unfold ed
 rw [zo (uy a),zo (uy (by rw [tq];exact b))];rfl
theorem z4c{N:Nat}{X:List (List Int)}(h:Bx X)(d:5000≤N){k:Nat}(a:k<X.length):yc N ⟨X⟩ (k:Int)=some (kl (X.getD k default)):=by
 have e:=h.row a
 have b:wy N ⟨X⟩ (k:Int) N [] 0=some (kl (X.getD k default)):=by
  refine z4k (fun F j s=>wy N ⟨X⟩ (k:Int) F s (j:Int)) (X.getD k default).length (fun j=>z3u (z7c (X.getD k default)) j) _ (fun F j c=>?_) (fun F=>?_) (by omega)
  ·have f:=z3e (z7c (X.getD k default)) j
   simp only [wy]
   rw [bi (by rw [tq];omega),za0 a c,z3m]
   cases hb:z7c (X.getD k default) j
   ·rw [cond_false,z3m,zo (kw (by omega))]
    simp only [z3u,hb,cond_false];rfl
   ·rw [cond_true,zo ⟨by simp only [List.length_singleton];omega,by simp only [List.length_singleton];omega⟩,z3m,zo (kw (by omega))]
    simp only [z3u,hb,cond_true];rfl
  ·simp only [wy]
   rw [pq (by rw [tq];omega)];rfl
 unfold yc
 rw [zo (uy a),qf b]
end GV
end Go.Proofs.Ytkhihcleegljhaa

namespace Go.Proofs.Ytkhihcleegljhaa
namespace GV
theorem z8e{α:Type}{X:List α}{i:Nat}{d:α}(h:i<X.length):X.getD i d=X[i]:=by rw [List.getD_eq_getElem?_getD,List.getElem?_eq_getElem h];rfl
theorem zmv{α:Type}{X:List α}{i:Nat}{d:α}(h:X.length≤i):X.getD i d=d:=by rw [List.getD_eq_getElem?_getD,List.getElem?_eq_none h];rfl
def z8q{α:Type}(n:Nat)(d:α)(f:Nat→α)(k:Nat):List α:=(List.range n).map fun i=>if i<k then f i else d
theorem zj7{α:Type}{n:Nat}{d:α}{f:Nat→α}{k:Nat}:(z8q n d f k).length=n:=by simp [z8q]
theorem zgr{α:Type}{n:Nat}{d:α}{f:Nat→α}:List.replicate n d=z8q n d f 0:=by
 apply List.ext_getElem
 ·simp [z8q]
 ·intro i a b;simp [z8q]
theorem ziz{α:Type}{n:Nat}{d:α}{f:Nat→α}{k:Nat}:(z8q n d f k).set k (f k)=z8q n d f (k+1):=by
 apply List.ext_getElem
 ·simp [z8q]
 ·intro i a b
  rw [List.getElem_set]
  simp only [z8q,List.getElem_map,List.getElem_range]
  by_cases e:k=i
  ·subst e;rw [if_pos rfl,if_pos (by omega)]
  ·rw [if_neg e]
   by_cases h:i<k
   ·rw [if_pos h,if_pos (by omega)]
   ·rw [if_neg h,if_neg (by omega)]
end GV
end Go.Proofs.Ytkhihcleegljhaa

namespace Go.Proofs.Ytkhihcleegljhaa
namespace GV
def z0a(X:List (List Int))(k:Nat):Bool:=decide (0<(kl (X.getD k default)).length)
theorem zbd{X:List (List Int)}{k:Nat}:z0a X k=true↔ ∃ j,j<(X.getD k default).length∧z7c (X.getD k default) j=true:=by
 unfold z0a
 rw [decide_eq_true_eq]
 constructor
 ·intro h
  cases hs:(List.range (X.getD k default).length).any (z7c (X.getD k default)) with
  |true=>exact z3n.1 hs
  |false=>have:=zlh.2 (og.1 hs);unfold kl at h;omega
 ·rintro⟨j,a,b⟩
  exact List.length_pos_of_mem (z3o.2 ⟨j,a,rfl,b⟩)
theorem zd7{X:List (List Int)}{k:Nat}(h:z0a X k=false){j:Nat}(a:j<(X.getD k default).length):z7c (X.getD k default) j=false:=by
 cases hb:z7c (X.getD k default) j with
 |false=>rfl
 |true=>rw [zbd.2 ⟨j,a,hb⟩] at h;cases h
def zi8(X:List (List Int)):List Bool:=z8q X.length false (z0a X) X.length
theorem zef{N:Nat}{X:List (List Int)}(h:VX X)(a:5000≤N):lm N ⟨X⟩=some (zi8 X,0):=by
 have d:=h.rows
 have c:mq N ⟨X⟩ N 0 (mk (X.length:Int) false)=some (zi8 X):=by
  rw [zcj,zgr (f:=z0a X)]
  refine z4k (fun F k s=>mq N ⟨X⟩ F (k:Int) s) X.length (fun k=>z8q X.length false (z0a X) k) _ (fun F k b=>?_) (fun F=>?_) (by omega)
  ·simp only [mq]
   rw [bi (by rw [zcj,List.length_replicate];omega),qf (z4c h.toBx a b),zo (uy (by rw [zj7];exact b)),zo (kw (by omega)),zne,←ziz]
   have e:(decide (0<((kl (X.getD k default)).length:Int)))=z0a X k:=by
    unfold z0a
    by_cases hh:0<(kl (X.getD k default)).length
    ·rw [decide_eq_true (by omega),decide_eq_true hh]
    ·rw [decide_eq_false (by omega),decide_eq_false hh]
   rw [e];rfl
  ·simp only [mq]
   rw [pq (by rw [zcj,List.length_replicate];omega)];rfl
 unfold lm
 rw [qf (z4p h.toBx a),z2s h,pq (by decide),zo ⟨by omega,by show (1:Int)*(X.length:Int)≤_;omega,by show (X.length:Int)≤_;omega⟩,qf c]
/-! ### rows-/
theorem zm1{N:Nat}{X:List (List Int)}{is:Int→Option Bool}{p:Nat→Bool}(h:Bx X)(d:5000≤N)(a: ∀ k,k<X.length→is (k:Int)=some (p k)):mg N ⟨X⟩ is=some (z3u p X.length):=by
 have e:=h.rows
 have b:xm N ⟨X⟩ is N [] 0=some (z3u p X.length):=by
  refine z4k (fun F k s=>xm N ⟨X⟩ is F s (k:Int)) X.length (fun k=>z3u p k) _ (fun F k c=>?_) (fun F=>?_) (by omega)
  ·have f:=z3e p k
   simp only [xm]
   rw [bi (by omega),a k c,z3m]
   cases hb:p k
   ·rw [cond_false,z3m,zo (kw (by omega))]
    simp only [z3u,hb,cond_false];rfl
   ·rw [cond_true,zo ⟨by simp only [List.length_singleton];omega,by simp only [List.length_singleton];omega⟩,z3m,zo (kw (by omega))]
    simp only [z3u,hb,cond_true];rfl
  ·simp only [xm]
   rw [pq (by omega)]
 unfold mg
 rw [qf b]
theorem zdh{N:Nat}{X:List (List Int)}(h:Bx X)(a:5000≤N){k:Nat}(b:k<X.length):xe N ⟨X⟩ (k:Int)=some (z0a X k):=by
 unfold xe
 rw [qf (z4c h a b)]
 unfold z0a
 by_cases hh:0<(kl (X.getD k default)).length
 ·rw [decide_eq_true (by omega),decide_eq_true hh]
 ·rw [decide_eq_false (by omega),decide_eq_false hh]
def z0y(X:List (List Int)):List Int:=z3u (z0a X) X.length
theorem zco{N:Nat}{X:List (List Int)}(h:Bx X)(a:5000≤N):mg N ⟨X⟩ (fun b=>xe N ⟨X⟩ b)=some (z0y X):=zm1 h a fun k c=>zdh h a c
/-! ### counts-/
def incr(o:List Int)(c:Int):List Int:=o.set c.toNat (o.getD c.toNat default+1)
def addL(o l:List Int):List Int:=l.foldl incr o
theorem z8c{o:List Int}{c:Int}:(incr o c).length=o.length:=by simp [incr]
theorem za6{l:List Int}: ∀ {o:List Int},(addL o l).length=o.length:=by
 induction l with
 |nil=>intro o;rfl
 |cons c l ih=>intro o;show (addL (incr o c) l).length=_;rw [ih,z8c]
theorem zfy{o:List Int}{c:Int}{j:Nat}(a:c.toNat<o.length):(incr o c).getD j default=o.getD j default+(if j=c.toNat then 1 else 0):=by
 unfold incr
 rw [z2d a]
 by_cases e:j=c.toNat
 ·rw [if_pos e,if_pos e,e]
 ·rw [if_neg e,if_neg e];omega
theorem zl4{l:List Int}: ∀ {o:List Int} {j:Nat},(∀ c∈l,0≤c∧c<o.length)→(addL o l).getD j default=o.getD j default+(l.count (j:Int):Int):=by
 induction l with
 |nil=>intro o j h;simp [addL]
 |cons c l ih=>
  intro o j h
  have a:=h c (List.mem_cons_self ..)
  show (addL (incr o c) l).getD j default=_
  rw [ih (fun c' hc'=>by rw [z8c];exact h c' (List.mem_cons_of_mem _ hc')),zfy (by omega),List.count_cons]
  by_cases e:j=c.toNat
  ·rw [if_pos e,if_pos (by simp;omega)];omega
  ·rw [if_neg e,if_neg (by simp;omega)];omega
theorem z9i{p:Nat→Bool}{j:Nat}: ∀ {n:Nat},(z3u p n).count (j:Int)=if j<n∧p j=true then 1 else 0
 |0=>by simp [z3u]
 |n+1=>by
  unfold z3u
  cases hb:p n
  ·simp only [cond_false]
   rw [z9i (n:=n)]
   by_cases e:j=n
   ·subst e;simp [hb]
   ·have a:(j<n)↔(j<n+1):=by omega
    simp only [a]
  ·simp only [cond_true,List.count_append]
   rw [z9i (n:=n)]
   by_cases e:j=n
   ·subst e;simp [hb]
   ·have b:List.count (j:Int) [(n:Int)]=0:=by rw [List.count_eq_zero];simp;omega
    have a:(j<n)↔(j<n+1):=by omega
    rw [b,Nat.add_zero]
    simp only [a]
def Bd(o:List Int)(B:Int):Prop:= ∀ j,0≤o.getD j default∧o.getD j default≤B
theorem Bd.incr{o:List Int}{B c:Int}(h:Bd o B)(a:c.toNat<o.length)(b:0≤B):Bd (incr o c) (B+1):=fun j=>by
 have:=h j
 rw [zfy a]
 split<;>omega
theorem zdt{N:Nat}{l:List Int}: ∀ (F:Nat) (i:Nat) (o:List Int) (B:Int),l.length<5000→i≤l.length→l.length-i<F→(∀ c∈l,0≤c∧c<o.length)→Bd o B→0≤B→B+((l.length-i:Nat):Int)≤1000000000→xw N l F (i:Int) o=some (addL o (l.drop i))
 |0,i,o,B,_,_,h,_,_,_,_=>by omega
 |F+1,i,o,B,j,hi,n,d,f,b,p=>by
  simp only [xw]
  by_cases e:i=l.length
  ·rw [pq (by omega),e,List.drop_length];rfl
  ·have hi':i<l.length:=by omega
   have g:=d (l.getD i default) (su hi')
   have k:=f (l.getD i default).toNat
   have a:okI o (ix l (i:Int)):=⟨g.1,g.2⟩
   rw [bi (by omega),zo (uy hi'),zo a,zo (kw (by rw [tq,z9k];omega)),zo a,zo (kw (by omega))]
   have hlen:(incr o (l.getD i default)).length=o.length:=z8c
   have:=zdt (N:=N) F (i+1) (incr o (l.getD i default)) (B+1) j hi' (by omega) (by rw [hlen];exact d) (f.incr (by omega) b) (by omega) (by omega)
   have m:l.drop i=l.getD i default::l.drop (i+1):=by
    rw [List.drop_eq_getElem_cons hi',z8e hi']
   rw [m]
   exact this
def zbu(X:List (List Int))(rows:List Int)(o:List Int):List Int:=rows.foldl (fun o i=>addL o (kl (X.getD i.toNat default))) o
theorem zkh{X:List (List Int)}{rows:List Int}: ∀ {o:List Int},(zbu X rows o).length=o.length:=by
 induction rows with
 |nil=>intro o;rfl
 |cons i rows ih=>intro o;show (zbu X rows (addL o _)).length=_;rw [ih,za6]
theorem zf0{X:List (List Int)}(h:VX X){k:Nat}(a:k<X.length): ∀ c∈kl (X.getD k default),0≤c∧c<(cols X:Int):=fun c b=>by
 obtain⟨i,d,rfl,_⟩:=z3o.1 b
 rw [h.len k a] at d
 omega
theorem zg7(r:List Int):(kl r).length≤r.length:=z3e _ _
theorem Bd.addL{l:List Int}: ∀ {o:List Int} {B:Int},(∀ c∈l,0≤c∧c<o.length)→Bd o B→0≤B→Bd (addL o l) (B+l.length):=by
 induction l with
 |nil=>intro o B _ h _ j;have:=h j;simp only [List.length_nil];show 0≤o.getD j default∧o.getD j default≤_;omega
 |cons c l ih=>
  intro o B a b d
  have e:=a c (List.mem_cons_self ..)
  have:=ih (o:=GV.incr o c) (B:=B+1) (fun c' hc'=>by rw [z8c];exact a c' (List.mem_cons_of_mem _ hc')) (b.incr (by omega) d) (by omega)
  intro j
  have:=this j
  show 0≤(GV.addL (GV.incr o c) l).getD j default∧(GV.addL (GV.incr o c) l).getD j default≤_
  simp only [List.length_cons]
  omega
theorem zdn{N:Nat}{X:List (List Int)}{rows:List Int}(h:VX X)(f:5000≤N)(g: ∀ i∈rows,0≤i∧i<(X.length:Int)): ∀ (F:Nat) (i:Nat) (o:List Int) (B:Int),rows.length≤1000→i≤rows.length→rows.length-i<F→o.length=cols X→Bd o B→0≤B→B+((rows.length-i:Nat):Int)*3000≤900000000→
 xx N ⟨X⟩ rows F (i:Int) o=some (zbu X (rows.drop i) o)
 |0,i,o,B,_,_,h,_,_,_,_=>by omega
 |F+1,i,o,B,n,hi,q,d,j,b,r=>by
  simp only [xx]
  by_cases e:i=rows.length
  ·rw [pq (by omega),e,List.drop_length];rfl
  ·have hi':i<rows.length:=by omega
   obtain⟨s,t⟩:=g (rows.getD i default) (su hi')
   obtain⟨k,m⟩: ∃ k:Nat,rows.getD i default=(k:Int):=⟨(rows.getD i default).toNat,by omega⟩
   have a:k<X.length:=by omega
   have hlen:=zg7 (X.getD k default)
   have hrow:=h.toBx.row a
   have c:=zf0 h a
   rw [bi (by omega),zo (uy hi'),tq,m,qf (z4c h.toBx f a),qf (show xw N (kl (X.getD k default)) N 0 o=_ from zdt (N:=N) (l:=kl (X.getD k default)) N 0 o B (by omega) (Nat.zero_le _) (by omega) (by rw [d];exact c) j b (by omega)),zo (kw (by omega))]
   have hstep:=zdn (N:=N) h f g F (i+1) (addL o (kl (X.getD k default))) (B+(kl (X.getD k default)).length) n hi' (by omega) (by rw [za6];exact d) (j.addL (by rw [d];exact c) b) (by omega) (by omega)
   have p:rows.drop i=rows.getD i default::rows.drop (i+1):=by
    rw [List.drop_eq_getElem_cons hi',z8e hi']
   rw [p,m]
   exact hstep
theorem zih{N:Nat}{X:List (List Int)}{rows:List Int}(h:VX X)(a:5000≤N)(b: ∀ i∈rows,0≤i∧i<(X.length:Int))(d:rows.length≤100):l5 N ⟨X⟩ rows=some (zbu X rows (List.replicate (cols X) 0)):=by
 have e:=h.toBx.cols
 have c:=zdn (N:=N) h a b N 0 (List.replicate (cols X) 0) 0 (by omega) (Nat.zero_le _) (by omega) (List.length_replicate ..) (fun j=>by
  by_cases hj:j<cols X
  ·rw [z8e (by rw [List.length_replicate];exact hj),List.getElem_replicate];decide
  ·rw [zmv (by rw [List.length_replicate];omega)];decide) (by decide) (by omega)
 unfold l5
 rw [qf (z5l h.toBx (by omega)),zo ⟨by omega,by omega,by omega⟩,zcj,qf (show xx N ⟨X⟩ rows N 0 (List.replicate (cols X) 0)=_ from c)]
 rfl
theorem z6x{X:List (List Int)}: ∀ i∈z0y X,0≤i∧i<(X.length:Int):=fun i hi=>by
 obtain⟨k,a,rfl,_⟩:=z3o.1 hi
 omega
theorem ze6{N:Nat}{X:List (List Int)}(h:VX X)(a:5000≤N):ll N ⟨X⟩=some (zbu X (z0y X) (List.replicate (cols X) 0),0):=by
 have b:=h.rows
 unfold ll
 rw [qf (z4p h.toBx a),z2s h,pq (by decide),qf (zco h.toBx a),qf (zih h a z6x (Nat.le_trans (z3e _ _) b))]
/-! ### The reference-/
theorem znf{X:List (List Int)}(h:VX X){k j:Nat}(a:k<X.length)(b:j<(X.getD k default).length):decide (0≤(X.getD k default).getD j default)=z7c (X.getD k default) j:=by
 have:=h.cell k a j b
 unfold z7c
 by_cases e:(X.getD k default).getD j default= -1
 ·rw [e];rfl
 ·rw [decide_eq_true (show _ from e),decide_eq_true (by omega)]
theorem zas{N:Nat}{X:List (List Int)}(h:VX X){k j:Nat}(a:k<X.length)(b:j<(X.getD k default).length):lh N ⟨X⟩ (k:Int) (j:Int)=some (z7c (X.getD k default) j):=by
 unfold lh
 rw [zo (uy a),zo (uy (by rw [tq];exact b)),←znf h a b];rfl
theorem zbx{N:Nat}{X:List (List Int)}(h:VX X)(e:5000≤N){k:Nat}(a:k<X.length):z08 N ⟨X⟩ (k:Int)=some (z0a X k):=by
 have f:=h.toBx.row a
 have d:yg N ⟨X⟩ (k:Int) N 0=some (bif (List.range (X.getD k default).length).any (z7c (X.getD k default)) then Ex.rt true else Ex.go ()):=by
  refine z4a (fun F j=>yg N ⟨X⟩ (k:Int) F (j:Int)) (X.getD k default).length _ _ _ (fun F j b c=>?_) (fun F j b c=>?_) (fun F=>?_) (by omega)
  ·simp only [yg]
   rw [zo (uy a),bi (by rw [tq];omega),qf (zas h a b),c];rfl
  ·simp only [yg]
   rw [zo (uy a),bi (by rw [tq];omega),qf (zas h a b),c,cond_false,zo (kw (by omega))];rfl
  ·simp only [yg]
   rw [zo (uy a),pq (by rw [tq];omega)]
 unfold z08
 rw [qf d]
 cases hk':z0a X k with
 |true=>rw [z3n.2 (zbd.1 hk')];rfl
 |false=>rw [og.2 fun j b=>zd7 hk' b];rfl
end GV
end Go.Proofs.Ytkhihcleegljhaa

namespace Go.Proofs.Ytkhihcleegljhaa
namespace GV
theorem zeb{α:Type}[Inhabited α]{l:List α}{q:α→Bool}:(List.range l.length).any (fun i=>q (l.getD i default))=l.any q:=by
 cases h:l.any q with
 |true=>
  obtain⟨x,a,b⟩:=List.any_eq_true.1 h
  obtain⟨i,hi,rfl⟩:=List.mem_iff_getElem.1 a
  exact z3n.2 ⟨i,hi,by rw [z8e hi];exact b⟩
 |false=>
  refine og.2 fun k c=>?_
  have:=List.any_eq_false.1 h (l.getD k default) (su c)
  simpa using this
theorem zl8{p:Nat→Bool}{q:Int→Bool}{n:Nat}:(z3u p n).any q=(List.range n).any fun k=>p k&&q (k:Int):=by
 cases h:(z3u p n).any q with
 |true=>
  obtain⟨x,a,b⟩:=List.any_eq_true.1 h
  obtain⟨i,c,rfl,d⟩:=z3o.1 a
  exact(z3n.2 ⟨i,c,by rw [d,b];rfl⟩).symm
 |false=>
  refine(og.2 fun k e=>?_).symm
  cases hp:p k with
  |false=>rfl
  |true=>
   have:=List.any_eq_false.1 h (k:Int) (z3o.2 ⟨k,e,rfl,hp⟩)
   simpa using this
theorem zac{N:Nat}{s:List Int}{f:Int→Option Bool}{q:Int→Bool}(k:s.length<N)(l:s.length≤100000)(b: ∀ c∈s,f c=some (q c)):bz N s f=some (s.any q):=by
 have d: ∃ r,u6 N s f N 0=some r∧((∃ i:Nat,r=Ex.rt (i:Int)∧s.any q=true)∨(r=Ex.go ()∧s.any q=false)):=by
  refine z0r (σ:=Unit) (fun F i _=>u6 N s f F (i:Int)) s.length (fun i _=> ∀ j,j<i→q (s.getD j default)=false) _ (fun F i u hi a=>?_) (fun F u a=>?_) N 0 () (Nat.zero_le _) (by omega) (fun j a=>absurd a (by omega))
  ·simp only [u6]
   rw [bi (by omega),zo (uy hi),tq,b _ (su hi),z3m]
   cases hq:q (s.getD i default)
   ·right
    refine⟨(),fun j hj'=>?_,?_⟩
    ·by_cases e:j=i
     ·subst e;exact hq
     ·exact a j (by omega)
    ·rw [cond_false,zo (kw (by omega))];rfl
   ·left
    exact⟨_,by rw [cond_true],.inl ⟨i,rfl,List.any_eq_true.2 ⟨_,su hi,hq⟩⟩⟩
  ·simp only [u6]
   rw [pq (by omega)]
   exact⟨_,rfl,.inr ⟨rfl,by rw [←zeb];exact og.2 a⟩⟩
 obtain⟨r,g,h⟩:=d
 unfold bz ak
 rw [qf g]
 rcases h with⟨i,rfl,h⟩|⟨rfl,h⟩
 ·rw [zn4,z3m,h,decide_eq_true (by omega)]
 ·rw [zia,z3m,h];rfl
/-! ### Choices-/
def zd1(n:Nat)(l:List Int)(i:Nat):Bool:=(decide (ix l (i:Int)<0)||decide ((n:Int)≤ix l (i:Int)))||(decide (0<(i:Int))&&decide (ix l (i:Int)≤ix l ((i:Int)-1)))
def chB(n:Nat)(l:List Int):Bool:= !(List.range l.length).any (zd1 n l)
theorem zhy{n:Nat}{l:List Int}(h:chB n l=true): ∀ c∈l,0≤c∧c<(n:Int):=fun c a=>by
 obtain⟨i,hi,rfl⟩:=List.mem_iff_getElem.1 a
 unfold chB at h
 have:=og.1 (by simpa using h) i hi
 unfold zd1 at this
 simp only [Bool.or_eq_false_iff,decide_eq_false_iff_not] at this
 rw [tq,z8e hi] at this
 omega
def z13(X:List (List Int))(l:List Int)(k:Nat):Bool:=l.any fun z=>z7c (X.getD k default) z.toNat
def z9z(X:List (List Int))(l:List Int):Bool:= !(List.range X.length).any fun k=>z0a X k&& !z13 X l k
theorem zd4{N:Nat}{n:Nat}{l:List Int}(b:l.length<N)(d:l.length≤100000):dz N l (n:Int) N 0=some (bif (List.range l.length).any (zd1 n l) then Ex.rt (false,1) else Ex.go ()):=by
 refine z4a (fun F i=>dz N l (n:Int) F (i:Int)) l.length _ _ _ (fun F i hi a=>?_) (fun F i hi a=>?_) (fun F=>?_) b
 ·simp only [dz]
  rw [bi (by omega),zo (uy hi),zo (fun h=>kw (by omega)),zo (fun h=>?_)]
  ·exact ct a
  ·have c:0<i:=by
    simp only [Bool.and_eq_true,beq_iff_eq,decide_eq_true_eq] at h
    omega
   exact⟨by omega,by omega⟩
 ·simp only [dz]
  rw [bi (by omega),zo (uy hi),zo (fun h=>kw (by omega)),zo (fun h=>?_)]
  ·exact(cf a).trans (by rw [zo (kw (by omega))];rfl)
  ·have c:0<i:=by
    simp only [Bool.and_eq_true,beq_iff_eq,decide_eq_true_eq] at h
    omega
   exact⟨by omega,by omega⟩
 ·simp only [dz]
  rw [pq (by omega)]
theorem ze7{N:Nat}{X:List (List Int)}{l:List Int}(h:VX X)(m:5000≤N)(w:l.length≤1000):ru N ⟨X⟩ l=some (bif chB (cols X) l then(z9z X l,0) else(false,1)):=by
 have x:=h.rows
 unfold ru
 rw [qf (z4p h.toBx m),z2s h,pq (by decide),qf (z5l h.toBx (by omega)),qf (zd4 (n:=cols X) (by omega) (by omega))]
 unfold chB
 cases hb:(List.range l.length).any (zd1 (cols X) l) with
 |true=>rfl
 |false=>
  have o:=zhy (n:=cols X) (l:=l) (by unfold chB;rw [hb];rfl)
  rw [cond_false,zia,qf (zco h.toBx m)]
  have p:(z0y X).length≤X.length:=z3e _ _
  have r:dx N ⟨X⟩ l (z0y X) N 0=some (bif (List.range (z0y X).length).any (fun i=> !z13 X l ((z0y X).getD i default).toNat) then Ex.rt (false,0) else Ex.go ()):=by
   refine z4a (fun F i=>dx N ⟨X⟩ l (z0y X) F (i:Int)) (z0y X).length _ _ _ (fun F i hi d=>?_) (fun F i hi d=>?_) (fun F=>?_) (by omega)
   ·obtain⟨s,t⟩:=z6x (X:=X) _ (su hi)
    obtain⟨k,f⟩: ∃ k:Nat,(z0y X).getD i default=(k:Int):=⟨((z0y X).getD i default).toNat,by omega⟩
    have a:k<X.length:=by omega
    simp only [dx]
    rw [bi (by omega),zo (uy hi)]
    have b:bz N l (fun g=>l6 N g ⟨X⟩ (ix (z0y X) (i:Int)))=some (z13 X l k):=by
     refine zac (by omega) (by omega) fun c b=>?_
     obtain⟨u,v⟩:=o c b
     obtain⟨j,rfl⟩: ∃ j:Nat,c=(j:Int):=⟨c.toNat,by omega⟩
     unfold l6
     rw [tq,f,qf (za0 a (by rw [h.len k a];omega))];rfl
    rw [f,Int.toNat_natCast] at d
    rw [qf b]
    exact ct d
   ·obtain⟨s,t⟩:=z6x (X:=X) _ (su hi)
    obtain⟨k,f⟩: ∃ k:Nat,(z0y X).getD i default=(k:Int):=⟨((z0y X).getD i default).toNat,by omega⟩
    have a:k<X.length:=by omega
    simp only [dx]
    rw [bi (by omega),zo (uy hi)]
    have b:bz N l (fun g=>l6 N g ⟨X⟩ (ix (z0y X) (i:Int)))=some (z13 X l k):=by
     refine zac (by omega) (by omega) fun c b=>?_
     obtain⟨u,v⟩:=o c b
     obtain⟨j,rfl⟩: ∃ j:Nat,c=(j:Int):=⟨c.toNat,by omega⟩
     unfold l6
     rw [tq,f,qf (za0 a (by rw [h.len k a];omega))];rfl
    rw [f,Int.toNat_natCast] at d
    rw [qf b]
    exact(cf d).trans (by rw [zo (kw (by omega))];rfl)
   ·simp only [dx]
    rw [pq (by omega)]
  rw [qf r]
  have e:(List.range (z0y X).length).any (fun i=> !z13 X l ((z0y X).getD i default).toNat)=(List.range X.length).any fun k=>z0a X k&& !z13 X l k:=by
   rw [zeb (l:=z0y X) (q:=fun c=> !z13 X l c.toNat)]
   unfold z0y
   rw [zl8];rfl
  rw [e]
  unfold z9z
  cases (List.range X.length).any fun k=>z0a X k&& !z13 X l k<;>rfl
theorem zh9{N:Nat}{X:List (List Int)}{l:List Int}(h:VX X)(f:5000≤N)(p:l.length≤1000)(g: ∀ c∈l,0≤c∧c<(cols X:Int)):z07 N ⟨X⟩ l=some (z9z X l):=by
 have q:=h.rows
 have d: ∀ k,k<X.length→ ∀ b,xk N ⟨X⟩ l (k:Int) N b 0=some (b||z13 X l k):=by
  intro k a b
  refine zea (fun F i s=>xk N ⟨X⟩ l (k:Int) F s (i:Int)) l.length (fun i s=>s=(b||(l.take i).any fun z=>z7c (X.getD k default) z.toNat)) _ (fun F i s hi e=> .inr ?_) (fun F s e=>?_) N 0 b (Nat.zero_le _) (by omega) (by simp)
  ·refine⟨s||z7c (X.getD k default) (l.getD i default).toNat,?_,?_⟩
   ·rw [e,List.take_add_one,List.getElem?_eq_getElem hi,List.any_append,z8e hi];simp [Bool.or_assoc]
   ·obtain⟨r,t⟩:=g (l.getD i default) (su hi)
    obtain⟨j,m⟩: ∃ j:Nat,l.getD i default=(j:Int):=⟨(l.getD i default).toNat,by omega⟩
    simp only [xk]
    rw [bi (by omega),zo (fun _=>uy hi),tq,m,zev (fun _=>zas h a (by rw [h.len k a];omega)),zo (kw (by omega)),Int.toNat_natCast]
    cases s<;>simp
  ·simp only [xk]
   rw [pq (by omega),e,List.take_length];rfl
 have n:yh N ⟨X⟩ l N 0=some (bif (List.range X.length).any (fun k=>z0a X k&& !z13 X l k) then Ex.rt false else Ex.go ()):=by
  refine z4a (fun F k=>yh N ⟨X⟩ l F (k:Int)) X.length _ _ _ (fun F k a o=>?_) (fun F k a o=>?_) (fun F=>?_) (by omega)
  ·simp only [yh]
   rw [bi (by omega),qf (zbx h f a),qf (d k a _)]
   refine ct ?_
   cases hk1:z0a X k<;>cases hk2:z13 X l k<;>simp_all
  ·simp only [yh]
   rw [bi (by omega),qf (zbx h f a),qf (d k a _)]
   refine(cf ?_).trans (by rw [zo (kw (by omega))];rfl)
   cases hk1:z0a X k<;>cases hk2:z13 X l k<;>simp_all
  ·simp only [yh]
   rw [pq (by omega)]
 unfold z07
 rw [qf n]
 unfold z9z
 cases (List.range X.length).any fun k=>z0a X k&& !z13 X l k<;>rfl
/-! ### The plain data-/
structure QOk (x:Sb):Prop where
 cols:0≤x.fH∧x.fH≤255
 rows: ∀ k,k<x.fI.length→0≤x.fI.getD k default∧x.fI.getD k default≤65535
end GV
end Go.Proofs.Ytkhihcleegljhaa

namespace Go.Proofs.Ytkhihcleegljhaa
namespace GV
set_option maxRecDepth 100000
theorem zbv:z0z 5000=some true:=by decide+kernel
end GV
end Go.Proofs.Ytkhihcleegljhaa
