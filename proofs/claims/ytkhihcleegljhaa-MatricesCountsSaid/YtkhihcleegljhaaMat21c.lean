
import Derived.Test.YtkhihcleegljhaaShPlain
import Derived.Test.YtkhihcleegljhaaShPl
set_option linter.unusedVariables false
set_option linter.unusedSimpArgs false
namespace Go.Proofs.Ytkhihcleegljhaa
namespace GV
theorem z3h{σ ρ:Type}(L:Nat→Nat→σ→Option ρ)(n:Nat)(st:Nat→σ)(r:ρ)(step: ∀ F k,k<n→L (F+1) k (st k)=L F (k+1) (st (k+1)))(fin: ∀ F,L (F+1) n (st n)=some r){F:Nat}(c:n<F):L F 0 (st 0)=some r:=
 ze2 L n (fun k s=>s=st k) r (fun F k s b a=> .inr ⟨st (k+1),rfl,by rw [a];exact step F k b⟩) (fun F s a=>by rw [a];exact fin F) F 0 (st 0) (Nat.zero_le _) (by omega) rfl
theorem z4r{ρ:Type}(L:Nat→Nat→Option ρ)(n:Nat)(p:Nat→Bool)(d f:ρ)(b: ∀ F k,k<n→p k=true→L (F+1) k=some f)(skip: ∀ F k,k<n→p k=false→L (F+1) k=L F (k+1))(fin: ∀ F,L (F+1) n=some d){F:Nat}(h:n<F):
 L F 0=some (bif (List.range n).any p then f else d):=by
 refine ze2 (σ:=Unit) (fun F k _=>L F k) n (fun k _=> ∀ j,j<k→p j=false) _ (fun F k s a c=>?_) (fun F s c=>?_) F 0 () (Nat.zero_le _) (by omega) (fun j g=>absurd g (by omega))
 ·cases hp:p k with
  |true=>
   left
   have:(List.range n).any p=true:=by rw [List.any_eq_true];exact⟨k,List.mem_range.2 a,hp⟩
   rw [this];exact b F k a hp
  |false=>
   right
   refine⟨(),fun j g=>?_,skip F k a hp⟩
   by_cases e:j=k
   ·subst e;exact hp
   ·exact c j (by omega)
 ·have:(List.range n).any p=false:=by rw [List.any_eq_false];intro k a;rw [c k (List.mem_range.1 a)];simp
  rw [this];exact fin F
theorem ol{n:Nat}{p:Nat→Bool}:(List.range n).any p=false↔ ∀ k,k<n→p k=false:=by
 rw [List.any_eq_false]
 exact⟨fun h k a=>by have:=h k (List.mem_range.2 a);simpa using this,fun h k a=>by rw [h k (List.mem_range.1 a)];simp⟩
theorem z3i{n:Nat}{p:Nat→Bool}:(List.range n).any p=true↔ ∃ k,k<n∧p k=true:=by
 rw [List.any_eq_true]
 exact⟨fun⟨k,a,b⟩=>⟨k,List.mem_range.1 a,b⟩,fun⟨k,a,b⟩=>⟨k,List.mem_range.2 a,b⟩⟩
/-! ### What is reckoned-/
def z8n(X:List (List Int)):Nat→Nat
 |0=>0
 |k+1=>max (z8n X k) (X.getD k default).length
def z6v(X:List (List Int)):Nat→Nat
 |0=>0
 |k+1=>z6v X k+(X.getD k default).length
def cols(X:List (List Int)):Nat:=z8n X X.length
def tot(X:List (List Int)):Nat:=z6v X X.length
def z96(v:Int):Bool:= !(decide (v< -1))&& !(decide (256≤v))
def zct(n:Nat)(r:List Int):Bool:=decide (r.length=n)&&(List.range r.length).all fun j=>z96 (r.getD j default)
def zkk(X:List (List Int)):Bool:=(List.range X.length).all fun k=>zct (cols X) (X.getD k default)
def zkn(X:List (List Int)):Int:=bif zkk X then 0 else 1
structure Bx (X:List (List Int)):Prop where
 rows:X.length≤100
 tot:tot X≤3000
theorem zes{X:List (List Int)}: ∀ n k,k<n→(X.getD k default).length≤z6v X n
 |n+1,k,h=>by
  unfold z6v
  by_cases e:k=n
  ·subst e;omega
  ·have:=zes (X:=X) n k (by omega);omega
theorem zaf{X:List (List Int)}: ∀ n k,k≤n→z6v X k≤z6v X n
 |0,k,h=>by
  have:k=0:=by omega
  subst this;exact Nat.le_refl _
 |n+1,k,h=>by
  by_cases e:k=n+1
  ·subst e;exact Nat.le_refl _
  ·have:=zaf (X:=X) n k (by omega)
   have a:z6v X (n+1)=z6v X n+(X.getD n default).length:=rfl
   omega
theorem zen{X:List (List Int)}: ∀ n,z8n X n≤z6v X n
 |0=>Nat.le_refl _
 |n+1=>by have:=zen (X:=X) n;unfold z8n z6v;omega
theorem zcj{X:List (List Int)}{m:Nat}: ∀ n,(∀ k,k<n→(X.getD k default).length=m)→z8n X n=if n=0 then 0 else m
 |0,_=>rfl
 |n+1,h=>by
  unfold z8n
  rw [zcj n fun k a=>h k (by omega),h n (by omega),if_neg (Nat.succ_ne_zero n)]
  split<;>omega
theorem Bx.row{X:List (List Int)}(h:Bx X){k:Nat}(a:k<X.length):(X.getD k default).length≤3000:=Nat.le_trans (zes _ _ a) h.tot
theorem Bx.cols{X:List (List Int)}(h:Bx X):cols X≤3000:=Nat.le_trans (zen _) h.tot
/-! ### columns-/
theorem z9c{N:Nat}{X:List (List Int)}(h:Bx X)(c:200≤N):wy N ⟨X⟩=some (cols X:Int):=by
 have d:=h.rows
 have a:kw N ⟨X⟩ N 0 0=some (cols X:Int):=by
  refine z3h (fun F k s=>kw N ⟨X⟩ F s (k:Int)) X.length (fun k=>(z8n X k:Int)) _ (fun F k b=>?_) (fun F=>?_) (by omega)
  ·simp only [kw]
   rw [z1z (by omega),jg (cu b),jg (yz (by omega)),ig]
   congr 1
   simp only [z8n];omega
  ·simp only [kw]
   rw [z2l (by omega)];rfl
 unfold wy
 rw [uz a]
theorem zez{N:Nat}{X:List (List Int)}(h:Bx X)(c:200≤N):si N ⟨X⟩=some (cols X:Int):=by
 have d:=h.rows
 have a:uw N ⟨X⟩ N 0 0=some (cols X:Int):=by
  refine z3h (fun F k s=>uw N ⟨X⟩ F s (k:Int)) X.length (fun k=>(z8n X k:Int)) _ (fun F k b=>?_) (fun F=>?_) (by omega)
  ·simp only [uw]
   rw [z1z (by omega),jg (cu b),jg (yz (by omega)),ig]
   congr 1
   simp only [z8n];omega
  ·simp only [uw]
   rw [z2l (by omega)];rfl
 unfold si
 rw [uz a]
/-! ### Check-/
theorem zc6{N:Nat}{X:List (List Int)}(h:Bx X)(m:5000≤N):og N ⟨X⟩=some (zkn X):=by
 have n:=h.rows
 have o:=h.tot
 have p:=h.cols
 have i:dm N ⟨X⟩ N 0 0=some (tot X:Int):=by
  refine z3h (fun F k s=>dm N ⟨X⟩ F s (k:Int)) X.length (fun k=>(z6v X k:Int)) _ (fun F k b=>?_) (fun F=>?_) (by omega)
  ·have q:z6v X (k+1)≤tot X:=zaf _ _ b
   have hm':z6v X (k+1)=z6v X k+(X.getD k default).length:=rfl
   simp only [dm]
   rw [z1z (by omega),jg (cu b),ig,jg (yz (by omega)),jg (yz (by omega))]
   congr 1
  ·simp only [dm]
   rw [z2l (by omega)];rfl
 have g: ∀ k,k<X.length→bv N ⟨X⟩ (k:Int) N 0=some (bif (List.range (X.getD k default).length).any (fun j=> !z96 ((X.getD k default).getD j default)) then Ex.rt (Ex.rt 1) else Ex.go ()):=by
  intro k b
  have r:=h.row b
  refine z4r (fun F j=>bv N ⟨X⟩ (k:Int) F (j:Int)) (X.getD k default).length _ _ _ (fun F j d a=>?_) (fun F j d a=>?_) (fun F=>?_) (by omega)
  ·simp only [bv]
   rw [z1z (by rw [ig];omega),jg (cu (by rw [ig];exact d))]
   have a:(!z96 (ix (ix X (k:Int)) (j:Int)))=true:=a
   simp only [z96] at a
   by_cases e:ix (ix X (k:Int)) (j:Int)< -1
   ·rw [z1z e];rfl
   ·rw [z2l e]
    by_cases f:256≤ix (ix X (k:Int)) (j:Int)
    ·rw [z1z f];rfl
    ·simp [e,f] at a
  ·simp only [bv]
   rw [z1z (by rw [ig];omega),jg (cu (by rw [ig];exact d))]
   have a:(!z96 (ix (ix X (k:Int)) (j:Int)))=false:=a
   simp only [z96] at a
   have e: ¬ix (ix X (k:Int)) (j:Int)< -1:=by intro e;simp [e] at a
   have f: ¬256≤ix (ix X (k:Int)) (j:Int):=by intro f;simp [f] at a
   rw [z2l e,z2l f,z7r,zmb,z7r,zep,jg (yz (by omega))];rfl
  ·simp only [bv]
   rw [z2l (by rw [ig];omega)]
 have l:bu N ⟨X⟩ (cols X:Int) N 0=some (bif (List.range X.length).any (fun k=> !zct (cols X) (X.getD k default)) then Ex.rt 1 else Ex.go ()):=by
  refine z4r (fun F k=>bu N ⟨X⟩ (cols X:Int) F (k:Int)) X.length _ _ _ (fun F k b a=>?_) (fun F k b a=>?_) (fun F=>?_) (by omega)
  ·simp only [bu]
   rw [z1z (by omega),jg (cu b),ig]
   by_cases hl:(X.getD k default).length=cols X
   ·have hany:(List.range (X.getD k default).length).any (fun j=> !z96 ((X.getD k default).getD j default))=true:=by
     simp only [zct,hl,decide_true,Bool.true_and,Bool.not_eq_true',List.all_eq_false] at a
     obtain⟨j,d,c⟩:=a
     rw [List.any_eq_true]
     exact⟨j,by rw [hl];exact d,by simpa using c⟩
    rw [z2l (by omega),g k b,hany];rfl
   ·rw [z1z (by omega)];rfl
  ·simp only [bu]
   rw [z1z (by omega),jg (cu b),ig]
   simp only [zct,Bool.not_eq_false',Bool.and_eq_true,decide_eq_true_eq,List.all_eq_true] at a
   have hany:(List.range (X.getD k default).length).any (fun j=> !z96 ((X.getD k default).getD j default))=false:=by
    rw [List.any_eq_false];intro j d;rw [a.2 j d];simp
   rw [z2l (by omega),g k b,hany,cond_false,z7r,zep,jg (yz (by omega))];rfl
  ·simp only [bu]
   rw [z2l (by omega)]
 unfold og
 rw [uz (z9c h (by omega)),uz i]
 rw [cf (by rw [decide_eq_false (by show¬(4096:Int)<(X.length:Int);omega),decide_eq_false (by omega),decide_eq_false (by omega)];rfl),uz l]
 unfold zkn zkk
 cases c:(List.range X.length).all (fun k=>zct (cols X) (X.getD k default)) with
 |true=>
  have:(List.range X.length).any (fun k=> !zct (cols X) (X.getD k default))=false:=by
   rw [List.any_eq_false];intro k b;rw [List.all_eq_true] at c;rw [c k b];simp
  rw [this];rfl
 |false=>
  have:(List.range X.length).any (fun k=> !zct (cols X) (X.getD k default))=true:=by
   rw [List.all_eq_false] at c;obtain⟨k,b,c⟩:=c;rw [List.any_eq_true];exact⟨k,b,by simpa using c⟩
  rw [this];rfl
/-! ### What a valid matrix is-/
structure VX (X:List (List Int)):Prop extends Bx X where
 len: ∀ k,k<X.length→(X.getD k default).length=_root_.Go.Proofs.Ytkhihcleegljhaa.GV.cols X
 cell: ∀ k,k<X.length→ ∀ j,j<(X.getD k default).length→ -1≤(X.getD k default).getD j default∧(X.getD k default).getD j default≤255
theorem zm2{X:List (List Int)}(h:Bx X):zkk X=true↔VX X:=by
 unfold zkk
 rw [List.all_eq_true]
 constructor
 ·intro b
  refine⟨h,fun k a=>?_,fun k a j c=>?_⟩
  ·have:=b k (List.mem_range.2 a)
   simp only [zct,Bool.and_eq_true,decide_eq_true_eq] at this
   exact this.1
  ·have:=b k (List.mem_range.2 a)
   simp only [zct,Bool.and_eq_true,decide_eq_true_eq,List.all_eq_true] at this
   have:=this.2 j (List.mem_range.2 c)
   simp only [z96,Bool.and_eq_true,Bool.not_eq_true',decide_eq_false_iff_not] at this
   omega
 ·intro b k a
  have a:=List.mem_range.1 a
  simp only [zct,Bool.and_eq_true,decide_eq_true_eq,List.all_eq_true]
  refine⟨b.len k a,fun j c=>?_⟩
  have:=b.cell k a j (List.mem_range.1 c)
  simp only [z96,Bool.and_eq_true,Bool.not_eq_true',decide_eq_false_iff_not]
  omega
theorem z9i{X:List (List Int)}(h:VX X):zkn X=0:=by unfold zkn;rw [(zm2 h.toBx).2 h];rfl
/-! ### Killers-/
def z6g(r:List Int)(j:Nat):Bool:=decide (r.getD j default≠ -1)
def lh(p:Nat→Bool):Nat→List Int
 |0=>[]
 |j+1=>bif p j then lh p j++[(j:Int)] else lh p j
def kl(r:List Int):List Int:=lh (z6g r) r.length
theorem z4e(p:Nat→Bool): ∀ j,(lh p j).length≤j
 |0=>Nat.le_refl _
 |j+1=>by
  have:=z4e p j
  unfold lh
  cases p j
  ·simp only [cond_false];omega
  ·simp only [cond_true,List.length_append,List.length_singleton];omega
theorem z1f{p:Nat→Bool}{c:Int}: ∀ {j:Nat},c∈lh p j↔ ∃ i:Nat,i<j∧c=i∧p i=true
 |0=>⟨fun h=>absurd h (by simp [lh]),fun⟨i,h,_⟩=>absurd h (by omega)⟩
 |j+1=>by
  unfold lh
  cases hb:p j
  ·simp only [cond_false]
   rw [z1f (j:=j)]
   constructor
   ·rintro⟨i,d,a⟩;exact⟨i,by omega,a⟩
   ·rintro⟨i,d,a,b⟩
    have:i≠j:=fun e=>by subst e;rw [hb] at b;cases b
    exact⟨i,by omega,a,b⟩
  ·simp only [cond_true,List.mem_append,List.mem_singleton]
   rw [z1f (j:=j)]
   constructor
   ·rintro(⟨i,d,a⟩|rfl)
    ·exact⟨i,by omega,a⟩
    ·exact⟨j,by omega,rfl,hb⟩
   ·rintro⟨i,d,a,b⟩
    by_cases e:i=j
    ·subst e;exact .inr a
    ·exact .inl ⟨i,by omega,a,b⟩
theorem zk2{p:Nat→Bool}{n:Nat}:(lh p n).length=0↔ ∀ j,j<n→p j=false:=by
 rw [List.length_eq_zero_iff,List.eq_nil_iff_forall_not_mem]
 constructor
 ·intro h j b
  cases hp:p j with
  |false=>rfl
  |true=>exact absurd (z1f.2 ⟨j,b,rfl,hp⟩) (h j)
 ·intro h c d
  obtain⟨i,e,_,a⟩:=z1f.1 d
  rw [h i e] at a;cases a
theorem zc5{N:Nat}{X:List (List Int)}{k j:Nat}(a:k<X.length)(b:j<(X.getD k default).length):dh N ⟨X⟩ (k:Int) (j:Int)=some (z6g (X.getD k default) j):=by
 unfold dh
 rw [jg (cu a),jg (cu (by rw [ig];exact b))];rfl
theorem z9o{N:Nat}{X:List (List Int)}(h:Bx X)(d:5000≤N){k:Nat}(a:k<X.length):ul N ⟨X⟩ (k:Int)=some (kl (X.getD k default)):=by
 have e:=h.row a
 have b:ky N ⟨X⟩ (k:Int) N [] 0=some (kl (X.getD k default)):=by
  refine z3h (fun F j s=>ky N ⟨X⟩ (k:Int) F s (j:Int)) (X.getD k default).length (fun j=>lh (z6g (X.getD k default)) j) _ (fun F j c=>?_) (fun F=>?_) (by omega)
  ·have f:=z4e (z6g (X.getD k default)) j
   simp only [ky]
   rw [z1z (by rw [ig];omega),zc5 a c,z7r]
   cases hb:z6g (X.getD k default) j
   ·rw [cond_false,z7r,jg (yz (by omega))]
    simp only [lh,hb,cond_false];rfl
   ·rw [cond_true,jg ⟨by simp only [List.length_singleton];omega,by simp only [List.length_singleton];omega⟩,z7r,jg (yz (by omega))]
    simp only [lh,hb,cond_true];rfl
  ·simp only [ky]
   rw [z2l (by rw [ig];omega)];rfl
 unfold ul
 rw [jg (cu a),uz b]
end GV
end Go.Proofs.Ytkhihcleegljhaa

namespace Go.Proofs.Ytkhihcleegljhaa
namespace GV
theorem z5a{α:Type}{X:List α}{i:Nat}{d:α}(h:i<X.length):X.getD i d=X[i]:=by rw [List.getD_eq_getElem?_getD,List.getElem?_eq_getElem h];rfl
theorem zn0{α:Type}{X:List α}{i:Nat}{d:α}(h:X.length≤i):X.getD i d=d:=by rw [List.getD_eq_getElem?_getD,List.getElem?_eq_none h];rfl
def om(X:List (List Int))(k:Nat):Bool:=decide (0<(kl (X.getD k default)).length)
theorem zb8{X:List (List Int)}{k:Nat}:om X k=true↔ ∃ j,j<(X.getD k default).length∧z6g (X.getD k default) j=true:=by
 unfold om
 rw [decide_eq_true_eq]
 constructor
 ·intro h
  cases hs:(List.range (X.getD k default).length).any (z6g (X.getD k default)) with
  |true=>exact z3i.1 hs
  |false=>have:=zk2.2 (ol.1 hs);unfold kl at h;omega
 ·rintro⟨j,a,b⟩
  exact List.length_pos_of_mem (z1f.2 ⟨j,a,rfl,b⟩)
theorem z98{X:List (List Int)}{k:Nat}(h:om X k=false){j:Nat}(a:j<(X.getD k default).length):z6g (X.getD k default) j=false:=by
 cases hb:z6g (X.getD k default) j with
 |false=>rfl
 |true=>rw [zb8.2 ⟨j,a,hb⟩] at h;cases h
def z6i{α:Type}(n:Nat)(d:α)(f:Nat→α)(k:Nat):List α:=(List.range n).map fun i=>if i<k then f i else d
theorem zav{α:Type}{n:Nat}{d:α}{f:Nat→α}{k:Nat}:(z6i n d f k).length=n:=by simp [z6i]
theorem zfx{α:Type}{n:Nat}{d:α}{f:Nat→α}:List.replicate n d=z6i n d f 0:=by
 apply List.ext_getElem
 ·simp [z6i]
 ·intro i a b;simp [z6i]
theorem zik{α:Type}{n:Nat}{d:α}{f:Nat→α}{k:Nat}:(z6i n d f k).set k (f k)=z6i n d f (k+1):=by
 apply List.ext_getElem
 ·simp [z6i]
 ·intro i a b
  rw [List.getElem_set]
  simp only [z6i,List.getElem_map,List.getElem_range]
  by_cases e:k=i
  ·subst e;rw [if_pos rfl,if_pos (by omega)]
  ·rw [if_neg e]
   by_cases h:i<k
   ·rw [if_pos h,if_pos (by omega)]
   ·rw [if_neg h,if_neg (by omega)]
theorem zhv{α:Type}[Inhabited α]{n:Nat}{d:α}{f:Nat→α}{k i:Nat}(hi:i<n)(a:i<k):(z6i n d f k).getD i default=f i:=by
 rw [z5a (by rw [zav];exact hi)]
 simp [z6i,a]
def z3x(X:List (List Int)):List Bool:=z6i X.length false (om X) X.length
theorem zdu{N:Nat}{X:List (List Int)}(h:VX X)(a:5000≤N):z04 N ⟨X⟩=some (z3x X,0):=by
 have d:=h.rows
 have c:pg N ⟨X⟩ N 0 (mk (X.length:Int) false)=some (z3x X):=by
  rw [zef,zfx (f:=om X)]
  refine z3h (fun F k s=>pg N ⟨X⟩ F (k:Int) s) X.length (fun k=>z6i X.length false (om X) k) _ (fun F k b=>?_) (fun F=>?_) (by omega)
  ·simp only [pg]
   rw [z1z (by rw [zef,List.length_replicate];omega),uz (z9o h.toBx a b),jg (cu (by rw [zav];exact b)),jg (yz (by omega)),zlh,←zik]
   have e:(decide (0<((kl (X.getD k default)).length:Int)))=om X k:=by
    unfold om
    by_cases hh:0<(kl (X.getD k default)).length
    ·rw [decide_eq_true (by omega),decide_eq_true hh]
    ·rw [decide_eq_false (by omega),decide_eq_false hh]
   rw [e];rfl
  ·simp only [pg]
   rw [z2l (by rw [zef,List.length_replicate];omega)];rfl
 unfold z04
 rw [uz (zc6 h.toBx a),z9i h,z2l (by decide),jg ⟨by omega,by show (1:Int)*(X.length:Int)≤_;omega,by show (X.length:Int)≤_;omega⟩,uz c]
/-! ### rows-/
theorem zkg{N:Nat}{X:List (List Int)}{is:Int→Option Bool}{p:Nat→Bool}(h:Bx X)(d:5000≤N)(a: ∀ k,k<X.length→is (k:Int)=some (p k)):bz N ⟨X⟩ is=some (lh p X.length):=by
 have e:=h.rows
 have b:wm N ⟨X⟩ is N [] 0=some (lh p X.length):=by
  refine z3h (fun F k s=>wm N ⟨X⟩ is F s (k:Int)) X.length (fun k=>lh p k) _ (fun F k c=>?_) (fun F=>?_) (by omega)
  ·have f:=z4e p k
   simp only [wm]
   rw [z1z (by omega),a k c,z7r]
   cases hb:p k
   ·rw [cond_false,z7r,jg (yz (by omega))]
    simp only [lh,hb,cond_false];rfl
   ·rw [cond_true,jg ⟨by simp only [List.length_singleton];omega,by simp only [List.length_singleton];omega⟩,z7r,jg (yz (by omega))]
    simp only [lh,hb,cond_true];rfl
  ·simp only [wm]
   rw [z2l (by omega)]
 unfold bz
 rw [uz b]
theorem zht{N:Nat}{X:List (List Int)}(h:Bx X)(a:5000≤N){k:Nat}(b:k<X.length):yc N ⟨X⟩ (k:Int)=some (om X k):=by
 unfold yc
 rw [uz (z9o h a b)]
 unfold om
 by_cases hh:0<(kl (X.getD k default)).length
 ·rw [decide_eq_true (by omega),decide_eq_true hh]
 ·rw [decide_eq_false (by omega),decide_eq_false hh]
def z0j(X:List (List Int)):List Int:=lh (om X) X.length
theorem zf9{N:Nat}{X:List (List Int)}(h:Bx X)(a:5000≤N):bz N ⟨X⟩ (fun b=>yc N ⟨X⟩ b)=some (z0j X):=zkg h a fun k c=>zht h a c
/-! ### counts-/
def incr(o:List Int)(c:Int):List Int:=o.set c.toNat (o.getD c.toNat default+1)
def addL(o l:List Int):List Int:=l.foldl incr o
theorem zab{o:List Int}{c:Int}:(incr o c).length=o.length:=by simp [incr]
theorem zf2{l:List Int}: ∀ {o:List Int},(addL o l).length=o.length:=by
 induction l with
 |nil=>intro o;rfl
 |cons c l ih=>intro o;show (addL (incr o c) l).length=_;rw [ih,zab]
theorem zfe{o:List Int}{c:Int}{j:Nat}(a:c.toNat<o.length):(incr o c).getD j default=o.getD j default+(if j=c.toNat then 1 else 0):=by
 unfold incr
 rw [z1s a]
 by_cases e:j=c.toNat
 ·rw [if_pos e,if_pos e,e]
 ·rw [if_neg e,if_neg e];omega
theorem zj2{l:List Int}: ∀ {o:List Int} {j:Nat},(∀ c∈l,0≤c∧c<o.length)→(addL o l).getD j default=o.getD j default+(l.count (j:Int):Int):=by
 induction l with
 |nil=>intro o j h;simp [addL]
 |cons c l ih=>
  intro o j h
  have a:=h c (List.mem_cons_self ..)
  show (addL (incr o c) l).getD j default=_
  rw [ih (fun c' hc'=>by rw [zab];exact h c' (List.mem_cons_of_mem _ hc')),zfe (by omega),List.count_cons]
  by_cases e:j=c.toNat
  ·rw [if_pos e,if_pos (by simp;omega)];omega
  ·rw [if_neg e,if_neg (by simp;omega)];omega
theorem z9b{p:Nat→Bool}{j:Nat}: ∀ {n:Nat},(lh p n).count (j:Int)=if j<n∧p j=true then 1 else 0
 |0=>by simp [lh]
 |n+1=>by
  unfold lh
  cases hb:p n
  ·simp only [cond_false]
   rw [z9b (n:=n)]
   by_cases e:j=n
   ·subst e;simp [hb]
   ·have a:(j<n)↔(j<n+1):=by omega
    simp only [a]
  ·simp only [cond_true,List.count_append]
   rw [z9b (n:=n)]
   by_cases e:j=n
   ·subst e;simp [hb]
   ·have b:List.count (j:Int) [(n:Int)]=0:=by rw [List.count_eq_zero];simp;omega
    have a:(j<n)↔(j<n+1):=by omega
    rw [b,Nat.add_zero]
    simp only [a]
def Bd(o:List Int)(B:Int):Prop:= ∀ j,0≤o.getD j default∧o.getD j default≤B
theorem Bd.incr{o:List Int}{B c:Int}(h:Bd o B)(a:c.toNat<o.length)(b:0≤B):Bd (incr o c) (B+1):=fun j=>by
 have:=h j
 rw [zfe a]
 split<;>omega
theorem zdd{N:Nat}{l:List Int}: ∀ (F:Nat) (i:Nat) (o:List Int) (B:Int),l.length<5000→i≤l.length→l.length-i<F→(∀ c∈l,0≤c∧c<o.length)→Bd o B→0≤B→B+((l.length-i:Nat):Int)≤1000000000→wz N l F (i:Int) o=some (addL o (l.drop i))
 |0,i,o,B,_,_,h,_,_,_,_=>by omega
 |F+1,i,o,B,j,hi,n,d,f,b,p=>by
  simp only [wz]
  by_cases e:i=l.length
  ·rw [z2l (by omega),e,List.drop_length];rfl
  ·have hi':i<l.length:=by omega
   have g:=d (l.getD i default) (z1i hi')
   have k:=f (l.getD i default).toNat
   have a:okI o (ix l (i:Int)):=⟨g.1,g.2⟩
   rw [z1z (by omega),jg (cu hi'),jg a,jg (yz (by rw [ig,zjk];omega)),jg a,jg (yz (by omega))]
   have hlen:(incr o (l.getD i default)).length=o.length:=zab
   have:=zdd (N:=N) F (i+1) (incr o (l.getD i default)) (B+1) j hi' (by omega) (by rw [hlen];exact d) (f.incr (by omega) b) (by omega) (by omega)
   have m:l.drop i=l.getD i default::l.drop (i+1):=by
    rw [List.drop_eq_getElem_cons hi',z5a hi']
   rw [m]
   exact this
def z6y(X:List (List Int))(rows:List Int)(o:List Int):List Int:=rows.foldl (fun o i=>addL o (kl (X.getD i.toNat default))) o
theorem zeo{X:List (List Int)}{rows:List Int}: ∀ {o:List Int},(z6y X rows o).length=o.length:=by
 induction rows with
 |nil=>intro o;rfl
 |cons i rows ih=>intro o;show (z6y X rows (addL o _)).length=_;rw [ih,zf2]
theorem zjf{X:List (List Int)}(h:VX X){k:Nat}(a:k<X.length): ∀ c∈kl (X.getD k default),0≤c∧c<(cols X:Int):=fun c b=>by
 obtain⟨i,d,rfl,_⟩:=z1f.1 b
 rw [h.len k a] at d
 omega
theorem zlz(r:List Int):(kl r).length≤r.length:=z4e _ _
theorem Bd.addL{l:List Int}: ∀ {o:List Int} {B:Int},(∀ c∈l,0≤c∧c<o.length)→Bd o B→0≤B→Bd (addL o l) (B+l.length):=by
 induction l with
 |nil=>intro o B _ h _ j;have:=h j;simp only [List.length_nil];show 0≤o.getD j default∧o.getD j default≤_;omega
 |cons c l ih=>
  intro o B a b d
  have e:=a c (List.mem_cons_self ..)
  have:=ih (o:=GV.incr o c) (B:=B+1) (fun c' hc'=>by rw [zab];exact a c' (List.mem_cons_of_mem _ hc')) (b.incr (by omega) d) (by omega)
  intro j
  have:=this j
  show 0≤(GV.addL (GV.incr o c) l).getD j default∧(GV.addL (GV.incr o c) l).getD j default≤_
  simp only [List.length_cons]
  omega
theorem zdf{N:Nat}{X:List (List Int)}{rows:List Int}(h:VX X)(f:5000≤N)(g: ∀ i∈rows,0≤i∧i<(X.length:Int)): ∀ (F:Nat) (i:Nat) (o:List Int) (B:Int),rows.length≤1000→i≤rows.length→rows.length-i<F→o.length=cols X→Bd o B→0≤B→B+((rows.length-i:Nat):Int)*3000≤900000000→
 vg N ⟨X⟩ rows F (i:Int) o=some (z6y X (rows.drop i) o)
 |0,i,o,B,_,_,h,_,_,_,_=>by omega
 |F+1,i,o,B,n,hi,q,d,j,b,r=>by
  simp only [vg]
  by_cases e:i=rows.length
  ·rw [z2l (by omega),e,List.drop_length];rfl
  ·have hi':i<rows.length:=by omega
   obtain⟨s,t⟩:=g (rows.getD i default) (z1i hi')
   obtain⟨k,m⟩: ∃ k:Nat,rows.getD i default=(k:Int):=⟨(rows.getD i default).toNat,by omega⟩
   have a:k<X.length:=by omega
   have hlen:=zlz (X.getD k default)
   have hrow:=h.toBx.row a
   have c:=zjf h a
   rw [z1z (by omega),jg (cu hi'),ig,m,uz (z9o h.toBx f a),uz (show wz N (kl (X.getD k default)) N 0 o=_ from zdd (N:=N) (l:=kl (X.getD k default)) N 0 o B (by omega) (Nat.zero_le _) (by omega) (by rw [d];exact c) j b (by omega)),jg (yz (by omega))]
   have hstep:=zdf (N:=N) h f g F (i+1) (addL o (kl (X.getD k default))) (B+(kl (X.getD k default)).length) n hi' (by omega) (by rw [zf2];exact d) (j.addL (by rw [d];exact c) b) (by omega) (by omega)
   have p:rows.drop i=rows.getD i default::rows.drop (i+1):=by
    rw [List.drop_eq_getElem_cons hi',z5a hi']
   rw [p,m]
   exact hstep
theorem zi2{N:Nat}{X:List (List Int)}{rows:List Int}(h:VX X)(a:5000≤N)(b: ∀ i∈rows,0≤i∧i<(X.length:Int))(d:rows.length≤100):au N ⟨X⟩ rows=some (z6y X rows (List.replicate (cols X) 0)):=by
 have e:=h.toBx.cols
 have c:=zdf (N:=N) h a b N 0 (List.replicate (cols X) 0) 0 (by omega) (Nat.zero_le _) (by omega) (List.length_replicate ..) (fun j=>by
  by_cases hj:j<cols X
  ·rw [z5a (by rw [List.length_replicate];exact hj),List.getElem_replicate];decide
  ·rw [zn0 (by rw [List.length_replicate];omega)];decide) (by decide) (by omega)
 unfold au
 rw [uz (z9c h.toBx (by omega)),jg ⟨by omega,by omega,by omega⟩,zef,uz (show vg N ⟨X⟩ rows N 0 (List.replicate (cols X) 0)=_ from c)]
 rfl
theorem zan{X:List (List Int)}: ∀ i∈z0j X,0≤i∧i<(X.length:Int):=fun i hi=>by
 obtain⟨k,a,rfl,_⟩:=z1f.1 hi
 omega
theorem ze3{N:Nat}{X:List (List Int)}(h:VX X)(a:5000≤N):z05 N ⟨X⟩=some (z6y X (z0j X) (List.replicate (cols X) 0),0):=by
 have b:=h.rows
 unfold z05
 rw [uz (zc6 h.toBx a),z9i h,z2l (by decide),uz (zf9 h.toBx a),uz (zi2 h a zan (Nat.le_trans (z4e _ _) b))]
def z6n(X:List (List Int))(c:Nat):Nat→Nat
 |0=>0
 |k+1=>z6n X c k+if z6g (X.getD k default) c then 1 else 0
theorem zeq{X:List (List Int)}{a b o:List Int}:z6y X (a++b) o=z6y X b (z6y X a o):=by simp [z6y,List.foldl_append]
theorem zfl{X:List (List Int)}(h:VX X){c:Nat}(a:c<cols X){o:List Int}(b:o.length=cols X): ∀ n,n≤X.length→(z6y X (lh (om X) n) o).getD c default=o.getD c default+(z6n X c n:Int)
 |0,_=>by simp [lh,z6y,z6n]
 |n+1,d=>by
  have ih:=zfl h a b n (by omega)
  have hn':n<X.length:=by omega
  unfold lh
  cases hb:om X n
  ·simp only [cond_false]
   rw [ih]
   have:z6g (X.getD n default) c=false:=z98 hb (by rw [h.len n hn'];exact a)
   simp only [z6n,this];simp
  ·simp only [cond_true]
   rw [zeq]
   show (addL (z6y X (lh (om X) n) o) (kl (X.getD ((n:Int)).toNat default))).getD c default=_
   rw [Int.toNat_natCast,zj2 (by rw [zeo,b];exact zjf h hn'),ih]
   unfold kl
   rw [z9b,h.len n hn']
   simp only [z6n]
   cases hk:z6g (X.getD n default) c<;>simp [a]<;>omega
/-! ### The reference-/
theorem zln{X:List (List Int)}(h:VX X){k j:Nat}(a:k<X.length)(b:j<(X.getD k default).length):decide (0≤(X.getD k default).getD j default)=z6g (X.getD k default) j:=by
 have:=h.cell k a j b
 unfold z6g
 by_cases e:(X.getD k default).getD j default= -1
 ·rw [e];rfl
 ·rw [decide_eq_true (show _ from e),decide_eq_true (by omega)]
theorem z8q{N:Nat}{X:List (List Int)}(h:VX X){k j:Nat}(a:k<X.length)(b:j<(X.getD k default).length):mf N ⟨X⟩ (k:Int) (j:Int)=some (z6g (X.getD k default) j):=by
 unfold mf
 rw [jg (cu a),jg (cu (by rw [ig];exact b)),←zln h a b];rfl
theorem z9j{N:Nat}{X:List (List Int)}(h:VX X)(e:5000≤N){k:Nat}(a:k<X.length):ed N ⟨X⟩ (k:Int)=some (om X k):=by
 have f:=h.toBx.row a
 have d:uk N ⟨X⟩ (k:Int) N 0=some (bif (List.range (X.getD k default).length).any (z6g (X.getD k default)) then Ex.rt true else Ex.go ()):=by
  refine z4r (fun F j=>uk N ⟨X⟩ (k:Int) F (j:Int)) (X.getD k default).length _ _ _ (fun F j b c=>?_) (fun F j b c=>?_) (fun F=>?_) (by omega)
  ·simp only [uk]
   rw [jg (cu a),z1z (by rw [ig];omega),uz (z8q h a b),c];rfl
  ·simp only [uk]
   rw [jg (cu a),z1z (by rw [ig];omega),uz (z8q h a b),c,cond_false,jg (yz (by omega))];rfl
  ·simp only [uk]
   rw [jg (cu a),z2l (by rw [ig];omega)]
 unfold ed
 rw [uz d]
 cases hk':om X k with
 |true=>rw [z3i.2 (zb8.1 hk')];rfl
 |false=>rw [ol.2 fun j b=>z98 hk' b];rfl
theorem zeh(X:List (List Int))(c:Nat): ∀ k,z6n X c k≤k
 |0=>Nat.le_refl _
 |k+1=>by have:=zeh X c k;unfold z6n;split<;>omega
theorem zi6{N:Nat}{X:List (List Int)}(h:VX X)(f:5000≤N){c:Nat}(b:c<cols X):l6 N ⟨X⟩ (c:Int)=some (z6n X c X.length:Int):=by
 have g:=h.rows
 have d:yg N ⟨X⟩ (c:Int) N 0 0=some (z6n X c X.length:Int):=by
  refine z3h (fun F k s=>yg N ⟨X⟩ (c:Int) F s (k:Int)) X.length (fun k=>(z6n X c k:Int)) _ (fun F k a=>?_) (fun F=>?_) (by omega)
  ·have e:=zeh X c k
   simp only [yg]
   rw [z1z (by omega),uz (z8q h a (by rw [h.len k a];exact b))]
   cases hb:z6g (X.getD k default) c
   ·rw [cond_false,z7r,jg (yz (by omega))]
    simp only [z6n,hb,Bool.false_eq_true,if_false,Nat.add_zero];rfl
   ·rw [cond_true,jg (yz (by omega)),z7r,jg (yz (by omega))]
    simp only [z6n,hb,if_true];rfl
  ·simp only [yg]
   rw [z2l (by omega)]
 unfold l6
 rw [uz d]
end GV
end Go.Proofs.Ytkhihcleegljhaa

namespace Go.Proofs.Ytkhihcleegljhaa
namespace GV
theorem zhb{α:Type}[Inhabited α]{l:List α}{q:α→Bool}:(List.range l.length).any (fun i=>q (l.getD i default))=l.any q:=by
 cases h:l.any q with
 |true=>
  obtain⟨x,a,b⟩:=List.any_eq_true.1 h
  obtain⟨i,hi,rfl⟩:=List.mem_iff_getElem.1 a
  exact z3i.2 ⟨i,hi,by rw [z5a hi];exact b⟩
 |false=>
  refine ol.2 fun k c=>?_
  have:=List.any_eq_false.1 h (l.getD k default) (z1i c)
  simpa using this
theorem zit{p:Nat→Bool}{q:Int→Bool}{n:Nat}:(lh p n).any q=(List.range n).any fun k=>p k&&q (k:Int):=by
 cases h:(lh p n).any q with
 |true=>
  obtain⟨x,a,b⟩:=List.any_eq_true.1 h
  obtain⟨i,c,rfl,d⟩:=z1f.1 a
  exact(z3i.2 ⟨i,c,by rw [d,b];rfl⟩).symm
 |false=>
  refine(ol.2 fun k e=>?_).symm
  cases hp:p k with
  |false=>rfl
  |true=>
   have:=List.any_eq_false.1 h (k:Int) (z1f.2 ⟨k,e,rfl,hp⟩)
   simpa using this
theorem za5{N:Nat}{s:List Int}{f:Int→Option Bool}{q:Int→Bool}(k:s.length<N)(l:s.length≤100000)(b: ∀ c∈s,f c=some (q c)):xh N s f=some (s.any q):=by
 have d: ∃ r,wh N s f N 0=some r∧((∃ i:Nat,r=Ex.rt (i:Int)∧s.any q=true)∨(r=Ex.go ()∧s.any q=false)):=by
  refine zc4 (σ:=Unit) (fun F i _=>wh N s f F (i:Int)) s.length (fun i _=> ∀ j,j<i→q (s.getD j default)=false) _ (fun F i u hi a=>?_) (fun F u a=>?_) N 0 () (Nat.zero_le _) (by omega) (fun j a=>absurd a (by omega))
  ·simp only [wh]
   rw [z1z (by omega),jg (cu hi),ig,b _ (z1i hi),z7r]
   cases hq:q (s.getD i default)
   ·right
    refine⟨(),fun j hj'=>?_,?_⟩
    ·by_cases e:j=i
     ·subst e;exact hq
     ·exact a j (by omega)
    ·rw [cond_false,jg (yz (by omega))];rfl
   ·left
    exact⟨_,by rw [cond_true],.inl ⟨i,rfl,List.any_eq_true.2 ⟨_,z1i hi,hq⟩⟩⟩
  ·simp only [wh]
   rw [z2l (by omega)]
   exact⟨_,rfl,.inr ⟨rfl,by rw [←zhb];exact ol.2 a⟩⟩
 obtain⟨r,g,h⟩:=d
 unfold xh fe
 rw [uz g]
 rcases h with⟨i,rfl,h⟩|⟨rfl,h⟩
 ·rw [zmb,z7r,h,decide_eq_true (by omega)]
 ·rw [zep,z7r,h];rfl
/-! ### Choices-/
def zk3(n:Nat)(l:List Int)(i:Nat):Bool:=(decide (ix l (i:Int)<0)||decide ((n:Int)≤ix l (i:Int)))||(decide (0<(i:Int))&&decide (ix l (i:Int)≤ix l ((i:Int)-1)))
def chB(n:Nat)(l:List Int):Bool:= !(List.range l.length).any (zk3 n l)
theorem zhj{n:Nat}{l:List Int}(h:chB n l=true): ∀ c∈l,0≤c∧c<(n:Int):=fun c a=>by
 obtain⟨i,hi,rfl⟩:=List.mem_iff_getElem.1 a
 unfold chB at h
 have:=ol.1 (by simpa using h) i hi
 unfold zk3 at this
 simp only [Bool.or_eq_false_iff,decide_eq_false_iff_not] at this
 rw [ig,z5a hi] at this
 omega
def lu(X:List (List Int))(l:List Int)(k:Nat):Bool:=l.any fun z=>z6g (X.getD k default) z.toNat
def z2y(X:List (List Int))(l:List Int):Bool:= !(List.range X.length).any fun k=>om X k&& !lu X l k
theorem zcs{N:Nat}{n:Nat}{l:List Int}(b:l.length<N)(d:l.length≤100000):xz N l (n:Int) N 0=some (bif (List.range l.length).any (zk3 n l) then Ex.rt (false,1) else Ex.go ()):=by
 refine z4r (fun F i=>xz N l (n:Int) F (i:Int)) l.length _ _ _ (fun F i hi a=>?_) (fun F i hi a=>?_) (fun F=>?_) b
 ·simp only [xz]
  rw [z1z (by omega),jg (cu hi),jg (fun h=>yz (by omega)),jg (fun h=>?_)]
  ·exact ct a
  ·have c:0<i:=by
    simp only [Bool.and_eq_true,beq_iff_eq,decide_eq_true_eq] at h
    omega
   exact⟨by omega,by omega⟩
 ·simp only [xz]
  rw [z1z (by omega),jg (cu hi),jg (fun h=>yz (by omega)),jg (fun h=>?_)]
  ·exact(cf a).trans (by rw [jg (yz (by omega))];rfl)
  ·have c:0<i:=by
    simp only [Bool.and_eq_true,beq_iff_eq,decide_eq_true_eq] at h
    omega
   exact⟨by omega,by omega⟩
 ·simp only [xz]
  rw [z2l (by omega)]
theorem z9z{N:Nat}{X:List (List Int)}{l:List Int}(h:VX X)(m:5000≤N)(w:l.length≤1000):ib N ⟨X⟩ l=some (bif chB (cols X) l then(z2y X l,0) else(false,1)):=by
 have x:=h.rows
 unfold ib
 rw [uz (zc6 h.toBx m),z9i h,z2l (by decide),uz (z9c h.toBx (by omega)),uz (zcs (n:=cols X) (by omega) (by omega))]
 unfold chB
 cases hb:(List.range l.length).any (zk3 (cols X) l) with
 |true=>rfl
 |false=>
  have o:=zhj (n:=cols X) (l:=l) (by unfold chB;rw [hb];rfl)
  rw [cond_false,zep,uz (zf9 h.toBx m)]
  have p:(z0j X).length≤X.length:=z4e _ _
  have r:xy N ⟨X⟩ l (z0j X) N 0=some (bif (List.range (z0j X).length).any (fun i=> !lu X l ((z0j X).getD i default).toNat) then Ex.rt (false,0) else Ex.go ()):=by
   refine z4r (fun F i=>xy N ⟨X⟩ l (z0j X) F (i:Int)) (z0j X).length _ _ _ (fun F i hi d=>?_) (fun F i hi d=>?_) (fun F=>?_) (by omega)
   ·obtain⟨s,t⟩:=zan (X:=X) _ (z1i hi)
    obtain⟨k,f⟩: ∃ k:Nat,(z0j X).getD i default=(k:Int):=⟨((z0j X).getD i default).toNat,by omega⟩
    have a:k<X.length:=by omega
    simp only [xy]
    rw [z1z (by omega),jg (cu hi)]
    have b:xh N l (fun g=>ak N g ⟨X⟩ (ix (z0j X) (i:Int)))=some (lu X l k):=by
     refine za5 (by omega) (by omega) fun c b=>?_
     obtain⟨u,v⟩:=o c b
     obtain⟨j,rfl⟩: ∃ j:Nat,c=(j:Int):=⟨c.toNat,by omega⟩
     unfold ak
     rw [ig,f,uz (zc5 a (by rw [h.len k a];omega))];rfl
    rw [f,Int.toNat_natCast] at d
    rw [uz b]
    exact ct d
   ·obtain⟨s,t⟩:=zan (X:=X) _ (z1i hi)
    obtain⟨k,f⟩: ∃ k:Nat,(z0j X).getD i default=(k:Int):=⟨((z0j X).getD i default).toNat,by omega⟩
    have a:k<X.length:=by omega
    simp only [xy]
    rw [z1z (by omega),jg (cu hi)]
    have b:xh N l (fun g=>ak N g ⟨X⟩ (ix (z0j X) (i:Int)))=some (lu X l k):=by
     refine za5 (by omega) (by omega) fun c b=>?_
     obtain⟨u,v⟩:=o c b
     obtain⟨j,rfl⟩: ∃ j:Nat,c=(j:Int):=⟨c.toNat,by omega⟩
     unfold ak
     rw [ig,f,uz (zc5 a (by rw [h.len k a];omega))];rfl
    rw [f,Int.toNat_natCast] at d
    rw [uz b]
    exact(cf d).trans (by rw [jg (yz (by omega))];rfl)
   ·simp only [xy]
    rw [z2l (by omega)]
  rw [uz r]
  have e:(List.range (z0j X).length).any (fun i=> !lu X l ((z0j X).getD i default).toNat)=(List.range X.length).any fun k=>om X k&& !lu X l k:=by
   rw [zhb (l:=z0j X) (q:=fun c=> !lu X l c.toNat)]
   unfold z0j
   rw [zit];rfl
  rw [e]
  unfold z2y
  cases (List.range X.length).any fun k=>om X k&& !lu X l k<;>rfl
theorem zgn{N:Nat}{X:List (List Int)}{l:List Int}(h:VX X)(f:5000≤N)(p:l.length≤1000)(g: ∀ c∈l,0≤c∧c<(cols X:Int)):rz N ⟨X⟩ l=some (z2y X l):=by
 have q:=h.rows
 have d: ∀ k,k<X.length→ ∀ b,wu N ⟨X⟩ l (k:Int) N b 0=some (b||lu X l k):=by
  intro k a b
  refine ze2 (fun F i s=>wu N ⟨X⟩ l (k:Int) F s (i:Int)) l.length (fun i s=>s=(b||(l.take i).any fun z=>z6g (X.getD k default) z.toNat)) _ (fun F i s hi e=> .inr ?_) (fun F s e=>?_) N 0 b (Nat.zero_le _) (by omega) (by simp)
  ·refine⟨s||z6g (X.getD k default) (l.getD i default).toNat,?_,?_⟩
   ·rw [e,List.take_add_one,List.getElem?_eq_getElem hi,List.any_append,z5a hi];simp [Bool.or_assoc]
   ·obtain⟨r,t⟩:=g (l.getD i default) (z1i hi)
    obtain⟨j,m⟩: ∃ j:Nat,l.getD i default=(j:Int):=⟨(l.getD i default).toNat,by omega⟩
    simp only [wu]
    rw [z1z (by omega),jg (fun _=>cu hi),ig,m,zm1 (fun _=>z8q h a (by rw [h.len k a];omega)),jg (yz (by omega)),Int.toNat_natCast]
    cases s<;>simp
  ·simp only [wu]
   rw [z2l (by omega),e,List.take_length];rfl
 have n:um N ⟨X⟩ l N 0=some (bif (List.range X.length).any (fun k=>om X k&& !lu X l k) then Ex.rt false else Ex.go ()):=by
  refine z4r (fun F k=>um N ⟨X⟩ l F (k:Int)) X.length _ _ _ (fun F k a o=>?_) (fun F k a o=>?_) (fun F=>?_) (by omega)
  ·simp only [um]
   rw [z1z (by omega),uz (z9j h f a),uz (d k a _)]
   refine ct ?_
   cases hk1:om X k<;>cases hk2:lu X l k<;>simp_all
  ·simp only [um]
   rw [z1z (by omega),uz (z9j h f a),uz (d k a _)]
   refine(cf ?_).trans (by rw [jg (yz (by omega))];rfl)
   cases hk1:om X k<;>cases hk2:lu X l k<;>simp_all
  ·simp only [um]
   rw [z2l (by omega)]
 unfold rz
 rw [uz n]
 unfold z2y
 cases (List.range X.length).any fun k=>om X k&& !lu X l k<;>rfl
/-! ### The plain data-/
def z5f(r:Int)(k:Nat):Int:=min (if af r (k:Int)%2=1 then af r 8+(k:Int) else-1) 255
def zfp(n:Nat)(r:Int):List Int:=(List.range n).map (z5f r)
def z6w(x:Sb):List (List Int):=(List.range (min x.fC.length 20)).map fun i=>zfp (x.fE%7).toNat (x.fC.getD i default)
structure QOk (x:Sb):Prop where
 cols:0≤x.fE∧x.fE≤255
 rows: ∀ k,k<x.fC.length→0≤x.fC.getD k default∧x.fC.getD k default≤65535
theorem zbk{x y:Int}(h:0≤x):0≤af x y:=by
 unfold af
 exact Int.fdiv_nonneg h (Int.le_of_lt (Int.pow_pos (by decide)))
theorem zki{x y:Int}(h:0≤x):af x y≤x:=by
 unfold af
 rw [Int.fdiv_eq_ediv_of_nonneg _ (Int.le_of_lt (Int.pow_pos (by decide)))]
 exact Int.ediv_le_self _ h
theorem zls{N:Nat}{x:Sb}(f:QOk x)(o:100≤N):lq N x=some ⟨z6w x⟩:=by
 have g:=f.cols
 have h:0≤x.fE%7:=Int.emod_nonneg _ (by decide)
 have j:x.fE%7<7:=Int.emod_lt_of_pos _ (by decide)
 obtain⟨n,l⟩: ∃ n:Nat,x.fE%7=(n:Int):=⟨(x.fE%7).toNat,by omega⟩
 have b: ∀ i,i<x.fC.length→uo N x (i:Int) N 0 []=some (zfp n (x.fC.getD i default)):=by
  intro i hi
  obtain⟨c,p⟩:=f.rows i hi
  refine z3h (fun F k s=>uo N x (i:Int) F (k:Int) s) n (fun k=>(List.range k).map (z5f (x.fC.getD i default))) _ (fun F k q=>?_) (fun F=>?_) (by omega)
  ·simp only [uo]
   have m:0≤af (x.fC.getD i default) (k:Int):=zbk c
   have r:0≤af (x.fC.getD i default) 8:=zbk c
   have t:af (x.fC.getD i default) 8≤x.fC.getD i default:=zki c
   have hbody:(bd (gd (okI x.fC (i:Int))<|gd (okSh .u16 (k:Int))<|gd (okR (af (ix x.fC (i:Int)) (k:Int)) 2)<|bif decide ((af (ix x.fC (i:Int)) (k:Int))%2=1) then
    (gd (okI x.fC (i:Int))<|gd (okSh .u16 (8:Int))<|gd (in64 (af (ix x.fC (i:Int)) (8:Int)))<|gd (in64 ((af (ix x.fC (i:Int)) (8:Int))+(k:Int)))<|some ((af (ix x.fC (i:Int)) (8:Int))+(k:Int))) else some (-1))
    fun a=>gd (fits 8 ((List.range k).map (z5f (x.fC.getD i default))) ([min a 255]:List Int))<|gd (in64 ((k:Int)+1))<|uo N x (i:Int) F ((k:Int)+1) ((List.range k).map (z5f (x.fC.getD i default))++([min a 255]:List Int)))=uo N x (i:Int) F ((k:Int)+1) ((List.range (k+1)).map (z5f (x.fC.getD i default))):=by
    rw [jg (cu hi),jg ⟨by omega,by show (k:Int)≤16;omega⟩,jg ⟨by rw [ig];exact m,by decide⟩]
    have hlast:(List.range (k+1)).map (z5f (x.fC.getD i default))=(List.range k).map (z5f (x.fC.getD i default))++[z5f (x.fC.getD i default) k]:=by rw [List.range_succ,List.map_append];rfl
    by_cases hb:af (ix x.fC (i:Int)) (k:Int)%2=1
    ·rw [z1z hb,jg (cu hi),jg ⟨by decide,by decide⟩,jg (yz (by rw [ig];omega)),jg (yz (by rw [ig];omega)),z7r,jg ⟨by simp only [List.length_singleton,List.length_map,List.length_range];omega,by simp only [List.length_singleton,List.length_map,List.length_range];omega⟩,jg (yz (by omega)),hlast,show z5f (x.fC.getD i default) k=min (af (x.fC.getD i default) 8+(k:Int)) 255 from by unfold z5f;rw [if_pos (show af (x.fC.getD i default) (k:Int)%2=1 from hb)]];rfl
    ·rw [z2l hb,z7r,jg ⟨by simp only [List.length_singleton,List.length_map,List.length_range];omega,by simp only [List.length_singleton,List.length_map,List.length_range];omega⟩,jg (yz (by omega)),hlast,show z5f (x.fC.getD i default) k=min (-1) 255 from by unfold z5f;rw [if_neg (show¬af (x.fC.getD i default) (k:Int)%2=1 from hb)]]
   rw [jg ⟨g.1,by decide⟩,jg (yz (by omega)),z1z (by omega)]
   exact hbody
  ·simp only [uo]
   rw [jg ⟨g.1,by decide⟩,jg (yz (by omega)),z2l (by omega)];rfl
 have d:xc N x N 0 []=some (z6w x):=by
  refine z3h (fun F i s=>xc N x F (i:Int) s) (min x.fC.length 20) (fun i=>(List.range i).map fun i=>zfp n (x.fC.getD i default)) _ (fun F i hi=>?_) (fun F=>?_) (by omega)
  ·simp only [xc]
   rw [ct (by rw [decide_eq_true (by omega),decide_eq_true (by omega)];rfl),uz (b i (by omega)),jg ⟨by simp only [List.length_singleton,List.length_map,List.length_range];omega,by simp only [List.length_singleton,List.length_map,List.length_range];omega⟩,jg (yz (by omega)),List.range_succ,List.map_append];rfl
  ·simp only [xc]
   refine(cf ?_).trans (by unfold z6w;rw [l,Int.toNat_natCast])
   by_cases e:x.fC.length≤20
   ·rw [decide_eq_false (by omega)];rfl
   ·rw [Bool.and_eq_false_iff];right;exact decide_eq_false (by omega)
 unfold lq
 rw [uz d]
theorem zeu{x:Sb}:(z6w x).length=min x.fC.length 20:=by simp [z6w]
theorem zfd{x:Sb}{k:Nat}(a:k<(z6w x).length):(z6w x).getD k default=zfp (x.fE%7).toNat (x.fC.getD k default):=by
 rw [z5a a];simp [z6w]
theorem zfi{n:Nat}{r:Int}:(zfp n r).length=n:=by simp [zfp]
theorem zjx{n:Nat}{r:Int}{j:Nat}(a:j<n):(zfp n r).getD j default=z5f r j:=by
 rw [z5a (by rw [zfi];exact a)];simp [zfp]
theorem zcl{X:List (List Int)}{m:Nat}: ∀ n,(∀ k,k<n→(X.getD k default).length=m)→z6v X n=n*m
 |0,_=>by simp [z6v]
 |n+1,h=>by
  unfold z6v
  rw [zcl n fun k a=>h k (by omega),h n (by omega),Nat.succ_mul]
theorem zkb{x:Sb}(d:QOk x):VX (z6w x)∧(z6w x).length≤20∧cols (z6w x)≤6:=by
 have e:0≤x.fE%7:=Int.emod_nonneg _ (by decide)
 have f:x.fE%7<7:=Int.emod_lt_of_pos _ (by decide)
 have b:(z6w x).length≤20:=by rw [zeu];omega
 have hrow: ∀ k,k<(z6w x).length→((z6w x).getD k default).length=(x.fE%7).toNat:=fun k a=>by rw [zfd a,zfi]
 have hcol:cols (z6w x)=if(z6w x).length=0 then 0 else(x.fE%7).toNat:=zcj _ hrow
 have htot:tot (z6w x)=(z6w x).length*(x.fE%7).toNat:=zcl _ hrow
 have hmul:(z6w x).length*(x.fE%7).toNat≤20*6:=Nat.mul_le_mul b (by omega)
 refine⟨⟨⟨by omega,by omega⟩,fun k a=>?_,fun k a j c=>?_⟩,b,by rw [hcol];split<;>omega⟩
 ·rw [hrow k a,hcol,if_neg (by omega)]
 ·rw [hrow k a] at c
  rw [zfd a,zjx c]
  have g:=d.rows k (by rw [zeu] at a;omega)
  have h:0≤af (x.fC.getD k default) 8:=zbk g.1
  unfold z5f
  split<;>omega
end GV
end Go.Proofs.Ytkhihcleegljhaa
