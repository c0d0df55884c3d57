
import Derived.Test.YtkhihcleegljhaaGreatShPlain
import Derived.Test.YtkhihcleegljhaaGreatShPl
set_option linter.unusedVariables false
set_option linter.unusedSimpArgs false
namespace Go.Proofs.YtkhihcleegljhaaGreat
namespace GV
theorem z9z{x:Int}(h: -4611686018427387904≤x∧x≤4611686018427387904):IntKind.i64.wrap x=x:=by
 simp [IntKind.wrap,IntKind.signed,IntKind.bits];omega
theorem z0b{σ ρ:Type}(L:Nat→Nat→σ→Option ρ)(n:Nat)(st:Nat→σ)(r:ρ)(step: ∀ F k,k<n→L (F+1) k (st k)=L F (k+1) (st (k+1)))(fin: ∀ F,L (F+1) n (st n)=some r){F:Nat}(c:n<F):L F 0 (st 0)=some r:=
 zfj L n (fun k s=>s=st k) r (fun F k s b a=> .inr ⟨st (k+1),rfl,by rw [a];exact step F k b⟩) (fun F s a=>by rw [a];exact fin F) F 0 (st 0) (Nat.zero_le _) (by omega) rfl
theorem z5w{ρ:Type}(L:Nat→Nat→Option ρ)(n:Nat)(p:Nat→Bool)(d f:ρ)(b: ∀ F k,k<n→p k=true→L (F+1) k=some f)(skip: ∀ F k,k<n→p k=false→L (F+1) k=L F (k+1))(fin: ∀ F,L (F+1) n=some d){F:Nat}(h:n<F):
 L F 0=some (bif (List.range n).any p then f else d):=by
 refine zfj (σ:=Unit) (fun F k _=>L F k) n (fun k _=> ∀ j,j<k→p j=false) _ (fun F k s a c=>?_) (fun F s c=>?_) F 0 () (Nat.zero_le _) (by omega) (fun j g=>absurd g (by omega))
 ·cases hp:p k with
  |true=>
   left
   have:(List.range n).any p=true:=by rw [List.any_eq_true];exact⟨k,List.mem_range.2 a,hp⟩
   rw [this];exact b F k a hp
  |false=>
   right
   refine⟨(),fun j g=>?_,skip F k a hp⟩
   by_cases e:j=k
   ·subst e;exact hp
   ·exact c j (by omega)
 ·have:(List.range n).any p=false:=by rw [List.any_eq_false];intro k a;rw [c k (List.mem_range.1 a)];simp
  rw [this];exact fin F
theorem ah{n:Nat}{p:Nat→Bool}:(List.range n).any p=false↔ ∀ k,k<n→p k=false:=by
 rw [List.any_eq_false]
 exact⟨fun h k a=>by have:=h k (List.mem_range.2 a);simpa using this,fun h k a=>by rw [h k (List.mem_range.1 a)];simp⟩
theorem ae{n:Nat}{p:Nat→Bool}:(List.range n).any p=true↔ ∃ k,k<n∧p k=true:=by
 rw [List.any_eq_true]
 exact⟨fun⟨k,a,b⟩=>⟨k,List.mem_range.1 a,b⟩,fun⟨k,a,b⟩=>⟨k,List.mem_range.2 a,b⟩⟩
/-! ### What is reckoned-/
def zac(X:List (List Int)):Nat→Nat
 |0=>0
 |k+1=>max (zac X k) (X.getD k default).length
def z9q(X:List (List Int)):Nat→Nat
 |0=>0
 |k+1=>z9q X k+(X.getD k default).length
def cols(X:List (List Int)):Nat:=zac X X.length
def tot(X:List (List Int)):Nat:=z9q X X.length
def zab(v:Int):Bool:= !(decide (v< -1))&& !(decide (256≤v))
def zeh(n:Nat)(r:List Int):Bool:=decide (r.length=n)&&(List.range r.length).all fun j=>zab (r.getD j default)
def zmz(X:List (List Int)):Bool:=(List.range X.length).all fun k=>zeh (cols X) (X.getD k default)
def zmy(X:List (List Int)):Int:=bif zmz X then 0 else 1
structure Bx (X:List (List Int)):Prop where
 rows:X.length≤100
 tot:tot X≤3000
theorem zgg{X:List (List Int)}: ∀ n k,k<n→(X.getD k default).length≤z9q X n
 |n+1,k,h=>by
  unfold z9q
  by_cases e:k=n
  ·subst e;omega
  ·have:=zgg (X:=X) n k (by omega);omega
theorem zf5{X:List (List Int)}: ∀ n k,k≤n→z9q X k≤z9q X n
 |0,k,h=>by
  have:k=0:=by omega
  subst this;exact Nat.le_refl _
 |n+1,k,h=>by
  by_cases e:k=n+1
  ·subst e;exact Nat.le_refl _
  ·have:=zf5 (X:=X) n k (by omega)
   have a:z9q X (n+1)=z9q X n+(X.getD n default).length:=rfl
   omega
theorem zgi{X:List (List Int)}: ∀ n,zac X n≤z9q X n
 |0=>Nat.le_refl _
 |n+1=>by have:=zgi (X:=X) n;unfold zac z9q;omega
theorem zgd{X:List (List Int)}{m:Nat}: ∀ n,(∀ k,k<n→(X.getD k default).length=m)→zac X n=if n=0 then 0 else m
 |0,_=>rfl
 |n+1,h=>by
  unfold zac
  rw [zgd n fun k a=>h k (by omega),h n (by omega),if_neg (Nat.succ_ne_zero n)]
  split<;>omega
theorem Bx.row{X:List (List Int)}(h:Bx X){k:Nat}(a:k<X.length):(X.getD k default).length≤3000:=Nat.le_trans (zgg _ _ a) h.tot
theorem Bx.cols{X:List (List Int)}(h:Bx X):cols X≤3000:=Nat.le_trans (zgi _) h.tot
/-! ### columns-/
theorem z8q{N:Nat}{X:List (List Int)}(h:Bx X)(c:200≤N):gu N ⟨X⟩=some (cols X:Int):=by
 have d:=h.rows
 have a:wu N ⟨X⟩ N 0 0=some (cols X:Int):=by
  refine z0b (fun F k s=>wu N ⟨X⟩ F s (k:Int)) X.length (fun k=>(zac X k:Int)) _ (fun F k b=>?_) (fun F=>?_) (by omega)
  ·simp only [wu]
   rw [di (by omega),zl (wh b),zl (jf (by omega)),ma]
   congr 1
   simp only [zac];omega
  ·simp only [wu]
   rw [p9 (by omega)];rfl
 unfold gu
 rw [qf a]
theorem z2u{N:Nat}{X:List (List Int)}(h:Bx X)(c:200≤N):o8 N ⟨X⟩=some (cols X:Int):=by
 have d:=h.rows
 have a:xm N ⟨X⟩ N 0 0=some (cols X:Int):=by
  refine z0b (fun F k s=>xm N ⟨X⟩ F s (k:Int)) X.length (fun k=>(zac X k:Int)) _ (fun F k b=>?_) (fun F=>?_) (by omega)
  ·simp only [xm]
   rw [di (by omega),zl (wh b),zl (jf (by omega)),ma]
   congr 1
   simp only [zac];omega
  ·simp only [xm]
   rw [p9 (by omega)];rfl
 unfold o8
 rw [qf a]
/-! ### Check-/
theorem zbb{N:Nat}{X:List (List Int)}(h:Bx X)(m:5000≤N):ll N ⟨X⟩=some (zmy X):=by
 have n:=h.rows
 have o:=h.tot
 have p:=h.cols
 have i:ax N ⟨X⟩ N 0 0=some (tot X:Int):=by
  refine z0b (fun F k s=>ax N ⟨X⟩ F s (k:Int)) X.length (fun k=>(z9q X k:Int)) _ (fun F k b=>?_) (fun F=>?_) (by omega)
  ·have q:z9q X (k+1)≤tot X:=zf5 _ _ b
   have hm':z9q X (k+1)=z9q X k+(X.getD k default).length:=rfl
   simp only [ax]
   rw [di (by omega),zl (wh b),ma,z9z (by omega),z9z (by omega)]
   congr 1
  ·simp only [ax]
   rw [p9 (by omega)];rfl
 have g: ∀ k,k<X.length→oq N ⟨X⟩ (k:Int) N 0=some (bif (List.range (X.getD k default).length).any (fun j=> !zab ((X.getD k default).getD j default)) then Ex.rt (Ex.rt 1) else Ex.go ()):=by
  intro k b
  have r:=h.row b
  refine z5w (fun F j=>oq N ⟨X⟩ (k:Int) F (j:Int)) (X.getD k default).length _ _ _ (fun F j d a=>?_) (fun F j d a=>?_) (fun F=>?_) (by omega)
  ·simp only [oq]
   rw [di (by rw [ma];omega),zl (wh (by rw [ma];exact d))]
   have a:(!zab (ix (ix X (k:Int)) (j:Int)))=true:=a
   simp only [zab] at a
   by_cases e:ix (ix X (k:Int)) (j:Int)< -1
   ·rw [di e];rfl
   ·rw [p9 e]
    by_cases f:256≤ix (ix X (k:Int)) (j:Int)
    ·rw [di f];rfl
    ·simp [e,f] at a
  ·simp only [oq]
   rw [di (by rw [ma];omega),zl (wh (by rw [ma];exact d))]
   have a:(!zab (ix (ix X (k:Int)) (j:Int)))=false:=a
   simp only [zab] at a
   have e: ¬ix (ix X (k:Int)) (j:Int)< -1:=by intro e;simp [e] at a
   have f: ¬256≤ix (ix X (k:Int)) (j:Int):=by intro f;simp [f] at a
   rw [p9 e,p9 f,z1j,zkk,z1j,zfe,z9z (by omega)];rfl
  ·simp only [oq]
   rw [p9 (by rw [ma];omega)]
 have l:oo N ⟨X⟩ (cols X:Int) N 0=some (bif (List.range X.length).any (fun k=> !zeh (cols X) (X.getD k default)) then Ex.rt 1 else Ex.go ()):=by
  refine z5w (fun F k=>oo N ⟨X⟩ (cols X:Int) F (k:Int)) X.length _ _ _ (fun F k b a=>?_) (fun F k b a=>?_) (fun F=>?_) (by omega)
  ·simp only [oo]
   rw [di (by omega),zl (wh b),ma]
   by_cases hl:(X.getD k default).length=cols X
   ·have hany:(List.range (X.getD k default).length).any (fun j=> !zab ((X.getD k default).getD j default))=true:=by
     simp only [zeh,hl,decide_true,Bool.true_and,Bool.not_eq_true',List.all_eq_false] at a
     obtain⟨j,d,c⟩:=a
     rw [List.any_eq_true]
     exact⟨j,by rw [hl];exact d,by simpa using c⟩
    rw [p9 (by omega),g k b,hany];rfl
   ·rw [di (by omega)];rfl
  ·simp only [oo]
   rw [di (by omega),zl (wh b),ma]
   simp only [zeh,Bool.not_eq_false',Bool.and_eq_true,decide_eq_true_eq,List.all_eq_true] at a
   have hany:(List.range (X.getD k default).length).any (fun j=> !zab ((X.getD k default).getD j default))=false:=by
    rw [List.any_eq_false];intro j d;rw [a.2 j d];simp
   rw [p9 (by omega),g k b,hany,cond_false,z1j,zfe,z9z (by omega)];rfl
  ·simp only [oo]
   rw [p9 (by omega)]
 unfold ll
 rw [qf (z8q h (by omega)),qf i]
 rw [cf (by rw [decide_eq_false (by show¬(4096:Int)<(X.length:Int);omega),decide_eq_false (by omega),decide_eq_false (by omega)];rfl),qf l]
 unfold zmy zmz
 cases c:(List.range X.length).all (fun k=>zeh (cols X) (X.getD k default)) with
 |true=>
  have:(List.range X.length).any (fun k=> !zeh (cols X) (X.getD k default))=false:=by
   rw [List.any_eq_false];intro k b;rw [List.all_eq_true] at c;rw [c k b];simp
  rw [this];rfl
 |false=>
  have:(List.range X.length).any (fun k=> !zeh (cols X) (X.getD k default))=true:=by
   rw [List.all_eq_false] at c;obtain⟨k,b,c⟩:=c;rw [List.any_eq_true];exact⟨k,b,by simpa using c⟩
  rw [this];rfl
/-! ### What a valid matrix is-/
structure VX (X:List (List Int)):Prop extends Bx X where
 len: ∀ k,k<X.length→(X.getD k default).length=_root_.Go.Proofs.YtkhihcleegljhaaGreat.GV.cols X
 cell: ∀ k,k<X.length→ ∀ j,j<(X.getD k default).length→ -1≤(X.getD k default).getD j default∧(X.getD k default).getD j default≤255
theorem zp1{X:List (List Int)}(h:Bx X):zmz X=true↔VX X:=by
 unfold zmz
 rw [List.all_eq_true]
 constructor
 ·intro b
  refine⟨h,fun k a=>?_,fun k a j c=>?_⟩
  ·have:=b k (List.mem_range.2 a)
   simp only [zeh,Bool.and_eq_true,decide_eq_true_eq] at this
   exact this.1
  ·have:=b k (List.mem_range.2 a)
   simp only [zeh,Bool.and_eq_true,decide_eq_true_eq,List.all_eq_true] at this
   have:=this.2 j (List.mem_range.2 c)
   simp only [zab,Bool.and_eq_true,Bool.not_eq_true',decide_eq_false_iff_not] at this
   omega
 ·intro b k a
  have a:=List.mem_range.1 a
  simp only [zeh,Bool.and_eq_true,decide_eq_true_eq,List.all_eq_true]
  refine⟨b.len k a,fun j c=>?_⟩
  have:=b.cell k a j (List.mem_range.1 c)
  simp only [zab,Bool.and_eq_true,Bool.not_eq_true',decide_eq_false_iff_not]
  omega
theorem z8t{X:List (List Int)}(h:VX X):zmy X=0:=by unfold zmy;rw [(zp1 h.toBx).2 h];rfl
/-! ### Killers-/
def z1k(r:List Int)(j:Nat):Bool:=decide (r.getD j default≠ -1)
def aj(p:Nat→Bool):Nat→List Int
 |0=>[]
 |j+1=>bif p j then aj p j++[(j:Int)] else aj p j
def kl(r:List Int):List Int:=aj (z1k r) r.length
theorem z1u(p:Nat→Bool): ∀ j,(aj p j).length≤j
 |0=>Nat.le_refl _
 |j+1=>by
  have:=z1u p j
  unfold aj
  cases p j
  ·simp only [cond_false];omega
  ·simp only [cond_true,List.length_append,List.length_singleton];omega
theorem ay{p:Nat→Bool}{c:Int}: ∀ {j:Nat},c∈aj p j↔ ∃ i:Nat,i<j∧c=i∧p i=true
 |0=>⟨fun h=>absurd h (by simp [aj]),fun⟨i,h,_⟩=>absurd h (by omega)⟩
 |j+1=>by
  unfold aj
  cases hb:p j
  ·simp only [cond_false]
   rw [ay (j:=j)]
   constructor
   ·rintro⟨i,d,a⟩;exact⟨i,by omega,a⟩
   ·rintro⟨i,d,a,b⟩
    have:i≠j:=fun e=>by subst e;rw [hb] at b;cases b
    exact⟨i,by omega,a,b⟩
  ·simp only [cond_true,List.mem_append,List.mem_singleton]
   rw [ay (j:=j)]
   constructor
   ·rintro(⟨i,d,a⟩|rfl)
    ·exact⟨i,by omega,a⟩
    ·exact⟨j,by omega,rfl,hb⟩
   ·rintro⟨i,d,a,b⟩
    by_cases e:i=j
    ·subst e;exact .inr a
    ·exact .inl ⟨i,by omega,a,b⟩
theorem zmc{p:Nat→Bool}{n:Nat}:(aj p n).length=0↔ ∀ j,j<n→p j=false:=by
 rw [List.length_eq_zero_iff,List.eq_nil_iff_forall_not_mem]
 constructor
 ·intro h j b
  cases hp:p j with
  |false=>rfl
  |true=>exact absurd (ay.2 ⟨j,b,rfl,hp⟩) (h j)
 ·intro h c d
  obtain⟨i,e,_,a⟩:=ay.1 d
  rw [h i e] at a;cases a
theorem z9s{N:Nat}{X:List (List Int)}{k j:Nat}(a:k<X.length)(b:j<(X.getD k default).length):ak N ⟨X⟩ (k:Int) (j:Int)=some (z1k (X.getD k default) j):=by
 unfold ak
 rw [zl (wh a),zl (wh (by rw [ma];exact b))];rfl
theorem z8n{N:Nat}{X:List (List Int)}(h:Bx X)(d:5000≤N){k:Nat}(a:k<X.length):yh N ⟨X⟩ (k:Int)=some (kl (X.getD k default)):=by
 have e:=h.row a
 have b:vg N ⟨X⟩ (k:Int) N [] 0=some (kl (X.getD k default)):=by
  refine z0b (fun F j s=>vg N ⟨X⟩ (k:Int) F s (j:Int)) (X.getD k default).length (fun j=>aj (z1k (X.getD k default)) j) _ (fun F j c=>?_) (fun F=>?_) (by omega)
  ·have f:=z1u (z1k (X.getD k default)) j
   simp only [vg]
   rw [di (by rw [ma];omega),z9s a c,z1j]
   cases hb:z1k (X.getD k default) j
   ·rw [cond_false,z1j,zl (jf (by omega))]
    simp only [aj,hb,cond_false];rfl
   ·rw [cond_true,zl ⟨by simp only [List.length_singleton];omega,by simp only [List.length_singleton];omega⟩,z1j,zl (jf (by omega))]
    simp only [aj,hb,cond_true];rfl
  ·simp only [vg]
   rw [p9 (by rw [ma];omega)];rfl
 unfold yh
 rw [zl (wh a),qf b]
end GV
end Go.Proofs.YtkhihcleegljhaaGreat

namespace Go.Proofs.YtkhihcleegljhaaGreat
namespace GV
theorem z6r{α:Type}{X:List α}{i:Nat}{d:α}(h:i<X.length):X.getD i d=X[i]:=by rw [List.getD_eq_getElem?_getD,List.getElem?_eq_getElem h];rfl
theorem zqq{α:Type}{X:List α}{i:Nat}{d:α}(h:X.length≤i):X.getD i d=d:=by rw [List.getD_eq_getElem?_getD,List.getElem?_eq_none h];rfl
end GV
end Go.Proofs.YtkhihcleegljhaaGreat

namespace Go.Proofs.YtkhihcleegljhaaGreat
namespace GV
def l8(X:List (List Int))(k:Nat):Bool:=decide (0<(kl (X.getD k default)).length)
theorem z4a{X:List (List Int)}{k:Nat}:l8 X k=true↔ ∃ j,j<(X.getD k default).length∧z1k (X.getD k default) j=true:=by
 unfold l8
 rw [decide_eq_true_eq]
 constructor
 ·intro h
  cases hs:(List.range (X.getD k default).length).any (z1k (X.getD k default)) with
  |true=>exact ae.1 hs
  |false=>have:=zmc.2 (ah.1 hs);unfold kl at h;omega
 ·rintro⟨j,a,b⟩
  exact List.length_pos_of_mem (ay.2 ⟨j,a,rfl,b⟩)
theorem zej{X:List (List Int)}{k:Nat}(h:l8 X k=false){j:Nat}(a:j<(X.getD k default).length):z1k (X.getD k default) j=false:=by
 cases hb:z1k (X.getD k default) j with
 |false=>rfl
 |true=>rw [z4a.2 ⟨j,a,hb⟩] at h;cases h
/-! ### rows-/
theorem zn0{N:Nat}{X:List (List Int)}{is:Int→Option Bool}{p:Nat→Bool}(h:Bx X)(d:5000≤N)(a: ∀ k,k<X.length→is (k:Int)=some (p k)):ow N ⟨X⟩ is=some (aj p X.length):=by
 have e:=h.rows
 have b:gm N ⟨X⟩ is N [] 0=some (aj p X.length):=by
  refine z0b (fun F k s=>gm N ⟨X⟩ is F s (k:Int)) X.length (fun k=>aj p k) _ (fun F k c=>?_) (fun F=>?_) (by omega)
  ·have f:=z1u p k
   simp only [gm]
   rw [di (by omega),a k c,z1j]
   cases hb:p k
   ·rw [cond_false,z1j,zl (jf (by omega))]
    simp only [aj,hb,cond_false];rfl
   ·rw [cond_true,zl ⟨by simp only [List.length_singleton];omega,by simp only [List.length_singleton];omega⟩,z1j,zl (jf (by omega))]
    simp only [aj,hb,cond_true];rfl
  ·simp only [gm]
   rw [p9 (by omega)]
 unfold ow
 rw [qf b]
theorem zez{N:Nat}{X:List (List Int)}(h:Bx X)(a:5000≤N){k:Nat}(b:k<X.length):xg N ⟨X⟩ (k:Int)=some (l8 X k):=by
 unfold xg
 rw [qf (z8n h a b)]
 unfold l8
 by_cases hh:0<(kl (X.getD k default)).length
 ·rw [decide_eq_true (by omega),decide_eq_true hh]
 ·rw [decide_eq_false (by omega),decide_eq_false hh]
def z0s(X:List (List Int)):List Int:=aj (l8 X) X.length
theorem zg8{N:Nat}{X:List (List Int)}(h:Bx X)(a:5000≤N):ow N ⟨X⟩ (fun b=>xg N ⟨X⟩ b)=some (z0s X):=zn0 h a fun k c=>zez h a c
/-! ### counts-/
def incr(o:List Int)(c:Int):List Int:=o.set c.toNat (o.getD c.toNat default+1)
def addL(o l:List Int):List Int:=l.foldl incr o
theorem zbc{o:List Int}{c:Int}:(incr o c).length=o.length:=by simp [incr]
theorem zh9{l:List Int}: ∀ {o:List Int},(addL o l).length=o.length:=by
 induction l with
 |nil=>intro o;rfl
 |cons c l ih=>intro o;show (addL (incr o c) l).length=_;rw [ih,zbc]
theorem zhc{o:List Int}{c:Int}{j:Nat}(a:c.toNat<o.length):(incr o c).getD j default=o.getD j default+(if j=c.toNat then 1 else 0):=by
 unfold incr
 rw [z3j a]
 by_cases e:j=c.toNat
 ·rw [if_pos e,if_pos e,e]
 ·rw [if_neg e,if_neg e];omega
theorem zlt{l:List Int}: ∀ {o:List Int} {j:Nat},(∀ c∈l,0≤c∧c<o.length)→(addL o l).getD j default=o.getD j default+(l.count (j:Int):Int):=by
 induction l with
 |nil=>intro o j h;simp [addL]
 |cons c l ih=>
  intro o j h
  have a:=h c (List.mem_cons_self ..)
  show (addL (incr o c) l).getD j default=_
  rw [ih (fun c' hc'=>by rw [zbc];exact h c' (List.mem_cons_of_mem _ hc')),zhc (by omega),List.count_cons]
  by_cases e:j=c.toNat
  ·rw [if_pos e,if_pos (by simp;omega)];omega
  ·rw [if_neg e,if_neg (by simp;omega)];omega
theorem zav{p:Nat→Bool}{j:Nat}: ∀ {n:Nat},(aj p n).count (j:Int)=if j<n∧p j=true then 1 else 0
 |0=>by simp [aj]
 |n+1=>by
  unfold aj
  cases hb:p n
  ·simp only [cond_false]
   rw [zav (n:=n)]
   by_cases e:j=n
   ·subst e;simp [hb]
   ·have a:(j<n)↔(j<n+1):=by omega
    simp only [a]
  ·simp only [cond_true,List.count_append]
   rw [zav (n:=n)]
   by_cases e:j=n
   ·subst e;simp [hb]
   ·have b:List.count (j:Int) [(n:Int)]=0:=by rw [List.count_eq_zero];simp;omega
    have a:(j<n)↔(j<n+1):=by omega
    rw [b,Nat.add_zero]
    simp only [a]
def Bd(o:List Int)(B:Int):Prop:= ∀ j,0≤o.getD j default∧o.getD j default≤B
theorem Bd.incr{o:List Int}{B c:Int}(h:Bd o B)(a:c.toNat<o.length)(b:0≤B):Bd (incr o c) (B+1):=fun j=>by
 have:=h j
 rw [zhc a]
 split<;>omega
def zc0(X:List (List Int))(rows:List Int)(o:List Int):List Int:=rows.foldl (fun o i=>addL o (kl (X.getD i.toNat default))) o
theorem zgl{X:List (List Int)}{rows:List Int}: ∀ {o:List Int},(zc0 X rows o).length=o.length:=by
 induction rows with
 |nil=>intro o;rfl
 |cons i rows ih=>intro o;show (zc0 X rows (addL o _)).length=_;rw [ih,zh9]
theorem zg5{X:List (List Int)}(h:VX X){k:Nat}(a:k<X.length): ∀ c∈kl (X.getD k default),0≤c∧c<(cols X:Int):=fun c b=>by
 obtain⟨i,d,rfl,_⟩:=ay.1 b
 rw [h.len k a] at d
 omega
theorem zm2(r:List Int):(kl r).length≤r.length:=z1u _ _
theorem Bd.addL{l:List Int}: ∀ {o:List Int} {B:Int},(∀ c∈l,0≤c∧c<o.length)→Bd o B→0≤B→Bd (addL o l) (B+l.length):=by
 induction l with
 |nil=>intro o B _ h _ j;have:=h j;simp only [List.length_nil];show 0≤o.getD j default∧o.getD j default≤_;omega
 |cons c l ih=>
  intro o B a b d
  have e:=a c (List.mem_cons_self ..)
  have:=ih (o:=GV.incr o c) (B:=B+1) (fun c' hc'=>by rw [zbc];exact a c' (List.mem_cons_of_mem _ hc')) (b.incr (by omega) d) (by omega)
  intro j
  have:=this j
  show 0≤(GV.addL (GV.incr o c) l).getD j default∧(GV.addL (GV.incr o c) l).getD j default≤_
  simp only [List.length_cons]
  omega
theorem zbr{X:List (List Int)}: ∀ i∈z0s X,0≤i∧i<(X.length:Int):=fun i hi=>by
 obtain⟨k,a,rfl,_⟩:=ay.1 hi
 omega
theorem zha{X:List (List Int)}{a b o:List Int}:zc0 X (a++b) o=zc0 X b (zc0 X a o):=by simp [zc0,List.foldl_append]
/-! ### The reference-/
theorem zoy{X:List (List Int)}(h:VX X){k j:Nat}(a:k<X.length)(b:j<(X.getD k default).length):decide (0≤(X.getD k default).getD j default)=z1k (X.getD k default) j:=by
 have:=h.cell k a j b
 unfold z1k
 by_cases e:(X.getD k default).getD j default= -1
 ·rw [e];rfl
 ·rw [decide_eq_true (show _ from e),decide_eq_true (by omega)]
theorem z4s{N:Nat}{X:List (List Int)}(h:VX X){k j:Nat}(a:k<X.length)(b:j<(X.getD k default).length):ni N ⟨X⟩ (k:Int) (j:Int)=some (z1k (X.getD k default) j):=by
 unfold ni
 rw [zl (wh a),zl (wh (by rw [ma];exact b)),←zoy h a b];rfl
theorem zdn{N:Nat}{X:List (List Int)}(h:VX X)(e:5000≤N){k:Nat}(a:k<X.length):z0q N ⟨X⟩ (k:Int)=some (l8 X k):=by
 have f:=h.toBx.row a
 have d:ym N ⟨X⟩ (k:Int) N 0=some (bif (List.range (X.getD k default).length).any (z1k (X.getD k default)) then Ex.rt true else Ex.go ()):=by
  refine z5w (fun F j=>ym N ⟨X⟩ (k:Int) F (j:Int)) (X.getD k default).length _ _ _ (fun F j b c=>?_) (fun F j b c=>?_) (fun F=>?_) (by omega)
  ·simp only [ym]
   rw [zl (wh a),di (by rw [ma];omega),qf (z4s h a b),c];rfl
  ·simp only [ym]
   rw [zl (wh a),di (by rw [ma];omega),qf (z4s h a b),c,cond_false,zl (jf (by omega))];rfl
  ·simp only [ym]
   rw [zl (wh a),p9 (by rw [ma];omega)]
 unfold z0q
 rw [qf d]
 cases hk':l8 X k with
 |true=>rw [ae.2 (z4a.1 hk')];rfl
 |false=>rw [ah.2 fun j b=>zej hk' b];rfl
end GV
end Go.Proofs.YtkhihcleegljhaaGreat

namespace Go.Proofs.YtkhihcleegljhaaGreat
namespace GV
theorem zcu{α:Type}[Inhabited α]{l:List α}{q:α→Bool}:(List.range l.length).any (fun i=>q (l.getD i default))=l.any q:=by
 cases h:l.any q with
 |true=>
  obtain⟨x,a,b⟩:=List.any_eq_true.1 h
  obtain⟨i,hi,rfl⟩:=List.mem_iff_getElem.1 a
  exact ae.2 ⟨i,hi,by rw [z6r hi];exact b⟩
 |false=>
  refine ah.2 fun k c=>?_
  have:=List.any_eq_false.1 h (l.getD k default) (z00 c)
  simpa using this
theorem zmq{p:Nat→Bool}{q:Int→Bool}{n:Nat}:(aj p n).any q=(List.range n).any fun k=>p k&&q (k:Int):=by
 cases h:(aj p n).any q with
 |true=>
  obtain⟨x,a,b⟩:=List.any_eq_true.1 h
  obtain⟨i,c,rfl,d⟩:=ay.1 a
  exact(ae.2 ⟨i,c,by rw [d,b];rfl⟩).symm
 |false=>
  refine(ah.2 fun k e=>?_).symm
  cases hp:p k with
  |false=>rfl
  |true=>
   have:=List.any_eq_false.1 h (k:Int) (ay.2 ⟨k,e,rfl,hp⟩)
   simpa using this
theorem zb0{N:Nat}{s:List Int}{f:Int→Option Bool}{q:Int→Bool}(k:s.length<N)(l:s.length≤100000)(b: ∀ c∈s,f c=some (q c)):ng N s f=some (s.any q):=by
 have d: ∃ r,u6 N s f N 0=some r∧((∃ i:Nat,r=Ex.rt (i:Int)∧s.any q=true)∨(r=Ex.go ()∧s.any q=false)):=by
  refine z4k (σ:=Unit) (fun F i _=>u6 N s f F (i:Int)) s.length (fun i _=> ∀ j,j<i→q (s.getD j default)=false) _ (fun F i u hi a=>?_) (fun F u a=>?_) N 0 () (Nat.zero_le _) (by omega) (fun j a=>absurd a (by omega))
  ·simp only [u6]
   rw [di (by omega),zl (wh hi),ma,b _ (z00 hi),z1j]
   cases hq:q (s.getD i default)
   ·right
    refine⟨(),fun j hj'=>?_,?_⟩
    ·by_cases e:j=i
     ·subst e;exact hq
     ·exact a j (by omega)
    ·rw [cond_false,zl (jf (by omega))];rfl
   ·left
    exact⟨_,by rw [cond_true],.inl ⟨i,rfl,List.any_eq_true.2 ⟨_,z00 hi,hq⟩⟩⟩
  ·simp only [u6]
   rw [p9 (by omega)]
   exact⟨_,rfl,.inr ⟨rfl,by rw [←zcu];exact ah.2 a⟩⟩
 obtain⟨r,g,h⟩:=d
 unfold ng iq
 rw [qf g]
 rcases h with⟨i,rfl,h⟩|⟨rfl,h⟩
 ·rw [zkk,z1j,h,decide_eq_true (by omega)]
 ·rw [zfe,z1j,h];rfl
/-! ### Choices-/
def zmw(n:Nat)(l:List Int)(i:Nat):Bool:=(decide (ix l (i:Int)<0)||decide ((n:Int)≤ix l (i:Int)))||(decide (0<(i:Int))&&decide (ix l (i:Int)≤ix l ((i:Int)-1)))
def chB(n:Nat)(l:List Int):Bool:= !(List.range l.length).any (zmw n l)
theorem zct{n:Nat}{l:List Int}(h:chB n l=true): ∀ c∈l,0≤c∧c<(n:Int):=fun c a=>by
 obtain⟨i,hi,rfl⟩:=List.mem_iff_getElem.1 a
 unfold chB at h
 have:=ah.1 (by simpa using h) i hi
 unfold zmw at this
 simp only [Bool.or_eq_false_iff,decide_eq_false_iff_not] at this
 rw [ma,z6r hi] at this
 omega
def z0t(X:List (List Int))(l:List Int)(k:Nat):Bool:=l.any fun z=>z1k (X.getD k default) z.toNat
def ru(X:List (List Int))(l:List Int):Bool:= !(List.range X.length).any fun k=>l8 X k&& !z0t X l k
theorem zem{N:Nat}{n:Nat}{l:List Int}(b:l.length<N)(d:l.length≤100000):mo N l (n:Int) N 0=some (bif (List.range l.length).any (zmw n l) then Ex.rt (false,1) else Ex.go ()):=by
 refine z5w (fun F i=>mo N l (n:Int) F (i:Int)) l.length _ _ _ (fun F i hi a=>?_) (fun F i hi a=>?_) (fun F=>?_) b
 ·simp only [mo]
  rw [di (by omega),zl (wh hi),zl (fun h=>jf (by omega)),zl (fun h=>?_)]
  ·exact ct a
  ·have c:0<i:=by
    simp only [Bool.and_eq_true,beq_iff_eq,decide_eq_true_eq] at h
    omega
   exact⟨by omega,by omega⟩
 ·simp only [mo]
  rw [di (by omega),zl (wh hi),zl (fun h=>jf (by omega)),zl (fun h=>?_)]
  ·exact(cf a).trans (by rw [zl (jf (by omega))];rfl)
  ·have c:0<i:=by
    simp only [Bool.and_eq_true,beq_iff_eq,decide_eq_true_eq] at h
    omega
   exact⟨by omega,by omega⟩
 ·simp only [mo]
  rw [p9 (by omega)]
theorem zaz{N:Nat}{X:List (List Int)}{l:List Int}(h:VX X)(m:5000≤N)(w:l.length≤1000):su N ⟨X⟩ l=some (bif chB (cols X) l then(ru X l,0) else(false,1)):=by
 have x:=h.rows
 unfold su
 rw [qf (zbb h.toBx m),z8t h,p9 (by decide),qf (z8q h.toBx (by omega)),qf (zem (n:=cols X) (by omega) (by omega))]
 unfold chB
 cases hb:(List.range l.length).any (zmw (cols X) l) with
 |true=>rfl
 |false=>
  have o:=zct (n:=cols X) (l:=l) (by unfold chB;rw [hb];rfl)
  rw [cond_false,zfe,qf (zg8 h.toBx m)]
  have p:(z0s X).length≤X.length:=z1u _ _
  have r:mq N ⟨X⟩ l (z0s X) N 0=some (bif (List.range (z0s X).length).any (fun i=> !z0t X l ((z0s X).getD i default).toNat) then Ex.rt (false,0) else Ex.go ()):=by
   refine z5w (fun F i=>mq N ⟨X⟩ l (z0s X) F (i:Int)) (z0s X).length _ _ _ (fun F i hi d=>?_) (fun F i hi d=>?_) (fun F=>?_) (by omega)
   ·obtain⟨s,t⟩:=zbr (X:=X) _ (z00 hi)
    obtain⟨k,f⟩: ∃ k:Nat,(z0s X).getD i default=(k:Int):=⟨((z0s X).getD i default).toNat,by omega⟩
    have a:k<X.length:=by omega
    simp only [mq]
    rw [di (by omega),zl (wh hi)]
    have b:ng N l (fun g=>z0d N g ⟨X⟩ (ix (z0s X) (i:Int)))=some (z0t X l k):=by
     refine zb0 (by omega) (by omega) fun c b=>?_
     obtain⟨u,v⟩:=o c b
     obtain⟨j,rfl⟩: ∃ j:Nat,c=(j:Int):=⟨c.toNat,by omega⟩
     unfold z0d
     rw [ma,f,qf (z9s a (by rw [h.len k a];omega))];rfl
    rw [f,Int.toNat_natCast] at d
    rw [qf b]
    exact ct d
   ·obtain⟨s,t⟩:=zbr (X:=X) _ (z00 hi)
    obtain⟨k,f⟩: ∃ k:Nat,(z0s X).getD i default=(k:Int):=⟨((z0s X).getD i default).toNat,by omega⟩
    have a:k<X.length:=by omega
    simp only [mq]
    rw [di (by omega),zl (wh hi)]
    have b:ng N l (fun g=>z0d N g ⟨X⟩ (ix (z0s X) (i:Int)))=some (z0t X l k):=by
     refine zb0 (by omega) (by omega) fun c b=>?_
     obtain⟨u,v⟩:=o c b
     obtain⟨j,rfl⟩: ∃ j:Nat,c=(j:Int):=⟨c.toNat,by omega⟩
     unfold z0d
     rw [ma,f,qf (z9s a (by rw [h.len k a];omega))];rfl
    rw [f,Int.toNat_natCast] at d
    rw [qf b]
    exact(cf d).trans (by rw [zl (jf (by omega))];rfl)
   ·simp only [mq]
    rw [p9 (by omega)]
  rw [qf r]
  have e:(List.range (z0s X).length).any (fun i=> !z0t X l ((z0s X).getD i default).toNat)=(List.range X.length).any fun k=>l8 X k&& !z0t X l k:=by
   rw [zcu (l:=z0s X) (q:=fun c=> !z0t X l c.toNat)]
   unfold z0s
   rw [zmq];rfl
  rw [e]
  unfold ru
  cases (List.range X.length).any fun k=>l8 X k&& !z0t X l k<;>rfl
theorem zhy{N:Nat}{X:List (List Int)}{l:List Int}(h:VX X)(f:5000≤N)(p:l.length≤1000)(g: ∀ c∈l,0≤c∧c<(cols X:Int)):iw N ⟨X⟩ l=some (ru X l):=by
 have q:=h.rows
 have d: ∀ k,k<X.length→ ∀ b,xz N ⟨X⟩ l (k:Int) N b 0=some (b||z0t X l k):=by
  intro k a b
  refine zfj (fun F i s=>xz N ⟨X⟩ l (k:Int) F s (i:Int)) l.length (fun i s=>s=(b||(l.take i).any fun z=>z1k (X.getD k default) z.toNat)) _ (fun F i s hi e=> .inr ?_) (fun F s e=>?_) N 0 b (Nat.zero_le _) (by omega) (by simp)
  ·refine⟨s||z1k (X.getD k default) (l.getD i default).toNat,?_,?_⟩
   ·rw [e,List.take_add_one,List.getElem?_eq_getElem hi,List.any_append,z6r hi];simp [Bool.or_assoc]
   ·obtain⟨r,t⟩:=g (l.getD i default) (z00 hi)
    obtain⟨j,m⟩: ∃ j:Nat,l.getD i default=(j:Int):=⟨(l.getD i default).toNat,by omega⟩
    simp only [xz]
    rw [di (by omega),zl (fun _=>wh hi),ma,m,zp3 (fun _=>z4s h a (by rw [h.len k a];omega)),zl (jf (by omega)),Int.toNat_natCast]
    cases s<;>simp
  ·simp only [xz]
   rw [p9 (by omega),e,List.take_length];rfl
 have n:yl N ⟨X⟩ l N 0=some (bif (List.range X.length).any (fun k=>l8 X k&& !z0t X l k) then Ex.rt false else Ex.go ()):=by
  refine z5w (fun F k=>yl N ⟨X⟩ l F (k:Int)) X.length _ _ _ (fun F k a o=>?_) (fun F k a o=>?_) (fun F=>?_) (by omega)
  ·simp only [yl]
   rw [di (by omega),qf (zdn h f a),qf (d k a _)]
   refine ct ?_
   cases hk1:l8 X k<;>cases hk2:z0t X l k<;>simp_all
  ·simp only [yl]
   rw [di (by omega),qf (zdn h f a),qf (d k a _)]
   refine(cf ?_).trans (by rw [zl (jf (by omega))];rfl)
   cases hk1:l8 X k<;>cases hk2:z0t X l k<;>simp_all
  ·simp only [yl]
   rw [p9 (by omega)]
 unfold iw
 rw [qf n]
 unfold ru
 cases (List.range X.length).any fun k=>l8 X k&& !z0t X l k<;>rfl
/-! ### The plain data-/
def z6q(r:Int)(k:Nat):Int:=min (if z0a r (k:Int)%2=1 then z0a r 8+(k:Int) else-1) 255
def zh2(n:Nat)(r:Int):List Int:=(List.range n).map (z6q r)
def z8c(x:Sb):List (List Int):=(List.range (min x.fC.length 20)).map fun i=>zh2 (x.fE%7).toNat (x.fC.getD i default)
structure QOk (x:Sb):Prop where
 cols:0≤x.fE∧x.fE≤255
 rows: ∀ k,k<x.fC.length→0≤x.fC.getD k default∧x.fC.getD k default≤65535
theorem zfm{x y:Int}(h:0≤x):0≤z0a x y:=by
 unfold z0a
 exact Int.fdiv_nonneg h (Int.le_of_lt (Int.pow_pos (by decide)))
theorem znu{x y:Int}(h:0≤x):z0a x y≤x:=by
 unfold z0a
 rw [Int.fdiv_eq_ediv_of_nonneg _ (Int.le_of_lt (Int.pow_pos (by decide)))]
 exact Int.ediv_le_self _ h
theorem zos{N:Nat}{x:Sb}(f:QOk x)(o:100≤N):z14 N x=some ⟨z8c x⟩:=by
 have g:=f.cols
 have h:0≤x.fE%7:=Int.emod_nonneg _ (by decide)
 have j:x.fE%7<7:=Int.emod_lt_of_pos _ (by decide)
 obtain⟨n,l⟩: ∃ n:Nat,x.fE%7=(n:Int):=⟨(x.fE%7).toNat,by omega⟩
 have b: ∀ i,i<x.fC.length→yo N x (i:Int) N 0 []=some (zh2 n (x.fC.getD i default)):=by
  intro i hi
  obtain⟨c,p⟩:=f.rows i hi
  refine z0b (fun F k s=>yo N x (i:Int) F (k:Int) s) n (fun k=>(List.range k).map (z6q (x.fC.getD i default))) _ (fun F k q=>?_) (fun F=>?_) (by omega)
  ·simp only [yo]
   have m:0≤z0a (x.fC.getD i default) (k:Int):=zfm c
   have r:0≤z0a (x.fC.getD i default) 8:=zfm c
   have t:z0a (x.fC.getD i default) 8≤x.fC.getD i default:=znu c
   have hbody:(bd (gd (okI x.fC (i:Int))<|gd (okSh .u16 (k:Int))<|gd (okR (z0a (ix x.fC (i:Int)) (k:Int)) 2)<|bif decide ((z0a (ix x.fC (i:Int)) (k:Int))%2=1) then
    (gd (okI x.fC (i:Int))<|gd (okSh .u16 (8:Int))<|gd (in64 (z0a (ix x.fC (i:Int)) (8:Int)))<|gd (in64 ((z0a (ix x.fC (i:Int)) (8:Int))+(k:Int)))<|some ((z0a (ix x.fC (i:Int)) (8:Int))+(k:Int))) else some (-1))
    fun a=>gd (fits 8 ((List.range k).map (z6q (x.fC.getD i default))) ([min a 255]:List Int))<|gd (in64 ((k:Int)+1))<|yo N x (i:Int) F ((k:Int)+1) ((List.range k).map (z6q (x.fC.getD i default))++([min a 255]:List Int)))=yo N x (i:Int) F ((k:Int)+1) ((List.range (k+1)).map (z6q (x.fC.getD i default))):=by
    rw [zl (wh hi),zl ⟨by omega,by show (k:Int)≤16;omega⟩,zl ⟨by rw [ma];exact m,by decide⟩]
    have hlast:(List.range (k+1)).map (z6q (x.fC.getD i default))=(List.range k).map (z6q (x.fC.getD i default))++[z6q (x.fC.getD i default) k]:=by rw [List.range_succ,List.map_append];rfl
    by_cases hb:z0a (ix x.fC (i:Int)) (k:Int)%2=1
    ·rw [di hb,zl (wh hi),zl ⟨by decide,by decide⟩,zl (jf (by rw [ma];omega)),zl (jf (by rw [ma];omega)),z1j,zl ⟨by simp only [List.length_singleton,List.length_map,List.length_range];omega,by simp only [List.length_singleton,List.length_map,List.length_range];omega⟩,zl (jf (by omega)),hlast,show z6q (x.fC.getD i default) k=min (z0a (x.fC.getD i default) 8+(k:Int)) 255 from by unfold z6q;rw [if_pos (show z0a (x.fC.getD i default) (k:Int)%2=1 from hb)]];rfl
    ·rw [p9 hb,z1j,zl ⟨by simp only [List.length_singleton,List.length_map,List.length_range];omega,by simp only [List.length_singleton,List.length_map,List.length_range];omega⟩,zl (jf (by omega)),hlast,show z6q (x.fC.getD i default) k=min (-1) 255 from by unfold z6q;rw [if_neg (show¬z0a (x.fC.getD i default) (k:Int)%2=1 from hb)]]
   rw [zl ⟨g.1,by decide⟩,zl (jf (by omega)),di (by omega)]
   exact hbody
  ·simp only [yo]
   rw [zl ⟨g.1,by decide⟩,zl (jf (by omega)),p9 (by omega)];rfl
 have d:dw N x N 0 []=some (z8c x):=by
  refine z0b (fun F i s=>dw N x F (i:Int) s) (min x.fC.length 20) (fun i=>(List.range i).map fun i=>zh2 n (x.fC.getD i default)) _ (fun F i hi=>?_) (fun F=>?_) (by omega)
  ·simp only [dw]
   rw [ct (by rw [decide_eq_true (by omega),decide_eq_true (by omega)];rfl),qf (b i (by omega)),zl ⟨by simp only [List.length_singleton,List.length_map,List.length_range];omega,by simp only [List.length_singleton,List.length_map,List.length_range];omega⟩,zl (jf (by omega)),List.range_succ,List.map_append];rfl
  ·simp only [dw]
   refine(cf ?_).trans (by unfold z8c;rw [l,Int.toNat_natCast])
   by_cases e:x.fC.length≤20
   ·rw [decide_eq_false (by omega)];rfl
   ·rw [Bool.and_eq_false_iff];right;exact decide_eq_false (by omega)
 unfold z14
 rw [qf d]
theorem zgf{x:Sb}:(z8c x).length=min x.fC.length 20:=by simp [z8c]
theorem zg9{x:Sb}{k:Nat}(a:k<(z8c x).length):(z8c x).getD k default=zh2 (x.fE%7).toNat (x.fC.getD k default):=by
 rw [z6r a];simp [z8c]
theorem zgc{n:Nat}{r:Int}:(zh2 n r).length=n:=by simp [zh2]
theorem zll{n:Nat}{r:Int}{j:Nat}(a:j<n):(zh2 n r).getD j default=z6q r j:=by
 rw [z6r (by rw [zgc];exact a)];simp [zh2]
theorem zd4{X:List (List Int)}{m:Nat}: ∀ n,(∀ k,k<n→(X.getD k default).length=m)→z9q X n=n*m
 |0,_=>by simp [z9q]
 |n+1,h=>by
  unfold z9q
  rw [zd4 n fun k a=>h k (by omega),h n (by omega),Nat.succ_mul]
theorem znh{x:Sb}(d:QOk x):VX (z8c x)∧(z8c x).length≤20∧cols (z8c x)≤6:=by
 have e:0≤x.fE%7:=Int.emod_nonneg _ (by decide)
 have f:x.fE%7<7:=Int.emod_lt_of_pos _ (by decide)
 have b:(z8c x).length≤20:=by rw [zgf];omega
 have hrow: ∀ k,k<(z8c x).length→((z8c x).getD k default).length=(x.fE%7).toNat:=fun k a=>by rw [zg9 a,zgc]
 have hcol:cols (z8c x)=if(z8c x).length=0 then 0 else(x.fE%7).toNat:=zgd _ hrow
 have htot:tot (z8c x)=(z8c x).length*(x.fE%7).toNat:=zd4 _ hrow
 have hmul:(z8c x).length*(x.fE%7).toNat≤20*6:=Nat.mul_le_mul b (by omega)
 refine⟨⟨⟨by omega,by omega⟩,fun k a=>?_,fun k a j c=>?_⟩,b,by rw [hcol];split<;>omega⟩
 ·rw [hrow k a,hcol,if_neg (by omega)]
 ·rw [hrow k a] at c
  rw [zg9 a,zll c]
  have g:=d.rows k (by rw [zgf] at a;omega)
  have h:0≤z0a (x.fC.getD k default) 8:=zfm g.1
  unfold z6q
  split<;>omega
end GV
end Go.Proofs.YtkhihcleegljhaaGreat
