
import Derived.Test.YtkhihcleegljhaaGreatShPlain
import Derived.Test.YtkhihcleegljhaaGreatShPl
import Derived.Test.YtkhihcleegljhaaGreatPick21
set_option linter.unusedVariables false
set_option linter.unusedSimpArgs false
namespace Go.Proofs.YtkhihcleegljhaaGreat
namespace GV
theorem zbo{x:Int}(h: -4611686018427387904≤x∧x≤4611686018427387904):IntKind.i64.wrap x=x:=by
 simp [IntKind.wrap,IntKind.signed,IntKind.bits];omega
theorem z81{σ ρ:Type}(L:Nat→Nat→σ→Option ρ)(n:Nat)(st:Nat→σ)(r:ρ)(step: ∀ F k,k<n→L (F+1) k (st k)=L F (k+1) (st (k+1)))(fin: ∀ F,L (F+1) n (st n)=some r){F:Nat}(c:n<F):L F 0 (st 0)=some r:=
 z19 L n (fun k s=>s=st k) r (fun F k s b a=> .inr ⟨st (k+1),rfl,by rw [a];exact step F k b⟩) (fun F s a=>by rw [a];exact fin F) F 0 (st 0) (Nat.zero_le _) (by omega) rfl
theorem zbc{ρ:Type}(L:Nat→Nat→Option ρ)(n:Nat)(p:Nat→Bool)(d f:ρ)(b: ∀ F k,k<n→p k=true→L (F+1) k=some f)(skip: ∀ F k,k<n→p k=false→L (F+1) k=L F (k+1))(fin: ∀ F,L (F+1) n=some d){F:Nat}(h:n<F):
 L F 0=some (bif (List.range n).any p then f else d):=by
 refine z19 (σ:=Unit) (fun F k _=>L F k) n (fun k _=> ∀ j,j<k→p j=false) _ (fun F k s a c=>?_) (fun F s c=>?_) F 0 () (Nat.zero_le _) (by omega) (fun j g=>absurd g (by omega))
 ·cases hp:p k with
  |true=>
   left
   have:(List.range n).any p=true:=by rw [List.any_eq_true];exact⟨k,List.mem_range.2 a,hp⟩
   rw [this];exact b F k a hp
  |false=>
   right
   refine⟨(),fun j g=>?_,skip F k a hp⟩
   by_cases e:j=k
   ·subst e;exact hp
   ·exact c j (by omega)
 ·have:(List.range n).any p=false:=by rw [List.any_eq_false];intro k a;rw [c k (List.mem_range.1 a)];simp
  rw [this];exact fin F
theorem z8k{n:Nat}{p:Nat→Bool}:(List.range n).any p=false↔ ∀ k,k<n→p k=false:=by
 rw [List.any_eq_false]
 exact⟨fun h k a=>by have:=h k (List.mem_range.2 a);simpa using this,fun h k a=>by rw [h k (List.mem_range.1 a)];simp⟩
theorem zcd{n:Nat}{p:Nat→Bool}:(List.range n).any p=true↔ ∃ k,k<n∧p k=true:=by
 rw [List.any_eq_true]
 exact⟨fun⟨k,a,b⟩=>⟨k,List.mem_range.1 a,b⟩,fun⟨k,a,b⟩=>⟨k,List.mem_range.2 a,b⟩⟩
/-! ### What is reckoned-/
def zid(X:List (List Int)):Nat→Nat
 |0=>0
 |k+1=>max (zid X k) (X.getD k default).length
def z4p(X:List (List Int)):Nat→Nat
 |0=>0
 |k+1=>z4p X k+(X.getD k default).length
def cols(X:List (List Int)):Nat:=zid X X.length
def tot(X:List (List Int)):Nat:=z4p X X.length
structure Bx (X:List (List Int)):Prop where
 rows:X.length≤100
 tot:tot X≤3000
theorem zf8{X:List (List Int)}: ∀ n k,k<n→(X.getD k default).length≤z4p X n
 |n+1,k,h=>by
  unfold z4p
  by_cases e:k=n
  ·subst e;omega
  ·have:=zf8 (X:=X) n k (by omega);omega
theorem zbj{X:List (List Int)}: ∀ n k,k≤n→z4p X k≤z4p X n
 |0,k,h=>by
  have:k=0:=by omega
  subst this;exact Nat.le_refl _
 |n+1,k,h=>by
  by_cases e:k=n+1
  ·subst e;exact Nat.le_refl _
  ·have:=zbj (X:=X) n k (by omega)
   have a:z4p X (n+1)=z4p X n+(X.getD n default).length:=rfl
   omega
theorem zfu{X:List (List Int)}: ∀ n,zid X n≤z4p X n
 |0=>Nat.le_refl _
 |n+1=>by have:=zfu (X:=X) n;unfold zid z4p;omega
theorem Bx.row{X:List (List Int)}(h:Bx X){k:Nat}(a:k<X.length):(X.getD k default).length≤3000:=Nat.le_trans (zf8 _ _ a) h.tot
theorem Bx.cols{X:List (List Int)}(h:Bx X):cols X≤3000:=Nat.le_trans (zfu _) h.tot
/-! ### columns-/
/-! ### Check-/
/-! ### What a valid matrix is-/
structure VX (X:List (List Int)):Prop extends Bx X where
 len: ∀ k,k<X.length→(X.getD k default).length=_root_.Go.Proofs.YtkhihcleegljhaaGreat.GV.cols X
 cell: ∀ k,k<X.length→ ∀ j,j<(X.getD k default).length→ -1≤(X.getD k default).getD j default∧(X.getD k default).getD j default≤255
/-! ### Killers-/
def zpy(r:List Int)(j:Nat):Bool:=decide (r.getD j default≠ -1)
def zn1(p:Nat→Bool):Nat→List Int
 |0=>[]
 |j+1=>bif p j then zn1 p j++[(j:Int)] else zn1 p j
def kl(r:List Int):List Int:=zn1 (zpy r) r.length
end GV
end Go.Proofs.YtkhihcleegljhaaGreat

namespace Go.Proofs.YtkhihcleegljhaaGreat
namespace GV
theorem zox{α:Type}{X:List α}{i:Nat}{d:α}(h:i<X.length):X.getD i d=X[i]:=by rw [List.getD_eq_getElem?_getD,List.getElem?_eq_getElem h];rfl
def z2r{α:Type}(n:Nat)(d:α)(f:Nat→α)(k:Nat):List α:=(List.range n).map fun i=>if i<k then f i else d
theorem z5x{α:Type}{n:Nat}{d:α}{f:Nat→α}{k:Nat}:(z2r n d f k).length=n:=by simp [z2r]
theorem zd5{α:Type}{n:Nat}{d:α}{f:Nat→α}:List.replicate n d=z2r n d f 0:=by
 apply List.ext_getElem
 ·simp [z2r]
 ·intro i a b;simp [z2r]
theorem zdn{α:Type}{n:Nat}{d:α}{f:Nat→α}{k:Nat}:(z2r n d f k).set k (f k)=z2r n d f (k+1):=by
 apply List.ext_getElem
 ·simp [z2r]
 ·intro i a b
  rw [List.getElem_set]
  simp only [z2r,List.getElem_map,List.getElem_range]
  by_cases e:k=i
  ·subst e;rw [if_pos rfl,if_pos (by omega)]
  ·rw [if_neg e]
   by_cases h:i<k
   ·rw [if_pos h,if_pos (by omega)]
   ·rw [if_neg h,if_neg (by omega)]
theorem zir{α:Type}[Inhabited α]{n:Nat}{d:α}{f:Nat→α}{k i:Nat}(hi:i<n)(a:i<k):(z2r n d f k).getD i default=f i:=by
 rw [zox (by rw [z5x];exact hi)]
 simp [z2r,a]
end GV
end Go.Proofs.YtkhihcleegljhaaGreat

namespace Go.Proofs.YtkhihcleegljhaaGreat
namespace GV
set_option maxRecDepth 100000
theorem zi2{N:Nat}(x y:Int):cmp_Compare_int N x y=some (if x<y then-1 else if y<x then 1 else 0):=by
 unfold cmp_Compare_int cmp_isNaN_int
 rw [zfb,zfb,decide_eq_false (fun h=>h rfl),decide_eq_false (fun h=>h rfl)]
 simp only [cond_false]
 by_cases h1:x<y
 ·rw [dn h1,if_pos h1]
 ·rw [dh h1,if_neg h1]
  by_cases h2:y<x
  ·rw [dn h2,if_pos h2]
  ·rw [dh h2,if_neg h2]
theorem zj8{N:Nat}(j:3≤N)(d e:Int):z6a N [d,e]=some (if d≠0 then d else e):=by
 obtain⟨M,rfl⟩: ∃ M,N=M+3:=⟨N-3,by omega⟩
 have a: ∀ d:Int,(0:Int)<([d,e].length:Int):=fun d=>by show (0:Int)<2;decide
 have b: ∀ d:Int,(0:Int)+1<([d,e].length:Int):=fun d=>by show (0:Int)+1<2;decide
 have i: ∀ d:Int,¬((0:Int)+1+1<([d,e].length:Int)):=fun d=>by show¬((0:Int)+1+1<2);decide
 have c: ∀ d:Int,okI [d,e] 0:=fun d=>⟨by decide,a d⟩
 have h: ∀ d:Int,okI [d,e] (0+1):=fun d=>⟨by decide,b d⟩
 unfold z6a
 by_cases hd:d≠0
 ·have:af (M+3) [d,e] (M+3) 0=some (Ex.rt d):=by
   simp only [af]
   rw [dn (a d),j5 (c d),dn (show ix [d,e] 0≠0 from hd)];rfl
  rw [jm this,if_pos hd];rfl
 ·have f:d=0:=by simpa using hd
  subst f
  rw [if_neg hd]
  by_cases he:e≠0
  ·have:af (M+3) [0,e] (M+3) 0=some (Ex.rt e):=by
    simp only [af]
    rw [dn (a 0),j5 (c 0),dh (show¬ix [0,e] 0≠0 from hd),j5 (xe (by decide)),dn (b 0),j5 (h 0),dn (show ix [0,e] (0+1)≠0 from he)];rfl
   rw [jm this];rfl
  ·have:af (M+3) [0,e] (M+3) 0=some (Ex.go ()):=by
    simp only [af]
    rw [dn (a 0),j5 (c 0),dh (show¬ix [0,e] 0≠0 from hd),j5 (xe (by decide)),dn (b 0),j5 (h 0),dh (show¬ix [0,e] (0+1)≠0 from he),j5 (xe (by decide)),dh (i 0)]
   rw [jm this]
   have g:e=0:=by simpa using he
   rw [g];rfl
theorem zev{N:Nat}{a b:List Int}(f:a.length<N)(g:a.length≤4611686018427387904):aa N a b=some (cmpL a b):=by
 unfold aa cmpL
 by_cases h0:a.length≠b.length
 ·rw [dn (by omega)]
  by_cases h1:a.length<b.length
  ·rw [dn (by omega),if_pos h1]
  ·rw [dh (by omega),if_neg h1,if_pos (by omega)]
 ·rw [dh (by omega),if_neg (by omega),if_neg (by omega)]
  have h:a.length=b.length:=by omega
  have e:uz N a b N 0=some (if z6z a b=0 then Ex.go () else Ex.rt (z6z a b)):=by
   refine z19 (σ:=Unit) (fun F k _=>uz N a b F (k:Int)) a.length (fun k _=>z6z (a.drop k) (b.drop k)=z6z a b) _ (fun F k _ d hi=>?_) (fun F _ hi=>?_) N 0 () (Nat.zero_le _) (by omega) rfl
   ·simp only [uz]
    rw [dn (by omega),j5 (jy d),j5 (jy (by omega))]
    have c:=zdu d (show k<b.length by omega)
    rw [hi] at c
    by_cases h3:a.getD k default<b.getD k default
    ·left
     refine Eq.trans (dn h3) ?_
     rw [if_pos h3] at c;rw [c];rfl
    ·refine(show _∨_ from ?_)
     rw [if_neg h3] at c
     by_cases h4:b.getD k default<a.getD k default
     ·left
      refine Eq.trans (dh h3) ?_
      rw [j5 (jy d),j5 (jy (by omega))]
      refine Eq.trans (dn h4) ?_
      rw [if_pos h4] at c;rw [c];rfl
     ·right
      rw [if_neg h4] at c
      refine⟨(),c.symm,Eq.trans (dh h3) ?_⟩
      rw [j5 (jy d),j5 (jy (by omega))]
      refine Eq.trans (dh h4) ?_
      rw [j5 (xe (by omega))];rfl
   ·simp only [uz]
    rw [dh (by omega)]
    have:z6z a b=0:=by rw [←hi,List.drop_of_length_le (Nat.le_refl _)];rfl
    rw [if_pos this]
  rw [jm e]
  by_cases h5:z6z a b=0
  ·rw [if_pos h5,h5];rfl
  ·rw [if_neg h5];rfl
theorem zi8{N:Nat}{a b:List Int}(m:a.length<N)(e:3≤N)(n:a.length≤4611686018427387904):z2s N a b=some (cmpL a b):=by
 unfold z2s
 rw [jm (zi2 _ _)]
 have j: ∃ r,z0g N a b=some r∧(a.length=b.length→r=z6z a b):=by
  have l: ∃ r,yz N a b N 0=some r∧(a.length=b.length→r=if z6z a b=0 then Ex.go () else Ex.rt (z6z a b)):=by
   refine z90 (σ:=Unit) (fun F k _=>yz N a b F (k:Int)) a.length (fun k _=>k≤b.length∧(a.length=b.length→z6z (a.drop k) (b.drop k)=z6z a b)) _ (fun F k _ i hi=>?_) (fun F _ hi=>?_) N 0 () (Nat.zero_le _) (by omega) ⟨Nat.zero_le _,fun _=>rfl⟩
   ·simp only [yz]
    rw [dn (by omega),j5 (jy i)]
    by_cases hb:b.length≤k
    ·left
     rw [dn (by omega)]
     exact⟨_,rfl,fun c=>by omega⟩
    ·have f:k<b.length:=by omega
     rw [dh (by omega),j5 (jy f),jm (zi2 _ _)]
     have d:=zdu i f
     by_cases e:a.getD k default<b.getD k default
     ·left
      rw [if_pos e] at d
      rw [if_pos (show ix a (k:Int)<ix b (k:Int) from e),dn (by decide)]
      exact⟨_,rfl,fun c=>by rw [hi.2 c] at d;rw [d];rfl⟩
     ·rw [if_neg e] at d
      by_cases h4:b.getD k default<a.getD k default
      ·left
       rw [if_pos h4] at d
       rw [if_neg (show¬ix a (k:Int)<ix b (k:Int) from e),if_pos (show ix b (k:Int)<ix a (k:Int) from h4),dn (by decide)]
       exact⟨_,rfl,fun c=>by rw [hi.2 c] at d;rw [d];rfl⟩
      ·right
       rw [if_neg h4] at d
       refine⟨(),⟨f,fun c=>by rw [hi.2 c] at d;exact d.symm⟩,?_⟩
       rw [if_neg (show¬ix a (k:Int)<ix b (k:Int) from e),if_neg (show¬ix b (k:Int)<ix a (k:Int) from h4),dh (by decide),j5 (xe (by omega))];rfl
   ·simp only [yz]
    rw [dh (by omega)]
    refine⟨_,rfl,fun c=>?_⟩
    have:z6z a b=0:=by rw [←hi.2 c,List.drop_of_length_le (Nat.le_refl _)];rfl
    rw [if_pos this]
  obtain⟨r,g,c⟩:=l
  unfold z0g
  rw [jm g]
  cases r with
  |go u=>
   rw [zff]
   by_cases h1:a.length<b.length
   ·rw [dn (by omega)];exact⟨_,rfl,fun h=>by omega⟩
   ·rw [dh (by omega)]
    refine⟨_,rfl,fun h=>?_⟩
    have:=c h
    by_cases h5:z6z a b=0
    ·exact h5.symm
    ·rw [if_neg h5] at this;cases this
  |rt v=>
   rw [zmk]
   refine⟨_,rfl,fun h=>?_⟩
   have:=c h
   by_cases h5:z6z a b=0
   ·rw [if_pos h5] at this;cases this
   ·rw [if_neg h5] at this;cases this;rfl
 obtain⟨r,g,c⟩:=j
 rw [jm g,jm (zj8 e _ _)]
 unfold cmpL
 by_cases h1:a.length<b.length
 ·rw [if_pos (show (a.length:Int)<(b.length:Int) by omega),if_pos (by decide),if_pos h1]
 ·rw [if_neg (show¬(a.length:Int)<(b.length:Int) by omega),if_neg h1]
  by_cases h2:b.length<a.length
  ·rw [if_pos (show (b.length:Int)<(a.length:Int) by omega),if_pos (by decide),if_pos h2]
  ·rw [if_neg (show¬(b.length:Int)<(a.length:Int) by omega),if_neg (by decide),if_neg h2,c (by omega)]
/-! ### Lists of words-/
theorem zly{N:Nat}{w:List Int}{n:Int}(b:w.length<N)(j:w.length≤100000):l5 N w n=some (if w.any (z3l n)=true then 1 else 0):=by
 have c:uf N w n N 0=some (bif (List.range w.length).any (fun i=>z3l n (w.getD i default)) then Ex.rt 1 else Ex.go ()):=by
  refine zbc (fun F i=>uf N w n F (i:Int)) w.length _ _ _ (fun F i hi a=>?_) (fun F i hi a=>?_) (fun F=>?_) b
  ·simp only [uf]
   rw [dn (by omega),j5 (jy hi),j5 (fun _=>jy hi)]
   exact ct a
  ·simp only [uf]
   rw [dn (by omega),j5 (jy hi),j5 (fun _=>jy hi)]
   exact(cf a).trans (by rw [j5 (xe (by omega))];rfl)
  ·simp only [uf]
   rw [dh (by omega)]
 unfold l5
 rw [jm c]
 have e:(List.range w.length).any (fun i=>z3l n (w.getD i default))=w.any (z3l n):=by
  cases h:w.any (z3l n) with
  |true=>
   obtain⟨x,d,f⟩:=List.any_eq_true.1 h
   obtain⟨i,hi,rfl⟩:=List.mem_iff_getElem.1 d
   exact zcd.2 ⟨i,hi,by rw [List.getD_eq_getElem?_getD,List.getElem?_eq_getElem hi];exact f⟩
  |false=>
   refine z8k.2 fun k g=>?_
   have:=List.any_eq_false.1 h (w.getD k default) (z2p g)
   simpa using this
 rw [e]
 cases w.any (z3l n)<;>rfl
def z5m(l:List (List Int))(n:Int):Int:=if 16<n∨4096<l.length then 3 else if n<1 then 1 else((l.map fun w=>ny w n).find? fun c=>decide (c≠0)).getD 0
theorem z4v{X:List Int}{k:Nat}(a:k<X.length)(h: ∀ j,j<k→X.getD j default=0)(b:X.getD k default≠0):(X.find? fun c=>decide (c≠0))=some (X.getD k default):=by
 rw [List.find?_eq_some_iff_getElem]
 have e:X.getD k default=X[k]:=by rw [List.getD_eq_getElem?_getD,List.getElem?_eq_getElem a];rfl
 rw [e] at b⊢
 refine⟨by simpa using b,k,a,rfl,fun j d=>?_⟩
 have:=h j d
 rw [List.getD_eq_getElem?_getD,List.getElem?_eq_getElem (by omega)] at this
 have f:X[j]=0:=this
 simp [f]
theorem z9i{X:List Int}(h: ∀ j,j<X.length→X.getD j default=0):(X.find? fun c=>decide (c≠0))=none:=by
 rw [List.find?_eq_none]
 intro x a
 obtain⟨i,hi,rfl⟩:=List.mem_iff_getElem.1 a
 have:=h i hi
 rw [List.getD_eq_getElem?_getD,List.getElem?_eq_getElem hi] at this
 have b:X[i]=0:=this
 simp [b]
theorem z3e{l:List (List Int)}{n:Int}{k:Nat}(a:k<l.length):(l.map fun w=>ny w n).getD k default=ny (l.getD k default) n:=by
 rw [List.getD_eq_getElem?_getD,List.getD_eq_getElem?_getD,List.getElem?_map,List.getElem?_eq_getElem a];rfl
structure LSm (l:List (List Int)):Prop where
 n:l.length≤100
structure LSh (l:List (List Int)):Prop extends LSm l where
 w: ∀ k,k<l.length→(l.getD k default).length≤256
theorem LSh.t{l:List (List Int)}(h:LSh l):z4p l l.length≤25600:=by
 have: ∀ n,n≤l.length→z4p l n≤n*256:=by
  intro n
  induction n with
  |zero=>intro _;exact Nat.le_refl _
  |succ n ih=>intro a;have:=ih (by omega);have:=h.w n (by omega);unfold z4p;omega
 have:=this l.length (Nat.le_refl _)
 have:=h.n
 omega
theorem zhi{N:Nat}{w:List Int}{n:Int}(a:5000≤N):z16 N w n=some (ny w n):=by
 by_cases h:256<w.length
 ·rw [zcq (.inr h)]
  unfold z16
  exact ct (by rw [decide_eq_true (show (256:Int)<(w.length:Int) by omega)];simp)
 ·exact zdq (by omega) (by omega)
theorem zhp{l:List (List Int)}{n:Int}(h:z5m l n=0): ∀ k,k<l.length→ny (l.getD k default) n=0:=by
 unfold z5m at h
 intro k a
 by_cases h1:16<n∨4096<l.length
 ·rw [if_pos h1] at h;cases h
 rw [if_neg h1] at h
 by_cases h2:n<1
 ·rw [if_pos h2] at h;cases h
 rw [if_neg h2] at h
 cases hf:(l.map fun w=>ny w n).find? (fun c=>decide (c≠0)) with
 |some c=>
  rw [hf] at h
  have:=List.find?_some hf
  simp only [Option.getD_some] at h
  rw [h] at this;simp at this
 |none=>
  have:=List.find?_eq_none.1 hf (ny (l.getD k default) n) (by rw [List.mem_map];exact⟨_,z2p a,rfl⟩)
  simpa using this
theorem LSm.short{l:List (List Int)}{n:Int}(h:LSm l)(a:z5m l n=0):LSh l:=⟨h,fun k b=>(z9g (zhp a k b)).2⟩
theorem zkd{N:Nat}{l:List (List Int)}{n:Int}(d:LSm l)(f:5000≤N):z4y N l n=some (z5m l n):=by
 have i:=d.n
 unfold z4y z5m
 by_cases h0:16<n∨4096<l.length
 ·rw [ct (by
   rcases h0 with h|h
   ·rw [decide_eq_true h];rfl
   ·rw [decide_eq_true (show (4096:Int)<(l.length:Int) by omega)];simp),if_pos h0]
 ·rw [cf (by rw [decide_eq_false (by omega),decide_eq_false (by omega)];rfl),if_neg h0]
  by_cases h2:n<1
  ·rw [dn h2,if_pos h2]
  ·rw [dh h2,if_neg h2]
   have g:rf N l n N 0=some (match (l.map fun w=>ny w n).find? (fun c=>decide (c≠0)) with|some c=>Ex.rt c|none=>Ex.go ()):=by
    refine z19 (σ:=Unit) (fun F k _=>rf N l n F (k:Int)) l.length (fun k _=> ∀ j,j<k→(l.map fun w=>ny w n).getD j default=0) _ (fun F k _ a hi=>?_) (fun F _ hi=>?_) N 0 () (Nat.zero_le _) (by omega) (fun j b=>absurd b (by omega))
    ·simp only [rf]
     rw [dn (by omega),j5 (jy a),z03,jm (zhi f)]
     by_cases hc:ny (l.getD k default) n≠0
     ·left
      rw [dn hc,z4v (k:=k) (by rw [List.length_map];exact a) hi (by rw [z3e a];exact hc),z3e a]
     ·right
      refine⟨(),fun j b=>?_,by rw [dh hc,j5 (xe (by omega))];rfl⟩
      by_cases e:j=k
      ·subst e;rw [z3e a];simpa using hc
      ·exact hi j (by omega)
    ·simp only [rf]
     rw [dh (by omega),z9i (by rw [List.length_map];exact hi)]
   rw [jm g]
   cases (l.map fun w=>ny w n).find? (fun c=>decide (c≠0))<;>rfl
theorem zj4{N:Nat}{l:List (List Int)}{n:Int}(f:LSm l)(i:5000≤N):z05 N l n=some (z5m l n):=by
 have m:=f.n
 unfold z05 z5m
 by_cases h0:16<n∨4096<l.length
 ·rw [ct (by
   rcases h0 with h|h
   ·rw [decide_eq_true h];rfl
   ·rw [decide_eq_true (show (4096:Int)<(l.length:Int) by omega)];simp),if_pos h0]
 ·rw [cf (by rw [decide_eq_false (by omega),decide_eq_false (by omega)];rfl),if_neg h0]
  by_cases h2:n<1
  ·rw [dn h2,if_pos h2]
  ·rw [dh h2,if_neg h2]
   have g:yf N l n N 0=some (match (l.map fun w=>ny w n).find? (fun c=>decide (c≠0)) with|some c=>Ex.rt c|none=>Ex.go ()):=by
    refine z19 (σ:=Unit) (fun F k _=>yf N l n F (k:Int)) l.length (fun k _=> ∀ j,j<k→(l.map fun w=>ny w n).getD j default=0) _ (fun F k _ a hi=>?_) (fun F _ hi=>?_) N 0 () (Nat.zero_le _) (by omega) (fun j d=>absurd d (by omega))
    ·simp only [yf,z1g]
     rw [dn (by omega),j5 (jy a),z03]
     by_cases h256:256<(l.getD k default).length
     ·left
      have b:ny (l.getD k default) n=3:=zcq (.inr h256)
      rw [dn (by omega),zfb,dn (by decide),z4v (k:=k) (by rw [List.length_map];exact a) hi (by rw [z3e a,b];decide),z3e a,b]
     ·rw [dh (by omega),zfb,dh (by decide),j5 (jy a),jm (zly (by omega) (by omega))]
      by_cases hs:(l.getD k default).any (z3l n)=true
      ·left
       have b:ny (l.getD k default) n=1:=zfw (by omega) (.inr hs)
       rw [if_pos hs,dn (by decide),z4v (k:=k) (by rw [List.length_map];exact a) hi (by rw [z3e a,b];decide),z3e a,b]
      ·right
       have b:ny (l.getD k default) n=0:=by unfold ny;rw [if_neg (by omega),if_neg h2,if_neg hs]
       rw [if_neg hs,dh (by decide),j5 (xe (by omega))]
       refine⟨(),fun j d=>?_,rfl⟩
       by_cases e:j=k
       ·subst e;rw [z3e a];exact b
       ·exact hi j (by omega)
    ·simp only [yf]
     rw [dh (by omega),z9i (by rw [List.length_map];exact hi)]
   rw [jm g]
   cases (l.map fun w=>ny w n).find? (fun c=>decide (c≠0))<;>rfl
def zh9(l:List (List Int)):Bool:=(List.range (l.length-1)).any fun i=>decide (0≤cmpL (l.getD i default) (l.getD (i+1) default))
theorem zmd{ρ:Type}(L:Nat→Int→Option ρ)(n:Nat)(p:Nat→Bool)(a b:ρ)(c: ∀ F (k:Nat),k+1<n→p k=true→L (F+1) ((k:Int)+1)=some b)(skip: ∀ F (k:Nat),k+1<n→p k=false→L (F+1) ((k:Int)+1)=L F ((k:Int)+1+1))(fin: ∀ F (k:Int),(n:Int)≤k→L (F+1) k=some a){F:Nat}(f:n<F):
 L F 1=some (bif (List.range (n-1)).any p then b else a):=by
 have:=zbc (fun F k=>L F ((k:Int)+1)) (n-1) p a b (fun F k e d=>c F k (by omega) d) (fun F k e d=>skip F k (by omega) d) (fun F=>fin F _ (by omega)) (F:=F) (by omega)
 exact this
theorem zjq{N:Nat}{l:List (List Int)}(a:LSh l)(g:5000≤N):z5c N l=some (!zh9 l):=by
 have h:=a.n
 have e:aj N l N 1=some (bif zh9 l then Ex.rt false else Ex.go ()):=by
  refine zmd (fun F k=>aj N l F k) l.length _ _ _ (fun F k b c=>?_) (fun F k b c=>?_) (fun F k b=>?_) (by omega)
  ·have f:=a.w k (by omega)
   have d:=a.w (k+1) (by omega)
   simp only [aj]
   rw [dn (by omega),j5 (xe (by omega)),show (k:Int)+1-1=(k:Int) by omega,j5 (jy (by omega)),zam,j5 (jy b),z03,z03,jm (zi8 (by omega) (by omega) (by omega))]
   exact ct c
  ·have f:=a.w k (by omega)
   have d:=a.w (k+1) (by omega)
   simp only [aj]
   rw [dn (by omega),j5 (xe (by omega)),show (k:Int)+1-1=(k:Int) by omega,j5 (jy (by omega)),zam,j5 (jy b),z03,z03,jm (zi8 (by omega) (by omega) (by omega))]
   exact(cf c).trans (by rw [j5 (xe (by omega))])
  ·simp only [aj]
   rw [dh (by omega)]
 unfold z5c
 rw [jm e]
 cases zh9 l<;>rfl
theorem zk7{N:Nat}{l:List (List Int)}(a:LSh l)(d:5000≤N):z5h N l=some (z4p l l.length:Int):=by
 have e:=a.n
 have f:=a.t
 have c:rq N l N 0 0=some (z4p l l.length:Int):=by
  refine z81 (fun F k s=>rq N l F s (k:Int)) l.length (fun k=>(z4p l k:Int)) _ (fun F k b=>?_) (fun F=>?_) (by omega)
  ·have g:z4p l (k+1)≤z4p l l.length:=zbj _ _ b
   have hm':z4p l (k+1)=z4p l k+(l.getD k default).length:=rfl
   simp only [rq]
   rw [dn (by omega),j5 (jy b),z03,j5 (xe (by omega)),j5 (xe (by omega))]
   congr 1
  ·simp only [rq]
   rw [dh (by omega)]
 unfold z5h
 rw [jm c]
theorem zj2{N:Nat}{l:List (List Int)}(a:LSh l)(d:5000≤N):dz N l=some (z4p l l.length:Int):=by
 have e:=a.n
 have f:=a.t
 have c:ko N l N 0 0=some (z4p l l.length:Int):=by
  refine z81 (fun F k s=>ko N l F s (k:Int)) l.length (fun k=>(z4p l k:Int)) _ (fun F k b=>?_) (fun F=>?_) (by omega)
  ·have g:z4p l (k+1)≤z4p l l.length:=zbj _ _ b
   have hm':z4p l (k+1)=z4p l k+(l.getD k default).length:=rfl
   simp only [ko]
   rw [dn (by omega),j5 (jy b),z03,zbo (by omega),zbo (by omega)]
   congr 1
  ·simp only [ko]
   rw [dh (by omega)]
 unfold dz
 rw [jm c]
theorem zgs{N:Nat}{l:List (List Int)}(a:LSm l)(e:5000≤N): ∃ r,dz N l=some r:=by
 have f:=a.n
 have b: ∃ r,ko N l N 0 0=some r∧True:=by
  refine z90 (σ:=Int) (fun F k s=>ko N l F s (k:Int)) l.length (fun _ _=>True) _ (fun F k s c _=> .inr ?_) (fun F s _=>?_) N 0 0 (Nat.zero_le _) (by omega) trivial
  ·refine⟨IntKind.i64.wrap (s+((ix l (k:Int)).length:Int)),trivial,?_⟩
   simp only [ko]
   rw [dn (by omega),j5 (jy c),zbo (x:=(k:Int)+1) (by omega)]
   rfl
  ·simp only [ko]
   rw [dh (by omega)];exact⟨_,rfl,trivial⟩
 obtain⟨r,d,_⟩:=b
 exact⟨r,by unfold dz;rw [jm d]⟩
def z7g(l:List (List Int))(n:Int):Int:=if z5m l n≠0 then z5m l n else if zh9 l=true then 1 else 0
theorem zj1{N:Nat}{l:List (List Int)}{n:Int}(a:LSm l)(b:5000≤N):z5f N l n=some (z7g l n):=by
 unfold z5f z7g
 rw [jm (zkd a b)]
 by_cases h:z5m l n≠0
 ·rw [dn h,if_pos h]
 ·have a:=a.short (n:=n) (by simpa using h)
  have c:=a.t
  rw [dh h,if_neg h,jm (zjq a b)]
  cases ho:zh9 l with
  |true=>rw [if_pos rfl];rfl
  |false=>
   rw [if_neg (by decide)]
   refine(cf rfl).trans ?_
   rw [jm (zk7 a b),dh (by omega)]
theorem zh6{N:Nat}{l:List (List Int)}{n:Int}(a:LSm l)(d:5000≤N):z06 N l n=some (z7g l n):=by
 have g:=a.n
 unfold z06 z7g
 rw [jm (zj4 a d)]
 by_cases h:z5m l n≠0
 ·rw [dn h,if_pos h]
 ·have a:=a.short (n:=n) (by simpa using h)
  have i:=a.t
  rw [dh h,if_neg h]
  have e:w9 N l N 1=some (bif zh9 l then Ex.rt 1 else Ex.go ()):=by
   refine zmd (fun F k=>w9 N l F k) l.length _ _ _ (fun F k b c=>?_) (fun F k b c=>?_) (fun F k b=>?_) (by omega)
   ·have f:=a.w k (by omega)
    simp only [w9]
    rw [dn (by omega),j5 (xe (by omega)),show (k:Int)+1-1=(k:Int) by omega,j5 (jy (by omega)),zam,j5 (jy b),z03,z03,jm (zev (by omega) (by omega))]
    exact ct c
   ·have f:=a.w k (by omega)
    simp only [w9]
    rw [dn (by omega),j5 (xe (by omega)),show (k:Int)+1-1=(k:Int) by omega,j5 (jy (by omega)),zam,j5 (jy b),z03,z03,jm (zev (by omega) (by omega))]
    exact(cf c).trans (by rw [j5 (xe (by omega))])
   ·simp only [w9]
    rw [dh (by omega)]
  rw [jm e]
  cases ho:zh9 l with
  |true=>rw [if_pos rfl];rfl
  |false=>
   rw [if_neg (by decide),cond_false,zff,jm (zj2 a d),dh (by omega)]
end GV
end Go.Proofs.YtkhihcleegljhaaGreat

namespace Go.Proofs.YtkhihcleegljhaaGreat
namespace GV
set_option maxRecDepth 100000
theorem zda{ρ:Type}(L:Nat→Nat→Option ρ)(n:Nat)(p:Nat→Bool)(f:ρ)(g:Nat→ρ)(d: ∀ F k,k<n→p k=true→L (F+1) k=some (g k))(skip: ∀ F k,k<n→p k=false→L (F+1) k=L F (k+1))(fin: ∀ F,L (F+1) n=some f){F:Nat}(h:n<F):
 L F 0=some (match (List.range n).find? p with|some k=>g k|none=>f):=by
 refine z19 (σ:=Unit) (fun F k _=>L F k) n (fun k _=> ∀ j,j<k→p j=false) _ (fun F k s a b=>?_) (fun F s b=>?_) F 0 () (Nat.zero_le _) (by omega) (fun j c=>absurd c (by omega))
 ·cases hp:p k with
  |true=>
   left
   have:(List.range n).find? p=some k:=by
    rw [List.find?_eq_some_iff_getElem]
    exact⟨hp,k,by simpa using a,by simp,fun j c=>by rw [List.getElem_range,b j c];rfl⟩
   rw [this];exact d F k a hp
  |false=>
   right
   refine⟨(),fun j c=>?_,skip F k a hp⟩
   by_cases e:j=k
   ·subst e;exact hp
   ·exact b j (by omega)
 ·have:(List.range n).find? p=none:=by
   rw [List.find?_eq_none];intro k a;rw [b k (List.mem_range.1 a)];simp
  rw [this];exact fin F
def zkn(a b:List Int)(i:Nat):Bool:=decide (ix a (i:Int)≠ix b (i:Int))
def zjj(a b:List Int):Int:=match (List.range a.length).find? (zkn a b) with|some i=>(i:Int)|none=> -1
def zbq(m t:Mach)(w:List Int):Int:=zjj (z4d m 0 w) (z4d t 0 w)
theorem zko{N:Nat}{m:Mach}{w:List Int}(a:MOk m)(b:ny w m.inputs=0)(d:5000≤N):z1h N m 0 w=some (z4d m 0 w,0):=by
 have h:=z9g b
 have e:=a.r1
 have c:z7c m 0=0:=by
  unfold z7c
  rw [if_neg (by rw [(z6i m).2 a];decide),if_neg (by omega)]
 rw [zn3 a.small (by omega) (by omega) (by omega)]
 unfold zn7 zmo
 rw [if_neg (by rw [c];decide),if_neg (by rw [b];decide),if_neg (by rw [c];decide),b]
theorem zlh{N:Nat}{m t:Mach}{w:List Int}(g:MOk m)(h:MOk t)(hi:t.inputs=m.inputs)(c:ny w m.inputs=0)(f:5000≤N):z2q N m t w=some (zbq m t w):=by
 have n:=(z9g c).2
 have i:=z1x m 0 w
 have j:=z1x t 0 w
 unfold z2q
 rw [jm (zko g c f),jm (zko h (by rw [hi];exact c) f)]
 unfold zbq zjj
 generalize z4d m 0 w=a at i⊢
 generalize z4d t 0 w=b at j⊢
 have l:dw N (a,0) (b,0) N 0=some (match (List.range a.length).find? (zkn a b) with|some k=>Ex.rt (k:Int)|none=>Ex.go ()):=by
  refine zda (fun F k=>dw N (a,0) (b,0) F (k:Int)) a.length _ _ _ (fun F k d e=>?_) (fun F k d e=>?_) (fun F=>?_) (by omega)
  ·simp only [dw]
   rw [dn (by show (k:Int)<(a.length:Int);omega),j5 (jy (X:=a) d),j5 (jy (X:=b) (by omega))]
   exact ct e
  ·simp only [dw]
   rw [dn (by show (k:Int)<(a.length:Int);omega),j5 (jy (X:=a) d),j5 (jy (X:=b) (by omega))]
   exact(cf e).trans (by rw [j5 (xe (by omega))];rfl)
  ·simp only [dw]
   rw [dh (by show¬(a.length:Int)<(a.length:Int);omega)]
 rw [jm l]
 cases (List.range a.length).find? (zkn a b)<;>rfl
theorem zku{N:Nat}{m t:Mach}{w:List Int}(e:MOk m)(f:MOk t)(hi:t.inputs=m.inputs)(g:ny w m.inputs=0)(o:5000≤N):z0n N m t w=some (zbq m t w):=by
 have h:=z9g g
 have p:=e.r1
 have i:=f.r1
 have j:=z1x m 0 w
 have l:=z1x t 0 w
 unfold z0n
 rw [jm (zia e (.inr ⟨by omega,by omega⟩) h.1 (by omega) (by omega)),jm (zia f (.inr ⟨by omega,by omega⟩) (by rw [hi];exact h.1) (by omega) (by omega))]
 unfold zbq zjj
 generalize z4d m 0 w=a at j⊢
 generalize z4d t 0 w=b at l⊢
 have n:vg N a b N 0=some (match (List.range a.length).find? (zkn a b) with|some k=>Ex.rt (k:Int)|none=>Ex.go ()):=by
  refine zda (fun F k=>vg N a b F (k:Int)) a.length _ _ _ (fun F k c d=>?_) (fun F k c d=>?_) (fun F=>?_) (by omega)
  ·simp only [vg]
   rw [dn (by omega),j5 (jy c),j5 (jy (by omega))]
   exact ct d
  ·simp only [vg]
   rw [dn (by omega),j5 (jy c),j5 (jy (by omega))]
   exact(cf d).trans (by rw [j5 (xe (by omega))];rfl)
  ·simp only [vg]
   rw [dh (by omega)]
 rw [jm n]
 cases (List.range a.length).find? (zkn a b)<;>rfl
/-! ### Kill-/
def z9v(m t:Mach)(l:List (List Int)):List Int:=z2r l.length 0 (fun k=>zbq m t (l.getD k default)) l.length
def zao(m:Mach)(ts:List Mach)(l:List (List Int)):List (List Int):=z2r ts.length [] (fun i=>z9v m (ts.getD i default) l) ts.length
def z5u(m t:Mach):Int:=if si t≠0 then si t else if t.inputs≠m.inputs then 5 else 0
def z8a(m:Mach)(ts:List Mach)(l:List (List Int)):Int:=if si m≠0 then si m else match (ts.map (z5u m)).find? (fun c=>decide (c≠0)) with|some c=>c|none=>z7g l m.inputs
structure KSm (m:Mach) (ts:List Mach) (l:List (List Int)):Prop where
 m:Small m
 n:ts.length≤20
 t: ∀ k,k<ts.length→Small (ts.getD k default)
 l:LSm l
theorem z1n{ts:List Mach}{m:Mach}{k:Nat}(a:k<ts.length):(ts.map (z5u m)).getD k default=z5u m (ts.getD k default):=by
 rw [List.getD_eq_getElem?_getD,List.getD_eq_getElem?_getD,List.getElem?_map,List.getElem?_eq_getElem a];rfl
theorem zhn{l:List (List Int)}{n:Int}(h:z7g l n=0): ∀ k,k<l.length→ny (l.getD k default) n=0:=by
 unfold z7g at h
 by_cases h1:z5m l n≠0
 ·rw [if_pos h1] at h;exact absurd h h1
 ·exact zhp (by simpa using h1)
theorem zm5{m t:Mach}(h:z5u m t=0):MOk t∧t.inputs=m.inputs:=by
 unfold z5u at h
 by_cases h1:si t≠0
 ·rw [if_pos h1] at h;exact absurd h h1
 ·rw [if_neg h1] at h
  by_cases h2:t.inputs≠m.inputs
  ·rw [if_pos h2] at h;cases h
  ·exact⟨(z6i t).1 (by simpa using h1),by simpa using h2⟩
theorem zet{Y:List (List Int)}{i k:Nat}{A:List Int}{y:Int}(hi:i<Y.length):(Y.set i A).set i (((Y.set i A).getD i default).set k y)=Y.set i (A.set k y):=by
 rw [z1i hi,if_pos rfl,List.set_set]
theorem zij{N:Nat}{m:Mach}{ts:List Mach}{l:List (List Int)}(h:KSm m ts l)(c:5000≤N)(d:MOk m)(e: ∀ k,k<ts.length→MOk (ts.getD k default)∧(ts.getD k default).inputs=m.inputs)(g: ∀ k,k<l.length→ny (l.getD k default) m.inputs=0):
 tq N m ts l N 0 (mk (ts.length:Int) ([]:List Int))=some (zao m ts l):=by
 have p:=h.n
 have q:=h.l.n
 rw [zgw,zd5 (f:=fun i=>z9v m (ts.getD i default) l)]
 refine z81 (fun F i s=>tq N m ts l F (i:Int) s) ts.length (fun i=>z2r ts.length [] (fun i=>z9v m (ts.getD i default) l) i) _ (fun F i hi=>?_) (fun F=>?_) (by omega)
 ·obtain⟨j,o⟩:=e i hi
  have hlen:(z2r ts.length [] (fun i=>z9v m (ts.getD i default) l) i).length=ts.length:=z5x
  generalize hY:z2r ts.length [] (fun i=>z9v m (ts.getD i default) l) i=Y at hlen
  have a:mq N m ts l (i:Int) N 0 (Y.set i (mk (l.length:Int) (0:Int)))=some (Y.set i (z9v m (ts.getD i default) l)):=by
   rw [zgw,zd5 (f:=fun k=>zbq m (ts.getD i default) (l.getD k default))]
   refine z81 (fun F k s=>mq N m ts l (i:Int) F (k:Int) s) l.length (fun k=>Y.set i (z2r l.length 0 (fun k=>zbq m (ts.getD i default) (l.getD k default)) k)) _ (fun F k b=>?_) (fun F=>?_) (by omega)
   ·simp only [mq]
    rw [dn (by omega),j5 (jy b),j5 (jy (by rw [List.length_set];omega)),z03,z03,jm (zlh d j o (g k b) c),j5 (jy (by rw [z03,z1i (by omega),if_pos rfl,z5x];exact b)),j5 (xe (by omega)),zew,zew,z03,zet (by omega),←zdn (k:=k)]
    rfl
   ·simp only [mq]
    rw [dh (by omega)];rfl
  simp only [tq]
  rw [dn (by omega),j5 (jy hi),j5 ⟨by omega,by omega,by omega⟩,j5 (jy (by omega)),zew,jm a,j5 (xe (by omega)),←hY,←zdn (k:=i)]
  rfl
 ·simp only [tq]
  rw [dh (by omega)];rfl
theorem zlr{N:Nat}{m:Mach}{ts:List Mach}{l:List (List Int)}(h:KSm m ts l)(i:5000≤N):z1p N m ts l=some (if z8a m ts l≠0 then(⟨[]⟩,z8a m ts l) else(⟨zao m ts l⟩,0)):=by
 have p:=h.n
 have q:=h.l.n
 unfold z1p z8a
 rw [jm (zbn h.m (by omega))]
 by_cases hc:si m≠0
 ·rw [dn hc,if_pos hc,if_pos hc]
 ·rw [dh hc,if_neg hc,dh (by omega)]
  have r:mo N m ts N 0=some (match (ts.map (z5u m)).find? (fun c=>decide (c≠0)) with|some c=>Ex.rt (⟨[]⟩,c)|none=>Ex.go ()):=by
   refine z19 (σ:=Unit) (fun F k _=>mo N m ts F (k:Int)) ts.length (fun k _=> ∀ j,j<k→(ts.map (z5u m)).getD j default=0) _ (fun F k _ a hi=>?_) (fun F _ hi=>?_) N 0 () (Nat.zero_le _) (by omega) (fun j o=>absurd o (by omega))
   ·have s:=h.t k a
    simp only [mo]
    rw [dn (by omega),j5 (jy a),jm (show lq N ⟨(ix ts (k:Int)).inputs,(ix ts (k:Int)).outputs,(ix ts (k:Int)).rows⟩=some (si (ts.getD k default)) from zbn s (by omega))]
    by_cases c1:si (ts.getD k default)≠0
    ·left
     have e:z5u m (ts.getD k default)=si (ts.getD k default):=if_pos c1
     rw [dn c1,z4v (k:=k) (by rw [List.length_map];exact a) hi (by rw [z1n a,e];exact c1),z1n a,e]
    ·rw [dh c1]
     by_cases c2:(ts.getD k default).inputs≠m.inputs
     ·left
      have e:z5u m (ts.getD k default)=5:=by unfold z5u;rw [if_neg c1,if_pos c2]
      rw [dn (show (ix ts (k:Int)).inputs≠m.inputs from c2),z4v (k:=k) (by rw [List.length_map];exact a) hi (by rw [z1n a,e];decide),z1n a,e]
     ·right
      have e:z5u m (ts.getD k default)=0:=by unfold z5u;rw [if_neg c1,if_neg c2]
      refine⟨(),fun j o=>?_,by rw [dh (show¬(ix ts (k:Int)).inputs≠m.inputs from c2),j5 (xe (by omega))];rfl⟩
      by_cases e':j=k
      ·subst e';rw [z1n a];exact e
      ·exact hi j (by omega)
   ·simp only [mo]
    rw [dh (by omega),z9i (by rw [List.length_map];exact hi)]
  rw [jm r]
  cases hf:(ts.map (z5u m)).find? (fun c=>decide (c≠0)) with
  |some c=>
   have b:c≠0:=by have:=List.find?_some hf;simpa using this
   dsimp only
   rw [zmk,if_pos b]
  |none=>
   dsimp only
   rw [zff,jm (zj1 h.l i)]
   by_cases ht:z7g l m.inputs≠0
   ·rw [dn ht,if_pos ht]
   ·have hmul:(ts.length:Int)*(l.length:Int)≤20*100:=by
     have:ts.length*l.length≤20*100:=Nat.mul_le_mul p q
     exact_mod_cast this
    have d:0≤(ts.length:Int)*(l.length:Int):=Int.mul_nonneg (by omega) (by omega)
    have u:MOk m:=(z6i m).1 (by simpa using hc)
    have f: ∀ k,k<ts.length→MOk (ts.getD k default)∧(ts.getD k default).inputs=m.inputs:=fun k a=>by
     have:=List.find?_eq_none.1 hf (z5u m (ts.getD k default)) (by rw [List.mem_map];exact⟨_,z2p a,rfl⟩)
     exact zm5 (by simpa using this)
    have g:=zhn (l:=l) (n:=m.inputs) (by simpa using ht)
    rw [dh ht,if_neg ht,j5 (xe (by omega)),dh (by omega),j5 ⟨by omega,by omega,by omega⟩,jm (zij h i u f g)]
theorem ready_eq{N:Nat}{m:Mach}{ts:List Mach}{l:List (List Int)}(h:KSm m ts l)(f:5000≤N):z08 N m ts l=some (z8a m ts l):=by
 have g:=h.n
 have i:=h.l.n
 unfold z08 z8a
 rw [jm (ze9 h.m (by omega))]
 by_cases hc:si m≠0
 ·rw [dn hc,if_pos hc]
 ·rw [dh hc,if_neg hc,dh (by omega)]
  have o:yc N m ts N 0=some (match (ts.map (z5u m)).find? (fun c=>decide (c≠0)) with|some c=>Ex.rt c|none=>Ex.go ()):=by
   refine z19 (σ:=Unit) (fun F k _=>yc N m ts F (k:Int)) ts.length (fun k _=> ∀ j,j<k→(ts.map (z5u m)).getD j default=0) _ (fun F k _ a hi=>?_) (fun F _ hi=>?_) N 0 () (Nat.zero_le _) (by omega) (fun j d=>absurd d (by omega))
   ·have p:=h.t k a
    simp only [yc]
    rw [dn (by omega),j5 (jy a),jm (show oq N (ix ts (k:Int))=some (si (ts.getD k default)) from ze9 p (by omega))]
    by_cases c1:si (ts.getD k default)≠0
    ·left
     have e:z5u m (ts.getD k default)=si (ts.getD k default):=if_pos c1
     rw [dn c1,z4v (k:=k) (by rw [List.length_map];exact a) hi (by rw [z1n a,e];exact c1),z1n a,e]
    ·rw [dh c1,j5 (jy a)]
     by_cases c2:(ts.getD k default).inputs≠m.inputs
     ·left
      have e:z5u m (ts.getD k default)=5:=by unfold z5u;rw [if_neg c1,if_pos c2]
      rw [dn (show (ix ts (k:Int)).inputs≠m.inputs from c2),z4v (k:=k) (by rw [List.length_map];exact a) hi (by rw [z1n a,e];decide),z1n a,e]
     ·right
      have e:z5u m (ts.getD k default)=0:=by unfold z5u;rw [if_neg c1,if_neg c2]
      refine⟨(),fun j d=>?_,by rw [dh (show¬(ix ts (k:Int)).inputs≠m.inputs from c2),j5 (xe (by omega))];rfl⟩
      by_cases e':j=k
      ·subst e';rw [z1n a];exact e
      ·exact hi j (by omega)
   ·simp only [yc]
    rw [dh (by omega),z9i (by rw [List.length_map];exact hi)]
  rw [jm o]
  cases hf:(ts.map (z5u m)).find? (fun c=>decide (c≠0)) with
  |some c=>rfl
  |none=>
   dsimp only
   rw [zff,jm (zh6 h.l f)]
   by_cases ht:z7g l m.inputs≠0
   ·rw [dn ht]
   ·have hmul:(ts.length:Int)*(l.length:Int)≤20*100:=by
     have:ts.length*l.length≤20*100:=Nat.mul_le_mul g i
     exact_mod_cast this
    have b:0≤(ts.length:Int)*(l.length:Int):=Int.mul_nonneg (by omega) (by omega)
    rw [dh ht,j5 (xe (by omega)),dh (by omega)]
    have:z7g l m.inputs=0:=by simpa using ht
    rw [this]
theorem zbv{α:Type}{n:Nat}{d:α}{f:Nat→α}:z2r n d f n=(List.range n).map f:=by
 apply List.ext_getElem
 ·simp [z2r]
 ·intro i a b
  simp only [z2r,List.length_map,List.length_range] at a
  simp [z2r,a]
theorem zkg{N:Nat}{m:Mach}{ts:List Mach}{l:List (List Int)}(h:KSm m ts l)(o:5000≤N)(a:z8a m ts l=0):z0o N m ts l=some ⟨zao m ts l⟩:=by
 have t:=h.n
 have u:=h.l.n
 unfold z8a at a
 have b: ¬si m≠0:=by intro b;rw [if_pos b] at a;exact b a
 rw [if_neg b] at a
 have p:MOk m:=(z6i m).1 (by simpa using b)
 cases hf:(ts.map (z5u m)).find? (fun c=>decide (c≠0)) with
 |some c=>rw [hf] at a;have:=List.find?_some hf;simp only at a;rw [a] at this;simp at this
 |none=>
  rw [hf] at a
  have e: ∀ k,k<ts.length→MOk (ts.getD k default)∧(ts.getD k default).inputs=m.inputs:=fun k d=>by
   have:=List.find?_eq_none.1 hf (z5u m (ts.getD k default)) (by rw [List.mem_map];exact⟨_,z2p d,rfl⟩)
   exact zm5 (by simpa using this)
  have f:=zhn (l:=l) (n:=m.inputs) a
  have g: ∀ i,i<ts.length→xc N m ts l (i:Int) N 0 []=some (z9v m (ts.getD i default) l):=fun i hi=>by
   obtain⟨q,r⟩:=e i hi
   unfold z9v
   rw [zbv]
   refine z81 (fun F k s=>xc N m ts l (i:Int) F (k:Int) s) l.length (fun k=>(List.range k).map fun k=>zbq m (ts.getD i default) (l.getD k default)) _ (fun F k d=>?_) (fun F=>?_) (by omega)
   ·simp only [xc]
    rw [dn (by omega),j5 (jy hi),j5 (jy d),z03,z03,jm (zku p q r (f k d) o),j5 ⟨by simp only [List.length_singleton,List.length_map,List.length_range];omega,by simp only [List.length_singleton,List.length_map,List.length_range];omega⟩,j5 (xe (by omega)),List.range_succ,List.map_append];rfl
   ·simp only [xc]
    rw [dh (by omega)]
  have j:xg N m ts l N 0 []=some (zao m ts l):=by
   unfold zao
   rw [zbv]
   refine z81 (fun F i s=>xg N m ts l F (i:Int) s) ts.length (fun i=>(List.range i).map fun i=>z9v m (ts.getD i default) l) _ (fun F i hi=>?_) (fun F=>?_) (by omega)
   ·simp only [xg]
    rw [dn (by omega),jm (g i hi),j5 ⟨by simp only [List.length_singleton,List.length_map,List.length_range];omega,by simp only [List.length_singleton,List.length_map,List.length_range];omega⟩,j5 (xe (by omega)),List.range_succ,List.map_append];rfl
   ·simp only [xg]
    rw [dh (by omega)]
  unfold z0o
  rw [jm j]
theorem zja{N:Nat}{X:List (List Int)}(d:X.length≤1000)(b: ∀ k,k<X.length→(X.getD k default).length≤4000)(e:5000≤N):l9 N X X=some true:=by
 have c:xh N X X N 0=some (Ex.go ()):=by
  refine z81 (σ:=Unit) (fun F k _=>xh N X X F (k:Int)) X.length (fun _=>()) _ (fun F k a=>?_) (fun F=>?_) (by omega)
  ·have:=b k a
   simp only [xh]
   rw [dn (by omega),j5 (jy a),j5 (jy a),z03,jm (zev (by omega) (by omega)),(cmpL_eq _ _).2 rfl,dh (by decide),j5 (xe (by omega))];rfl
  ·simp only [xh]
   rw [dh (by omega)]
 unfold l9
 rw [dh (by omega),jm c];rfl
theorem zhd{N:Nat}{X:List (List Int)}(a:X.length≤1000)(b: ∀ k,k<X.length→(X.getD k default).length≤4000)(c:5000≤N):ay N ⟨X⟩ ⟨X⟩=some true:=by
 unfold ay
 rw [jm (zja a b c)]
end GV
end Go.Proofs.YtkhihcleegljhaaGreat

namespace Go.Proofs.YtkhihcleegljhaaGreat
namespace GV
set_option maxRecDepth 100000
theorem zfe:z0a 5000=some true:=by decide+kernel
def SmB(m:Mach):Prop:=m.rows.length≤6∧ ∀ k,k<m.rows.length→(m.rows.getD k default).length≤4
theorem SmB.small{m:Mach}(h:SmB m):Small m:=⟨by have:=h.1;omega,fun k a=>by have:=h.2 k a;omega⟩
theorem zfo{N:Nat}(m:Mach)(d:5000≤N): ∃ r,fe N m=some r∧(r=0→SmB m):=by
 unfold fe
 by_cases h:6<m.rows.length
 ·rw [dn (by omega)];exact⟨1,rfl,fun h=>by cases h⟩
 ·rw [dh (by omega)]
  have c:wh N m N 0=some (bif (List.range m.rows.length).any (fun k=>decide (4<(m.rows.getD k default).length)) then Ex.rt 1 else Ex.go ()):=by
   refine zbc (fun F k=>wh N m F (k:Int)) m.rows.length _ _ _ (fun F k a b=>?_) (fun F k a b=>?_) (fun F=>?_) (by omega)
   ·simp only [wh]
    rw [decide_eq_true_eq] at b
    rw [dn (by omega),j5 (jy a),dn (by rw [z03];omega)]
   ·simp only [wh]
    rw [decide_eq_false_iff_not] at b
    rw [dn (by omega),j5 (jy a),dh (by rw [z03];omega),j5 (xe (by omega))];rfl
   ·simp only [wh]
    rw [dh (by omega)]
  rw [jm c]
  cases hb:(List.range m.rows.length).any (fun k=>decide (4<(m.rows.getD k default).length)) with
  |true=>exact⟨1,rfl,fun h=>by cases h⟩
  |false=>
   refine⟨0,rfl,fun _=>⟨by omega,fun k a=>?_⟩⟩
   have:=z8k.1 hb k a
   rw [decide_eq_false_iff_not] at this
   omega
theorem zh1{m:Mach}{ts:List Mach}{l:List (List Int)}:pz 5000 m ts l=some true:=by
 obtain⟨r,o,p⟩:=zfo (N:=5000) m (by decide)
 unfold pz
 rw [jm o]
 by_cases hc:(r≠0∨6<ts.length)∨60<l.length
 ·have e:((decide (r≠0)||decide ((6:Int)<(ts.length:Int)))||decide ((60:Int)<(l.length:Int)))=true:=by
   rcases hc with(h|h)|h
   ·rw [decide_eq_true h];rfl
   ·rw [decide_eq_true (show (6:Int)<(ts.length:Int) by omega)];simp
   ·rw [decide_eq_true (show (60:Int)<(l.length:Int) by omega)];simp
  rw [e]
  rfl
 ·have e:((decide (r≠0)||decide ((6:Int)<(ts.length:Int)))||decide ((60:Int)<(l.length:Int)))=false:=by
   rw [decide_eq_false (by omega),decide_eq_false (by omega),decide_eq_false (by omega)];rfl
  have t:=p (by omega)
  have i:LSm l:=⟨by omega⟩
  obtain⟨s,u⟩:=zgs (N:=5000) i (by decide)
  rw [e]
  refine(jm (x:=some s) ((zhl rfl).trans (by rw [u];rfl))).trans ?_
  by_cases h6:600<s
  ·exact ct (by rw [decide_eq_true (show (600:Int)<(some s).getD default from h6)];rfl)
  ·refine(cf (by rw [decide_eq_false (show¬(600:Int)<(some s).getD default from h6)];rfl)).trans ?_
   have v: ∃ q,kg 5000 ts 5000 0=some q∧(q=Ex.rt true∨q=Ex.go ()∧ ∀ k,k<ts.length→SmB (ts.getD k default)):=by
    refine z90 (σ:=Unit) (fun F k _=>kg 5000 ts F (k:Int)) ts.length (fun k _=> ∀ j,j<k→SmB (ts.getD j default)) _ (fun F k _ a hi=>?_) (fun F _ hi=>?_) 5000 0 () (Nat.zero_le _) (by omega) (fun j n=>absurd n (by omega))
    ·obtain⟨q,c,d⟩:=zfo (N:=5000) (ts.getD k default) (by decide)
     simp only [kg]
     rw [dn (by omega),j5 (jy a),z03,jm c]
     by_cases b:q≠0
     ·left;rw [dn b];exact⟨_,rfl,.inl rfl⟩
     ·right
      rw [dh b,j5 (xe (by omega))]
      refine⟨(),fun j n=>?_,rfl⟩
      by_cases e:j=k
      ·subst e;exact d (by simpa using b)
      ·exact hi j (by omega)
    ·simp only [kg]
     rw [dh (by omega)]
     exact⟨_,rfl,.inr ⟨rfl,hi⟩⟩
   obtain⟨q,c,f⟩:=v
   rw [jm c]
   rcases f with rfl|⟨rfl,g⟩
   ·rfl
   ·have a:KSm m ts l:=⟨t.small,by omega,fun k a=>(g k a).small,i⟩
    rw [zff,jm (ready_eq a (by decide)),jm (zlr a (by decide))]
    by_cases hr0:z8a m ts l≠0
    ·rw [if_pos hr0,dh (by simp),dn hr0]
     refine(jm (x:=some true) ((zhl rfl).trans (by rw [zfe];rfl))).trans ?_
     rfl
    ·have b:z8a m ts l=0:=by simpa using hr0
     rw [if_neg hr0,b,dh (show¬((0:Int)≠0) by decide),dh (by decide),jm (zkg a (by decide) b)]
     have hsame:ay 5000 ⟨zao m ts l⟩ ⟨zao m ts l⟩=some true:=by
      refine zhd ?_ (fun k hk'=>?_) (by decide)
      ·unfold zao;rw [z5x];omega
      ·unfold zao at hk'⊢
       rw [z5x] at hk'
       rw [zir hk' hk']
       unfold z9v
       rw [z5x];omega
     rw [jm hsame]
     refine(jm (x:=some true) ((zhl rfl).trans (by rw [zfe];rfl))).trans ?_
     rfl
end GV
end Go.Proofs.YtkhihcleegljhaaGreat
