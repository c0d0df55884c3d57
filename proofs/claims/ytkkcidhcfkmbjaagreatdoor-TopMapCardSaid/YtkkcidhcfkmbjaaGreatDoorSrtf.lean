import Derived.Test.YtkkcidhcfkmbjaaGreatDoorPkt
import Derived.Test.YtkkcidhcfkmbjaaGreatDoorShPl
set_option linter.unusedVariables false
set_option linter.unusedSimpArgs false
set_option linter.unusedSectionVars false
namespace Go.Proofs.YtkkcidhcfkmbjaaGreatDoor
namespace GV
set_option maxRecDepth 100000
def ltP(p q:Int×Int):Prop:=p.1<q.1∨(p.1=q.1∧p.2<q.2)
theorem znl(p:Int×Int): ¬ltP p p:=by unfold ltP;omega
theorem zr4(p q:Int×Int)(h:ltP p q): ¬ltP q p:=by unfold ltP at*;omega
theorem zqy{p q r:Int×Int}(h:ltP p q)(k:ltP q r):ltP p r:=by unfold ltP at*;omega
theorem zpr(p q:Int×Int):ltP p q∨p=q∨ltP q p:=by
 unfold ltP
 by_cases h1:p.1=q.1
 ·by_cases h2:p.2=q.2
  ·exact .inr (.inl (Prod.ext h1 h2))
  ·omega
 ·omega
def zkk(k:Nat)(X:List (Int×Int)):Prop:= ∀ p q,p<q→q<k→ltP (X.getD p default) (X.getD q default)
section
variable {N : Nat} {F : (Int × Int) → (Int × Int) → Option Int}
theorem znw{X:List (Int×Int)}(h:X.Nodup){i j:Nat}(hi:i<X.length)(b:j<X.length)(e:X.getD i default=X.getD j default):i=j:=by
 rw [List.getD_eq_getElem?_getD,List.getD_eq_getElem?_getD,List.getElem?_eq_getElem hi,List.getElem?_eq_getElem b] at e
 have c:=List.pairwise_iff_getElem.1 h
 rcases Nat.lt_trichotomy i j with a|a|a
 ·exact absurd e (c i j hi b a)
 ·exact a
 ·exact absurd e.symm (c j i b hi a)
theorem zyj(u: ∀ p q,∃ c,F p q=some c∧(c<0↔ltP p q)){i:Nat}: ∀ (G j:Nat) (X:List (Int×Int)),i<X.length→X.length≤1000→j≤i→j<G→X.Nodup→
 (∀ p q,p<q→q≤i→p≠j→q≠j→ltP (X.getD p default) (X.getD q default))→(∀ q,j<q→q≤i→ltP (X.getD j default) (X.getD q default))→
 ∃ Y,jl N 0 F G (j:Int) X=some Y∧Y.Perm X∧zkk (i+1) Y:=by
 intro G
 induction G with
 |zero=>intro j X _ _ _ h;omega
 |succ G ih=>
  intro j X hi v C D d b m
  simp only [jl]
  cases j with
  |zero=>
   refine⟨X,?_,List.Perm.refl _,fun p q a g=>?_⟩
   ·rw [zi (fun h=>by simp at h),zi (fun h=>by simp at h),zi (fun h=>by simp at h),z9n (x:=0) (fun h=>by simp at h)]
    exact cf (by rw [decide_eq_false (show¬(0:Int)<((0:Nat):Int) by omega)];rfl)
   ·by_cases e:p=0
    ·subst e;exact m q a (by omega)
    ·exact b p q a (by omega) e (by omega)
  |succ t=>
   have w:((t+1:Nat):Int)-1=(t:Int):=by omega
   obtain⟨c,y,f⟩:=u (X.getD (t+1) default) (X.getD t default)
   rw [w,zi (fun _=>j3 (by omega)),zi (fun _=>ja (by omega)),zi (fun _=>j3 (by omega)),pg,pg,z9n (fun _=>y)]
   by_cases hlt:c<0
   ·have n:=f.1 hlt
    rw [ct (by rw [decide_eq_true (show (0:Int)<((t+1:Nat):Int) by omega)];show (true&&decide (c<0))=true;rw [decide_eq_true hlt];rfl)]
    rw [zi (ja (by omega)),zi (ja (by omega)),zi (j3 (by omega)),zi (j3 (by omega)),zi (j3 (by omega)),zi (j3 (by omega)),zi (ja (by omega)),z1p,z1p]
    have l: ∀ k,((X.set (t+1) (X.getD t default)).set t (X.getD (t+1) default)).getD k default=if k=t then X.getD (t+1) default else if k=t+1 then X.getD t default else X.getD k default:=fun k=>by
     rw [z0w (by rw [List.length_set];omega),z0w (by omega)]
    have hperm:((X.set (t+1) (X.getD t default)).set t (X.getD (t+1) default)).Perm X:=by
     have ea:X.getD t default=X[t]:=by rw [List.getD_eq_getElem?_getD,List.getElem?_eq_getElem (by omega)];rfl
     have eb:X.getD (t+1) default=X[t+1]:=by rw [List.getD_eq_getElem?_getD,List.getElem?_eq_getElem (by omega)];rfl
     rw [ea,eb]
     exact List.set_set_perm (by omega) (by omega)
    obtain⟨Y,z,o,A⟩:=ih t _ (by simp only [List.length_set];exact hi) (by simp only [List.length_set];exact v) (by omega) (by omega) (hperm.symm.nodup d) (fun p q a g o hq'=>by
     rw [l,l,if_neg o,if_neg hq']
     by_cases ep:p=t+1
     ·rw [if_pos ep,if_neg (by omega)]
      exact b t q (by omega) g (by omega) (by omega)
     ·rw [if_neg ep]
      by_cases eq:q=t+1
      ·rw [if_pos eq];exact b p t (by omega) (by omega) (by omega) (by omega)
      ·rw [if_neg eq];exact b p q a g ep eq) (fun q B r=>by
     rw [l,l,if_pos rfl,if_neg (by omega)]
     by_cases eq:q=t+1
     ·rw [if_pos eq];exact n
     ·rw [if_neg eq];exact m q (by omega) r)
    exact⟨Y,z,o.trans hperm,A⟩
   ·refine⟨X,cf (by rw [decide_eq_true (show (0:Int)<((t+1:Nat):Int) by omega)];show (true&&decide (c<0))=false;rw [decide_eq_false hlt];rfl),List.Perm.refl _,fun p q a g=>?_⟩
    have s:X.getD t default≠X.getD (t+1) default:=fun e=>by have:=znw d (by omega) (by omega) e;omega
    have hord:ltP (X.getD t default) (X.getD (t+1) default):=by
     rcases zpr (X.getD t default) (X.getD (t+1) default) with h|h|h
     ·exact h
     ·exact absurd h s
     ·exact absurd (f.2 h) hlt
    by_cases ep:p=t+1
    ·subst ep;exact m q a (by omega)
    ·by_cases eq:q=t+1
     ·subst eq
      by_cases e2:p=t
      ·subst e2;exact hord
      ·exact zqy (b p t (by omega) (by omega) (by omega) (by omega)) hord
     ·exact b p q a (by omega) ep eq
theorem zy2(h: ∀ p q,∃ c,F p q=some c∧(c<0↔ltP p q)){l:List (Int×Int)}(g:1≤l.length)(r:l.length≤1000)(b:l.Nodup)(s:l.length<N):
 ∃ Y,wu N l 0 (l.length:Int) F=some Y∧Y.Perm l∧zkk l.length Y:=by
 unfold wu
 rw [zi (ja (by omega))]
 refine z9q (σ:=List (Int×Int)) (fun G i X=>jd N 0 (l.length:Int) F G (i:Int) X) l.length (fun i X=>X.Perm l∧zkk i X) (fun Y=>Y.Perm l∧zkk l.length Y) (fun G i X hi hI=> .inr ?_) (fun G X hI=>?_) N 1 l g (by omega) ⟨List.Perm.refl _,fun p q a j=>by omega⟩
 ·obtain⟨d,k⟩:=hI
  have hlen:=d.length_eq
  obtain⟨Y,m,e,f⟩:=zyj (N:=N) h (i:=i) N i X (by omega) (by omega) (Nat.le_refl _) (by omega) (d.symm.nodup b) (fun p q a j g t=>k p q a (by omega)) (fun q n o=>by omega)
  refine⟨Y,⟨e.trans d,f⟩,?_⟩
  simp only [jd]
  rw [bq (by omega),zu m,zi (ja (by omega))];rfl
 ·simp only [jd]
  rw [yz (by omega)]
  exact⟨X,rfl,hI⟩
theorem zj0{Y:List (Int×Int)}(h:zkk Y.length Y):Y.Pairwise ltP:=by
 rw [List.pairwise_iff_getElem]
 intro i j hi b a
 have:=h i j a b
 rwa [List.getD_eq_getElem?_getD,List.getD_eq_getElem?_getD,List.getElem?_eq_getElem hi,List.getElem?_eq_getElem b] at this
theorem zxo(N:Nat): ∀ k:Nat,k≤12→ ∃ y,z4e N (IntKind.u64.wrap (k:Int))=some y
 |0,_=>⟨0,by kernel_rfl⟩
 |1,_=>⟨1,by kernel_rfl⟩
 |2,_=>⟨2,by kernel_rfl⟩
 |3,_=>⟨2,by kernel_rfl⟩
 |4,_=>⟨3,by kernel_rfl⟩
 |5,_=>⟨3,by kernel_rfl⟩
 |6,_=>⟨3,by kernel_rfl⟩
 |7,_=>⟨3,by kernel_rfl⟩
 |8,_=>⟨4,by kernel_rfl⟩
 |9,_=>⟨4,by kernel_rfl⟩
 |10,_=>⟨4,by kernel_rfl⟩
 |11,_=>⟨4,by kernel_rfl⟩
 |12,_=>⟨4,by kernel_rfl⟩
 |k+13,h=>by omega
theorem zul(d: ∀ p q,∃ c,F p q=some c∧(c<0↔ltP p q)){l:List (Int×Int)}(e:1≤l.length)(f:l.length≤12)(a:l.Nodup)(j:20≤N):
 ∃ Y,ny N l F=some Y∧Y.Perm l∧Y.Pairwise ltP:=by
 obtain⟨Y,g,b,h⟩:=zy2 (N:=N) d e (by omega) a (by omega)
 obtain⟨y,i⟩:=zxo N l.length f
 refine⟨Y,?_,b,zj0 (by rw [b.length_eq];exact h)⟩
 unfold ny
 rw [zu i]
 have:xw N l 0 (l.length:Int) y F=some Y:=by
  unfold xw
  obtain⟨G,rfl⟩: ∃ G,N=G+1:=⟨N-1,by omega⟩
  simp only [yh]
  rw [zi (ja (by omega)),bq (by omega),zu g]
 rw [zu this]
end
theorem z6s{N:Nat}(x y:Int):cmp_Compare_int N x y=some (if x<y then-1 else if y<x then 1 else 0):=by
 unfold cmp_Compare_int
 rw [show cmp_isNaN_int N x=some false by unfold cmp_isNaN_int;rw [decide_eq_false (fun h=>h rfl)],zkt,show cmp_isNaN_int N y=some false by unfold cmp_isNaN_int;rw [decide_eq_false (fun h=>h rfl)],zkt]
 refine(cf rfl).trans ((cf rfl).trans ?_)
 by_cases h1:x<y
 ·rw [bq h1,if_pos h1]
 ·rw [yz h1,if_neg h1]
  by_cases h2:y<x
  ·rw [bq h2,if_pos h2]
  ·rw [yz h2,if_neg h2]
theorem zv4{N:Nat}(h:10≤N)(p q:Int×Int): ∃ c,ll N p q=some c∧(c<0↔ltP p q):=by
 obtain⟨G,rfl⟩: ∃ G,N=G+10:=⟨N-10,by omega⟩
 have d: ∀ a b:Int,ix ([a,b]:List Int) 0=a:=fun a b=>rfl
 have f: ∀ a b:Int,ix ([a,b]:List Int) (0+1)=b:=fun a b=>rfl
 have e: ∀ a b:Int,okI ([a,b]:List Int) 0:=fun a b=>⟨by omega,by simp⟩
 have g: ∀ a b:Int,okI ([a,b]:List Int) (0+1):=fun a b=>⟨by omega,by simp⟩
 unfold ll z0u ltP
 by_cases h1:p.1<q.1
 ·refine⟨-1,?_,by omega⟩
  rw [zu (x:= -1) (by
   rw [zu (x:=Ex.rt (-1)) (by
    simp only [uo]
    rw [bq (by simp),zi (e _ _),yz (by simp),zi (e _ _),d,d,zu (z6s _ _),if_pos h1,bq (by decide)])];rfl)]
 ·by_cases h2:q.1<p.1
  ·refine⟨1,?_,by omega⟩
   rw [zu (x:=1) (by
    rw [zu (x:=Ex.rt 1) (by
     simp only [uo]
     rw [bq (by simp),zi (e _ _),yz (by simp),zi (e _ _),d,d,zu (z6s _ _),if_neg h1,if_pos h2,bq (by decide)])];rfl)]
  ·by_cases h3:p.2<q.2
   ·refine⟨-1,?_,by omega⟩
    rw [zu (x:= -1) (by
     rw [zu (x:=Ex.rt (-1)) (by
      simp only [uo]
      rw [bq (by simp),zi (e _ _),yz (by simp),zi (e _ _),d,d,zu (z6s _ _),if_neg h1,if_neg h2,yz (by decide),zi (ja (by omega))]
      rw [bq (by simp),zi (g _ _),yz (by simp),zi (g _ _),f,f,zu (z6s _ _),if_pos h3,bq (by decide)])];rfl)]
   ·by_cases h4:q.2<p.2
    ·refine⟨1,?_,by omega⟩
     rw [zu (x:=1) (by
      rw [zu (x:=Ex.rt 1) (by
       simp only [uo]
       rw [bq (by simp),zi (e _ _),yz (by simp),zi (e _ _),d,d,zu (z6s _ _),if_neg h1,if_neg h2,yz (by decide),zi (ja (by omega))]
       rw [bq (by simp),zi (g _ _),yz (by simp),zi (g _ _),f,f,zu (z6s _ _),if_neg h3,if_pos h4,bq (by decide)])];rfl)]
    ·refine⟨0,?_,by omega⟩
     rw [zu (x:=0) (by
      rw [zu (x:=Ex.go ()) (by
       simp only [uo]
       rw [bq (by simp),zi (e _ _),yz (by simp),zi (e _ _),d,d,zu (z6s _ _),if_neg h1,if_neg h2,yz (by decide),zi (ja (by omega))]
       rw [bq (by simp),zi (g _ _),yz (by simp),zi (g _ _),f,f,zu (z6s _ _),if_neg h3,if_neg h4,yz (by decide),zi (ja (by omega))]
       rw [yz (by simp)])];rfl)]
end GV
end Go.Proofs.YtkkcidhcfkmbjaaGreatDoor
