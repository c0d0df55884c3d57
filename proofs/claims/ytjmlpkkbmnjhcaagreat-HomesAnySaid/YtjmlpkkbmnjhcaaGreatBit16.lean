
import Derived.Test.YtjmlpkkbmnjhcaaGreatHom16c
import Derived.Test.YtjmlpkkbmnjhcaaGreatSort21b
set_option linter.unusedVariables false
set_option linter.unusedSimpArgs false
set_option linter.unusedSectionVars false
namespace Go.Proofs.YtjmlpkkbmnjhcaaGreat
namespace GV
set_option maxRecDepth 100000
theorem zw1{α:Type}{X:List α}{i:Nat}{d:α}(h:i<X.length):X.getD i d=X[i]:=by rw [List.getD_eq_getElem?_getD,List.getElem?_eq_getElem h];rfl
theorem q1t{X:List Int}(h:X.length≤1000):slices_Sort_int 1000000 X=some (z6t X):=by
 unfold slices_Sort_int
 rw [zm (by omega)]
def zay(s:List Int):Nat→List Int
 |0=>[]
 |i+1=>if 0<i∧s.getD i default=s.getD (i-1) default then zay s i else zay s i++[s.getD i default]
def cpt(s:List Int):List Int:=zay s s.length
theorem zfe(s:List Int): ∀ i,(zay s i).length≤i
 |0=>Nat.le_refl _
 |i+1=>by
  have:=zfe s i
  unfold zay
  split
  ·omega
  ·rw [List.length_append,List.length_singleton];omega
theorem zbf{s:List Int}{i:Nat}(h:0<i)(e:s.getD i default=s.getD (i-1) default):zay s (i+1)=zay s i:=by
 show (if _ then _ else _)=_
 rw [if_pos ⟨h,e⟩]
theorem zrc{s:List Int}{i:Nat}(e:s.getD i default≠s.getD (i-1) default):zay s (i+1)=zay s i++[s.getD i default]:=by
 show (if _ then _ else _)=_
 rw [if_neg (fun h=>e h.2)]
theorem z9v{s:List Int}: ∀ {a:Nat},a≤s.length→(∀ j,0<j→j<a→s.getD j default≠s.getD (j-1) default)→zay s a=s.take a
 |0,_,_=>rfl
 |a+1,e,h=>by
  have ih:=z9v (s:=s) (a:=a) (by omega) (fun j c f=>h j c (by omega))
  have d:s.take (a+1)=s.take a++[s.getD a default]:=by
   rw [List.take_add_one,List.getD_eq_getElem?_getD,List.getElem?_eq_getElem (show a<s.length by omega)];rfl
  rw [d,←ih]
  show (if _ then _ else _)=_
  rw [if_neg (fun b=>h a b.1 (by omega) b.2)]
theorem zkj{s:List Int}: ∀ {n:Nat} {z:Int},z∈zay s n↔ ∃ i,i<n∧s.getD i default=z
 |0,z=>⟨fun h=>absurd h (by simp [zay]),fun⟨i,h,_⟩=>absurd h (by omega)⟩
 |n+1,z=>by
  have ih:=zkj (s:=s) (n:=n) (z:=z)
  by_cases h:0<n∧s.getD n default=s.getD (n-1) default
  ·rw [zbf h.1 h.2,ih]
   constructor
   ·rintro⟨i,b,a⟩;exact⟨i,by omega,a⟩
   ·rintro⟨i,b,a⟩
    by_cases e:i=n
    ·subst e;exact⟨i-1,by omega,by rw [←h.2];exact a⟩
    ·exact⟨i,by omega,a⟩
  ·have c:zay s (n+1)=zay s n++[s.getD n default]:=by
    show (if _ then _ else _)=_
    rw [if_neg h]
   rw [c,List.mem_append,List.mem_singleton,ih]
   constructor
   ·rintro(⟨i,b,a⟩|rfl)
    ·exact⟨i,by omega,a⟩
    ·exact⟨n,by omega,rfl⟩
   ·rintro⟨i,b,a⟩
    by_cases e:i=n
    ·subst e;exact .inr a.symm
    ·exact .inl ⟨i,by omega,a⟩
theorem zvz{s:List Int}{z:Int}:z∈cpt s↔z∈s:=by
 unfold cpt
 rw [zkj]
 constructor
 ·rintro⟨i,h,rfl⟩;exact z2e h
 ·intro h
  obtain⟨i,hi,a⟩:=List.mem_iff_getElem.1 h
  exact⟨i,hi,by rw [zw1 hi];exact a⟩
theorem zlc{s:List Int}(h:s.Pairwise (· ≤ ·)){i j:Nat}(a:i<j)(b:j<s.length):s.getD i default≤s.getD j default:=by
 rw [zw1 b,zw1 (by omega)]
 exact List.pairwise_iff_getElem.1 h i j (by omega) b a
theorem ztr{s:List Int}(h:s.Pairwise (· ≤ ·)):(cpt s).Pairwise (· < ·):=by
 have: ∀ n,n≤s.length→(zay s n).Pairwise (· < ·):=by
  intro n
  induction n with
  |zero=>intro _;exact List.Pairwise.nil
  |succ n ih=>
   intro f
   by_cases hd:0<n∧s.getD n default=s.getD (n-1) default
   ·rw [zbf hd.1 hd.2];exact ih (by omega)
   ·have b:zay s (n+1)=zay s n++[s.getD n default]:=by
     show (if _ then _ else _)=_
     rw [if_neg hd]
    rw [b,List.pairwise_append]
    refine⟨ih (by omega),List.pairwise_singleton _ _,fun x c y a=>?_⟩
    rw [List.mem_singleton] at a
    subst a
    obtain⟨i,hi,rfl⟩:=zkj.1 c
    have g:=zlc h (show n-1<n by omega) (show n<s.length by omega)
    have d:s.getD n default≠s.getD (n-1) default:=fun e=>hd ⟨by omega,e⟩
    by_cases e:i=n-1
    ·subst e;omega
    ·have:=zlc h (show i<n-1 by omega) (show n-1<s.length by omega)
     omega
 exact this _ (Nat.le_refl _)
theorem q5d{X Y:List Int}(a:X.Pairwise (· < ·))(b:Y.Pairwise (· < ·))(h: ∀ z,z∈X↔z∈Y):X=Y:=by
 refine zc0 ((List.perm_ext_iff_of_nodup ?_ ?_).2 h) (a.imp Int.le_of_lt) (b.imp Int.le_of_lt)
 ·exact a.imp fun h=>Int.ne_of_lt h
 ·exact b.imp fun h=>Int.ne_of_lt h
theorem zvr{Y:List Int}{k:Nat}{v:Int}(a:k<Y.length):(Y.set k v).take (k+1)=Y.take k++[v]:=by
 rw [List.take_add_one,List.take_set_of_le (Nat.le_refl _),List.getElem?_set,if_pos rfl,if_pos a];rfl
theorem zv4{Y:List Int}{k j:Nat}{v:Int}(h:j≠k):(Y.set k v).getD j default=Y.getD j default:=by
 rw [List.getD_eq_getElem?_getD,List.getD_eq_getElem?_getD,List.getElem?_set,if_neg (fun e=>h e.symm)]
theorem q1o{s:List Int}{a:Nat}(n:1≤a)(d:a<s.length)(o:s.length≤100): ∀ (F:Nat) (k b:Nat) (Y:List Int),1≤b→k+1≤a+b→b≤s.length-a→Y.length=s.length→Y.take k=zay s (a+b)→(∀ j,a+b≤j+1→Y.getD j default=s.getD j default)→s.length-a-b<F→
 ∃ Z:List Int,z00 1000000 s (a:Int) F (k:Int) (b:Int) Y=some (((cpt s).length:Int),Z)∧Z.length=s.length∧Z.take (cpt s).length=cpt s
 |0,k,b,Y,_,_,_,_,_,_,h=>by omega
 |F+1,k,b,Y,u,v,w,i,f,g,x=>by
  simp only [z00]
  have c:k=(zay s (a+b)).length:=by rw [←f,List.length_take];omega
  by_cases h:b<s.length-a
  ·have p:okA Y (a:Int) (s.length-(a:Int).toNat) (b:Int):=⟨by omega,by omega,by omega,by omega⟩
   have r:okA Y (a:Int) (s.length-(a:Int).toNat) ((b:Int)-1):=⟨by omega,by omega,by omega,by omega⟩
   have l:ix Y ((a:Int)+(b:Int))=s.getD (a+b) default:=by
    rw [show (a:Int)+(b:Int)=((a+b:Nat):Int) by omega,lg];exact g _ (by omega)
   have q:ix Y ((a:Int)+((b:Int)-1))=s.getD (a+b-1) default:=by
    rw [show (a:Int)+((b:Int)-1)=((a+b-1:Nat):Int) by omega,lg];exact g _ (by omega)
   rw [ut (by omega),zm p,zm (j3 (by omega)),zm r]
   by_cases hd:s.getD (a+b) default≠s.getD (a+b-1) default
   ·have m:up Y (k:Int) (ix Y ((a:Int)+(b:Int)))=Y.set k (s.getD (a+b) default):=by rw [l];rfl
    rw [ut (by rw [l,q];exact hd),zm p,zm ⟨by omega,by omega⟩,zm (j3 (by omega)),z2r,zm (j3 (by omega)),m]
    exact q1o n d o F (k+1) (b+1) _ (by omega) (by omega) (by omega) (by rw [List.length_set];exact i) (by
     rw [zvr (by omega),f,←zrc hd];rfl) (fun j t=>by rw [zv4 (by omega)];exact g j (by omega)) (by omega)
   ·rw [ul (by rw [l,q];exact hd),z2r,zm (j3 (by omega))]
    exact q1o n d o F k (b+1) Y (by omega) (by omega) (by omega) i (by
     rw [f,←zbf (show 0<a+b by omega) (Decidable.not_not.1 hd)];rfl) (fun j t=>g j (by omega)) (by omega)
  ·have e:a+b=s.length:=by omega
   rw [e] at c f
   rw [ul (by omega),c]
   exact⟨Y,rfl,i,by unfold cpt;rw [←c];exact f⟩
theorem q95{s:List Int}(d:s.length≤100):slices_Compact_int 1000000 s=some (cpt s):=by
 unfold slices_Compact_int
 by_cases h2:(s.length:Int)<2
 ·rw [ut h2]
  unfold cpt
  rw [z9v (Nat.le_refl _) (fun j _ _=>by omega),List.take_length]
 ·rw [ul h2]
  have f: ∃ q,l8 1000000 s 1000000 1=some q∧(q=Ex.rt (cpt s)∨q=Ex.go ()∧cpt s=s):=by
   refine rq (σ:=Unit) (fun F a _=>l8 1000000 s F (a:Int)) s.length (fun a _=>1≤a∧ ∀ j,0<j→j<a→s.getD j default≠s.getD (j-1) default) _ (fun F a u hi b=>?_) (fun F u b=>?_) 1000000 1 () (by omega) (by omega) ⟨Nat.le_refl _,fun j _ _=>by omega⟩
   ·simp only [l8]
    have g:ix s ((a:Int)-1)=s.getD (a-1) default:=by rw [show (a:Int)-1=((a-1:Nat):Int) by omega,lg]
    rw [ut (by omega),zm ⟨by omega,by omega⟩,zm (j3 (by omega)),zm ⟨by omega,by omega⟩,lg,g]
    by_cases he:s.getD a default=s.getD (a-1) default
    ·left
     obtain⟨Z,h,p,i⟩:=q1o (s:=s) (a:=a) b.1 hi d 1000000 a 1 s (by omega) (by omega) (by omega) rfl (by
      rw [zbf (show 0<a by omega) he,z9v (by omega) b.2]) (fun j _=>rfl) (by omega)
     have k:=zfe s s.length
     have hr':z00 1000000 s (a:Int) 1000000 (a:Int) 1 s=some (((cpt s).length:Int),Z):=h
     have l:(z9r Z ((cpt s).length:Int).toNat (List.replicate (Z.length-((cpt s).length:Int).toNat) (0:Int))).length=Z.length:=zdj (by rw [List.length_replicate];unfold cpt;omega)
     have hcut:cut (z9r Z ((cpt s).length:Int).toNat (List.replicate (Z.length-((cpt s).length:Int).toNat) (0:Int))) 0 ((cpt s).length:Int)=Z.take (cpt s).length:=by
      have m:(cpt s).length≤Z.length:=by unfold cpt;omega
      simp only [cut,z9r]
      simp [List.take_append,m]
     refine⟨Ex.rt (cpt s),?_,.inl rfl⟩
     rw [ut he,zm ⟨by omega,by omega,by omega⟩,qh hr']
     dsimp only
     rw [zm ⟨by omega,by unfold cpt;omega,by omega⟩,zm ⟨by omega,by omega,by rw [l];unfold cpt;omega⟩,hcut,i]
    ·right
     refine⟨(),⟨by omega,fun j n r=>?_⟩,by rw [ul he,zm (j3 (by omega))];rfl⟩
     by_cases e:j=a
     ·subst e;exact he
     ·exact b.2 j n (by omega)
   ·simp only [l8]
    rw [ul (by omega)]
    exact⟨_,rfl,.inr ⟨rfl,by unfold cpt;rw [z9v (Nat.le_refl _) b.2,List.take_length]⟩⟩
  obtain⟨q,o,c⟩:=f
  rw [qh o]
  rcases c with rfl|⟨rfl,e⟩
  ·rfl
  ·show some s=_
   rw [e]
theorem zyo{s:List Int}{a:Nat}(n:1≤a)(d:a<s.length)(o:s.length≤100): ∀ (F:Nat) (k b:Nat) (Y:List Int),1≤b→k+1≤a+b→b≤s.length-a→Y.length=s.length→Y.take k=zay s (a+b)→(∀ j,a+b≤j+1→Y.getD j default=s.getD j default)→s.length-a-b<F→
 ∃ Z:List Int,iq 1000000 s (a:Int) F (k:Int) (b:Int) Y=some (((cpt s).length:Int),Z)∧Z.length=s.length∧Z.take (cpt s).length=cpt s
 |0,k,b,Y,_,_,_,_,_,_,h=>by omega
 |F+1,k,b,Y,u,v,w,i,f,g,x=>by
  simp only [iq]
  have c:k=(zay s (a+b)).length:=by rw [←f,List.length_take];omega
  by_cases h:b<s.length-a
  ·have p:okA Y (a:Int) (s.length-(a:Int).toNat) (b:Int):=⟨by omega,by omega,by omega,by omega⟩
   have r:okA Y (a:Int) (s.length-(a:Int).toNat) ((b:Int)-1):=⟨by omega,by omega,by omega,by omega⟩
   have l:ix Y ((a:Int)+(b:Int))=s.getD (a+b) default:=by
    rw [show (a:Int)+(b:Int)=((a+b:Nat):Int) by omega,lg];exact g _ (by omega)
   have q:ix Y ((a:Int)+((b:Int)-1))=s.getD (a+b-1) default:=by
    rw [show (a:Int)+((b:Int)-1)=((a+b-1:Nat):Int) by omega,lg];exact g _ (by omega)
   rw [ut (by omega),zm p,zm (j3 (by omega)),zm r]
   by_cases hd:s.getD (a+b) default≠s.getD (a+b-1) default
   ·have m:up Y (k:Int) (ix Y ((a:Int)+(b:Int)))=Y.set k (s.getD (a+b) default):=by rw [l];rfl
    rw [ut (by rw [l,q];exact hd),zm p,zm ⟨by omega,by omega⟩,zm (j3 (by omega)),z2r,zm (j3 (by omega)),m]
    exact zyo n d o F (k+1) (b+1) _ (by omega) (by omega) (by omega) (by rw [List.length_set];exact i) (by
     rw [zvr (by omega),f,←zrc hd];rfl) (fun j t=>by rw [zv4 (by omega)];exact g j (by omega)) (by omega)
   ·rw [ul (by rw [l,q];exact hd),z2r,zm (j3 (by omega))]
    exact zyo n d o F k (b+1) Y (by omega) (by omega) (by omega) i (by
     rw [f,←zbf (show 0<a+b by omega) (Decidable.not_not.1 hd)];rfl) (fun j t=>g j (by omega)) (by omega)
  ·have e:a+b=s.length:=by omega
   rw [e] at c f
   rw [ul (by omega),c]
   exact⟨Y,rfl,i,by unfold cpt;rw [←c];exact f⟩
theorem q8k{s:List Int}(d:s.length≤100):z3p 1000000 s=some (cpt s):=by
 unfold z3p
 by_cases h2:(s.length:Int)<2
 ·rw [ut h2]
  unfold cpt
  rw [z9v (Nat.le_refl _) (fun j _ _=>by omega),List.take_length]
 ·rw [ul h2]
  have f: ∃ q,ng 1000000 s 1000000 1=some q∧(q=Ex.rt (cpt s)∨q=Ex.go ()∧cpt s=s):=by
   refine rq (σ:=Unit) (fun F a _=>ng 1000000 s F (a:Int)) s.length (fun a _=>1≤a∧ ∀ j,0<j→j<a→s.getD j default≠s.getD (j-1) default) _ (fun F a u hi b=>?_) (fun F u b=>?_) 1000000 1 () (by omega) (by omega) ⟨Nat.le_refl _,fun j _ _=>by omega⟩
   ·simp only [ng]
    have g:ix s ((a:Int)-1)=s.getD (a-1) default:=by rw [show (a:Int)-1=((a-1:Nat):Int) by omega,lg]
    rw [ut (by omega),zm ⟨by omega,by omega⟩,zm (j3 (by omega)),zm ⟨by omega,by omega⟩,lg,g]
    by_cases he:s.getD a default=s.getD (a-1) default
    ·left
     obtain⟨Z,h,p,i⟩:=zyo (s:=s) (a:=a) b.1 hi d 1000000 a 1 s (by omega) (by omega) (by omega) rfl (by
      rw [zbf (show 0<a by omega) he,z9v (by omega) b.2]) (fun j _=>rfl) (by omega)
     have k:=zfe s s.length
     have hr':iq 1000000 s (a:Int) 1000000 (a:Int) 1 s=some (((cpt s).length:Int),Z):=h
     have l:(z9r Z ((cpt s).length:Int).toNat (List.replicate (Z.length-((cpt s).length:Int).toNat) (0:Int))).length=Z.length:=zdj (by rw [List.length_replicate];unfold cpt;omega)
     have hcut:cut (z9r Z ((cpt s).length:Int).toNat (List.replicate (Z.length-((cpt s).length:Int).toNat) (0:Int))) 0 ((cpt s).length:Int)=Z.take (cpt s).length:=by
      have m:(cpt s).length≤Z.length:=by unfold cpt;omega
      simp only [cut,z9r]
      simp [List.take_append,m]
     refine⟨Ex.rt (cpt s),?_,.inl rfl⟩
     rw [ut he,zm ⟨by omega,by omega,by omega⟩,qh hr']
     dsimp only
     rw [zm ⟨by omega,by unfold cpt;omega,by omega⟩,zm ⟨by omega,by omega,by rw [l];unfold cpt;omega⟩,hcut,i]
    ·right
     refine⟨(),⟨by omega,fun j n r=>?_⟩,by rw [ul he,zm (j3 (by omega))];rfl⟩
     by_cases e:j=a
     ·subst e;exact he
     ·exact b.2 j n (by omega)
   ·simp only [ng]
    rw [ul (by omega)]
    exact⟨_,rfl,.inr ⟨rfl,by unfold cpt;rw [z9v (Nat.le_refl _) b.2,List.take_length]⟩⟩
  obtain⟨q,o,c⟩:=f
  rw [qh o]
  rcases c with rfl|⟨rfl,e⟩
  ·rfl
  ·show some s=_
   rw [e]
end GV
end Go.Proofs.YtjmlpkkbmnjhcaaGreat

namespace Go.Proofs.YtjmlpkkbmnjhcaaGreat
namespace GV
set_option maxRecDepth 100000
theorem zax{n:Nat}{p:Nat→Bool}:(List.range n).any p=false↔ ∀ k,k<n→p k=false:=by
 rw [List.any_eq_false]
 exact⟨fun h k a=>by have:=h k (List.mem_range.2 a);simpa using this,fun h k a=>by rw [h k (List.mem_range.1 a)];simp⟩
theorem zf1{n:Nat}{p:Nat→Bool}:(List.range n).any p=true↔ ∃ k,k<n∧p k=true:=by
 rw [List.any_eq_true]
 exact⟨fun⟨k,a,b⟩=>⟨k,List.mem_range.1 a,b⟩,fun⟨k,a,b⟩=>⟨k,List.mem_range.2 a,b⟩⟩
theorem q3s{α:Type}[Inhabited α]{l:List α}{q:α→Bool}:(List.range l.length).any (fun i=>q (l.getD i default))=l.any q:=by
 cases h:l.any q with
 |true=>
  obtain⟨x,a,b⟩:=List.any_eq_true.1 h
  obtain⟨i,hi,rfl⟩:=List.mem_iff_getElem.1 a
  exact zf1.2 ⟨i,hi,by rw [zw1 hi];exact b⟩
 |false=>
  refine zax.2 fun k c=>?_
  have:=List.any_eq_false.1 h (l.getD k default) (z2e c)
  simpa using this
theorem zph{N:Nat}{s:List Int}{f:Int→Option Bool}{q:Int→Bool}(k:s.length<N)(l:s.length≤100000)(b: ∀ c∈s,f c=some (q c)):z0e N s f=some (s.any q):=by
 have d: ∃ r,gz N s f N 0=some r∧((∃ i:Nat,r=Ex.rt (i:Int)∧s.any q=true)∨(r=Ex.go ()∧s.any q=false)):=by
  refine rq (σ:=Unit) (fun F i _=>gz N s f F (i:Int)) s.length (fun i _=> ∀ j,j<i→q (s.getD j default)=false) _ (fun F i u hi a=>?_) (fun F u a=>?_) N 0 () (Nat.zero_le _) (by omega) (fun j a=>absurd a (by omega))
  ·simp only [gz]
   rw [ut (by omega),zm (ky hi),lg,b _ (z2e hi),z2r]
   cases hq:q (s.getD i default)
   ·right
    refine⟨(),fun j hj'=>?_,?_⟩
    ·by_cases e:j=i
     ·subst e;exact hq
     ·exact a j (by omega)
    ·rw [cond_false,zm (j3 (by omega))];rfl
   ·left
    exact⟨_,by rw [cond_true],.inl ⟨i,rfl,List.any_eq_true.2 ⟨_,z2e hi,hq⟩⟩⟩
  ·simp only [gz]
   rw [ul (by omega)]
   exact⟨_,rfl,.inr ⟨rfl,by rw [←q3s];exact zax.2 a⟩⟩
 obtain⟨r,g,h⟩:=d
 unfold z0e z4l
 rw [qh g]
 rcases h with⟨i,rfl,h⟩|⟨rfl,h⟩
 ·rw [z9e,z2r,h,decide_eq_true (by omega)]
 ·rw [z6z,z2r,h];rfl
theorem zxo{N:Nat}{a b:List Int}(f:a.length<N)(g:a.length≤4611686018427387904):slices_Equal_int N a b=some (decide (a=b)):=by
 unfold slices_Equal_int
 by_cases h:(a.length:Int)≠b.length
 ·rw [ut h,decide_eq_false (fun e=>h (by rw [e]))]
 ·rw [ul h]
  have hl':a.length=b.length:=by omega
  have c:z05 N a b N 0=some (if a=b then Ex.go () else Ex.rt false):=by
   refine z19 (σ:=Unit) (fun F k _=>z05 N a b F (k:Int)) a.length (fun k _=> ∀ j,j<k→a.getD j default=b.getD j default) _ (fun F k _ d hi=>?_) (fun F _ hi=>?_) N 0 () (Nat.zero_le _) (by omega) (fun j i=>by omega)
   ·simp only [z05]
    rw [ut (by omega),zm (ky d),zm (ky (by omega)),lg,lg]
    by_cases he:a.getD k default=b.getD k default
    ·right
     refine⟨(),zqu hi he,Eq.trans (ul (fun h=>h he)) ?_⟩
     rw [zm (j3 (by omega))];rfl
    ·left
     refine Eq.trans (ut he) ?_
     rw [if_neg (fun e=>he (by rw [e]))]
   ·simp only [z05]
    rw [ul (by omega),if_pos (zid hl' hi)]
  rw [qh c]
  by_cases he:a=b
  ·rw [if_pos he,decide_eq_true he];rfl
  ·rw [if_neg he,decide_eq_false he];rfl
theorem zwj{N:Nat}{a b:List Bool}(f:a.length<N)(g:a.length≤4611686018427387904):z5u N a b=some (decide (a=b)):=by
 unfold z5u
 by_cases h:(a.length:Int)≠b.length
 ·rw [ut h,decide_eq_false (fun e=>h (by rw [e]))]
 ·rw [ul h]
  have hl':a.length=b.length:=by omega
  have c:lq N a b N 0=some (if a=b then Ex.go () else Ex.rt false):=by
   refine z19 (σ:=Unit) (fun F k _=>lq N a b F (k:Int)) a.length (fun k _=> ∀ j,j<k→a.getD j default=b.getD j default) _ (fun F k _ d hi=>?_) (fun F _ hi=>?_) N 0 () (Nat.zero_le _) (by omega) (fun j i=>by omega)
   ·simp only [lq]
    rw [ut (by omega),zm (ky d),zm (ky (by omega)),lg,lg]
    by_cases he:a.getD k default=b.getD k default
    ·right
     refine⟨(),zqu hi he,Eq.trans (ul (fun h=>h he)) ?_⟩
     rw [zm (j3 (by omega))];rfl
    ·left
     refine Eq.trans (ut he) ?_
     rw [if_neg (fun e=>he (by rw [e]))]
   ·simp only [lq]
    rw [ul (by omega),if_pos (zid hl' hi)]
  rw [qh c]
  by_cases he:a=b
  ·rw [if_pos he,decide_eq_true he];rfl
  ·rw [if_neg he,decide_eq_false he];rfl
end GV
end Go.Proofs.YtjmlpkkbmnjhcaaGreat

namespace Go.Proofs.YtjmlpkkbmnjhcaaGreat
namespace GV
set_option maxRecDepth 100000
def tb(x:Int)(s:Nat):Bool:=x.toNat.testBit s
theorem zg0(k s:Nat):qg (k:Int) (s:Int)=((k/2^s:Nat):Int):=by
 show Int.fdiv (k:Int) (2^((s:Int).toNat))=_
 rw [Int.toNat_natCast,Int.fdiv_eq_ediv_of_nonneg _ (by exact_mod_cast Nat.zero_le _)]
 norm_cast
theorem zqf(a b:Nat):zn (a:Int) (b:Int)=((a&&&b:Nat):Int):=rfl
theorem zym{x:Int}(a:0≤x)(s:Nat):decide (zn (qg x (s:Int)) 1=1)=tb x s:=by
 obtain⟨k,rfl⟩: ∃ k:Nat,x=(k:Int):=⟨x.toNat,by omega⟩
 rw [zg0,show (1:Int)=((1:Nat):Int) from rfl,zqf,Nat.and_one_is_mod]
 unfold tb
 rw [Int.toNat_natCast,Nat.testBit_eq_decide_div_mod_eq]
 by_cases h:k/2^s%2=1
 ·rw [decide_eq_true h,decide_eq_true (by omega)]
 ·rw [decide_eq_false h,decide_eq_false (by omega)]
theorem zw5{x:Int}(a:0≤x∧x≤65535)(s:Nat):0≤qg x (s:Int)∧qg x (s:Int)≤65535:=by
 obtain⟨k,rfl⟩: ∃ k:Nat,x=(k:Int):=⟨x.toNat,by omega⟩
 rw [zg0]
 have:=Nat.div_le_self k (2^s)
 generalize k/2^s=q at this⊢
 omega
theorem zir{t:Nat}(h:t<16):1≤2^t∧2^t≤32768:=⟨Nat.one_le_two_pow,by
 have:=Nat.pow_le_pow_right (n:=2) (by decide) (show t≤15 by omega)
 omega⟩
theorem zbo{t:Nat}(h:t<16):z0k .u16 1 (t:Int)=((2^t:Nat):Int):=by
 have:=zir h
 unfold z0k
 rw [Int.toNat_natCast,Int.one_mul,show ((2:Int)^t)=((2^t:Nat):Int) by norm_cast]
 exact z8r _ (by omega) (by show ((2^t:Nat):Int)≤65535;omega)
theorem q0n{x:Int}(a:0≤x)(t s:Nat):tb (ior x ((2^t:Nat):Int)) s=(tb x s||decide (s=t)):=by
 unfold tb ior
 rw [Int.toNat_natCast,Int.toNat_natCast,Nat.testBit_or,Nat.testBit_two_pow]
 by_cases h:s=t
 ·subst h;simp
 ·rw [decide_eq_false h,decide_eq_false (fun e=>h e.symm)]
theorem zzd{x:Int}{n t:Nat}(b:0≤x)(c:x<((2^n:Nat):Int))(a:t<n):0≤ior x ((2^t:Nat):Int)∧ior x ((2^t:Nat):Int)<((2^n:Nat):Int):=by
 refine⟨Int.natCast_nonneg _,?_⟩
 unfold ior
 rw [Int.toNat_natCast]
 exact Int.ofNat_lt.2 (Nat.or_lt_two_pow (by omega) (Nat.pow_lt_pow_right (by decide) a))
theorem zz8{x y:Int}(a:0≤x)(b:0≤y)(h: ∀ s,tb x s=tb y s):x=y:=by
 have:=Nat.eq_of_testBit_eq h
 omega
theorem znj{x:Int}{n s:Nat}(b:x<((2^n:Nat):Int))(a:n≤s):tb x s=false:=by
 unfold tb
 by_cases h0:0≤x
 ·exact Nat.testBit_lt_two_pow (Nat.lt_of_lt_of_le (show x.toNat<2^n by omega) (Nat.pow_le_pow_right (by decide) a))
 ·rw [show x.toNat=0 by omega,Nat.zero_testBit]
theorem zhz(s:Nat):tb 0 s=false:=Nat.zero_testBit s
def bmk(p:Nat→Bool):Nat→Int
 |0=>0
 |n+1=>if p n=true then ior (bmk p n) ((2^n:Nat):Int) else bmk p n
theorem zb1(p:Nat→Bool): ∀ n,0≤bmk p n∧bmk p n<((2^n:Nat):Int)
 |0=>⟨Int.le_refl _,by show (0:Int)<((1:Nat):Int);decide⟩
 |n+1=>by
  obtain⟨a,b⟩:=zb1 p n
  have c:((2^n:Nat):Int)<((2^(n+1):Nat):Int):=Int.ofNat_lt.2 (Nat.pow_lt_pow_right (by decide) (Nat.lt_succ_self n))
  unfold bmk
  split
  ·exact zzd a (by omega) (Nat.lt_succ_self n)
  ·exact⟨a,by omega⟩
theorem zey(p:Nat→Bool): ∀ n s,tb (bmk p n) s=(decide (s<n)&&p s)
 |0,s=>by rw [show bmk p 0=0 from rfl,zhz];simp
 |n+1,s=>by
  unfold bmk
  by_cases hp:p n=true
  ·rw [if_pos hp,q0n (zb1 p n).1,zey p n s]
   by_cases h:s=n
   ·subst h;simp [hp]
   ·rw [decide_eq_false h,Bool.or_false]
    by_cases h2:s<n
    ·rw [decide_eq_true h2,decide_eq_true (by omega)]
    ·rw [decide_eq_false h2,decide_eq_false (by omega)]
  ·rw [if_neg hp,zey p n s]
   by_cases h:s=n
   ·subst h;simp [hp]
   ·by_cases h2:s<n
    ·rw [decide_eq_true h2,decide_eq_true (by omega)]
    ·rw [decide_eq_false h2,decide_eq_false (by omega)]
theorem zkz{x:Int}{n:Nat}{p:Nat→Bool}(a:0≤x)(b:x<((2^n:Nat):Int))(h: ∀ s,s<n→tb x s=p s):x=bmk p n:=by
 refine zz8 a (zb1 p n).1 fun s=>?_
 rw [zey]
 by_cases hs:s<n
 ·rw [h s hs,decide_eq_true hs,Bool.true_and]
 ·rw [znj b (by omega),decide_eq_false hs,Bool.false_and]
theorem zcp{p q:Nat→Bool}{n:Nat}(h: ∀ s,s<n→p s=q s):bmk p n=bmk q n:=zkz (zb1 p n).1 (zb1 p n).2 fun s a=>by rw [zey,decide_eq_true a,Bool.true_and,h s a]
theorem zie{n:Nat}(a:n≤16):((2^n:Nat):Int)≤65536:=by
 have:=Nat.pow_le_pow_right (n:=2) (by decide) a
 omega
/-! ### how many-/
def pcB(x:Int):Nat:=(List.range 16).countP (tb x)
theorem zqk: ∀ k,k<256→strT1.getD k default=((List.range 8).countP (fun s=>k.testBit s):Int):=by
 have h:(List.range 256).all (fun k=>decide (strT1.getD k default=((List.range 8).countP (fun s=>k.testBit s):Int)))=true:=by decide+kernel
 intro k a
 exact of_decide_eq_true (List.all_eq_true.1 h k (List.mem_range.2 a))
theorem zxn(k:Nat):pcB (k:Int)=(List.range 8).countP (fun s=>(k/256).testBit s)+(List.range 8).countP (fun s=>(k%256).testBit s):=by
 have e:List.range 16=List.range 8++(List.range 8).map (· +8):=by decide
 unfold pcB
 rw [e,List.countP_append,List.countP_map,Nat.add_comm]
 congr 1
 ·refine List.countP_congr fun s a=>?_
  show (tb (k:Int) (s+8)=true)↔_
  unfold tb
  rw [Int.toNat_natCast,show (256:Nat)=2^8 from rfl,Nat.testBit_div_two_pow,Nat.add_comm]
 ·refine List.countP_congr fun s a=>?_
  have a:=List.mem_range.1 a
  unfold tb
  rw [Int.toNat_natCast,show (256:Nat)=2^8 from rfl,Nat.testBit_mod_two_pow,decide_eq_true a,Bool.true_and]
theorem znv{N:Nat}{x:Int}(h:0≤x∧x≤65535):z2a N x=some (pcB x:Int):=by
 obtain⟨k,rfl⟩: ∃ k:Nat,x=(k:Int):=⟨x.toNat,by omega⟩
 have a:k/256<256:=by omega
 have b:k%256<256:=by omega
 have c:qg (k:Int) (8:Int)=((k/256:Nat):Int):=zg0 k 8
 have d:zn (k:Int) 255=((k%256:Nat):Int):=by
  rw [show (255:Int)=((255:Nat):Int) from rfl,zqf]
  have:=Nat.and_two_pow_sub_one_eq_mod k 8
  rw [show (255:Nat)=2^8-1 from rfl,this]
 have l:strT1.length=256:=by decide
 have e:=List.countP_le_length (p:=fun s=>(k/256).testBit s) (l:=List.range 8)
 have f:=List.countP_le_length (p:=fun s=>(k%256).testBit s) (l:=List.range 8)
 rw [List.length_range] at e f
 have g:=zxn k
 have w:IntKind.u8.wrap (strT1.getD (k/256) default+strT1.getD (k%256) default)=(pcB (k:Int):Int):=by
  rw [zqk _ a,zqk _ b,z8r _ (by omega) (by show _≤(255:Int);omega),g];rfl
 unfold z2a
 rw [zm ⟨by decide,by decide⟩,c,d,zm (ky (by rw [l];exact a)),zm ⟨⟨by omega,by show (k:Int)≤65535;omega⟩,by decide,by decide⟩,zm (ky (by rw [l];exact b)),lg,lg,w,zm (j3 (by omega))]
theorem zhd{p:Nat→Bool}: ∀ {l:List Nat},l.Nodup→(1<l.countP p↔ ∃ a b,a∈l∧b∈l∧a≠b∧p a=true∧p b=true)
 | [],_=>by simp
 |c::l,k=>by
  obtain⟨m,n⟩:=List.nodup_cons.1 k
  rw [List.countP_cons]
  by_cases hc:p c=true
  ·rw [if_pos hc]
   constructor
   ·intro h
    obtain⟨a,f,d⟩:=List.countP_pos_iff.1 (show 0<l.countP p by omega)
    exact⟨c,a,List.mem_cons_self ..,List.mem_cons_of_mem _ f,fun e=>m (e▸f),hc,d⟩
   ·rintro⟨a,b,f,g,j,d,i⟩
    have:0<l.countP p:=List.countP_pos_iff.2 (by
     rcases List.mem_cons.1 f with rfl|f
     ·rcases List.mem_cons.1 g with rfl|g
      ·exact absurd rfl j
      ·exact⟨b,g,i⟩
     ·exact⟨a,f,d⟩)
    omega
  ·rw [if_neg hc,Nat.add_zero,zhd n]
   constructor
   ·rintro⟨a,b,f,g,h⟩
    exact⟨a,b,List.mem_cons_of_mem _ f,List.mem_cons_of_mem _ g,h⟩
   ·rintro⟨a,b,f,g,j,d,i⟩
    rcases List.mem_cons.1 f with rfl|f
    ·exact absurd d hc
    ·rcases List.mem_cons.1 g with rfl|g
     ·exact absurd i hc
     ·exact⟨a,b,f,g,j,d,i⟩
theorem zki{x:Int}(f:x<65536):1<pcB x↔ ∃ a b,a≠b∧tb x a=true∧tb x b=true:=by
 unfold pcB
 rw [zhd List.nodup_range]
 have d: ∀ a,tb x a=true→a∈List.range 16:=fun a c=>by
  rw [List.mem_range]
  by_cases h:a<16
  ·exact h
  ·rw [znj (n:=16) (by omega) (by omega)] at c;cases c
 constructor
 ·rintro⟨a,b,_,_,h⟩;exact⟨a,b,h⟩
 ·rintro⟨a,b,h,c,e⟩;exact⟨a,b,d a c,d b e,h,c,e⟩
theorem q2h{x:Int}(b:x<65536):0<pcB x↔ ∃ a,tb x a=true:=by
 unfold pcB
 rw [List.countP_pos_iff]
 constructor
 ·rintro⟨a,_,h⟩;exact⟨a,h⟩
 ·rintro⟨a,h⟩
  refine⟨a,?_,h⟩
  rw [List.mem_range]
  by_cases h2:a<16
  ·exact h2
  ·rw [znj (n:=16) (by omega) (by omega)] at h;cases h
/-! ### the image of a set-/
def zb2(m:Mach)(x:Int)(i:Nat)(q:Nat→Bool)(k t:Nat):Bool:=(List.range k).any fun s=>(tb x s&&q s)&&decide (tgt m s i=t)
def zqt(m:Mach)(x:Int)(i:Nat)(q:Nat→Bool):Int:=bmk (zb2 m x i q m.rows.length) m.rows.length
theorem zbb{m:Mach}{x:Int}{i:Nat}{q:Nat→Bool}{k t:Nat}:zb2 m x i q (k+1) t=(zb2 m x i q k t||((tb x k&&q k)&&decide (tgt m k i=t))):=by
 unfold zb2;rw [List.range_succ,List.any_append];simp
theorem q1d{m:Mach}{x:Int}{i:Nat}{q:Nat→Bool}{k t:Nat}:zb2 m x i q k t=true↔ ∃ s,s<k∧tb x s=true∧q s=true∧tgt m s i=t:=by
 unfold zb2
 rw [List.any_eq_true]
 constructor
 ·rintro⟨s,a,h⟩
  rw [Bool.and_eq_true,Bool.and_eq_true,decide_eq_true_iff] at h
  exact⟨s,List.mem_range.1 a,h.1.1,h.1.2,h.2⟩
 ·rintro⟨s,a,b,c,d⟩
  exact⟨s,List.mem_range.2 a,by rw [b,c,decide_eq_true d];rfl⟩
theorem zdc{m:Mach}(h:CM m){x:Int}{i:Nat}(hi:i<nIn m){q:Nat→Bool}{t:Nat}:tb (zqt m x i q) t=true↔ ∃ s,s<m.rows.length∧tb x s=true∧q s=true∧tgt m s i=t:=by
 unfold zqt
 rw [zey,Bool.and_eq_true,decide_eq_true_iff,q1d]
 constructor
 ·rintro⟨_,h⟩;exact h
 ·rintro⟨s,a,b,c,rfl⟩;exact⟨(h.tgt a hi).1,s,a,b,c,rfl⟩
theorem zi7(m:Mach)(x:Int)(i:Nat)(q:Nat→Bool):0≤zqt m x i q∧zqt m x i q<((2^m.rows.length:Nat):Int):=zb1 _ _
theorem zku{m:Mach}{x:Int}{i k n:Nat}{q:Nat→Bool}(c:tgt m k i<n)(j:n≤16):(if(tb x k&&q k)=true then ior (bmk (zb2 m x i q k) n) (z0k .u16 1 (tgt m k i:Int)) else bmk (zb2 m x i q k) n)=bmk (zb2 m x i q (k+1)) n:=by
 obtain⟨a,d⟩:=zb1 (zb2 m x i q k) n
 by_cases hb:(tb x k&&q k)=true
 ·rw [if_pos hb,zbo (by omega)]
  obtain⟨f,g⟩:=zzd a d c
  refine zkz f g fun s b=>?_
  rw [q0n a,zey,decide_eq_true b,Bool.true_and,zbb,hb,Bool.true_and]
  congr 1
  by_cases e:s=tgt m k i
  ·rw [decide_eq_true e,decide_eq_true e.symm]
  ·rw [decide_eq_false e,decide_eq_false (fun h=>e h.symm)]
 ·rw [if_neg hb]
  refine zcp fun s b=>?_
  rw [zbb,show (tb x k&&q k)=false by simpa using hb,Bool.false_and,Bool.or_false]
end GV
end Go.Proofs.YtjmlpkkbmnjhcaaGreat
