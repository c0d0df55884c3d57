
import Derived.Test.YtjmlpkkbmnjhcaaHom16c
import Derived.Test.YtjmlpkkbmnjhcaaSort21b
set_option linter.unusedVariables false
set_option linter.unusedSimpArgs false
set_option linter.unusedSectionVars false
namespace Go.Proofs.Ytjmlpkkbmnjhcaa
namespace GV
set_option maxRecDepth 100000
theorem zv7{α:Type}{X:List α}{i:Nat}{d:α}(h:i<X.length):X.getD i d=X[i]:=by rw [List.getD_eq_getElem?_getD,List.getElem?_eq_getElem h];rfl
def z9f(s:List Int):Nat→List Int
 |0=>[]
 |i+1=>if 0<i∧s.getD i default=s.getD (i-1) default then z9f s i else z9f s i++[s.getD i default]
def cpt(s:List Int):List Int:=z9f s s.length
theorem zjg(s:List Int): ∀ i,(z9f s i).length≤i
 |0=>Nat.le_refl _
 |i+1=>by
  have:=zjg s i
  unfold z9f
  split
  ·omega
  ·rw [List.length_append,List.length_singleton];omega
theorem zd3{s:List Int}{i:Nat}(h:0<i)(e:s.getD i default=s.getD (i-1) default):z9f s (i+1)=z9f s i:=by
 show (if _ then _ else _)=_
 rw [if_pos ⟨h,e⟩]
theorem zri{s:List Int}{i:Nat}(e:s.getD i default≠s.getD (i-1) default):z9f s (i+1)=z9f s i++[s.getD i default]:=by
 show (if _ then _ else _)=_
 rw [if_neg (fun h=>e h.2)]
theorem zbo{s:List Int}: ∀ {a:Nat},a≤s.length→(∀ j,0<j→j<a→s.getD j default≠s.getD (j-1) default)→z9f s a=s.take a
 |0,_,_=>rfl
 |a+1,e,h=>by
  have ih:=zbo (s:=s) (a:=a) (by omega) (fun j c f=>h j c (by omega))
  have d:s.take (a+1)=s.take a++[s.getD a default]:=by
   rw [List.take_add_one,List.getD_eq_getElem?_getD,List.getElem?_eq_getElem (show a<s.length by omega)];rfl
  rw [d,←ih]
  show (if _ then _ else _)=_
  rw [if_neg (fun b=>h a b.1 (by omega) b.2)]
theorem zkw{s:List Int}: ∀ {n:Nat} {z:Int},z∈z9f s n↔ ∃ i,i<n∧s.getD i default=z
 |0,z=>⟨fun h=>absurd h (by simp [z9f]),fun⟨i,h,_⟩=>absurd h (by omega)⟩
 |n+1,z=>by
  have ih:=zkw (s:=s) (n:=n) (z:=z)
  by_cases h:0<n∧s.getD n default=s.getD (n-1) default
  ·rw [zd3 h.1 h.2,ih]
   constructor
   ·rintro⟨i,b,a⟩;exact⟨i,by omega,a⟩
   ·rintro⟨i,b,a⟩
    by_cases e:i=n
    ·subst e;exact⟨i-1,by omega,by rw [←h.2];exact a⟩
    ·exact⟨i,by omega,a⟩
  ·have c:z9f s (n+1)=z9f s n++[s.getD n default]:=by
    show (if _ then _ else _)=_
    rw [if_neg h]
   rw [c,List.mem_append,List.mem_singleton,ih]
   constructor
   ·rintro(⟨i,b,a⟩|rfl)
    ·exact⟨i,by omega,a⟩
    ·exact⟨n,by omega,rfl⟩
   ·rintro⟨i,b,a⟩
    by_cases e:i=n
    ·subst e;exact .inr a.symm
    ·exact .inl ⟨i,by omega,a⟩
theorem ztl{s:List Int}{z:Int}:z∈cpt s↔z∈s:=by
 unfold cpt
 rw [zkw]
 constructor
 ·rintro⟨i,h,rfl⟩;exact z2u h
 ·intro h
  obtain⟨i,hi,a⟩:=List.mem_iff_getElem.1 h
  exact⟨i,hi,by rw [zv7 hi];exact a⟩
theorem zt8{Y:List Int}{k:Nat}{v:Int}(a:k<Y.length):(Y.set k v).take (k+1)=Y.take k++[v]:=by
 rw [List.take_add_one,List.take_set_of_le (Nat.le_refl _),List.getElem?_set,if_pos rfl,if_pos a];rfl
theorem zu3{Y:List Int}{k j:Nat}{v:Int}(h:j≠k):(Y.set k v).getD j default=Y.getD j default:=by
 rw [List.getD_eq_getElem?_getD,List.getD_eq_getElem?_getD,List.getElem?_set,if_neg (fun e=>h e.symm)]
theorem zq6{s:List Int}{a:Nat}(n:1≤a)(d:a<s.length)(o:s.length≤100): ∀ (F:Nat) (k b:Nat) (Y:List Int),1≤b→k+1≤a+b→b≤s.length-a→Y.length=s.length→Y.take k=z9f s (a+b)→(∀ j,a+b≤j+1→Y.getD j default=s.getD j default)→s.length-a-b<F→
 ∃ Z:List Int,dm 1000000 s (a:Int) F (k:Int) (b:Int) Y=some (((cpt s).length:Int),Z)∧Z.length=s.length∧Z.take (cpt s).length=cpt s
 |0,k,b,Y,_,_,_,_,_,_,h=>by omega
 |F+1,k,b,Y,u,v,w,i,f,g,x=>by
  simp only [dm]
  have c:k=(z9f s (a+b)).length:=by rw [←f,List.length_take];omega
  by_cases h:b<s.length-a
  ·have p:okA Y (a:Int) (s.length-(a:Int).toNat) (b:Int):=⟨by omega,by omega,by omega,by omega⟩
   have r:okA Y (a:Int) (s.length-(a:Int).toNat) ((b:Int)-1):=⟨by omega,by omega,by omega,by omega⟩
   have l:ix Y ((a:Int)+(b:Int))=s.getD (a+b) default:=by
    rw [show (a:Int)+(b:Int)=((a+b:Nat):Int) by omega,z0o];exact g _ (by omega)
   have q:ix Y ((a:Int)+((b:Int)-1))=s.getD (a+b-1) default:=by
    rw [show (a:Int)+((b:Int)-1)=((a+b-1:Nat):Int) by omega,z0o];exact g _ (by omega)
   rw [ny (by omega),zk p,zk (jc (by omega)),zk r]
   by_cases hd:s.getD (a+b) default≠s.getD (a+b-1) default
   ·have m:up Y (k:Int) (ix Y ((a:Int)+(b:Int)))=Y.set k (s.getD (a+b) default):=by rw [l];rfl
    rw [ny (by rw [l,q];exact hd),zk p,zk ⟨by omega,by omega⟩,zk (jc (by omega)),z2z,zk (jc (by omega)),m]
    exact zq6 n d o F (k+1) (b+1) _ (by omega) (by omega) (by omega) (by rw [List.length_set];exact i) (by
     rw [zt8 (by omega),f,←zri hd];rfl) (fun j t=>by rw [zu3 (by omega)];exact g j (by omega)) (by omega)
   ·rw [di (by rw [l,q];exact hd),z2z,zk (jc (by omega))]
    exact zq6 n d o F k (b+1) Y (by omega) (by omega) (by omega) i (by
     rw [f,←zd3 (show 0<a+b by omega) (Decidable.not_not.1 hd)];rfl) (fun j t=>g j (by omega)) (by omega)
  ·have e:a+b=s.length:=by omega
   rw [e] at c f
   rw [di (by omega),c]
   exact⟨Y,rfl,i,by unfold cpt;rw [←c];exact f⟩
theorem zwz{s:List Int}(d:s.length≤100):z0f 1000000 s=some (cpt s):=by
 unfold z0f
 by_cases h2:(s.length:Int)<2
 ·rw [ny h2]
  unfold cpt
  rw [zbo (Nat.le_refl _) (fun j _ _=>by omega),List.take_length]
 ·rw [di h2]
  have f: ∃ q,xu 1000000 s 1000000 1=some q∧(q=Ex.rt (cpt s)∨q=Ex.go ()∧cpt s=s):=by
   refine l7 (σ:=Unit) (fun F a _=>xu 1000000 s F (a:Int)) s.length (fun a _=>1≤a∧ ∀ j,0<j→j<a→s.getD j default≠s.getD (j-1) default) _ (fun F a u hi b=>?_) (fun F u b=>?_) 1000000 1 () (by omega) (by omega) ⟨Nat.le_refl _,fun j _ _=>by omega⟩
   ·simp only [xu]
    have g:ix s ((a:Int)-1)=s.getD (a-1) default:=by rw [show (a:Int)-1=((a-1:Nat):Int) by omega,z0o]
    rw [ny (by omega),zk ⟨by omega,by omega⟩,zk (jc (by omega)),zk ⟨by omega,by omega⟩,z0o,g]
    by_cases he:s.getD a default=s.getD (a-1) default
    ·left
     obtain⟨Z,h,p,i⟩:=zq6 (s:=s) (a:=a) b.1 hi d 1000000 a 1 s (by omega) (by omega) (by omega) rfl (by
      rw [zd3 (show 0<a by omega) he,zbo (by omega) b.2]) (fun j _=>rfl) (by omega)
     have k:=zjg s s.length
     have hr':dm 1000000 s (a:Int) 1000000 (a:Int) 1 s=some (((cpt s).length:Int),Z):=h
     have l:(z7o Z ((cpt s).length:Int).toNat (List.replicate (Z.length-((cpt s).length:Int).toNat) (0:Int))).length=Z.length:=zbw (by rw [List.length_replicate];unfold cpt;omega)
     have hcut:cut (z7o Z ((cpt s).length:Int).toNat (List.replicate (Z.length-((cpt s).length:Int).toNat) (0:Int))) 0 ((cpt s).length:Int)=Z.take (cpt s).length:=by
      have m:(cpt s).length≤Z.length:=by unfold cpt;omega
      simp only [cut,z7o]
      simp [List.take_append,m]
     refine⟨Ex.rt (cpt s),?_,.inl rfl⟩
     rw [ny he,zk ⟨by omega,by omega,by omega⟩,qh hr']
     dsimp only
     rw [zk ⟨by omega,by unfold cpt;omega,by omega⟩,zk ⟨by omega,by omega,by rw [l];unfold cpt;omega⟩,hcut,i]
    ·right
     refine⟨(),⟨by omega,fun j n r=>?_⟩,by rw [di he,zk (jc (by omega))];rfl⟩
     by_cases e:j=a
     ·subst e;exact he
     ·exact b.2 j n (by omega)
   ·simp only [xu]
    rw [di (by omega)]
    exact⟨_,rfl,.inr ⟨rfl,by unfold cpt;rw [zbo (Nat.le_refl _) b.2,List.take_length]⟩⟩
  obtain⟨q,o,c⟩:=f
  rw [qh o]
  rcases c with rfl|⟨rfl,e⟩
  ·rfl
  ·show some s=_
   rw [e]
end GV
end Go.Proofs.Ytjmlpkkbmnjhcaa

namespace Go.Proofs.Ytjmlpkkbmnjhcaa
namespace GV
set_option maxRecDepth 100000
theorem zae{n:Nat}{p:Nat→Bool}:(List.range n).any p=false↔ ∀ k,k<n→p k=false:=by
 rw [List.any_eq_false]
 exact⟨fun h k a=>by have:=h k (List.mem_range.2 a);simpa using this,fun h k a=>by rw [h k (List.mem_range.1 a)];simp⟩
theorem zfg{n:Nat}{p:Nat→Bool}:(List.range n).any p=true↔ ∃ k,k<n∧p k=true:=by
 rw [List.any_eq_true]
 exact⟨fun⟨k,a,b⟩=>⟨k,List.mem_range.1 a,b⟩,fun⟨k,a,b⟩=>⟨k,List.mem_range.2 a,b⟩⟩
theorem ztq{α:Type}[Inhabited α]{l:List α}{q:α→Bool}:(List.range l.length).any (fun i=>q (l.getD i default))=l.any q:=by
 cases h:l.any q with
 |true=>
  obtain⟨x,a,b⟩:=List.any_eq_true.1 h
  obtain⟨i,hi,rfl⟩:=List.mem_iff_getElem.1 a
  exact zfg.2 ⟨i,hi,by rw [zv7 hi];exact b⟩
 |false=>
  refine zae.2 fun k c=>?_
  have:=List.any_eq_false.1 h (l.getD k default) (z2u c)
  simpa using this
theorem zid{N:Nat}{s:List Int}{f:Int→Option Bool}{q:Int→Bool}(k:s.length<N)(l:s.length≤100000)(b: ∀ c∈s,f c=some (q c)):af N s f=some (s.any q):=by
 have d: ∃ r,ym N s f N 0=some r∧((∃ i:Nat,r=Ex.rt (i:Int)∧s.any q=true)∨(r=Ex.go ()∧s.any q=false)):=by
  refine l7 (σ:=Unit) (fun F i _=>ym N s f F (i:Int)) s.length (fun i _=> ∀ j,j<i→q (s.getD j default)=false) _ (fun F i u hi a=>?_) (fun F u a=>?_) N 0 () (Nat.zero_le _) (by omega) (fun j a=>absurd a (by omega))
  ·simp only [ym]
   rw [ny (by omega),zk (wh hi),z0o,b _ (z2u hi),z2z]
   cases hq:q (s.getD i default)
   ·right
    refine⟨(),fun j hj'=>?_,?_⟩
    ·by_cases e:j=i
     ·subst e;exact hq
     ·exact a j (by omega)
    ·rw [cond_false,zk (jc (by omega))];rfl
   ·left
    exact⟨_,by rw [cond_true],.inl ⟨i,rfl,List.any_eq_true.2 ⟨_,z2u hi,hq⟩⟩⟩
  ·simp only [ym]
   rw [di (by omega)]
   exact⟨_,rfl,.inr ⟨rfl,by rw [←ztq];exact zae.2 a⟩⟩
 obtain⟨r,g,h⟩:=d
 unfold af z0t
 rw [qh g]
 rcases h with⟨i,rfl,h⟩|⟨rfl,h⟩
 ·rw [zfp,z2z,h,decide_eq_true (by omega)]
 ·rw [ze3,z2z,h];rfl
theorem zoo{N:Nat}{a b:List Bool}(f:a.length<N)(g:a.length≤4611686018427387904):z1r N a b=some (decide (a=b)):=by
 unfold z1r
 by_cases h:(a.length:Int)≠b.length
 ·rw [ny h,decide_eq_false (fun e=>h (by rw [e]))]
 ·rw [di h]
  have hl':a.length=b.length:=by omega
  have c:o5 N a b N 0=some (if a=b then Ex.go () else Ex.rt false):=by
   refine z5z (σ:=Unit) (fun F k _=>o5 N a b F (k:Int)) a.length (fun k _=> ∀ j,j<k→a.getD j default=b.getD j default) _ (fun F k _ d hi=>?_) (fun F _ hi=>?_) N 0 () (Nat.zero_le _) (by omega) (fun j i=>by omega)
   ·simp only [o5]
    rw [ny (by omega),zk (wh d),zk (wh (by omega)),z0o,z0o]
    by_cases he:a.getD k default=b.getD k default
    ·right
     refine⟨(),zru hi he,Eq.trans (di (fun h=>h he)) ?_⟩
     rw [zk (jc (by omega))];rfl
    ·left
     refine Eq.trans (ny he) ?_
     rw [if_neg (fun e=>he (by rw [e]))]
   ·simp only [o5]
    rw [di (by omega),if_pos (zg6 hl' hi)]
  rw [qh c]
  by_cases he:a=b
  ·rw [if_pos he,decide_eq_true he];rfl
  ·rw [if_neg he,decide_eq_false he];rfl
end GV
end Go.Proofs.Ytjmlpkkbmnjhcaa

namespace Go.Proofs.Ytjmlpkkbmnjhcaa
namespace GV
set_option maxRecDepth 100000
def tb(x:Int)(s:Nat):Bool:=x.toNat.testBit s
theorem zdl(k s:Nat):zt (k:Int) (s:Int)=((k/2^s:Nat):Int):=by
 show Int.fdiv (k:Int) (2^((s:Int).toNat))=_
 rw [Int.toNat_natCast,Int.fdiv_eq_ediv_of_nonneg _ (by exact_mod_cast Nat.zero_le _)]
 norm_cast
theorem zjr(a b:Nat):ze (a:Int) (b:Int)=((a&&&b:Nat):Int):=rfl
theorem zvf{x:Int}(a:0≤x)(s:Nat):decide (ze (zt x (s:Int)) 1=1)=tb x s:=by
 obtain⟨k,rfl⟩: ∃ k:Nat,x=(k:Int):=⟨x.toNat,by omega⟩
 rw [zdl,show (1:Int)=((1:Nat):Int) from rfl,zjr,Nat.and_one_is_mod]
 unfold tb
 rw [Int.toNat_natCast,Nat.testBit_eq_decide_div_mod_eq]
 by_cases h:k/2^s%2=1
 ·rw [decide_eq_true h,decide_eq_true (by omega)]
 ·rw [decide_eq_false h,decide_eq_false (by omega)]
theorem zsv{x:Int}(a:0≤x∧x≤65535)(s:Nat):0≤zt x (s:Int)∧zt x (s:Int)≤65535:=by
 obtain⟨k,rfl⟩: ∃ k:Nat,x=(k:Int):=⟨x.toNat,by omega⟩
 rw [zdl]
 have:=Nat.div_le_self k (2^s)
 generalize k/2^s=q at this⊢
 omega
theorem zf9{t:Nat}(h:t<16):1≤2^t∧2^t≤32768:=⟨Nat.one_le_two_pow,by
 have:=Nat.pow_le_pow_right (n:=2) (by decide) (show t≤15 by omega)
 omega⟩
theorem zb1{t:Nat}(h:t<16):ax .u16 1 (t:Int)=((2^t:Nat):Int):=by
 have:=zf9 h
 unfold ax
 rw [Int.toNat_natCast,Int.one_mul,show ((2:Int)^t)=((2^t:Nat):Int) by norm_cast]
 exact z4h _ (by omega) (by show ((2^t:Nat):Int)≤65535;omega)
theorem zra{x:Int}(a:0≤x)(t s:Nat):tb (ior x ((2^t:Nat):Int)) s=(tb x s||decide (s=t)):=by
 unfold tb ior
 rw [Int.toNat_natCast,Int.toNat_natCast,Nat.testBit_or,Nat.testBit_two_pow]
 by_cases h:s=t
 ·subst h;simp
 ·rw [decide_eq_false h,decide_eq_false (fun e=>h e.symm)]
theorem zs4{x:Int}{n t:Nat}(b:0≤x)(c:x<((2^n:Nat):Int))(a:t<n):0≤ior x ((2^t:Nat):Int)∧ior x ((2^t:Nat):Int)<((2^n:Nat):Int):=by
 refine⟨Int.natCast_nonneg _,?_⟩
 unfold ior
 rw [Int.toNat_natCast]
 exact Int.ofNat_lt.2 (Nat.or_lt_two_pow (by omega) (Nat.pow_lt_pow_right (by decide) a))
theorem zfk{x y:Int}(a:0≤x)(b:0≤y)(h: ∀ s,tb x s=tb y s):x=y:=by
 have:=Nat.eq_of_testBit_eq h
 omega
theorem zne{x:Int}{n s:Nat}(b:x<((2^n:Nat):Int))(a:n≤s):tb x s=false:=by
 unfold tb
 by_cases h0:0≤x
 ·exact Nat.testBit_lt_two_pow (Nat.lt_of_lt_of_le (show x.toNat<2^n by omega) (Nat.pow_le_pow_right (by decide) a))
 ·rw [show x.toNat=0 by omega,Nat.zero_testBit]
theorem zbs(s:Nat):tb 0 s=false:=Nat.zero_testBit s
def bmk(p:Nat→Bool):Nat→Int
 |0=>0
 |n+1=>if p n=true then ior (bmk p n) ((2^n:Nat):Int) else bmk p n
theorem z4p(p:Nat→Bool): ∀ n,0≤bmk p n∧bmk p n<((2^n:Nat):Int)
 |0=>⟨Int.le_refl _,by show (0:Int)<((1:Nat):Int);decide⟩
 |n+1=>by
  obtain⟨a,b⟩:=z4p p n
  have c:((2^n:Nat):Int)<((2^(n+1):Nat):Int):=Int.ofNat_lt.2 (Nat.pow_lt_pow_right (by decide) (Nat.lt_succ_self n))
  unfold bmk
  split
  ·exact zs4 a (by omega) (Nat.lt_succ_self n)
  ·exact⟨a,by omega⟩
theorem z8g(p:Nat→Bool): ∀ n s,tb (bmk p n) s=(decide (s<n)&&p s)
 |0,s=>by rw [show bmk p 0=0 from rfl,zbs];simp
 |n+1,s=>by
  unfold bmk
  by_cases hp:p n=true
  ·rw [if_pos hp,zra (z4p p n).1,z8g p n s]
   by_cases h:s=n
   ·subst h;simp [hp]
   ·rw [decide_eq_false h,Bool.or_false]
    by_cases h2:s<n
    ·rw [decide_eq_true h2,decide_eq_true (by omega)]
    ·rw [decide_eq_false h2,decide_eq_false (by omega)]
  ·rw [if_neg hp,z8g p n s]
   by_cases h:s=n
   ·subst h;simp [hp]
   ·by_cases h2:s<n
    ·rw [decide_eq_true h2,decide_eq_true (by omega)]
    ·rw [decide_eq_false h2,decide_eq_false (by omega)]
theorem ziz{x:Int}{n:Nat}{p:Nat→Bool}(a:0≤x)(b:x<((2^n:Nat):Int))(h: ∀ s,s<n→tb x s=p s):x=bmk p n:=by
 refine zfk a (z4p p n).1 fun s=>?_
 rw [z8g]
 by_cases hs:s<n
 ·rw [h s hs,decide_eq_true hs,Bool.true_and]
 ·rw [zne b (by omega),decide_eq_false hs,Bool.false_and]
theorem z7g{p q:Nat→Bool}{n:Nat}(h: ∀ s,s<n→p s=q s):bmk p n=bmk q n:=ziz (z4p p n).1 (z4p p n).2 fun s a=>by rw [z8g,decide_eq_true a,Bool.true_and,h s a]
theorem ze9{n:Nat}(a:n≤16):((2^n:Nat):Int)≤65536:=by
 have:=Nat.pow_le_pow_right (n:=2) (by decide) a
 omega
/-! ### how many-/
def pcB(x:Int):Nat:=(List.range 16).countP (tb x)
theorem zkh: ∀ k,k<256→strT1.getD k default=((List.range 8).countP (fun s=>k.testBit s):Int):=by
 have h:(List.range 256).all (fun k=>decide (strT1.getD k default=((List.range 8).countP (fun s=>k.testBit s):Int)))=true:=by decide+kernel
 intro k a
 exact of_decide_eq_true (List.all_eq_true.1 h k (List.mem_range.2 a))
theorem zoe(k:Nat):pcB (k:Int)=(List.range 8).countP (fun s=>(k/256).testBit s)+(List.range 8).countP (fun s=>(k%256).testBit s):=by
 have e:List.range 16=List.range 8++(List.range 8).map (· +8):=by decide
 unfold pcB
 rw [e,List.countP_append,List.countP_map,Nat.add_comm]
 congr 1
 ·refine List.countP_congr fun s a=>?_
  show (tb (k:Int) (s+8)=true)↔_
  unfold tb
  rw [Int.toNat_natCast,show (256:Nat)=2^8 from rfl,Nat.testBit_div_two_pow,Nat.add_comm]
 ·refine List.countP_congr fun s a=>?_
  have a:=List.mem_range.1 a
  unfold tb
  rw [Int.toNat_natCast,show (256:Nat)=2^8 from rfl,Nat.testBit_mod_two_pow,decide_eq_true a,Bool.true_and]
theorem zph{N:Nat}{x:Int}(h:0≤x∧x≤65535):lu N x=some (pcB x:Int):=by
 obtain⟨k,rfl⟩: ∃ k:Nat,x=(k:Int):=⟨x.toNat,by omega⟩
 have a:k/256<256:=by omega
 have b:k%256<256:=by omega
 have c:zt (k:Int) (8:Int)=((k/256:Nat):Int):=zdl k 8
 have d:ze (k:Int) 255=((k%256:Nat):Int):=by
  rw [show (255:Int)=((255:Nat):Int) from rfl,zjr]
  have:=Nat.and_two_pow_sub_one_eq_mod k 8
  rw [show (255:Nat)=2^8-1 from rfl,this]
 have l:strT1.length=256:=by decide
 have e:=List.countP_le_length (p:=fun s=>(k/256).testBit s) (l:=List.range 8)
 have f:=List.countP_le_length (p:=fun s=>(k%256).testBit s) (l:=List.range 8)
 rw [List.length_range] at e f
 have g:=zoe k
 have w:IntKind.u8.wrap (strT1.getD (k/256) default+strT1.getD (k%256) default)=(pcB (k:Int):Int):=by
  rw [zkh _ a,zkh _ b,z4h _ (by omega) (by show _≤(255:Int);omega),g];rfl
 unfold lu
 rw [zk ⟨by decide,by decide⟩,c,d,zk (wh (by rw [l];exact a)),zk ⟨⟨by omega,by show (k:Int)≤65535;omega⟩,by decide,by decide⟩,zk (wh (by rw [l];exact b)),z0o,z0o,w,zk (jc (by omega))]
theorem zcb{p:Nat→Bool}: ∀ {l:List Nat},l.Nodup→(1<l.countP p↔ ∃ a b,a∈l∧b∈l∧a≠b∧p a=true∧p b=true)
 | [],_=>by simp
 |c::l,k=>by
  obtain⟨m,n⟩:=List.nodup_cons.1 k
  rw [List.countP_cons]
  by_cases hc:p c=true
  ·rw [if_pos hc]
   constructor
   ·intro h
    obtain⟨a,f,d⟩:=List.countP_pos_iff.1 (show 0<l.countP p by omega)
    exact⟨c,a,List.mem_cons_self ..,List.mem_cons_of_mem _ f,fun e=>m (e▸f),hc,d⟩
   ·rintro⟨a,b,f,g,j,d,i⟩
    have:0<l.countP p:=List.countP_pos_iff.2 (by
     rcases List.mem_cons.1 f with rfl|f
     ·rcases List.mem_cons.1 g with rfl|g
      ·exact absurd rfl j
      ·exact⟨b,g,i⟩
     ·exact⟨a,f,d⟩)
    omega
  ·rw [if_neg hc,Nat.add_zero,zcb n]
   constructor
   ·rintro⟨a,b,f,g,h⟩
    exact⟨a,b,List.mem_cons_of_mem _ f,List.mem_cons_of_mem _ g,h⟩
   ·rintro⟨a,b,f,g,j,d,i⟩
    rcases List.mem_cons.1 f with rfl|f
    ·exact absurd d hc
    ·rcases List.mem_cons.1 g with rfl|g
     ·exact absurd i hc
     ·exact⟨a,b,f,g,j,d,i⟩
theorem zez{x:Int}(f:x<65536):1<pcB x↔ ∃ a b,a≠b∧tb x a=true∧tb x b=true:=by
 unfold pcB
 rw [zcb List.nodup_range]
 have d: ∀ a,tb x a=true→a∈List.range 16:=fun a c=>by
  rw [List.mem_range]
  by_cases h:a<16
  ·exact h
  ·rw [zne (n:=16) (by omega) (by omega)] at c;cases c
 constructor
 ·rintro⟨a,b,_,_,h⟩;exact⟨a,b,h⟩
 ·rintro⟨a,b,h,c,e⟩;exact⟨a,b,d a c,d b e,h,c,e⟩
/-! ### the image of a set-/
def z7r(m:Mach)(x:Int)(i:Nat)(q:Nat→Bool)(k t:Nat):Bool:=(List.range k).any fun s=>(tb x s&&q s)&&decide (tgt m s i=t)
def zrh(m:Mach)(x:Int)(i:Nat)(q:Nat→Bool):Int:=bmk (z7r m x i q m.rows.length) m.rows.length
theorem z7d{m:Mach}{x:Int}{i:Nat}{q:Nat→Bool}{k t:Nat}:z7r m x i q (k+1) t=(z7r m x i q k t||((tb x k&&q k)&&decide (tgt m k i=t))):=by
 unfold z7r;rw [List.range_succ,List.any_append];simp
theorem zqw{m:Mach}{x:Int}{i:Nat}{q:Nat→Bool}{k t:Nat}:z7r m x i q k t=true↔ ∃ s,s<k∧tb x s=true∧q s=true∧tgt m s i=t:=by
 unfold z7r
 rw [List.any_eq_true]
 constructor
 ·rintro⟨s,a,h⟩
  rw [Bool.and_eq_true,Bool.and_eq_true,decide_eq_true_iff] at h
  exact⟨s,List.mem_range.1 a,h.1.1,h.1.2,h.2⟩
 ·rintro⟨s,a,b,c,d⟩
  exact⟨s,List.mem_range.2 a,by rw [b,c,decide_eq_true d];rfl⟩
theorem z6p{m:Mach}(h:CM m){x:Int}{i:Nat}(hi:i<nIn m){q:Nat→Bool}{t:Nat}:tb (zrh m x i q) t=true↔ ∃ s,s<m.rows.length∧tb x s=true∧q s=true∧tgt m s i=t:=by
 unfold zrh
 rw [z8g,Bool.and_eq_true,decide_eq_true_iff,zqw]
 constructor
 ·rintro⟨_,h⟩;exact h
 ·rintro⟨s,a,b,c,rfl⟩;exact⟨(h.tgt a hi).1,s,a,b,c,rfl⟩
theorem zi7(m:Mach)(x:Int)(i:Nat)(q:Nat→Bool):0≤zrh m x i q∧zrh m x i q<((2^m.rows.length:Nat):Int):=z4p _ _
theorem zjv{m:Mach}{x:Int}{i k n:Nat}{q:Nat→Bool}(c:tgt m k i<n)(j:n≤16):(if(tb x k&&q k)=true then ior (bmk (z7r m x i q k) n) (ax .u16 1 (tgt m k i:Int)) else bmk (z7r m x i q k) n)=bmk (z7r m x i q (k+1)) n:=by
 obtain⟨a,d⟩:=z4p (z7r m x i q k) n
 by_cases hb:(tb x k&&q k)=true
 ·rw [if_pos hb,zb1 (by omega)]
  obtain⟨f,g⟩:=zs4 a d c
  refine ziz f g fun s b=>?_
  rw [zra a,z8g,decide_eq_true b,Bool.true_and,z7d,hb,Bool.true_and]
  congr 1
  by_cases e:s=tgt m k i
  ·rw [decide_eq_true e,decide_eq_true e.symm]
  ·rw [decide_eq_false e,decide_eq_false (fun h=>e h.symm)]
 ·rw [if_neg hb]
  refine z7g fun s b=>?_
  rw [z7d,show (tb x k&&q k)=false by simpa using hb,Bool.false_and,Bool.or_false]
end GV
end Go.Proofs.Ytjmlpkkbmnjhcaa
