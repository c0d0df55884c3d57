
import Derived.Test.YtdhccodneoebpaaSpec04b
import Derived.Test.YtdhccodneoebpaaTak38
import Derived.Test.YtdhccodneoebpaaShPlain
set_option linter.unusedVariables false
set_option linter.unusedSimpArgs false
set_option linter.unusedSectionVars false
namespace Go.Proofs.Ytdhccodneoebpaa
namespace GV
structure QE (T:Type) where
 st:T
 par:Nat
 inp:Nat
 wd:List Int
section que
variable {T : Type} [DecidableEq T] [Inhabited T]
instance:Inhabited (QE T):=⟨⟨default,0,0,[]⟩⟩
def zbs(All:List (QE T))(t:T):Bool:=All.any fun e=>decide (e.st=t)
theorem zi2{All:List (QE T)}{t:T}:zbs All t=true↔ ∃ j,j<All.length∧(All.getD j default).st=t:=by
 unfold zbs
 rw [List.any_eq_true]
 constructor
 ·rintro⟨e,b,h⟩
  obtain⟨j,a,c⟩:=List.mem_iff_getElem.1 b
  refine⟨j,a,?_⟩
  rw [List.getD_eq_getElem?_getD,List.getElem?_eq_getElem a,c];exact of_decide_eq_true h
 ·rintro⟨j,a,h⟩
  refine⟨All.getD j default,z1w a,decide_eq_true h⟩
variable (nx : T → Nat → Option T)
def z8z(x:QE T)(p:Nat)(All:List (QE T))(i:Nat):List (QE T):=
 match nx x.st i with
 |none=>All
 |some t=>if zbs All t=true then All else All++[⟨t,p,i,x.wd++[(i:Int)]⟩]
def z6f(x:QE T)(p:Nat)(All:List (QE T)):Nat→List (QE T)
 |0=>All
 |k+1=>z8z nx x p (z6f x p All k) k
def qgo(goal:T→Bool)(I:Nat):Nat→Nat→List (QE T)→Option (Option Nat×List (QE T))
 |0,_,_=>none
 |f+1,p,All=>if p<All.length then(if goal (All.getD p default).st=true then some (some p,All) else qgo goal I f (p+1) (z6f nx (All.getD p default) p All I)) else some (none,All)
def lc:T→List Int→Option T
 |t,[]=>some t
 |t,i::w=>(nx t i.toNat).bind fun t'=>lc t' w
def z4m(I:Nat)(w:List Int):Prop:= ∀ i∈w,0≤i∧i<(I:Int)
variable {nx} {I : Nat}
theorem ze1: ∀ {w:List Int} {t:T} {i:Int},lc nx t (w++[i])=(lc nx t w).bind fun t'=>nx t' i.toNat
 | [],t,i=>by
  simp [lc]
 |j::w,t,i=>by
  show (nx t j.toNat).bind _=Option.bind ((nx t j.toNat).bind _) _
  cases nx t j.toNat with
  |none=>rfl
  |some t'=>exact ze1 (w:=w)
theorem zdo: ∀ {w v:List Int} {t:T},lc nx t (w++v)=(lc nx t w).bind fun t'=>lc nx t' v
 | [],v,t=>rfl
 |j::w,v,t=>by
  show (nx t j.toNat).bind _=Option.bind ((nx t j.toNat).bind _) _
  cases nx t j.toNat with
  |none=>rfl
  |some t'=>exact zdo (w:=w)
structure QInv (nx:T→Nat→Option T) (I:Nat) (t0:T) (p k:Nat) (All:List (QE T)):Prop where
 root:All.getD 0 default=⟨t0,0,0,[]⟩
 pos:0<All.length
 dis: ∀ i j,i<All.length→j<All.length→(All.getD i default).st=(All.getD j default).st→i=j
 par: ∀ j,0<j→j<All.length→(All.getD j default).par<j∧(All.getD j default).par≤p∧(All.getD j default).inp<I∧(All.getD j default).wd=(All.getD (All.getD j default).par default).wd++[((All.getD j default).inp:Int)]∧nx (All.getD (All.getD j default).par default).st (All.getD j default).inp=some (All.getD j default).st
 mon: ∀ i j,i≤j→j<All.length→(All.getD i default).wd.length≤(All.getD j default).wd.length
 top: ∀ j,j<All.length→p<All.length→(All.getD j default).wd.length≤(All.getD p default).wd.length+1
 cls: ∀ q i t,(q<p∨(q=p∧i<k))→q<All.length→i<I→nx (All.getD q default).st i=some t→ ∃ j,j<All.length∧(All.getD j default).st=t∧(All.getD j default).wd.length≤(All.getD q default).wd.length+1
theorem zi9{X:List (QE T)}{e:QE T}{j:Nat}(h:j<X.length):(X++[e]).getD j default=X.getD j default:=by
 simp [List.getD_eq_getElem?_getD,List.getElem?_append_left h]
theorem zp7{X:List (QE T)}{e:QE T}:(X++[e]).getD X.length default=e:=by simp [List.getD_eq_getElem?_getD]
theorem zbd{b:T}:QInv nx I b 0 0 [⟨b,0,0,[]⟩]:=by
 refine⟨rfl,by simp,fun i j hi a _=>?_,fun j d a=>?_,fun i j c a=>?_,fun j a _=>?_,fun q i t h=>by omega⟩
 ·rw [List.length_singleton] at hi a;omega
 ·rw [List.length_singleton] at a;omega
 ·rw [List.length_singleton] at a
  obtain rfl:j=0:=by omega
  obtain rfl:i=0:=by omega
  exact Nat.le_refl _
 ·rw [List.length_singleton] at a
  obtain rfl:j=0:=by omega
  exact Nat.le_succ _
theorem zpo{x:T}{p k:Nat}{All:List (QE T)}(h:QInv nx I x p k All)(m:p<All.length)(z:k<I):QInv nx I x p (k+1) (z8z nx (All.getD p default) p All k)∧(z8z nx (All.getD p default) p All k).getD p default=All.getD p default∧p<(z8z nx (All.getD p default) p All k).length:=by
 unfold z8z
 cases hn:nx (All.getD p default).st k with
 |none=>
  refine⟨⟨h.root,h.pos,h.dis,h.par,h.mon,h.top,fun q i t y n hi f=>?_⟩,rfl,m⟩
  by_cases e:q=p∧i=k
  ·obtain⟨rfl,rfl⟩:=e;rw [hn] at f;cases f
  ·exact h.cls q i t (by omega) n hi f
 |some t'=>
  dsimp only
  by_cases hs:zbs All t'=true
  ·rw [if_pos hs]
   refine⟨⟨h.root,h.pos,h.dis,h.par,h.mon,h.top,fun q i t y n hi f=>?_⟩,rfl,m⟩
   by_cases e:q=p∧i=k
   ·obtain⟨rfl,rfl⟩:=e
    rw [hn] at f
    obtain rfl:=Option.some.inj f
    obtain⟨j,l,o⟩:=zi2.1 hs
    exact⟨j,l,o,h.top j l m⟩
   ·exact h.cls q i t (by omega) n hi f
  ·rw [if_neg hs]
   have g: ∀ {j},j<All.length→(All++[(⟨t',p,k,(All.getD p default).wd++[(k:Int)]⟩:QE T)]).getD j default=All.getD j default:=fun l=>zi9 l
   have r:(All++[(⟨t',p,k,(All.getD p default).wd++[(k:Int)]⟩:QE T)]).getD All.length default=⟨t',p,k,(All.getD p default).wd++[(k:Int)]⟩:=zp7
   have hlen:(All++[(⟨t',p,k,(All.getD p default).wd++[(k:Int)]⟩:QE T)]).length=All.length+1:=by simp
   have u: ∀ j,j<All.length→(All.getD j default).st≠t':=fun j l e=>hs (zi2.2 ⟨j,l,e⟩)
   refine⟨⟨by rw [g h.pos];exact h.root,by omega,fun i j hi l o=>?_,fun j A l=>?_,fun i j v l=>?_,fun j l _=>?_,fun q i t y n hi f=>?_⟩,g m,by omega⟩
   ·rw [hlen] at hi l
    by_cases ei:i<All.length
    ·by_cases ej:j<All.length
     ·rw [g ei,g ej] at o;exact h.dis i j ei ej o
     ·obtain rfl:j=All.length:=by omega
      rw [g ei,r] at o;exact absurd o (u i ei)
    ·obtain rfl:i=All.length:=by omega
     by_cases ej:j<All.length
     ·rw [g ej,r] at o;exact absurd o.symm (u j ej)
     ·omega
   ·rw [hlen] at l
    by_cases ej:j<All.length
    ·rw [g ej]
     obtain⟨a,b,c,d,e⟩:=h.par j A ej
     rw [g (by omega)]
     exact⟨a,b,c,d,e⟩
    ·obtain rfl:j=All.length:=by omega
     rw [r]
     dsimp only
     rw [g m]
     exact⟨m,Nat.le_refl _,z,rfl,hn⟩
   ·rw [hlen] at l
    by_cases ej:j<All.length
    ·rw [g ej,g (by omega)];exact h.mon i j v ej
    ·obtain rfl:j=All.length:=by omega
     rw [r]
     dsimp only
     rw [List.length_append,List.length_singleton]
     by_cases ei:i<All.length
     ·rw [g ei];exact h.top i ei m
     ·obtain rfl:i=All.length:=by omega
      rw [r]
      dsimp only
      rw [List.length_append,List.length_singleton];exact Nat.le_refl _
   ·rw [hlen] at l
    rw [g m]
    by_cases ej:j<All.length
    ·rw [g ej];exact h.top j ej m
    ·obtain rfl:j=All.length:=by omega
     rw [r]
     dsimp only
     rw [List.length_append,List.length_singleton];exact Nat.le_refl _
   ·rw [hlen] at n
    by_cases e:q=p∧i=k
    ·obtain⟨rfl,rfl⟩:=e
     rw [g m,hn] at f
     obtain rfl:=Option.some.inj f
     exact⟨All.length,by omega,by rw [r],by rw [r,g m,List.length_append,List.length_singleton];exact Nat.le_refl _⟩
    ·have s:q<All.length:=by omega
     rw [g s] at f
     obtain⟨j,l,o,w⟩:=h.cls q i t (by omega) s hi f
     exact⟨j,by omega,by rw [g l];exact o,by rw [g l,g s];exact w⟩
theorem zas{d:T}{p:Nat}{All:List (QE T)}(h:QInv nx I d p 0 All)(e:p<All.length): ∀ k,k≤I→QInv nx I d p k (z6f nx (All.getD p default) p All k)∧(z6f nx (All.getD p default) p All k).getD p default=All.getD p default∧p<(z6f nx (All.getD p default) p All k).length
 |0,_=>⟨h,rfl,e⟩
 |k+1,f=>by
  obtain⟨a,b,c⟩:=zas h e k (by omega)
  have:=zpo a c (by omega:k<I)
  rw [b] at this
  exact this
theorem zeg{m:T}{p:Nat}{All:List (QE T)}(h:QInv nx I m p I All)(n:p<All.length):QInv nx I m (p+1) 0 All:=by
 refine⟨h.root,h.pos,h.dis,fun j o f=>?_,h.mon,fun j f g=>?_,fun q i t r k hi l=>h.cls q i t (by omega) k hi l⟩
 ·obtain⟨a,b,c,d,e⟩:=h.par j o f
  exact⟨a,by omega,c,d,e⟩
 ·have:=h.top j f n
  have:=h.mon p (p+1) (by omega) g
  omega
theorem zdr{g:T}{p k:Nat}{All:List (QE T)}(h:QInv nx I g p k All): ∀ n j,j≤n→j<All.length→lc nx g (All.getD j default).wd=some (All.getD j default).st∧z4m I (All.getD j default).wd
 |0,j,l,f=>by
  obtain rfl:j=0:=by omega
  rw [h.root];exact⟨rfl,fun i hi=>by cases hi⟩
 |n+1,j,l,f=>by
  by_cases h0:j=0
  ·exact zdr h n j (by omega) f
  ·obtain⟨a,b,c,d,e⟩:=h.par j (by omega) f
   obtain⟨m,o⟩:=zdr h n _ (by omega) (show (All.getD j default).par<All.length by omega)
   rw [d]
   refine⟨?_,fun i hi=>?_⟩
   ·rw [ze1,m]
    show nx _ (((All.getD j default).inp:Int)).toNat=_
    rw [Int.toNat_natCast,e]
   ·rcases List.mem_append.1 hi with hi|hi
    ·exact o i hi
    ·rw [List.mem_singleton] at hi;omega
theorem zfv{f:T}{p:Nat}{All:List (QE T)}(h:QInv nx I f p 0 All){n:Nat}(w: ∀ j,j<All.length→(All.getD j default).wd.length<n→j<p): ∀ {v:List Int} {t:T},z4m I v→lc nx f v=some t→v.length<n→ ∃ j,j<All.length∧(All.getD j default).st=t∧(All.getD j default).wd.length≤v.length:=by
 have key: ∀ k (v:List Int) (t:T),v.length=k→z4m I v→lc nx f v=some t→v.length<n→ ∃ j,j<All.length∧(All.getD j default).st=t∧(All.getD j default).wd.length≤v.length:=by
  intro k
  induction k with
  |zero=>
   intro v t b _ a _
   obtain rfl:=List.length_eq_zero_iff.1 b
   obtain rfl:=Option.some.inj a
   exact⟨0,h.pos,by rw [h.root],by rw [h.root];exact Nat.le_refl _⟩
  |succ k ih=>
   intro v t b d a g
   have c:v≠[]:=by intro e;rw [e] at b;simp at b
   obtain⟨u,i,rfl⟩: ∃ u i,v=u++[i]:=⟨v.dropLast,v.getLast c,(List.dropLast_concat_getLast c).symm⟩
   rw [List.length_append,List.length_singleton] at b g
   rw [ze1] at a
   obtain⟨t',y,r⟩:=Option.bind_eq_some_iff.1 a
   obtain⟨j,s,l,z⟩:=ih u t' (by omega) (fun x A=>d x (List.mem_append.2 (.inl A))) y (by omega)
   have m:=w j s (by omega)
   have hi:=d i (by simp)
   rw [←l] at r
   obtain⟨q,B,o,C⟩:=h.cls j i.toNat t (.inl m) s (by omega) r
   refine⟨q,B,o,?_⟩
   rw [List.length_append,List.length_singleton];omega
 intro v t d a g
 exact key v.length v t rfl d a g
theorem zgr{goal:T→Bool}{i:T}: ∀ {f p:Nat} {All:List (QE T)} {r:Option Nat×List (QE T)},QInv nx I i p 0 All→p≤All.length→(∀ j,j<p→goal (All.getD j default).st=false)→qgo nx goal I f p All=some r→
 QInv nx I i (r.1.getD r.2.length) 0 r.2∧(∀ j,j<r.1.getD r.2.length→goal (r.2.getD j default).st=false)∧ ∀ q,r.1=some q→q<r.2.length∧goal (r.2.getD q default).st=true
 |0,p,All,r,h,l,d,e=>by cases e
 |f+1,p,All,r,h,l,d,e=>by
  unfold qgo at e
  by_cases hl:p<All.length
  ·rw [if_pos hl] at e
   by_cases hg:goal (All.getD p default).st=true
   ·rw [if_pos hg] at e
    obtain rfl:=Option.some.inj e
    refine⟨h,d,fun q g=>?_⟩
    obtain rfl:=Option.some.inj g
    exact⟨hl,hg⟩
   ·rw [if_neg hg] at e
    obtain⟨a,b,c⟩:=zas h hl I (Nat.le_refl _)
    refine zgr (zeg a c) (by omega) (fun j m=>?_) e
    by_cases e2:j=p
    ·subst e2;rw [b];exact Bool.eq_false_iff.2 hg
    ·have hpre: ∀ k,(z6f nx (All.getD p default) p All k).getD j default=All.getD j default∧All.length≤(z6f nx (All.getD p default) p All k).length:=by
      intro k
      induction k with
      |zero=>exact⟨rfl,Nat.le_refl _⟩
      |succ k ih=>
       unfold z6f z8z
       cases nx (All.getD p default).st k with
       |none=>exact ih
       |some t'=>
        dsimp only
        split
        ·exact ih
        ·exact⟨by rw [zi9 (by omega)];exact ih.1,by rw [List.length_append];omega⟩
     rw [(hpre I).1];exact d j (by omega)
  ·rw [if_neg hl] at e
   obtain rfl:=Option.some.inj e
   obtain rfl:p=All.length:=by omega
   exact⟨h,d,fun q g=>by cases g⟩
theorem zqy{goal:T→Bool}{b:T}{f:Nat}{q:Nat}{Z:List (QE T)}(e:qgo nx goal I f 0 [⟨b,0,0,[]⟩]=some (some q,Z)):
 QInv nx I b q 0 Z∧q<Z.length∧z4m I (Z.getD q default).wd∧lc nx b (Z.getD q default).wd=some (Z.getD q default).st∧goal (Z.getD q default).st=true∧ ∀ v t,z4m I v→lc nx b v=some t→goal t=true→(Z.getD q default).wd.length≤v.length:=by
 obtain⟨a,i,m⟩:=zgr zbd (Nat.zero_le _) (fun j c=>by omega) e
 obtain⟨k,n⟩:=m q rfl
 dsimp only [Option.getD_some] at a i
 obtain⟨o,p⟩:=zdr a q q (Nat.le_refl _) k
 refine⟨a,k,p,o,n,fun v t r s u=>?_⟩
 refine Nat.le_of_not_lt fun d=>?_
 have l: ∀ j,j<Z.length→(Z.getD j default).wd.length<(Z.getD q default).wd.length→j<q:=fun j c w=>by
  refine Nat.lt_of_not_le fun g=>?_
  have:=a.mon q j g c;omega
 obtain⟨j,c,h,x⟩:=zfv a l r s d
 have:=i j (l j c (by omega))
 rw [h,u] at this;cases this
theorem zwl{goal:T→Bool}{c:T}{f:Nat}{Z:List (QE T)}(e:qgo nx goal I f 0 [⟨c,0,0,[]⟩]=some (none,Z)): ∀ v t,z4m I v→lc nx c v=some t→goal t=false:=by
 obtain⟨d,g,_⟩:=zgr zbd (Nat.zero_le _) (fun j a=>by omega) e
 dsimp only [Option.getD_none] at d g
 intro v t h i
 obtain⟨j,a,b,_⟩:=zfv d (n:=v.length+1) (fun j a _=>a) h i (by omega)
 rw [←b];exact g j a
end que
end GV
end Go.Proofs.Ytdhccodneoebpaa

namespace Go.Proofs.Ytdhccodneoebpaa
namespace GV
set_option maxRecDepth 100000
section edges
variable {m : Mach} {s i : Nat}
theorem zpt{k:Nat}:(xn m s k).Nodup:=by
 unfold xn
 refine List.Pairwise.map _ (fun a b h=>?_) (List.Pairwise.filter _ List.nodup_range)
 intro e
 have:=(Prod.mk.inj e).2
 exact h (by omega)
theorem zir: ∀ k,(wh m k).Nodup
 |0=>List.nodup_nil
 |k+1=>by
  unfold wh
  rw [List.nodup_append]
  refine⟨zir k,zpt,fun a d b c e=>?_⟩
  subst e
  obtain⟨s,i,g,_,_,rfl⟩:=(z5j k).1 d
  unfold xn at c
  obtain⟨j,_,f⟩:=List.mem_map.1 c
  have:=(Prod.mk.inj f).1
  omega
theorem edges_nd:(qp m).Nodup:=zir _
def uo(m:Mach)(s i:Nat):Nat:=(qp m).idxOf ((s:Int),(i:Int))
theorem z8e(a:s<m.rows.length)(hi:i<m.inputs.toNat)(b:ed m s i≠ -1):uo m s i<(qp m).length:=List.idxOf_lt_length_iff.2 (ut.2 ⟨s,i,a,hi,b,rfl⟩)
theorem ztk(a:s<m.rows.length)(hi:i<m.inputs.toNat)(b:ed m s i≠ -1):(qp m).getD (uo m s i) default=((s:Int),(i:Int)):=by
 have h:=z8e a hi b
 unfold uo at h⊢
 rw [List.getD_eq_getElem?_getD,List.getElem?_eq_getElem h,List.getElem_idxOf];rfl
theorem zf2(d:s<m.rows.length)(hi:i<m.inputs.toNat)(e:ed m s i≠ -1){t j:Nat}(f:t<m.rows.length)(g:j<m.inputs.toNat)(k:ed m t j≠ -1)(h:uo m s i=uo m t j):s=t∧i=j:=by
 have c:=ztk d hi e
 rw [h,ztk f g k] at c
 obtain⟨a,b⟩:=Prod.mk.inj c
 omega
theorem zb2{k:Nat}(a:k<(qp m).length): ∃ s i,s<m.rows.length∧i<m.inputs.toNat∧ed m s i≠ -1∧uo m s i=k:=by
 obtain⟨s,i,b,hi,c,h⟩:=ut.1 (z1w a)
 refine⟨s,i,b,hi,c,?_⟩
 unfold uo
 rw [←h,List.getD_eq_getElem?_getD,List.getElem?_eq_getElem a]
 exact edges_nd.idxOf_getElem k a
end edges
def nxT(m:Mach)(x:Nat×Nat)(i:Nat):Option (Nat×Nat):=if ed m x.1 i= -1 then none else some ((ed m x.1 i).toNat,x.2|||2^uo m x.1 i)
def z1k(m:Mach)(round:Bool)(x:Nat×Nat):Bool:=decide (x.2=2^(qp m).length-1)&&(!round||decide (x.1=0))
section walk
variable {m : Mach} {w : List Int} {c : List (List Int)} {s i b : Nat}
theorem zfy(b:MOk m):z4m m.inputs.toNat w↔WOk m.inputs w:=by
 have:=b.inp
 unfold z4m WOk
 constructor
 ·intro h k a;have:=h _ (z1w a);omega
 ·intro h i hi
  obtain⟨k,a,rfl⟩:=List.mem_iff_getElem.1 hi
  have:=h k a
  rw [List.getD_eq_getElem?_getD,List.getElem?_eq_getElem a] at this
  simp only [Option.getD_some] at this
  omega
structure WRes (m:Mach) (c:List (List Int)) (b:Nat) (t b':Nat) (c':List (List Int)):Prop where
 lt:t<m.rows.length
 shp:Shp m c'
 mono: ∀ x j,lf c x j≤lf c' x j
 bit: ∀ x j,x<m.rows.length→j<m.inputs.toNat→ed m x j≠ -1→b'.testBit (uo m x j)=(b.testBit (uo m x j)||decide (lf c x j<lf c' x j))
 bnd:b<2^(qp m).length→b'<2^(qp m).length
theorem zk3(q:MOk m): ∀ (w:List Int) (s b:Nat) (c:List (List Int)),s<m.rows.length→Shp m c→z4m m.inputs.toNat w→
 (lc (nxT m) (s,b) w=none∧tk m (s:Int) c w=none)∨ ∃ t b' c',lc (nxT m) (s,b) w=some (t,b')∧tk m (s:Int) c w=some ((t:Int),c')∧WRes m c b t b' c'
 | [],s,b,c,a,g,_=> .inr ⟨s,b,c,rfl,rfl,a,g,fun _ _=>Int.le_refl _,fun x j _ _ _=>by rw [decide_eq_false (Int.lt_irrefl _),Bool.or_false],id⟩
 |i::w,s,b,c,a,g,r=>by
  obtain⟨j,rfl⟩: ∃ j:Nat,i=(j:Int):=⟨i.toNat,by have:=r i (by simp);omega⟩
  have d:j<m.inputs.toNat:=by have:=r (j:Int) (by simp);omega
  rw [znm,zd4]
  have A:lc (nxT m) (s,b) ((j:Int)::w)=(nxT m (s,b) j).bind fun t'=>lc (nxT m) t' w:=rfl
  rw [A]
  unfold nxT
  dsimp only
  by_cases e:ed m s j= -1
  ·left;rw [if_pos e,if_pos e];exact⟨rfl,rfl⟩
  ·rw [if_neg e,if_neg e]
   have u:(ed m s j).toNat<m.rows.length:=by rcases z9l q a d with h|h<;>omega
   have B:ed m s j=((ed m s j).toNat:Int):=by rcases z9l q a d with h|h<;>omega
   rw [B]
   have v:=zk3 q w (ed m s j).toNat (b|||2^uo m s j) (bump c (s:Int) (j:Int)) u (g.bump a d) (fun x p=>r x (by simp [p]))
   rcases v with⟨k,l⟩|⟨t,b',c',k,l,f⟩
   ·exact .inl ⟨k,l⟩
   ·refine .inr ⟨t,b',c',k,l,f.lt,f.shp,fun x y=>?_,fun x y p z n=>?_,fun C=>f.bnd (Nat.or_lt_two_pow C (Nat.pow_lt_pow_right (by decide) (z8e a d e)))⟩
    ·have:=f.mono x y
     rw [ziy g a d] at this
     by_cases e3:x=s∧y=j
     ·rw [if_pos e3] at this;rw [e3.1,e3.2] at this⊢;omega
     ·rw [if_neg e3] at this;exact this
    ·rw [f.bit x y p z n,Nat.testBit_or,Nat.testBit_two_pow]
     have o:=f.mono x y
     rw [ziy g a d] at o⊢
     by_cases e3:x=s∧y=j
     ·obtain⟨rfl,rfl⟩:=e3
      rw [if_pos ⟨rfl,rfl⟩] at o⊢
      rw [decide_eq_true (rfl:uo m x y=uo m x y),decide_eq_true (show lf c x y<lf c' x y by omega)]
      simp
     ·rw [if_neg e3,decide_eq_false (fun h=>e3 (by obtain⟨k,l⟩:=zf2 a d e p z n h;exact⟨k.symm,l.symm⟩)),Bool.or_false]
theorem zg5{k b:Nat}(c:b<2^k):b=2^k-1↔ ∀ j,j<k→b.testBit j=true:=by
 constructor
 ·rintro rfl j a
  rw [Nat.testBit_two_pow_sub_one,decide_eq_true a]
 ·intro h
  refine Nat.eq_of_testBit_eq fun j=>?_
  rw [Nat.testBit_two_pow_sub_one]
  by_cases a:j<k
  ·rw [h j a,decide_eq_true a]
  ·rw [decide_eq_false a]
   exact Nat.testBit_lt_two_pow (Nat.lt_of_lt_of_le c (Nat.pow_le_pow_right (by decide) (by omega)))
theorem zkm(i:MOk m){round:Bool}:IsT m w round↔w.length≤256∧z4m m.inputs.toNat w∧ ∃ t,lc (nxT m) (0,0) w=some t∧z1k m round t=true:=by
 have q:0<m.rows.length:=by have:=i.r1;omega
 have key:z4m m.inputs.toNat w→(((z01 m w).2.2=true∧(round=true→(z01 m w).2.1=0)∧zrg m (z01 m w).1)↔ ∃ t,lc (nxT m) (0,0) w=some t∧z1k m round t=true):=by
  intro l
  unfold z01
  rcases zk3 i w 0 0 (z6g m) q zba l with⟨k,e⟩|⟨t,b',c',k,e,f⟩
  ·rw [show tk m 0 (z6g m) w=none from e,k]
   exact⟨fun⟨h,_⟩=>(by cases h),fun⟨t,h,_⟩=>by cases h⟩
  ·rw [show tk m 0 (z6g m) w=some ((t:Int),c') from e,k]
   dsimp only
   have hb':=f.bnd (Nat.two_pow_pos _)
   have hall:zrg m c'↔b'=2^(qp m).length-1:=by
    rw [zg5 hb']
    constructor
    ·intro o j r
     obtain⟨x,y,d,g,p,rfl⟩:=zb2 r
     rw [f.bit x y d g p,Nat.zero_testBit,Bool.false_or,decide_eq_true_iff]
     have:=f.mono x y
     rw [zj6] at this⊢
     have:=o x y d g (by rcases z9l i d g with h|h<;>omega)
     omega
    ·intro o x y d g q
     have:=o _ (z8e d g (by omega))
     rw [f.bit x y d g (by omega),Nat.zero_testBit,Bool.false_or,decide_eq_true_iff,zj6] at this
     omega
   rw [hall]
   constructor
   ·rintro⟨_,s,u⟩
    refine⟨(t,b'),rfl,?_⟩
    unfold z1k
    rw [decide_eq_true u]
    cases round
    ·rfl
    ·have:=s rfl
     rw [decide_eq_true (show t=0 by omega)];rfl
   ·rintro⟨x,d,n⟩
    obtain rfl:=Option.some.inj d
    unfold z1k at n
    rw [Bool.and_eq_true,decide_eq_true_iff] at n
    refine⟨rfl,fun v=>?_,n.1⟩
    have:=n.2
    rw [v] at this
    have:t=0:=by simpa using this
    omega
 constructor
 ·intro h
  have l:=(zfy i).2 h.ok
  exact⟨h.len,l,(key l).1 ⟨h.is,h.back,h.all⟩⟩
 ·rintro⟨k,e,f⟩
  obtain⟨a,b,c⟩:=(key e).2 f
  exact⟨k,(zfy i).1 e,a,b,c⟩
theorem zur(b:MOk m)(d:z4m m.inputs.toNat w){t:Nat×Nat}(h:lc (nxT m) (0,0) w=some t):t.1<m.rows.length∧t.2<2^(qp m).length:=by
 rcases zk3 b w 0 0 (z6g m) (by have:=b.r1;omega) zba d with⟨a,_⟩|⟨t',b',c',a,_,c⟩
 ·rw [a] at h;cases h
 ·rw [a] at h
  obtain rfl:=Option.some.inj h
  exact⟨c.lt,c.bnd (Nat.two_pow_pos _)⟩
theorem zf3(c:MOk m){p k:Nat}{All:List (QE (Nat×Nat))}(h:QInv (nxT m) m.inputs.toNat (0,0) p k All){j:Nat}(d:j<All.length):(All.getD j default).st.1<m.rows.length∧(All.getD j default).st.2<2^(qp m).length:=by
 obtain⟨a,b⟩:=zdr h j j (Nat.le_refl _) d
 exact zur c b a
def plT(m:Mach)(x:Nat×Nat):Nat:=x.2*m.rows.length+x.1
def z8o(m:Mach):Nat:=m.rows.length*2^(qp m).length
theorem zne{x:Nat×Nat}(b:x.1<m.rows.length)(a:x.2<2^(qp m).length):plT m x<z8o m:=by
 unfold plT z8o
 have:(x.2+1)*m.rows.length≤2^(qp m).length*m.rows.length:=Nat.mul_le_mul_right _ a
 rw [Nat.succ_mul] at this
 rw [Nat.mul_comm m.rows.length];omega
theorem zjk{x y:Nat×Nat}(d:x.1<m.rows.length)(e:y.1<m.rows.length)(h:plT m x=plT m y):x=y:=by
 unfold plT at h
 have c:0<m.rows.length:=by omega
 have a:(x.2*m.rows.length+x.1)/m.rows.length=x.2:=by rw [Nat.mul_comm,Nat.mul_add_div c,Nat.div_eq_of_lt d,Nat.add_zero]
 have b:(y.2*m.rows.length+y.1)/m.rows.length=y.2:=by rw [Nat.mul_comm,Nat.mul_add_div c,Nat.div_eq_of_lt e,Nat.add_zero]
 rw [h,b] at a
 refine Prod.ext ?_ a.symm
 rw [a] at h;omega
theorem zju(b:MOk m){p k:Nat}{All:List (QE (Nat×Nat))}(h:QInv (nxT m) m.inputs.toNat (0,0) p k All):All.length≤z8o m:=by
 have c:(All.map fun e=>plT m e.st).Nodup:=by
  rw [List.nodup_iff_pairwise_ne,List.pairwise_iff_getElem]
  intro i j hi a l e
  rw [List.length_map] at hi a
  rw [List.getElem_map,List.getElem_map] at e
  have d:=zf3 b h hi
  have f:=zf3 b h a
  have ei:All.getD i default=All[i]:=by simp [List.getD_eq_getElem?_getD,hi]
  have ej:All.getD j default=All[j]:=by simp [List.getD_eq_getElem?_getD,a]
  have:=h.dis i j hi a (zjk d.1 f.1 (by rw [ei,ej];exact e))
  omega
 have hsub:(All.map fun e=>plT m e.st)⊆List.range (z8o m):=by
  intro x n
  obtain⟨e,o,rfl⟩:=List.mem_map.1 n
  obtain⟨j,a,rfl⟩:=List.mem_iff_getElem.1 o
  have g:=zf3 b h a
  rw [List.mem_range]
  have ej:All.getD j default=All[j]:=by simp [List.getD_eq_getElem?_getD,a]
  rw [←ej]
  exact zne g.1 g.2
 have:=List.Nodup.length_le_of_subset c hsub
 simpa using this
end walk
end GV
end Go.Proofs.Ytdhccodneoebpaa

namespace Go.Proofs.Ytdhccodneoebpaa
namespace GV
set_option maxRecDepth 100000
theorem zji{X:List Int}{k:Nat}(a:k<X.length):X.reverse.getD k default=X.getD (X.length-1-k) default:=by
 simp only [List.getD_eq_getElem?_getD]
 rw [List.getElem?_reverse a]
theorem zg7{N:Nat}{X:List Int}(g:X.length<N)(l:X.length≤1000000000):slices_Reverse_int N X=some X.reverse:=by
 unfold slices_Reverse_int
 rw [zu (jh (by omega))]
 have key: ∀ (F i j:Nat) (Y:List Int),Y.length=X.length→(i:Int)+j=(X.length:Int)-1→j<i+F∧0<F→(∀ k,k<X.length→Y.getD k default=if k<i∨j<k then X.reverse.getD k default else X.getD k default)→xg N F (i:Int) (j:Int) Y=some X.reverse:=by
  intro F
  induction F with
  |zero=>
   intro i j Y l d m c
   exfalso;omega
  |succ F ih=>
   intro i j Y b d m c
   simp only [xg]
   by_cases h:i<j
   ·rw [il (by omega),zu (qi (by omega)),zu (qi (by omega)),zu (qi (by omega)),zu (qi (by omega)),zu (jh (by omega)),zu (jh (by omega))]
    have e:(j:Int)-1=((j-1:Nat):Int):=by omega
    rw [e]
    refine ih (i+1) (j-1) _ (by simp [mo,b]) (by omega) ⟨by omega,by omega⟩ fun k a=>?_
    rw [mo,mo,uy,uy,u6 (by rw [List.length_set];omega),u6 (by omega)]
    have hi:=c i (by omega)
    have f:=c j (by omega)
    rw [if_neg (by omega)] at hi f
    by_cases e2:k=j
    ·subst e2
     rw [if_pos rfl,if_pos (by omega),hi,zji a,show X.length-1-k=i by omega]
    ·rw [if_neg e2]
     by_cases e3:k=i
     ·subst e3
      rw [if_pos rfl,if_pos (by omega),f,zji a,show X.length-1-k=j by omega]
     ·rw [if_neg e3,c k a]
      by_cases e4:k<i∨j<k
      ·rw [if_pos e4,if_pos (by omega)]
      ·rw [if_neg e4,if_neg (by omega)]
   ·rw [ni (by omega)]
    refine congrArg some (zdh (by simp [b]) fun k a=>?_)
    rw [b] at a
    rw [c k a]
    by_cases e4:k<i∨j<k
    ·rw [if_pos e4]
    ·rw [if_neg e4,zji a,show X.length-1-k=k by omega]
 by_cases h0:X.length=0
 ·obtain rfl:=List.length_eq_zero_iff.1 h0
  obtain⟨F,rfl⟩: ∃ F,N=F+1:=⟨N-1,by simp at g;omega⟩
  simp only [xg]
  rw [ni (by simp)];rfl
 ·have e:(X.length:Int)-1=((X.length-1:Nat):Int):=by omega
  rw [e]
  exact key N 0 (X.length-1) X rfl (by omega) ⟨by omega,by omega⟩ fun k a=>by rw [if_neg (by omega)]
theorem zfn{k:Nat}(h:k≤16):1≤2^k∧2^k≤65536:=⟨Nat.one_le_two_pow,by
 have:=Nat.pow_le_pow_right (n:=2) (by decide) h
 omega⟩
theorem zss{n k:Nat}(h:k≤16)(a:n≤1000):z5d .i64 (n:Int) (k:Int)=((n*2^k:Nat):Int):=by
 have b:=zfn h
 have e:(n:Int)*2^(k:Int).toNat=((n*2^k:Nat):Int):=by
  rw [Int.toNat_natCast,Int.natCast_mul];norm_cast
 have c:n*2^k≤1000*65536:=Nat.mul_le_mul a b.2
 unfold z5d
 rw [e]
 exact znl .i64 (by omega) (by show _≤(9223372036854775807:Int);omega)
theorem zwb{k:Nat}(h:k≤16):z5d .i64 1 (k:Int)=((2^k:Nat):Int):=by
 have:=zss (n:=1) h (by decide)
 rw [Nat.one_mul] at this
 exact this
theorem znc{k:Nat}(h:k≤16):okSh .i64 (k:Int):=⟨by omega,by show (k:Int)≤64;omega⟩
theorem zxt{a b:Nat}(c:a≤65536)(d:b≤65536):okB .i64 (a:Int) (b:Int):=⟨⟨by omega,by show (a:Int)≤9223372036854775807;omega⟩,by omega,by show (b:Int)≤9223372036854775807;omega⟩
theorem zut(a b:Nat):ior (a:Int) (b:Int)=((a|||b:Nat):Int):=by unfold ior;rw [Int.toNat_natCast,Int.toNat_natCast]
/-! ### Numbers in a table-/
def z6j:Nat→List (Int×Int)→List ((Int×Int)×Int)
 |_,[]=>[]
 |k,e::E=>(e,(k:Int))::z6j (k+1) E
theorem zkj: ∀ (E:List (Int×Int)) (k:Nat),(z6j k E).length=E.length
 | [],_=>rfl
 |e::E,k=>by simp [z6j,zkj E]
theorem zi3: ∀ (E:List (Int×Int)) (k:Nat) (e:Int×Int),z6j k (E++[e])=z6j k E++[(e,((k+E.length:Nat):Int))]
 | [],k,e=>by simp [z6j]
 |d::E,k,e=>by
  show (d,(k:Int))::z6j (k+1) (E++[e])=(d,(k:Int))::(z6j (k+1) E++_)
  rw [zi3 E (k+1) e,List.length_cons,show k+1+E.length=k+(E.length+1) by omega]
theorem zky: ∀ (E:List (Int×Int)) (k:Nat) (e:Int×Int) (v:Int),e∉E→zec (z6j k E) e v=z6j k E++[(e,v)]
 | [],k,e,v,_=>rfl
 |d::E,k,e,v,h=>by
  unfold z6j zec
  rw [if_neg (fun a=>h (by rw [show e=d from a];simp)),zky E (k+1) e v (fun a=>h (by simp [a]))];rfl
theorem zlk: ∀ (E:List (Int×Int)) (k:Nat) (e:Int×Int),za8 0 (z6j k E) e=if e∈E then((k+E.idxOf e:Nat):Int) else 0
 | [],k,e=>by simp [z6j,za8]
 |d::E,k,e=>by
  unfold z6j za8
  by_cases h:e=d
  ·subst h
   rw [if_pos rfl,if_pos (by simp),List.idxOf_cons_self];rfl
  ·rw [if_neg h,zlk E (k+1) e]
   by_cases h2:e∈E
   ·rw [if_pos h2,if_pos (by simp [h2]),List.idxOf_cons,show (d==e)=false from beq_eq_false_iff_ne.2 (fun a=>h a.symm),cond_false,show k+1+E.idxOf e=k+(E.idxOf e+1) by omega]
   ·rw [if_neg h2,if_neg (by simp [h,h2])]
def zjt(m:Mach)(s i:Nat):Nat:=if((s:Int),(i:Int))∈qp m then uo m s i else 0
theorem zt8{m:Mach}{s i:Nat}:za8 0 (z6j 0 (qp m)) ((s:Int),(i:Int))=(zjt m s i:Int):=by
 rw [zlk]
 unfold zjt uo
 by_cases h:((s:Int),(i:Int))∈qp m
 ·rw [if_pos h,if_pos h,Nat.zero_add]
 ·rw [if_neg h,if_neg h];rfl
theorem zuy{m:Mach}{s i:Nat}:zjt m s i≤(qp m).length:=by
 unfold zjt uo
 split
 ·exact List.idxOf_le_length
 ·omega
theorem ztx{m:Mach}{s i:Nat}(a:s<m.rows.length)(hi:i<m.inputs.toNat)(b:ed m s i≠ -1):zjt m s i=uo m s i:=by
 unfold zjt;rw [if_pos (ut.2 ⟨s,i,a,hi,b,rfl⟩)]
end GV
end Go.Proofs.Ytdhccodneoebpaa

namespace Go.Proofs.Ytdhccodneoebpaa
namespace GV
set_option maxRecDepth 100000
structure SeenOk (m:Mach) (X:List Bool) (All:List (QE (Nat×Nat))):Prop where
 len:X.length=z8o m
 get: ∀ x:Nat×Nat,x.1<m.rows.length→x.2<2^(qp m).length→X.getD (plT m x) default=zbs All x
section
variable {N : Nat} {m : Mach} {All : List (QE (Nat × Nat))} {X : List Bool}
theorem zoo(a:MOk m):0<z8o m:=by
 have:=a.r1
 unfold z8o
 exact Nat.mul_pos (by omega) (Nat.two_pow_pos _)
theorem ztf(b:MOk m)(a:(qp m).length≤16):z8o m≤4194304:=by
 have c:=b.r2;have d:=zfn a
 have:m.rows.length*2^(qp m).length≤64*65536:=Nat.mul_le_mul c d.2
 unfold z8o;omega
theorem zqd(b:MOk m):SeenOk m ((List.replicate (z8o m) false).set 0 true) [⟨(0,0),0,0,[]⟩]:=by
 have c:=zoo b
 have f:=b.r1
 refine⟨by simp,fun x d g=>?_⟩
 rw [z8x (by simpa using c)]
 by_cases e:plT m x=0
 ·have:x=(0,0):=zjk d (show (0,0).1<m.rows.length by dsimp only;omega) (by rw [e];simp [plT])
  rw [if_pos e,this];rfl
 ·rw [if_neg e]
  have a: ¬((0,0)=x):=fun h=>e (by rw [←h];simp [plT])
  unfold zbs
  rw [List.any_cons,List.any_nil,Bool.or_false,decide_eq_false a]
  simp only [List.getD_eq_getElem?_getD,List.getElem?_replicate]
  split<;>rfl
theorem zqf{x y:Nat×Nat}{p i:Nat}{w:List Int}:zbs (All++[⟨x,p,i,w⟩]) y=(zbs All y||decide (x=y)):=by simp [zbs]
theorem zto(h:SeenOk m X All){x:Nat×Nat}(a:x.1<m.rows.length)(c:x.2<2^(qp m).length){p i:Nat}{w:List Int}:SeenOk m (X.set (plT m x) true) (All++[⟨x,p,i,w⟩]):=by
 refine⟨by rw [List.length_set];exact h.len,fun y b d=>?_⟩
 rw [z8x (by rw [h.len];exact zne a c),zqf,←h.get y b d]
 by_cases e:plT m y=plT m x
 ·have:=zjk b a e
  subst this
  rw [if_pos rfl,decide_eq_true rfl,Bool.or_true]
 ·rw [if_neg e,decide_eq_false (fun h=>e (by rw [h])),Bool.or_false]
theorem zuo{t b:Nat}:((b:Int)*(m.rows.length:Int))+(t:Int)=((plT m (t,b):Nat):Int):=by
 unfold plT;rw [Int.natCast_add,Int.natCast_mul]
/-! ### The document's search-/
theorem zic{α:Type}[Inhabited α](f:QE (Nat×Nat)→α){k:Nat}(a:k<All.length):(All.map f).getD k default=f (All.getD k default):=by
 simp [List.getD_eq_getElem?_getD,a]
theorem zti{round:Bool}{e:QE (Nat×Nat)}(c:1≤2^(qp m).length):(decide ((e.st.2:Int)=((2^(qp m).length:Nat):Int)-1)&&(!round||decide ((e.st.1:Int)=0)))=z1k m round e.st:=by
 unfold z1k
 have a:decide ((e.st.2:Int)=((2^(qp m).length:Nat):Int)-1)=decide (e.st.2=2^(qp m).length-1):=by
  rw [decide_eq_decide];omega
 have b:decide ((e.st.1:Int)=0)=decide (e.st.1=0):=by
  rw [decide_eq_decide];omega
 rw [a,b]
def zw2(m:Mach)(round:Bool):Option (Option Nat×List (QE (Nat×Nat))):=qgo (nxT m) (z1k m round) m.inputs.toNat (z8o m+1) 0 [⟨(0,0),0,0,[]⟩]
theorem zku(d:MOk m){round:Bool}: ∀ (f p:Nat) (All:List (QE (Nat×Nat))),QInv (nxT m) m.inputs.toNat (0,0) p 0 All→p≤All.length→z8o m<p+f→ ∃ r,qgo (nxT m) (z1k m round) m.inputs.toNat f p All=some r
 |0,p,All,h,e,g=>by have:=zju d h;omega
 |f+1,p,All,h,e,g=>by
  unfold qgo
  by_cases hl:p<All.length
  ·rw [if_pos hl]
   split
   ·exact⟨_,rfl⟩
   ·obtain⟨a,b,c⟩:=zas h hl m.inputs.toNat (Nat.le_refl _)
    exact zku d f (p+1) _ (zeg a c) (by omega) (by omega)
  ·rw [if_neg hl];exact⟨_,rfl⟩
theorem zc7(a:MOk m){round:Bool}: ∃ r,zw2 m round=some r:=zku a _ _ _ zbd (Nat.zero_le _) (by omega)
def z2l(m:Mach)(round:Bool):Option (List Int):=
 match zw2 m round with
 |some (some q,Z)=>some (Z.getD q default).wd
 |_=>none
theorem z7i(f:MOk m){round:Bool}{w:List Int}(h:z2l m round=some w):z4m m.inputs.toNat w∧(∃ t,lc (nxT m) (0,0) w=some t∧z1k m round t=true)∧ ∀ v t,z4m m.inputs.toNat v→lc (nxT m) (0,0) v=some t→z1k m round t=true→w.length≤v.length:=by
 obtain⟨r,e⟩:=zc7 (round:=round) f
 unfold z2l at h
 rw [e] at h
 obtain⟨g,Z⟩:=r
 cases g with
 |none=>cases h
 |some q=>
  obtain rfl:=Option.some.inj h
  obtain⟨_,_,a,b,c,d⟩:=zqy e
  exact⟨a,⟨_,b,c⟩,d⟩
theorem zfm(b:MOk m){round:Bool}(h:z2l m round=none): ∀ v t,z4m m.inputs.toNat v→lc (nxT m) (0,0) v=some t→z1k m round t=false:=by
 obtain⟨r,a⟩:=zc7 (round:=round) b
 unfold z2l at h
 rw [a] at h
 obtain⟨c,Z⟩:=r
 cases c with
 |none=>exact zwl a
 |some q=>cases h
end
end GV
end Go.Proofs.Ytdhccodneoebpaa

namespace Go.Proofs.Ytdhccodneoebpaa
namespace GV
set_option maxRecDepth 100000
section
variable {N : Nat} {m : Mach} {All : List (QE (Nat × Nat))} {X : List Bool}
theorem zai{s i:Nat}(h:ed m s i≠ -1):xn m s (i+1)=xn m s i++[((s:Int),(i:Int))]:=by
 have:xn m s (i+1)=xn m s i++if decide (ed m s i≠ -1)=true then [((s:Int),(i:Int))] else []:=zdw _ _ _
 rw [this,if_pos (by simpa using h)]
theorem z9w{s i:Nat}(h:ed m s i= -1):xn m s (i+1)=xn m s i:=by
 have:xn m s (i+1)=xn m s i++if decide (ed m s i≠ -1)=true then [((s:Int),(i:Int))] else []:=zdw _ _ _
 rw [this,if_neg (by simp [h]),List.append_nil]
theorem zav{s:Nat}:xn m s 0=[]:=rfl
theorem zdk(a:MOk m){k:Nat}(c:k≤m.rows.length):(wh m k).length≤1024:=by
 have d:=z9a (m:=m) k
 have e:=a.r2;have b:=a.inp
 have:k*m.inputs.toNat≤64*16:=Nat.mul_le_mul (by omega) b.2.1
 omega
theorem zh9(b:MOk m)(e:200≤N):z5u N m=some ((qp m).length:Int):=by
 have n:=b.r2;have hinp:=b.inp
 unfold z5u
 refine Eq.trans (qg (x:=((qp m).length:Int)) ?_) rfl
 refine lh (fun F s c=>fu N m F (s:Int) c) m.rows.length (fun s c=>c=((wh m s).length:Int)) _ (fun F s c f d=> .inr ?_) (fun F c d=>?_) N 0 0 (Nat.zero_le _) (by omega) rfl
 ·subst d
  have o:=zdk b (k:=s) (by omega)
  simp only [fu]
  rw [il (by omega),show ym N m (s:Int)=some (m,(s:Int)) from rfl,z7j]
  obtain⟨z,g,h⟩:=z5c (s:=s) b e f (σ:=Int) (fun j a=>
   gd (in64 (a+1))<|
   some (true,a+1)) (fun i z=>z=((wh m s).length:Int)+((xn m s i).length:Int)) (s0:=((wh m s).length:Int)) (by rw [zav];simp) (by
    rintro i _ hi p rfl
    have q:=z5k (m:=m) (s:=s) (k:=i)
    refine⟨_,zu (jh (by omega)),?_⟩
    rw [zai (by omega),List.length_append,List.length_singleton];omega) (by
    rintro i _ hi l rfl
    rw [z9w l])
  subst h
  refine⟨((wh m (s+1)).length:Int),rfl,?_⟩
  rw [qg g,zu (jh (by omega))]
  have:((wh m s).length:Int)+((xn m s m.inputs.toNat).length:Int)=((wh m (s+1)).length:Int):=by
   rw [show wh m (s+1)=wh m s++xn m s m.inputs.toNat from rfl,List.length_append];omega
  rw [this];rfl
 ·subst d
  simp only [fu]
  rw [ni (by omega)];rfl
theorem zxe(d:MOk m)(j:200≤N):fe N m N 0 []=some (z6j 0 (qp m)):=by
 have r:=d.r2;have hinp:=d.inp
 refine lh (fun F s M=>fe N m F (s:Int) M) m.rows.length (fun s M=>M=z6j 0 (wh m s)) _ (fun F s M k f=> .inr ?_) (fun F M f=>?_) N 0 [] (Nat.zero_le _) (by omega) rfl
 ·subst f
  simp only [fe]
  rw [il (by omega),show ym N m (s:Int)=some (m,(s:Int)) from rfl,z7j]
  obtain⟨z,l,n⟩:=z5c (s:=s) d j k (σ:=List ((Int×Int)×Int)) (fun g c=>
   some (true,(zec c (((s:Int),g.fA):(Int×Int)) (↑c.length:Int)))) (fun i z=>z=z6j 0 (wh m s++xn m s i)) (s0:=z6j 0 (wh m s)) (by rw [zav,List.append_nil]) (by
    rintro i _ hi t rfl
    refine⟨_,rfl,?_⟩
    rw [zai (by omega),←List.append_assoc,zi3,Nat.zero_add,zkj,zky]
    intro hmem
    rcases List.mem_append.1 hmem with h|h
    ·obtain⟨a,b,u,_,_,e⟩:=(z5j s).1 h
     have:=(Prod.mk.inj e).1;omega
    ·obtain⟨b,o,e⟩:=List.mem_map.1 h
     have:=List.mem_range.1 (List.mem_filter.1 o).1
     have p:=(Prod.mk.inj e).2
     dsimp only at p
     omega) (by
    rintro i _ hi q rfl
    rw [z9w q])
  subst n
  refine⟨z6j 0 (wh m (s+1)),rfl,?_⟩
  rw [qg l,zu (jh (by omega))];rfl
 ·subst f
  simp only [fe]
  rw [ni (by omega)];rfl
def z8a(m:Mach)(s:Nat):List Int:=(List.range m.inputs.toNat).map fun i=>((2^zjt m s i:Nat):Int)
def z3h(m:Mach):List (List Int):=(List.range m.rows.length).map (z8a m)
theorem bits_shp:Shp m (z3h m):=by
 refine⟨by simp [z3h],fun s a=>?_⟩
 unfold z3h
 rw [yf (z8a m) a];simp [z8a]
theorem zu8{s i:Nat}(a:s<m.rows.length)(hi:i<m.inputs.toNat):lf (z3h m) s i=((2^zjt m s i:Nat):Int):=by
 unfold lf z3h
 rw [yf (z8a m) a]
 unfold z8a
 rw [yf _ hi]
theorem zpi(f:MOk m)(n:200≤N)(g:(qp m).length≤16):rq N m (z6j 0 (qp m)) N 0 (List.replicate m.rows.length [])=some (z3h m):=by
 have o:=f.r2;have hinp:=f.inp
 refine lh (fun F k X=>rq N m (z6j 0 (qp m)) F (k:Int) X) m.rows.length (fun k X=>X=(List.range k).map (z8a m)++List.replicate (m.rows.length-k) []) _ (fun F k X b c=> .inr ?_) (fun F X c=>?_) N 0 _ (Nat.zero_le _) (by omega) (by simp)
 ·subst c
  refine⟨_,rfl,?_⟩
  have hlen:((List.range k).map (z8a m)++List.replicate (m.rows.length-k) ([]:List Int)).length=m.rows.length:=by simp;omega
  simp only [rq]
  have a:mk m.inputs (0:Int)=List.replicate m.inputs.toNat 0:=rfl
  have h:ry N m (z6j 0 (qp m)) (k:Int) ((List.range k).map (z8a m)++List.replicate (m.rows.length-k) []) N 0 (((List.range k).map (z8a m)++List.replicate (m.rows.length-k) []).set k (List.replicate m.inputs.toNat 0))=some (((List.range k).map (z8a m)++List.replicate (m.rows.length-k) []).set k (z8a m k)):=by
   have d: ∀ r:List Int,(((List.range k).map (z8a m)++List.replicate (m.rows.length-k) []).set k r).getD k default=r:=fun r=>by
    rw [u6 (by rw [hlen];exact b),if_pos rfl]
   refine lh (fun F i Y=>ry N m (z6j 0 (qp m)) (k:Int) ((List.range k).map (z8a m)++List.replicate (m.rows.length-k) []) F (i:Int) Y) m.inputs.toNat (fun i Y=>Y=((List.range k).map (z8a m)++List.replicate (m.rows.length-k) []).set k (((List.range i).map fun j=>((2^zjt m k j:Nat):Int))++List.replicate (m.inputs.toNat-i) 0)) _ (fun F i Y hi e=> .inr ?_) (fun F Y e=>?_) N 0 _ (Nat.zero_le _) (by omega) (by simp)
   ·subst e
    refine⟨_,rfl,?_⟩
    have l:=zuy (m:=m) (s:=k) (i:=i)
    simp only [ry]
    rw [a,mo,il (by rw [uy,d,List.length_replicate];omega),zu (qi (by rw [List.length_set,hlen];exact b)),zt8,zu (znc (by omega)),zwb (by omega),uy,d,zu (qi (by simp;omega)),zu (jh (by omega)),mo,mo,z7t (by simp) hi,List.set_set,List.range_succ,List.map_append];rfl
   ·subst e
    simp only [ry]
    rw [a,mo,ni (by rw [uy,d,List.length_replicate];omega),Nat.sub_self,List.replicate_zero,List.append_nil];rfl
  rw [il (by rw [z07,List.length_replicate];omega),zu ⟨by omega,by omega,by omega⟩,zu (qi (by rw [hlen];exact b)),mo,a,zu (qi (by rw [List.length_set,hlen];exact b)),qg h,zu (jh (by omega)),z7t (by simp) b,List.range_succ,List.map_append];rfl
 ·subst c
  simp only [rq]
  rw [ni (by rw [z07,List.length_replicate];omega)];simp [z3h]
/-! ### The search-/
def z7v(e:QE (Nat×Nat)):Int×Int:=((e.st.1:Int),(e.st.2:Int))
def zfd(e:QE (Nat×Nat)):Sd:=⟨(e.par:Int),(e.inp:Int)⟩
theorem zou(g:MOk m){p k:Nat}(h:QInv (nxT m) m.inputs.toNat (0,0) p k All)(i:All.length≤4194304): ∀ (F j:Nat) (acc:List Int),j<All.length→j<F→j+acc.length≤4194304→z18 N (All.map zfd) F acc (j:Int)=some (acc++(All.getD j default).wd.reverse)
 |0,j,acc,_,h,_=>by omega
 |F+1,j,acc,f,o,hacc=>by
  have e0:ix (All.map zfd) (j:Int)=zfd (All.getD j default):=zic zfd f
  simp only [z18]
  by_cases h0:j=0
  ·subst h0
   have:(All.getD 0 default).wd=[]:=by rw [h.root]
   rw [ni (by omega),this];simp
  ·obtain⟨a,b,c,d,e⟩:=h.par j (by omega) f
   have l:(zfd (All.getD j default)).fG=((All.getD j default).par:Int):=rfl
   have n:(zfd (All.getD j default)).fA=((All.getD j default).inp:Int):=rfl
   rw [il (by omega),zu (qi (by rw [List.length_map];exact f)),e0,zu (zes (by omega)),zu (qi (by rw [List.length_map];exact f)),l,n,zou g h i F (All.getD j default).par (acc++[((All.getD j default).inp:Int)]) (by omega) (by omega) (by rw [List.length_append,List.length_singleton];omega),d]
   simp
theorem zog(n:MOk m){round:Bool}(S:z8o m+2000≤N)(l:(qp m).length≤16): ∀ (f F p:Nat) (All:List (QE (Nat×Nat))) (X:List Bool) (r:Option Nat×List (QE (Nat×Nat))),QInv (nxT m) m.inputs.toNat (0,0) p 0 All→p≤All.length→SeenOk m X All→f≤F→qgo (nxT m) (z1k m round) m.inputs.toNat f p All=some r→
 z16 N m round ((qp m).length:Int) (z3h m) F (p:Int) X (All.map z7v) (All.map zfd)=some (match r.1 with|some q=>if 256<(r.2.getD q default).wd.length then Ex.rt ([],3) else Ex.rt ((r.2.getD q default).wd,0)|none=>Ex.go ())
 |0,F,p,All,X,r,h,T,O,U,e=>by cases e
 |f+1,F,p,All,X,r,h,T,O,U,e=>by
  obtain⟨F,rfl⟩: ∃ F',F=F'+1:=⟨F-1,by omega⟩
  have hc:=ztf n l
  have hlen:=zju n h
  have V:=zfn l
  have hinp:=n.inp
  unfold qgo at e
  simp only [z16]
  by_cases hl:p<All.length
  ·rw [if_pos hl] at e
   have e0:ix (All.map z7v) (p:Int)=z7v (All.getD p default):=zic z7v hl
   rw [il (by rw [List.length_map];omega),zu (qi (by rw [List.length_map];exact hl)),zu (znc l),e0,zwb l,zu (jh (by omega))]
   have P:(decide ((z7v (All.getD p default)).2=((2^(qp m).length:Nat):Int)-1)&&(!round||decide ((z7v (All.getD p default)).1=0)))=z1k m round (All.getD p default).st:=zti V.1
   by_cases hgl:z1k m round (All.getD p default).st=true
   ·rw [if_pos hgl] at e
    obtain rfl:=Option.some.inj e
    dsimp only
    rw [ct (P.trans hgl),qg (zou n h (by omega) N p [] hl (by omega) (by simp;omega)),List.nil_append]
    by_cases hw:256<(All.getD p default).wd.length
    ·rw [il (by rw [List.length_reverse];omega),if_pos hw]
    ·rw [ni (by rw [List.length_reverse];omega),if_neg hw,qg (zg7 (by rw [List.length_reverse];omega) (by rw [List.length_reverse];omega)),qg zuz,List.reverse_reverse]
   ·rw [if_neg hgl] at e
    obtain⟨a,b,c⟩:=zas h hl m.inputs.toNat (Nat.le_refl _)
    have o:=zf3 n h hl
    have I:(z7v (All.getD p default)).1=((All.getD p default).st.1:Int):=rfl
    have J:(z7v (All.getD p default)).2=((All.getD p default).st.2:Int):=rfl
    have K:=P.trans (Bool.eq_false_iff.2 hgl)
    rw [cf K,I,J,show ym N m ((All.getD p default).st.1:Int)=some (m,((All.getD p default).st.1:Int)) from rfl,z7j]
    generalize hs:(All.getD p default).st.1=s at*
    generalize hbb:(All.getD p default).st.2=b at*
    obtain⟨z,W,A,B,C⟩:=z5c (s:=s) n (show 200≤N by omega) o.1 (σ:=List Bool×List (Int×Int)×List Sd) (fun d g=>
     gd (okI (z3h m) (s:Int))<|
     gd (okI (ix (z3h m) (s:Int)) d.fA)<|
     gd (okB .i64 (b:Int) (ix (ix (z3h m) (s:Int)) d.fA))<|
     gd (in64 ((ior (b:Int) (ix (ix (z3h m) (s:Int)) d.fA))*(↑m.rows.length:Int)))<|
     gd (in64 (((ior (b:Int) (ix (ix (z3h m) (s:Int)) d.fA))*(↑m.rows.length:Int))+d.fB))<|
     gd (okI g.1 (((ior (b:Int) (ix (ix (z3h m) (s:Int)) d.fA))*(↑m.rows.length:Int))+d.fB))<|
     bif !(ix g.1 (((ior (b:Int) (ix (ix (z3h m) (s:Int)) d.fA))*(↑m.rows.length:Int))+d.fB)) then(
     gd (okI g.1 (((ior (b:Int) (ix (ix (z3h m) (s:Int)) d.fA))*(↑m.rows.length:Int))+d.fB))<|
     gd (fits 16 g.2.1 ([((d.fB,ior (b:Int) (ix (ix (z3h m) (s:Int)) d.fA)):(Int×Int))]:List (Int×Int)))<|
     gd (fits 16 g.2.2 ([(⟨(p:Int),d.fA⟩:Sd)]:List Sd))<|
     some (true,((up g.1 (((ior (b:Int) (ix (ix (z3h m) (s:Int)) d.fA))*(↑m.rows.length:Int))+d.fB) true),(g.2.1++([((d.fB,ior (b:Int) (ix (ix (z3h m) (s:Int)) d.fA)):(Int×Int))]:List (Int×Int))),(g.2.2++([(⟨(p:Int),d.fA⟩:Sd)]:List Sd))))) else(
     some (true,(g.1,g.2.1,g.2.2)))) (fun i z=>SeenOk m z.1 (z6f (nxT m) (All.getD p default) p All i)∧z.2.1=(z6f (nxT m) (All.getD p default) p All i).map z7v∧z.2.2=(z6f (nxT m) (All.getD p default) p All i).map zfd) (s0:=(X,All.map z7v,All.map zfd)) ⟨O,rfl,rfl⟩ (by
     rintro i ⟨D,Q,R⟩ hi h0 ⟨j,t,u⟩
     dsimp only at j t u
     subst t
     subst u
     have y:ed m s i≠ -1:=by omega
     obtain⟨Y,Z,aa⟩:=zas h hl i (by omega)
     have hlen:=zju n Y
     have hrow:z6f (nxT m) (All.getD p default) p All (i+1)=z8z (nxT m) (All.getD p default) p (z6f (nxT m) (All.getD p default) p All i) i:=rfl
     have E:ed m s i=((ed m s i).toNat:Int):=by omega
     have v:(ed m s i).toNat<m.rows.length:=by rcases z9l n o.1 hi with h|h<;>omega
     have w:b|||2^uo m s i<2^(qp m).length:=Nat.or_lt_two_pow o.2 (Nat.pow_lt_pow_right (by decide) (z8e o.1 hi y))
     have hnum:=(zfn (k:=uo m s i) (by have:=z8e o.1 hi y;omega)).2
     have G:=zne (x:=((ed m s i).toNat,b|||2^uo m s i)) v w
     have H:nxT m (All.getD p default).st i=some ((ed m s i).toNat,b|||2^uo m s i):=by
      unfold nxT;rw [hs,hbb,if_neg y]
     have hmul:(b|||2^uo m s i)*m.rows.length≤65536*64:=Nat.mul_le_mul (by omega) n.r2
     have L:(((b|||2^uo m s i:Nat):Int)*(m.rows.length:Int))=(((b|||2^uo m s i)*m.rows.length:Nat):Int):=(Int.natCast_mul _ _).symm
     have M:(((b|||2^uo m s i:Nat):Int)*(m.rows.length:Int))+ed m s i=((plT m ((ed m s i).toNat,b|||2^uo m s i):Nat):Int):=by
      rw [E,zuo];rfl
     have ebit:ix (ix (z3h m) (s:Int)) (i:Int)=((2^uo m s i:Nat):Int):=by
      have:=zu8 (m:=m) o.1 hi
      rw [ztx o.1 hi y] at this
      exact this
     dsimp only
     rw [zu (qi (by rw [bits_shp.len];exact o.1)),zu (show okI (ix (z3h m) (s:Int)) (i:Int) from qi (by rw [uy,bits_shp.row s o.1];exact hi)),ebit,zu (zxt (by omega) (by omega)),zut,zu (jh (by rw [L];omega)),M,zu (jh (by omega)),zu (qi (by rw [j.len];exact G)),uy,j.get _ v w]
     cases hsn:zbs (z6f (nxT m) (All.getD p default) p All i) ((ed m s i).toNat,b|||2^uo m s i)
     ·have hpush:z8z (nxT m) (All.getD p default) p (z6f (nxT m) (All.getD p default) p All i) i=z6f (nxT m) (All.getD p default) p All i++[⟨((ed m s i).toNat,b|||2^uo m s i),p,i,(All.getD p default).wd++[(i:Int)]⟩]:=by
       unfold z8z;rw [H];dsimp only;rw [hsn,if_neg (by simp)]
      refine⟨(D.set (plT m ((ed m s i).toNat,b|||2^uo m s i)) true,(z6f (nxT m) (All.getD p default) p All (i+1)).map z7v,(z6f (nxT m) (All.getD p default) p All (i+1)).map zfd),?_,by dsimp only;rw [hrow,hpush];exact zto j v w,rfl,rfl⟩
      rw [ct (b:= !false) rfl,zu (qi (by rw [j.len];exact G)),zu (zes (by rw [List.length_map];omega)),zu (zes (by rw [List.length_map];omega)),hrow,hpush,List.map_append,List.map_append,mo]
      have e1:z7v (⟨((ed m s i).toNat,b|||2^uo m s i),p,i,(All.getD p default).wd++[(i:Int)]⟩:QE (Nat×Nat))=(ed m s i,((b|||2^uo m s i:Nat):Int)):=by
       unfold z7v;rw [←E]
      rw [List.map_cons,List.map_nil,e1];rfl
     ·have hpush:z8z (nxT m) (All.getD p default) p (z6f (nxT m) (All.getD p default) p All i) i=z6f (nxT m) (All.getD p default) p All i:=by
       unfold z8z;rw [H];dsimp only;rw [hsn,if_pos rfl]
      refine⟨(D,(z6f (nxT m) (All.getD p default) p All (i+1)).map z7v,(z6f (nxT m) (All.getD p default) p All (i+1)).map zfd),?_,by dsimp only;rw [hrow,hpush];exact j,rfl,rfl⟩
      rw [cf (b:= !true) rfl,hrow,hpush]) (by
     rintro i ⟨D,Q,R⟩ hi y ⟨j,t,u⟩
     have:z6f (nxT m) (All.getD p default) p All (i+1)=z6f (nxT m) (All.getD p default) p All i:=by
      show z8z (nxT m) (All.getD p default) p (z6f (nxT m) (All.getD p default) p All i) i=_
      unfold z8z nxT;rw [hs,if_pos y]
     rw [this];exact⟨j,t,u⟩)
    obtain⟨D,Q,R⟩:=z
    dsimp only at A B C
    subst B
    subst C
    rw [qg W,zu (jh (by omega))]
    exact zog n S l f F (p+1) _ D r (zeg a c) (by omega) A (by omega) e
  ·rw [if_neg hl] at e
   obtain rfl:=Option.some.inj e
   rw [ni (by rw [List.length_map];omega)]
theorem zrv(c:MOk m){round:Bool}(g:z8o m+2000≤N)(a:(qp m).length≤16)(h:au N m=some 0)(i:z0v N m round=some true):
 gp N m round=some (match z2l m round with|some w=>if 256<w.length then([],3) else(w,0)|none=>([],7)):=by
 obtain⟨r,f⟩:=zc7 (round:=round) c
 have p:=zfn a
 have j:=ztf c a
 have d:=zoo c
 have l:=c.r2
 unfold gp
 rw [qg h,ni (fun e=>e rfl),qg i,cf (b:= !true) rfl,qg (zh9 c (by omega)),ni (by omega),qg (zxe c (by omega)),zu ⟨by omega,by omega,by omega⟩,z07,qg (zpi c (by omega) a),zu (znc a),zss a (by omega)]
 have ecap:m.rows.length*2^(qp m).length=z8o m:=rfl
 rw [ecap,zu ⟨by omega,by omega,by omega⟩,z07,zu (show okI (List.replicate (z8o m) false) 0 from qi (k:=0) (by simpa using d))]
 have n:=zog (N:=N) c g a (z8o m+1) N 0 [⟨(0,0),0,0,[]⟩] _ r zbd (Nat.zero_le _) (zqd c) (by omega) f
 refine Eq.trans (qg n) ?_
 unfold z2l
 rw [f]
 obtain⟨o,s⟩:=r
 cases o with
 |none=>rfl
 |some q=>
  dsimp only
  split<;>rfl
end
end GV
end Go.Proofs.Ytdhccodneoebpaa

namespace Go.Proofs.Ytdhccodneoebpaa
namespace GV
set_option maxRecDepth 100000
section
variable {N : Nat} {m : Mach}
structure VE (m:Mach) (s i:Nat):Prop where
 hs:s<m.rows.length
 hi:i<m.inputs.toNat
 he:ed m s i≠ -1
theorem VE.to(a:MOk m){s i:Nat}(h:VE m s i):(ed m s i).toNat<m.rows.length∧ed m s i=((ed m s i).toNat:Int):=by
 have:=h.he
 rcases z9l a h.hs h.hi with h|h<;>omega
theorem VE.reach(a:MOk m){s i:Nat}(h:VE m s i):Reach m s (ed m s i).toNat:= .step .refl h.hs (by rw [a.rowlen h.hs];exact h.hi) (by have:=(h.to a).2;unfold ed at this;omega)
structure Cross (m:Mach) (r s i:Nat):Prop where
 v:VE m s i
 here:fst38 m s=r
 out:fst38 m (ed m s i).toNat≠r
noncomputable def crossB(m:Mach)(r:Nat)(e:Int×Int):Bool:=decide (fst38 m e.1.toNat=r)&&decide (fst38 m (ed m e.1.toNat e.2.toNat).toNat≠r)
theorem z0j{r s i:Nat}(h:VE m s i):crossB m r ((s:Int),(i:Int))=true↔Cross m r s i:=by
 unfold crossB
 rw [Bool.and_eq_true,decide_eq_true_iff,decide_eq_true_iff]
 exact⟨fun⟨a,b⟩=>⟨h,a,b⟩,fun h=>⟨h.here,h.out⟩⟩
noncomputable def outN(m:Mach)(r:Nat):Nat:=(qp m).countP (crossB m r)
def zi5(round:Bool):Nat:=if round=true then 0 else 1
def Ex1(m:Mach)(round:Bool):Prop:= ∀ r,r<m.rows.length→outN m r≤zi5 round
noncomputable def ex1B(m:Mach)(round:Bool):Bool:= @decide (Ex1 m round) (Classical.propDecidable _)
theorem zho{round:Bool}(h:Ex1 m round):ex1B m round=true:= @decide_eq_true _ (Classical.propDecidable _) h
theorem zvz{round:Bool}(h: ¬Ex1 m round):ex1B m round=false:= @decide_eq_false _ (Classical.propDecidable _) h
theorem zwj{X:List Int}(d:0<X.length)(l:X.length<N)(m:X.length≤1000000): ∃ y,slices_Max_int N X=some y∧ ∀ M:Int,y≤M↔ ∀ k,k<X.length→X.getD k default≤M:=by
 unfold slices_Max_int
 rw [ni (by omega),zu (show okI X 0 from qi (k:=0) d)]
 obtain⟨y,f,g⟩: ∃ y,bv N X N (ix X 0) 1=some y∧ ∀ M:Int,y≤M↔ ∀ k,k<X.length→X.getD k default≤M:=by
  refine z2p (fun F k y=>bv N X F y (k:Int)) X.length (fun k y=> ∀ M:Int,y≤M↔ ∀ j,j<k→X.getD j default≤M) _ (fun F k y i hi=> .inr ?_) (fun F y hi=>?_) N 1 (ix X 0) (by omega) (by omega) (fun M=>?_)
  ·refine⟨max y (X.getD k default),fun M=>?_,?_⟩
   ·rw [Int.max_le,hi M]
    constructor
    ·rintro⟨a,b⟩ j c
     by_cases e:j=k
     ·subst e;exact b
     ·exact a j (by omega)
    ·intro h;exact⟨fun j c=>h j (by omega),h k (by omega)⟩
   ·simp only [bv]
    rw [il (by omega),zu (qi i),zu (jh (by omega))];rfl
  ·simp only [bv]
   rw [ni (by omega)]
   exact⟨y,rfl,hi⟩
  ·constructor
   ·intro h j c
    obtain rfl:j=0:=by omega
    exact h
   ·intro h;exact h 0 (by omega)
 exact⟨y,by rw [qg f],g⟩
theorem z8n{round:Bool}(g:MOk m)(M:2000≤N):z0v N m round=some (ex1B m round):=by
 have d:=g.r2;have D:=g.r1;have hinp:=g.inp
 unfold z0v
 rw [qg (ztv g (by omega)),zu ⟨by omega,by omega,by omega⟩,z07]
 obtain⟨O,E,A,t⟩: ∃ O,ma N m (fstL m) N 0 (List.replicate m.rows.length 0)=some O∧O.length=m.rows.length∧ ∀ r,r<m.rows.length→O.getD r default=(outN m r:Int):=by
  refine z2p (fun F s O=>ma N m (fstL m) F (s:Int) O) m.rows.length (fun s O=>O.length=m.rows.length∧ ∀ r,r<m.rows.length→O.getD r default=((wh m s).countP (crossB m r):Int)) _ (fun F s O j hi=> .inr ?_) (fun F O hi=>?_) N 0 _ (Nat.zero_le _) (by omega) ⟨by simp,fun r d=>by simp [wh,List.getD_eq_getElem?_getD,d]⟩
  ·obtain⟨A,t⟩:=hi
   simp only [ma]
   rw [il (by omega),show ym N m (s:Int)=some (m,(s:Int)) from rfl,z7j]
   have u:ix (fstL m) (s:Int)=(fst38 m s:Int):=zlo j
   have f:=zcb j
   obtain⟨z,G,a,b⟩:=z5c (s:=s) g (show 200≤N by omega) j (σ:=List Int) (fun n c=>
    gd (okI (fstL m) n.fB)<|
    gd (okI (fstL m) (s:Int))<|
    bif decide ((ix (fstL m) n.fB)≠(ix (fstL m) (s:Int))) then(
    gd (okI (fstL m) (s:Int))<|
    gd (okI c (ix (fstL m) (s:Int)))<|
    gd (in64 ((ix c (ix (fstL m) (s:Int)))+1))<|
    gd (okI c (ix (fstL m) (s:Int)))<|
    some (true,(up c (ix (fstL m) (s:Int)) ((ix c (ix (fstL m) (s:Int)))+1)))) else(
    some (true,c))) (fun i z=>z.length=m.rows.length∧ ∀ r,r<m.rows.length→z.getD r default=((wh m s++xn m s i).countP (crossB m r):Int)) (s0:=O) ⟨A,fun r d=>by rw [zav,List.append_nil];exact t r d⟩ (by
     rintro i z hi P ⟨a,b⟩
     have o:VE m s i:=⟨j,hi,by omega⟩
     obtain⟨H,I⟩:=o.to g
     have v:ix (fstL m) (ed m s i)=(fst38 m (ed m s i).toNat:Int):=by
      rw [ze2];exact zlo H
     have hcnt: ∀ r,(wh m s++xn m s (i+1)).countP (crossB m r)=(wh m s++xn m s i).countP (crossB m r)+if crossB m r ((s:Int),(i:Int))=true then 1 else 0:=fun r=>by
      rw [zai (by omega),←List.append_assoc,List.countP_append,List.countP_singleton]
     have w: ∀ r,(wh m s++xn m s i).countP (crossB m r)≤1040:=fun r=>by
      have J:=List.countP_le_length (p:=crossB m r) (l:=wh m s++xn m s i)
      rw [List.length_append] at J
      have Q:=zdk g (k:=s) (by omega)
      have R:=z5k (m:=m) (s:=s) (k:=i)
      omega
     dsimp only
     rw [zu (show okI (fstL m) (ed m s i) from⟨by omega,by rw [zgd];omega⟩),zu (qi (by rw [zgd];exact j)),u,v]
     by_cases hx:fst38 m (ed m s i).toNat=fst38 m s
     ·refine⟨z,ni (by omega),a,fun r d=>?_⟩
      rw [b r d,hcnt r,if_neg (fun h=>by
       have:=(z0j o).1 h
       exact this.out (hx.trans this.here))];rfl
     ·have B:=b _ f
      refine⟨z.set (fst38 m s) (z.getD (fst38 m s) default+1),?_,by simp [a],fun r d=>?_⟩
      ·rw [il (by omega),zu (qi (by rw [zgd];exact j)),zu (qi (by rw [a];exact f)),uy,zu (jh (by rw [B];have:=w (fst38 m s);omega)),zu (qi (by rw [a];exact f))];rfl
      ·rw [u6 (by rw [a];exact f),hcnt r]
       by_cases e:r=fst38 m s
       ·subst e
        rw [if_pos rfl,B,if_pos ((z0j o).2 ⟨o,rfl,hx⟩)];rfl
       ·rw [if_neg e,b r d,if_neg (fun h=>e ((z0j o).1 h).here.symm)];rfl) (by
     rintro i z hi K ⟨a,b⟩
     refine⟨a,fun r d=>?_⟩
     rw [z9w K];exact b r d)
   exact⟨z,⟨a,b⟩,by rw [qg G,zu (jh (by omega))];rfl⟩
  ·simp only [ma]
   rw [ni (by omega)]
   exact⟨O,rfl,hi⟩
 obtain⟨y,L,q⟩:=zwj (N:=N) (X:=O) (by omega) (by omega) (by omega)
 rw [qg E]
 refine Eq.trans (qg (x:=(zi5 round:Int)) (by cases round<;>rfl)) ?_
 rw [qg L]
 congr 1
 by_cases h:Ex1 m round
 ·rw [zho h,decide_eq_true_iff,q]
  intro k C
  rw [t k (by omega)]
  have:=h k (by omega);omega
 ·rw [zvz h,decide_eq_false_iff_not,q]
  intro C
  refine h fun r d=>?_
  have:=C r (by omega)
  rw [t r d] at this;omega
/-! ### Ways-/
theorem znn(d:MOk m): ∀ (w:List Int) (s b:Nat),s<m.rows.length→z4m m.inputs.toNat w→(lc (nxT m) (s,b) w=none∧z9r m (s:Int) w= -1)∨ ∃ t b',lc (nxT m) (s,b) w=some (t,b')∧z9r m (s:Int) w=(t:Int)∧t<m.rows.length
 | [],s,b,a,_=> .inr ⟨s,b,rfl,rfl,a⟩
 |i::w,s,b,a,c=>by
  obtain⟨j,rfl⟩: ∃ j:Nat,i=(j:Int):=⟨i.toNat,by have:=c i (by simp);omega⟩
  have f:j<m.inputs.toNat:=by have:=c (j:Int) (by simp);omega
  have g:z9r m (s:Int) ((j:Int)::w)=z9r m (ed m s j) w:=by
   show z9r m (z4j m (s:Int) (j:Int)).to w=_
   rw [zd4]
  have h:lc (nxT m) (s,b) ((j:Int)::w)=(nxT m (s,b) j).bind fun t'=>lc (nxT m) t' w:=rfl
  rw [g,h]
  unfold nxT
  dsimp only
  by_cases e:ed m s j= -1
  ·left;rw [if_pos e,e];exact⟨rfl,zg1 m w⟩
  ·rw [if_neg e]
   have k:VE m s j:=⟨a,f,e⟩
   obtain⟨l,n⟩:=k.to d
   rw [n]
   exact znn d w _ _ l (fun x o=>c x (by simp [o]))
theorem zbj(a:MOk m): ∀ (w:List Int) (s b:Nat) {t b':Nat},s<m.rows.length→z4m m.inputs.toNat w→lc (nxT m) (s,b) w=some (t,b')→Reach m s t
 | [],s,b,t,b',d,_,h=>by
  obtain rfl:=(Prod.mk.inj (Option.some.inj h)).1
  exact .refl
 |i::w,s,b,t,b',d,c,h=>by
  obtain⟨j,rfl⟩: ∃ j:Nat,i=(j:Int):=⟨i.toNat,by have:=c i (by simp);omega⟩
  have g:j<m.inputs.toNat:=by have:=c (j:Int) (by simp);omega
  have k:lc (nxT m) (s,b) ((j:Int)::w)=(nxT m (s,b) j).bind fun t'=>lc (nxT m) t' w:=rfl
  rw [k] at h
  unfold nxT at h
  dsimp only at h
  by_cases e:ed m s j= -1
  ·rw [if_pos e] at h;cases h
  ·rw [if_neg e] at h
   have f:VE m s j:=⟨d,g,e⟩
   exact(f.reach a).trans (zbj a w _ _ (f.to a).1 (fun x l=>c x (by simp [l])) h)
theorem zpv(c:MOk m){s:Nat}{P:List BE}(a:Rch m s P){t:Nat}(h:Reach m s t): ∃ j,j<P.length∧(P.getD j default).st=t:=by
 induction h with
 |refl=>exact⟨0,a.pos,by rw [a.root]⟩
 |step i d b k ih=>
  obtain⟨q,f,rfl⟩:=ih
  rw [c.rowlen d] at b
  obtain⟨j,g,e,_⟩:=a.cls q _ f b (by show ed m _ _≠ -1;unfold ed;omega)
  refine⟨j,g,?_⟩
  have:((P.getD j default).st:Int)=ed m (P.getD q default).st _:=e
  unfold ed at this
  omega
theorem zit(a:MOk m){s t:Nat}(e:s<m.rows.length)(h:Reach m s t)(b:Nat): ∃ p b',z4m m.inputs.toNat p∧p.length+1≤m.rows.length∧lc (nxT m) (s,b) p=some (t,b'):=by
 have c:=zx1 a e
 obtain⟨j,f,rfl⟩:=zpv a c h
 obtain⟨k,n⟩:=c.wok j f
 have g:=(zfy a).2 k
 have i:=c.aft j f
 rcases znn a _ s b e g with⟨_,d⟩|⟨t',b',d,l,_⟩
 ·rw [i] at d;omega
 ·rw [i] at l
  obtain rfl:(((rch m s).getD j default).st)=t':=by omega
  exact⟨_,b',g,by have:=c.le;omega,d⟩
theorem zm0(e:MOk m){w:List Int}{s b t b':Nat}(f:s<m.rows.length)(g:z4m m.inputs.toNat w)(h:lc (nxT m) (s,b) w=some (t,b')):t<m.rows.length∧(b<2^(qp m).length→b'<2^(qp m).length)∧ ∀ x j,VE m x j→b.testBit (uo m x j)=true→b'.testBit (uo m x j)=true:=by
 rcases zk3 e w s b (z6g m) f zba g with⟨a,_⟩|⟨t',k,c',a,_,c⟩
 ·rw [a] at h;cases h
 ·rw [a] at h
  obtain⟨rfl,rfl⟩:=Prod.mk.inj (Option.some.inj h)
  exact⟨c.lt,c.bnd,fun x j d i=>by rw [c.bit x j d.hs d.hi d.he,i,Bool.true_or]⟩
theorem z7z(q:MOk m){x j:Nat}(d:VE m x j): ∀ (w:List Int) (s b:Nat) {t b':Nat},s<m.rows.length→z4m m.inputs.toNat w→lc (nxT m) (s,b) w=some (t,b')→b'.testBit (uo m x j)=true→b.testBit (uo m x j)=false→ ∃ u v f,w=u++(j:Int)::v∧lc (nxT m) (s,b) u=some (x,f)∧f.testBit (uo m x j)=false
 | [],s,b,t,b',g,_,h,k,c=>by
  obtain⟨_,rfl⟩:=Prod.mk.inj (Option.some.inj h)
  rw [k] at c;cases c
 |i::w,s,b,t,b',g,n,h,k,c=>by
  obtain⟨l,rfl⟩: ∃ j:Nat,i=(j:Int):=⟨i.toNat,by have:=n i (by simp);omega⟩
  have r:l<m.inputs.toNat:=by have:=n (l:Int) (by simp);omega
  have y:lc (nxT m) (s,b) ((l:Int)::w)=(nxT m (s,b) l).bind fun t'=>lc (nxT m) t' w:=rfl
  rw [y] at h
  have a:nxT m (s,b) l=if ed m s l= -1 then none else some ((ed m s l).toNat,b|||2^uo m s l):=rfl
  by_cases e:ed m s l= -1
  ·rw [a,if_pos e] at h;cases h
  ·rw [a,if_neg e] at h
   have o:VE m s l:=⟨g,r,e⟩
   by_cases e2:s=x∧l=j
   ·obtain⟨rfl,rfl⟩:=e2
    exact⟨[],w,b,rfl,rfl,c⟩
   ·have z:(b|||2^uo m s l).testBit (uo m x j)=false:=by
     rw [Nat.testBit_or,c,Bool.false_or,Nat.testBit_two_pow,decide_eq_false]
     intro A
     exact e2 (zf2 g r e d.hs d.hi d.he A)
    obtain⟨u,v,f,rfl,B,C⟩:=z7z q d w _ _ (o.to q).1 (fun x D=>n x (by simp [D])) h k z
    refine⟨(l:Int)::u,v,f,rfl,?_,C⟩
    have p:lc (nxT m) (s,b) ((l:Int)::u)=(nxT m (s,b) l).bind fun t'=>lc (nxT m) t' u:=rfl
    rw [p,a,if_neg e];exact B
end
end GV
end Go.Proofs.Ytdhccodneoebpaa

namespace Go.Proofs.Ytdhccodneoebpaa
namespace GV
set_option maxRecDepth 100000
theorem z9b{α:Type}{p:α→Bool}: ∀ {l:List α},l.Nodup→1<l.countP p→ ∃ a b,a∈l∧b∈l∧a≠b∧p a=true∧p b=true
 | [],_,h=>by simp at h
 |c::l,g,h=>by
  obtain⟨i,j⟩:=List.nodup_cons.1 g
  rw [List.countP_cons] at h
  by_cases hc:p c=true
  ·rw [if_pos hc] at h
   obtain⟨b,d,f⟩:=List.countP_pos_iff.1 (show 0<l.countP p by omega)
   exact⟨c,b,by simp,by simp [d],fun e=>i (e▸d),hc,f⟩
  ·rw [if_neg hc] at h
   obtain⟨a,b,k,d,m⟩:=z9b j h
   exact⟨a,b,by simp [k],by simp [d],m⟩
theorem z5s{α:Type}{p q:α→Bool}: ∀ {l:List α},(∀ x∈l,p x=true→q x=true)→l.countP p≤l.countP q
 | [],_=>Nat.le_refl _
 |c::l,h=>by
  have ih:=z5s (l:=l) fun x a=>h x (by simp [a])
  rw [List.countP_cons,List.countP_cons]
  by_cases hp:p c=true
  ·rw [if_pos hp,if_pos (h c (by simp) hp)];omega
  ·rw [if_neg hp];omega
theorem z7o{α:Type}{p q:α→Bool}: ∀ {l:List α},(∀ x∈l,p x=true→q x=true)→(∃ x∈l,p x=false∧q x=true)→l.countP p<l.countP q
 | [],_,⟨x,a,_⟩=>by cases a
 |c::l,h,⟨x,a,b,d⟩=>by
  have e:=z5s (l:=l) fun x a=>h x (by simp [a])
  rw [List.countP_cons,List.countP_cons]
  rcases List.mem_cons.1 a with rfl|a
  ·rw [if_neg (by rw [b];simp),if_pos d];omega
  ·have ih:=z7o (l:=l) (fun x a=>h x (by simp [a])) ⟨x,a,b,d⟩
   by_cases hp:p c=true
   ·rw [if_pos hp,if_pos (h c (by simp) hp)];omega
   ·rw [if_neg hp];omega
section
variable {m : Mach}
theorem zxu{s t:Nat}(a:s<m.rows.length)(b:t<m.rows.length)(c:Reach m s t)(d:Reach m t s):fst38 m s=fst38 m t:=(znr a b).2 ((zdx a b).2 ⟨c,d⟩)
theorem z6r{s t:Nat}(a:s<m.rows.length)(b:t<m.rows.length)(h:fst38 m s=fst38 m t):Reach m s t∧Reach m t s:=(zdx a b).1 ((znr a b).1 h)
theorem z99(a:MOk m){r s i x:Nat}(h:Cross m r s i)(b:x<m.rows.length)(c:fst38 m x=r)(d:Reach m (ed m s i).toNat x):False:=by
 have e:=(h.v.to a).1
 have f:=(z6r b h.v.hs (by rw [c,h.here])).1
 have:=zxu h.v.hs e (h.v.reach a) (d.trans f)
 exact h.out (by rw [←this,h.here])
theorem z4x{s i:Nat}(h:VE m s i):((s:Int),(i:Int))∈qp m:=ut.2 ⟨s,i,h.hs,h.hi,h.he,rfl⟩
theorem znh{r s i t j:Nat}(q:outN m r≤1)(h:Cross m r s i)(k:Cross m r t j):s=t∧i=j:=by
 refine Classical.byContradiction fun c=>?_
 have l:1<outN m r:=by
  refine Nat.lt_of_not_le fun b=>?_
  have n:=z4x h.v
  have d:=z4x k.v
  have o:=(z0j h.v).2 h
  have f:=(z0j k.v).2 k
  have p:((s:Int),(i:Int))≠((t:Int),(j:Int)):=fun e=>c (by
   have:=(Prod.mk.inj e).1;have:=(Prod.mk.inj e).2;omega)
  unfold outN at b
  obtain⟨u,w,g⟩:=List.append_of_mem n
  rw [g,List.countP_append,List.countP_cons,if_pos o] at b
  rw [g] at d
  rcases List.mem_append.1 d with a|a
  ·have:=List.countP_pos_iff.2 ⟨_,a,f⟩;omega
  ·rcases List.mem_cons.1 a with a|a
   ·exact p a.symm
   ·have:=List.countP_pos_iff.2 ⟨_,a,f⟩;omega
 omega
theorem zr0{round:Bool}:zi5 round≤1:=by unfold zi5;split<;>omega
theorem zk9(U:CM38 m){round:Bool}{w:List Int}{t:Nat×Nat}(E:z4m m.inputs.toNat w)(F:lc (nxT m) (0,0) w=some t)(G:z1k m round t=true):Ex1 m round:=by
 have d:=U.ok
 have V:0<m.rows.length:=by have:=d.r1;omega
 obtain⟨H,b⟩:=t
 unfold z1k at G
 rw [Bool.and_eq_true,decide_eq_true_iff] at G
 obtain⟨W,o⟩:=G
 dsimp only at W o
 have hbit: ∀ {x j:Nat},VE m x j→b.testBit (uo m x j)=true:=fun f=>by
  have:=z8e f.hs f.hi f.he
  rw [W,Nat.testBit_two_pow_sub_one,decide_eq_true this]
 have key: ∀ {x j:Nat},VE m x j→ ∃ u v e,w=u++(j:Int)::v∧lc (nxT m) (0,0) u=some (x,e)∧e.testBit (uo m x j)=false∧lc (nxT m) ((ed m x j).toNat,e|||2^uo m x j) v=some (H,b)∧z4m m.inputs.toNat u∧z4m m.inputs.toNat v:=by
  intro x j f
  obtain⟨u,v,e,rfl,i,I⟩:=z7z d f w 0 0 V E F (hbit f) (Nat.zero_testBit _)
  refine⟨u,v,e,rfl,i,I,?_,fun x k=>E x (by simp [k]),fun x k=>E x (by simp [k])⟩
  rw [zdo,i] at F
  have ab:lc (nxT m) (x,e) ((j:Int)::v)=(nxT m (x,e) j).bind fun t'=>lc (nxT m) t' v:=rfl
  have g:(nxT m (x,e) j).bind (fun t'=>lc (nxT m) t' v)=some (H,b):=F
  unfold nxT at g
  dsimp only at g
  rw [if_neg f.he] at g
  exact g
 intro r ac
 refine Nat.le_of_not_lt fun p=>?_
 cases round
 ·--two edges out of a knot
  obtain⟨a,c,J,K,L,pa,pc⟩:=z9b edges_nd (show 1<(qp m).countP (crossB m r) from p)
  obtain⟨n,y,l,z,A,rfl⟩:=ut.1 J
  obtain⟨B,C,M,X,N,rfl⟩:=ut.1 K
  have h:VE m n y:=⟨l,z,A⟩
  have q:VE m B C:=⟨M,X,N⟩
  have s:=(z0j h).1 pa
  have Y:=(z0j q).1 pc
  obtain⟨u,v,e,_,i,I,O,P,f⟩:=key h
  cases hb2:e.testBit (uo m B C)
  ·--the second one is taken behind the first one
   have Q:(e|||2^uo m n y).testBit (uo m B C)=false:=by
    rw [Nat.testBit_or,hb2,Bool.false_or,Nat.testBit_two_pow,decide_eq_false]
    intro h4
    obtain⟨rfl,rfl⟩:=zf2 l z A M X N h4
    exact L rfl
   obtain⟨Z,R,b4,rfl,S,_⟩:=z7z d q v _ _ (h.to d).1 f O (hbit q) Q
   exact z99 d s M Y.here (zbj d Z _ _ (h.to d).1 (fun x k=>f x (by simp [k])) S)
  ·--it was taken ahead of it
   obtain⟨Z,R,b4,rfl,S,h6⟩:=z7z d q u 0 0 V P i hb2 (Nat.zero_testBit _)
   rw [zdo,S] at i
   have D:(nxT m (B,b4) C).bind (fun t'=>lc (nxT m) t' R)=some (n,e):=i
   unfold nxT at D
   dsimp only at D
   rw [if_neg N] at D
   exact z99 d Y l s.here (zbj d R _ _ (q.to d).1 (fun x k=>P x (by simp [k])) D)
 ·--one edge out of a knot,and back
  obtain⟨a,J,pa⟩:=List.countP_pos_iff.1 (show 0<(qp m).countP (crossB m r) from p)
  obtain⟨n,y,l,z,A,rfl⟩:=ut.1 J
  have h:VE m n y:=⟨l,z,A⟩
  have s:=(z0j h).1 pa
  obtain⟨u,v,e,_,i,I,O,P,f⟩:=key h
  have T:H=0:=by simpa using o
  have:=zbj d v _ _ (h.to d).1 f O
  rw [T] at this
  exact z99 d s l s.here (this.trans (U.conn n l))
/-! ### A tour-/
def unt(m:Mach)(b:Nat):Nat:=(List.range (qp m).length).countP fun k=> !b.testBit k
noncomputable def rsN(m:Mach)(s:Nat):Nat:=(List.range m.rows.length).countP fun t=>(reachL m s).getD t default
theorem leave(d:MOk m){s y:Nat}(l:s<m.rows.length)(h:Reach m s y):fst38 m y≠fst38 m s→ ∃ u i,Cross m (fst38 m s) u i∧Reach m (ed m u i).toNat y:=by
 induction h with
 |refl=>intro h;exact absurd rfl h
 | @step t i n f k o ih=>
  intro c
  have g:VE m t i:=⟨f,by rw [←d.rowlen f];exact k,by unfold ed;omega⟩
  by_cases e:fst38 m t=fst38 m s
  ·exact⟨t,i,⟨g,e,c⟩,.refl⟩
  ·obtain⟨u,j,a,b⟩:=ih e
   exact⟨u,j,a,b.trans (g.reach d)⟩
theorem zoj(R:CM38 m){round:Bool}(L:Ex1 m round): ∀ (μ s b:Nat),s<m.rows.length→b<2^(qp m).length→(∀ x j,VE m x j→b.testBit (uo m x j)=false→Reach m s x)→unt m b+rsN m s≤μ→
 ∃ w t,z4m m.inputs.toNat w∧lc (nxT m) (s,b) w=some t∧z1k m round t=true∧w.length≤μ*m.rows.length+m.rows.length
 |0,s,b,f,Q,hi,hμ=>by
  have:0<rsN m s:=List.countP_pos_iff.2 ⟨s,List.mem_range.2 f,(z0f f).2 .refl⟩
  omega
 |μ+1,s,b,f,Q,hi,hμ=>by
  have B:=R.ok
  have S:0<m.rows.length:=by have:=B.r1;omega
  have hmul:(μ+1)*m.rows.length=μ*m.rows.length+m.rows.length:=Nat.succ_mul _ _
  have hone: ∀ r,r<m.rows.length→outN m r≤1:=fun r T=>Nat.le_trans (L r T) zr0
  have go: ∀ {x j:Nat},VE m x j→Reach m s x→(∀ d,d<2^(qp m).length→(∀ y l,VE m y l→b.testBit (uo m y l)=true→d.testBit (uo m y l)=true)→d.testBit (uo m x j)=true→(∀ y l,VE m y l→d.testBit (uo m y l)=false→Reach m (ed m x j).toNat y)∧unt m d+rsN m (ed m x j).toNat≤μ)→ ∃ w t,z4m m.inputs.toNat w∧lc (nxT m) (s,b) w=some t∧z1k m round t=true∧w.length≤(μ+1)*m.rows.length+m.rows.length:=by
   intro x j c T q
   obtain⟨p,H,o,U,C⟩:=zit B f T b
   obtain⟨_,D,g⟩:=zm0 B f o C
   have D:=D Q
   have E:H|||2^uo m x j<2^(qp m).length:=Nat.or_lt_two_pow D (Nat.pow_lt_pow_right (by decide) (z8e c.hs c.hi c.he))
   obtain⟨K,I⟩:=q (H|||2^uo m x j) E (fun y l F n=>by rw [Nat.testBit_or,g y l F n,Bool.true_or]) (by rw [Nat.testBit_or,Nat.testBit_two_pow,decide_eq_true rfl,Bool.or_true])
   obtain⟨w,t,hw,V,hg,hl⟩:=zoj R L μ (ed m x j).toNat (H|||2^uo m x j) (c.to B).1 E K I
   refine⟨p++(j:Int)::w,t,fun z G=>?_,?_,hg,by rw [List.length_append,List.length_cons,hmul];omega⟩
   ·rcases List.mem_append.1 G with G|G
    ·exact o z G
    ·rcases List.mem_cons.1 G with rfl|G
     ·have:=c.hi;omega
     ·exact hw z G
   ·rw [zdo,C]
    show (nxT m (x,H) j).bind _=_
    unfold nxT
    dsimp only
    rw [if_neg c.he];exact V
  have hunt: ∀ {d:Nat},(∀ y l,VE m y l→b.testBit (uo m y l)=true→d.testBit (uo m y l)=true)→unt m d≤unt m b:=by
   intro d h
   refine z5s fun k q o=>?_
   obtain⟨y,l,M,N,O,rfl⟩:=zb2 (List.mem_range.1 q)
   cases hbk:b.testBit (uo m y l)
   ·rfl
   ·rw [h y l ⟨M,N,O⟩ hbk] at o;cases o
  have J: ∀ {d x j:Nat},VE m x j→b.testBit (uo m x j)=false→d.testBit (uo m x j)=true→(∀ y l,VE m y l→b.testBit (uo m y l)=true→d.testBit (uo m y l)=true)→unt m d<unt m b:=by
   intro d x j c K I h
   refine z7o (fun k q o=>?_) ⟨uo m x j,List.mem_range.2 (z8e c.hs c.hi c.he),by rw [I];rfl,by rw [K];rfl⟩
   obtain⟨y,l,M,N,O,rfl⟩:=zb2 (List.mem_range.1 q)
   cases hbk:b.testBit (uo m y l)
   ·rfl
   ·rw [h y l ⟨M,N,O⟩ hbk] at o;cases o
  by_cases hall: ∀ x j,VE m x j→b.testBit (uo m x j)=true
  ·have hfull: ∀ d,d<2^(qp m).length→(∀ x j,VE m x j→d.testBit (uo m x j)=true)→d=2^(qp m).length-1:=by
    intro d I W
    rw [zg5 I]
    intro k q
    obtain⟨y,l,M,N,O,rfl⟩:=zb2 q
    exact W y l ⟨M,N,O⟩
   cases round
   ·refine⟨[],(s,b),fun z G=>(by cases G),rfl,?_,by simp⟩
    unfold z1k
    rw [decide_eq_true (hfull b Q hall)];rfl
   ·have X: ∀ {u i:Nat},¬Cross m (fst38 m 0) u i:=fun a=>by
     have K:0<outN m (fst38 m 0):=List.countP_pos_iff.2 ⟨_,z4x a.v,(z0j a.v).2 a⟩
     have:=L _ (zcb S)
     have:zi5 true=0:=rfl
     omega
    have Y:fst38 m s=fst38 m 0:=Classical.byContradiction fun Z=>by
     obtain⟨u,i,a,_⟩:=leave B S (R.conn s f) Z
     exact X a
    obtain⟨p,H,o,U,C⟩:=zit B f (z6r f S Y).1 b
    obtain⟨_,D,g⟩:=zm0 B f o C
    refine⟨p,(0,H),o,C,?_,by omega⟩
    unfold z1k
    rw [decide_eq_true (hfull H (D Q) fun x j c=>g x j c (hall x j c))];rfl
  ·by_cases hB: ∃ x j,VE m x j∧b.testBit (uo m x j)=false∧fst38 m x=fst38 m s∧fst38 m (ed m x j).toNat=fst38 m s
   ·obtain⟨x,j,c,A,aa,ab⟩:=hB
    have ht:=(c.to B).1
    obtain⟨r1,r2⟩:=z6r f ht ab.symm
    refine go c (z6r f c.hs aa.symm).1 fun d E g hbit=>⟨fun y l F n=>?_,?_⟩
    ·refine r2.trans (hi y l F ?_)
     cases hbk:b.testBit (uo m y l)
     ·rfl
     ·rw [g y l F hbk] at n;cases n
    ·have K:=J c A hbit g
     have I:rsN m (ed m x j).toNat≤rsN m s:=z5s fun k q o=>by
      have q:=List.mem_range.1 q
      rw [z0f q] at o⊢
      exact r1.trans o
     omega
   ·--the only edge that leads out
    have hcross: ∃ u i,Cross m (fst38 m s) u i:=by
     obtain⟨x,L⟩:=Classical.not_forall.1 hall
     obtain⟨j,hj⟩:=Classical.not_forall.1 L
     obtain⟨c,A⟩:=Classical.not_imp.1 hj
     have A:b.testBit (uo m x j)=false:=Bool.eq_false_iff.2 A
     by_cases e:fst38 m x=fst38 m s
     ·exact⟨x,j,c,e,fun e2=>hB ⟨x,j,c,A,e,e2⟩⟩
     ·obtain⟨u,i,a,_⟩:=leave B f (hi x j c A) e
      exact⟨u,i,a⟩
    obtain⟨u,i,a⟩:=hcross
    have c:=a.v
    have P:=(z6r f c.hs a.here.symm).1
    refine go c P fun d E g hbit=>⟨fun y l F n=>?_,?_⟩
    ·have hyb':b.testBit (uo m y l)=false:=by
      cases hbk:b.testBit (uo m y l)
      ·rfl
      ·rw [g y l F hbk] at n;cases n
     by_cases e:fst38 m y=fst38 m s
     ·exfalso
      have ad:Cross m (fst38 m s) y l:=⟨F,e,fun e2=>hB ⟨y,l,F,hyb',e,e2⟩⟩
      obtain⟨rfl,rfl⟩:=znh (hone _ (zcb f)) a ad
      rw [hbit] at n;cases n
     ·obtain⟨u',i',hcr',hr'⟩:=leave B f (hi y l F hyb') e
      obtain⟨rfl,rfl⟩:=znh (hone _ (zcb f)) a hcr'
      exact hr'
    ·have K:=hunt g
     have I:rsN m (ed m u i).toNat<rsN m s:=by
      refine z7o (fun k q o=>?_) ⟨s,List.mem_range.2 f,?_,(z0f f).2 .refl⟩
      ·have q:=List.mem_range.1 q
       rw [z0f q] at o⊢
       exact(P.trans (c.reach B)).trans o
      ·cases W:(reachL m (ed m u i).toNat).getD s default
       ·rfl
       ·exact(z99 B a f rfl ((z0f f).1 W)).elim
     omega
theorem zke(a:CM38 m){round:Bool}(b:Ex1 m round): ∃ w t,z4m m.inputs.toNat w∧lc (nxT m) (0,0) w=some t∧z1k m round t=true∧w.length≤((qp m).length+m.rows.length)*m.rows.length+m.rows.length:=by
 have c:=a.ok
 have e:unt m 0≤(qp m).length:=by
  have:=List.countP_le_length (p:=fun k=> !(0:Nat).testBit k) (l:=List.range (qp m).length)
  rw [List.length_range] at this;exact this
 have f:rsN m 0≤m.rows.length:=by
  have:=List.countP_le_length (p:=fun t=>(reachL m 0).getD t default) (l:=List.range m.rows.length)
  rw [List.length_range] at this;exact this
 exact zoj a b _ 0 0 (by have:=c.r1;omega) (Nat.two_pow_pos _) (fun x j d _=>a.conn x d.hs) (by omega)
theorem ztj(j:CM38 m):Ex1 m true↔ ∀ s,s<m.rows.length→fst38 m s=0:=by
 have c:=j.ok
 have d:0<m.rows.length:=by have:=c.r1;omega
 have e:fst38 m 0=0:=by have:=(zae d).1;omega
 constructor
 ·intro o s p
  refine Classical.byContradiction fun f=>?_
  obtain⟨u,i,b,_⟩:=leave c d (j.conn s p) (by rw [e];exact f)
  have z:0<outN m (fst38 m 0):=List.countP_pos_iff.2 ⟨_,z4x b.v,(z0j b.v).2 b⟩
  have:=o _ (zcb d)
  have:zi5 true=0:=rfl
  omega
 ·intro h r A
  refine Nat.le_of_not_lt fun g=>?_
  obtain⟨a,q,pa⟩:=List.countP_pos_iff.1 (show 0<(qp m).countP (crossB m r) from g)
  obtain⟨t,w,k,x,y,rfl⟩:=ut.1 q
  have l:VE m t w:=⟨k,x,y⟩
  have n:=(z0j l).1 pa
  exact n.out (by rw [h _ (l.to c).1,←n.here,h _ k])
end
end GV
end Go.Proofs.Ytdhccodneoebpaa

namespace Go.Proofs.Ytdhccodneoebpaa
namespace GV
set_option maxRecDepth 1000000
end GV
end Go.Proofs.Ytdhccodneoebpaa

namespace Go.Proofs.Ytdhccodneoebpaa
namespace GV
set_option maxRecDepth 100000
section
variable {N : Nat} {m : Mach}
theorem z4v(a:CM38 m){round:Bool}:(z2l m round).isSome=true↔Ex1 m round:=by
 constructor
 ·intro h
  obtain⟨w,f⟩:=Option.isSome_iff_exists.1 h
  obtain⟨b,⟨t,c,d⟩,_⟩:=z7i a.ok f
  exact zk9 a b c d
 ·intro h
  obtain⟨w,t,b,c,d,_⟩:=zke a h
  cases e:z2l m round with
  |some w=>rfl
  |none=>have:=zfm a.ok e w t b c;rw [d] at this;cases this
end
end GV
end Go.Proofs.Ytdhccodneoebpaa
