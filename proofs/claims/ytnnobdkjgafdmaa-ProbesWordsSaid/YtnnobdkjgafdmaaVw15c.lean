import Derived.Test.YtnnobdkjgafdmaaVw15b
set_option linter.unusedVariables false
set_option linter.unusedSimpArgs false
set_option linter.unusedSectionVars false
namespace Go.Proofs.Ytnnobdkjgafdmaa
namespace GV
set_option maxRecDepth 100000
def z5s(m:Mach)(w:List Int)(s:Nat):Nat:=(z02 m (s:Int) w).toNat
def q3y(m:Mach)(w:List Int)(s t:Nat):Bool:=(List.range m.rows.length).any fun(u:Nat)=>decide (ig m (u:Int) w=ig m (s:Int) w)&&decide (z02 m (u:Int) w=(t:Int))
def zht(m:Mach)(w:List Int)(s:Nat):Int:=bmk (q3y m w s) m.rows.length
def vwF(m:Mach)(c:Int)(w:List Int)(s:Nat):Int:=if tb c s=true then pkn (z5s m w s) (zht m w s) else 0
def vw(m:Mach)(c:Int)(w:List Int):Arr 6 Int:=mkA 6 (vwF m c w)
def Sep(m:Mach)(c:Int)(w:List Int):Prop:= ∀ s,tb c s=true→ ∀ t:Nat,t<m.rows.length→t≠s→ig m (t:Int) w≠ig m (s:Int) w
def Good(m:Mach)(c:Int)(w:List Int):Prop:= ∀ s,tb c s=true→ ∀ t:Nat,t<m.rows.length→t≠s→ig m (t:Int) w=ig m (s:Int) w→z02 m (t:Int) w≠z02 m (s:Int) w
theorem Sep.good{m:Mach}{c:Int}{w:List Int}(h:Sep m c w):Good m c w:=fun s b t d a e=>absurd e (h s b t d a)
theorem zox{m:Mach}{w:List Int}{s t:Nat}:q3y m w s t=true↔ ∃ u:Nat,u<m.rows.length∧ig m (u:Int) w=ig m (s:Int) w∧z02 m (u:Int) w=(t:Int):=by
 unfold q3y
 rw [List.any_eq_true]
 constructor
 ·rintro⟨u,a,h⟩
  rw [Bool.and_eq_true,decide_eq_true_iff,decide_eq_true_iff] at h
  exact⟨u,List.mem_range.1 a,h.1,h.2⟩
 ·rintro⟨u,a,b,c⟩
  exact⟨u,List.mem_range.2 a,by rw [decide_eq_true b,decide_eq_true c];rfl⟩
section
variable {m : Mach} (hm : PM m)
include hm
theorem z5g{s:Nat}(d:s<m.rows.length){w:List Int}(c:WIn (nIn m) w):z02 m (s:Int) w=(z5s m w s:Int)∧z5s m w s<m.rows.length:=by
 have:=hm.toCM.aft (s:=(s:Int)) ⟨by omega,by omega⟩ c
 obtain⟨a,b⟩:=this
 unfold z5s
 omega
theorem z15{s:Nat}(a:s<m.rows.length){w:List Int}(b:WIn (nIn m) w)(i:Int):ig m (s:Int) (w++[i])=ig m (s:Int) w++[(edI m (z5s m w s:Int) i).out]∧z02 m (s:Int) (w++[i])=(edI m (z5s m w s:Int) i).to:=by
 obtain⟨c,d⟩:=z5g hm a b
 rw [zch,z7x,c]
 have hI:InS m (z5s m w s:Int):=⟨by omega,by omega⟩
 exact⟨by rw [←zj1 hI];rfl,by rw [←zj1 hI];rfl⟩
theorem z7t{s t:Nat}(d:s<m.rows.length)(e:t<m.rows.length){w:List Int}(c:WIn (nIn m) w)(i:Int):ig m (t:Int) (w++[i])=ig m (s:Int) (w++[i])↔ig m (t:Int) w=ig m (s:Int) w∧(edI m (z5s m w t:Int) i).out=(edI m (z5s m w s:Int) i).out:=by
 rw [(z15 hm d c i).1,(z15 hm e c i).1]
 constructor
 ·intro h
  obtain⟨a,b⟩:=List.append_inj h (by rw [z7u,z7u])
  exact⟨a,(List.cons.inj b).1⟩
 ·rintro⟨a,b⟩;rw [a,b]
theorem z9k{w:List Int}(b:WIn (nIn m) w){s t:Nat}:tb (zht m w s) t=true↔ ∃ u:Nat,u<m.rows.length∧ig m (u:Int) w=ig m (s:Int) w∧z5s m w u=t:=by
 unfold zht
 rw [zb9,Bool.and_eq_true,decide_eq_true_iff,zox]
 constructor
 ·rintro⟨h,u,a,c,d⟩
  exact⟨u,a,c,by have:=(z5g hm a b).1;omega⟩
 ·rintro⟨u,a,c,rfl⟩
  exact⟨(z5g hm a b).2,u,a,c,(z5g hm a b).1⟩
variable {c : Int} (hc : Cnt m c)
include hc
theorem Good.init{w:List Int}{i:Int}(a:WIn (nIn m) w)(h:Good m c (w++[i])):Good m c w:=fun s f t b d g j=>by
 have hs':=hc.in f
 have e:z5s m w t=z5s m w s:=by unfold z5s;rw [j]
 refine h s f t b d ((z7t hm hs' b a i).2 ⟨g,by rw [e]⟩) ?_
 rw [(z15 hm hs' a i).2,(z15 hm b a i).2,e]
theorem q3e:z13 5000 (mkA 6 fun s=>if s<m.rows.length then pkn s (bmk (fun _=>true) m.rows.length) else 0) c=some (vw m c []):=by
 rw [zsv (hc.le hm)]
 congr 1
 refine z3u fun s e=>?_
 unfold vwF
 by_cases h:tb c s=true
 ·have hs':=hc.in h
  rw [if_pos h,if_pos h,if_pos hs']
  have a:z5s m [] s=s:=by show ((s:Int)).toNat=s;omega
  have b:zht m [] s=bmk (fun _=>true) m.rows.length:=zlr fun t d=>zox.2 ⟨t,d,rfl,rfl⟩
  rw [a,b]
 ·rw [if_neg h,if_neg h]
theorem zn1{w:List Int}(g:WIn (nIn m) w)(K:Good m c w){i:Nat}(hi:i<nIn m): ∃ r v,z2e 5000 m (vw m c w) (i:Int) c=some r∧z13 5000 r.1 c=some v∧((r.2=false∧ ¬Good m c (w++[(i:Int)]))∨(r.2=true∧Good m c (w++[(i:Int)])∧v=vw m c (w++[(i:Int)]))):=by
 have L:=hm.pos
 obtain⟨r,H,p⟩:=q02 hm hc hi (cu:=fun s=>if tb c s=true then z5s m w s else 0) (X:=fun s=>if tb c s=true then zht m w s else 0) (f:=vwF m c w)
  (fun s l=>by
   by_cases h:tb c s=true
   ·rw [if_pos h];exact(z5g hm l g).2
   ·rw [if_neg h];exact L)
  (fun s l=>by
   by_cases h:tb c s=true
   ·rw [if_pos h];exact z8z _ _
   ·rw [if_neg h]
    have:(0:Nat)<2^m.rows.length:=Nat.two_pow_pos _
    omega)
  (fun s l=>by
   unfold vwF
   by_cases h:tb c s=true
   ·rw [if_pos h,if_pos h,if_pos h]
   ·rw [if_neg h,if_neg h,if_neg h];rfl)
 have hlost: ∀ s t,zar m c i s (if tb c s=true then z5s m w s else 0) (if tb c s=true then zht m w s else 0) t=true→tb c s=true∧ ∃ u:Nat,u<m.rows.length∧u≠s∧ig m (u:Int) (w++[(i:Int)])=ig m (s:Int) (w++[(i:Int)])∧z02 m (u:Int) (w++[(i:Int)])=z02 m (s:Int) (w++[(i:Int)]):=fun s t h=>by
  unfold zar at h
  rw [Bool.and_eq_true] at h
  obtain⟨h,d⟩:=h
  rw [if_pos d,if_pos d,Bool.and_eq_true,Bool.and_eq_true,Bool.and_eq_true,decide_eq_true_iff,decide_eq_true_iff] at h
  obtain⟨⟨M,z⟩,N,O⟩:=h
  have l:=hc.in d
  obtain⟨u,k,q,rfl⟩:=(z9k hm g).1 M
  unfold z2z at z
  rw [decide_eq_true_iff] at z
  refine⟨d,u,k,fun e=>O (by rw [e]),(z7t hm l k g _).2 ⟨q,z⟩,?_⟩
  rw [(z15 hm k g _).2,(z15 hm l g _).2]
  have x:=(hm.toCM.tgt (z5g hm k g).2 hi).2
  have I:=(hm.toCM.tgt (z5g hm l g).2 hi).2
  rw [x,I,N]
 rcases p with⟨p,s,t,l,o,P⟩|⟨p,Q⟩
 ·obtain⟨d,u,k,A,q,B⟩:=hlost s t P
  obtain⟨Y,b⟩:=r
  obtain⟨v,R⟩: ∃ v,z13 5000 Y c=some v:=by
   have:Y=mkA 6 fun s=>Y.1.getD s default:=by
    refine Subtype.ext ?_
    apply List.ext_getElem?
    intro j
    show Y.1[j]? =((List.range 6).map fun s=>Y.1.getD s default)[j]?
    rw [List.getElem?_map]
    by_cases hj:j<6
    ·rw [List.getElem?_range hj,List.getElem?_eq_getElem (by rw [Y.2];exact hj)]
     simp [List.getD_eq_getElem?_getD,List.getElem?_eq_getElem (show j<Y.1.length by rw [Y.2];exact hj)]
    ·rw [List.getElem?_eq_none (by rw [Y.2];omega),List.getElem?_eq_none (by simp;omega)];rfl
   rw [this,zsv (hc.le hm)];exact⟨_,rfl⟩
  exact⟨_,v,H,R,.inl ⟨p,fun C=>C s d u k A q B⟩⟩
 ·subst p
  have C:Good m c (w++[(i:Int)]):=fun s d t o D S J=>by
   have l:=hc.in d
   obtain⟨y,E⟩:=(z7t hm l o g _).1 S
   have F:=K s d t o D y
   rw [(z15 hm o g _).2,(z15 hm l g _).2] at J
   have hcur:=z5g hm o g
   have n:=z5g hm l g
   have:=Q s (z5s m w t) l hcur.2
   unfold zar at this
   rw [if_pos d,if_pos d,d,Bool.and_true,(z9k hm g).2 ⟨t,o,y,rfl⟩] at this
   have T:z2z m i (z5s m w s) (z5s m w t)=true:=decide_eq_true E
   rw [T,decide_eq_true (show z5s m w t≠z5s m w s from fun e=>F (by rw [hcur.1,n.1,e]))] at this
   have x:=(hm.toCM.tgt hcur.2 hi).2
   have I:=(hm.toCM.tgt n.2 hi).2
   rw [decide_eq_true (show tgt m (z5s m w t) i=tgt m (z5s m w s) i by omega)] at this
   cases this
  refine⟨_,_,H,zsv (hc.le hm),.inr ⟨rfl,C,?_⟩⟩
  refine z3u fun s l=>?_
  unfold vwF
  by_cases h:tb c s=true
  ·have hs':=hc.in h
   have hcur:=z5g hm hs' g
   rw [if_pos h,if_pos h,if_pos h,if_pos hs',if_pos h]
   have y:tgt m (z5s m w s) i=z5s m (w++[(i:Int)]) s:=by
    have x:=(hm.toCM.tgt hcur.2 hi).2
    show _=(z02 m (s:Int) (w++[(i:Int)])).toNat
    rw [(z15 hm hs' g _).2,x];omega
   have E:zgg m (zht m w s) i (z2z m i (z5s m w s))=zht m (w++[(i:Int)]) s:=by
    refine zzd (q1n _ _ _ _).1 (z8z _ _).1 fun t=>?_
    rw [Bool.eq_iff_iff,zy9 hm.toCM hi,z9k hm (g.snoc (by omega) (by omega))]
    constructor
    ·rintro⟨a,J,q,B,rfl⟩
     obtain⟨u,k,G,rfl⟩:=(z9k hm g).1 q
     refine⟨u,k,(z7t hm hs' k g _).2 ⟨G,of_decide_eq_true B⟩,?_⟩
     show (z02 m (u:Int) (w++[(i:Int)])).toNat=_
     rw [(z15 hm k g _).2];rfl
    ·rintro⟨u,k,G,rfl⟩
     obtain⟨U,V⟩:=(z7t hm hs' k g _).1 G
     refine⟨z5s m w u,(z5g hm k g).2,(z9k hm g).2 ⟨u,k,U,rfl⟩,decide_eq_true V,?_⟩
     show _=(z02 m (u:Int) (w++[(i:Int)])).toNat
     rw [(z15 hm k g _).2];rfl
   rw [y,E]
  ·rw [if_neg h,if_neg h]
theorem ztz{w:List Int}(f:WIn (nIn m) w)(p:Good m c w): ∃ b,z1o 5000 (vw m c w) c=some b∧(b=true↔Sep m c w):=by
 have q:=hm.r6
 have hset: ∀ s,0≤zht m w s∧zht m w s<256:=fun s=>zia q
 have hval: ∀ s,0≤vwF m c w s∧vwF m c w s≤65535:=fun s=>by
  unfold vwF
  by_cases h:tb c s=true
  ·rw [if_pos h]
   have:=(z5g hm (hc.in h) f).2
   exact zyq (by omega) (hset s)
  ·rw [if_neg h];omega
 refine⟨_,q1v (hc.le hm) fun s _=>hval s,?_⟩
 rw [List.all_eq_true]
 have hlow: ∀ s,tb c s=true→z1g (vwF m c w s) 255=zht m w s:=fun s h=>by
  unfold vwF
  rw [if_pos h]
  have:=(z5g hm (hc.in h) f).2
  exact q0f (by omega) (hset s)
 constructor
 ·intro h s d t g i n
  have j:=hc.in d
  have o:=h s (List.mem_range.2 (by omega))
  rw [d,Bool.true_and,Bool.not_eq_true',decide_eq_false_iff_not,hlow s d,zur (by have:=hset s;omega)] at o
  refine o ⟨z5s m w t,z5s m w s,fun e=>p s d t g i n ?_,(z9k hm f).2 ⟨t,g,n,rfl⟩,(z9k hm f).2 ⟨s,j,rfl,rfl⟩⟩
  rw [(z5g hm g f).1,(z5g hm j f).1,e]
 ·intro h s j
  cases d:tb c s with
  |false=>rfl
  |true=>
   rw [Bool.true_and,Bool.not_eq_true',decide_eq_false_iff_not,hlow s d,zur (by have:=hset s;omega)]
   rintro⟨a,b,k,l,r⟩
   have one: ∀ a,tb (zht m w s) a=true→a=z5s m w s:=fun a l=>by
    obtain⟨u,v,x,rfl⟩:=(z9k hm f).1 l
    by_cases e:u=s
    ·rw [e]
    ·exact absurd x (h s d u v e)
   exact k ((one a l).trans (one b r).symm)
end
/-! ### as a search-/
def nxV(m:Mach)(c:Int)(x:Option (Arr 6 Int))(i:Int):Option (Arr 6 Int):=match x with
 |none=>none
 |some v=>match z2e 5000 m v i c with
  |some (v',true)=>z13 5000 v' c
  |_=>none
def isV(c:Int)(x:Option (Arr 6 Int)):Bool:=match x with
 |none=>false
 |some v=>decide (z1o 5000 v c=some true)
section
variable {m : Mach} (hm : PM m) {c : Int} (hc : Cnt m c)
include hm hc
theorem ztm{w:List Int}(f:WIn (nIn m) w)(g:Good m c w){i:Nat}(hi:i<nIn m):(Good m c (w++[(i:Int)])→nxV m c (some (vw m c w)) (i:Int)=some (vw m c (w++[(i:Int)])))∧(¬Good m c (w++[(i:Int)])→nxV m c (some (vw m c w)) (i:Int)=none):=by
 obtain⟨⟨Y,b⟩,v,j,k,a⟩:=zn1 hm hc f g hi
 have e:nxV m c (some (vw m c w)) (i:Int)=match z2e 5000 m (vw m c w) (i:Int) c with
  |some (v',true)=>z13 5000 v' c
  |_=>none:=rfl
 rw [e,j]
 rcases a with⟨a,d⟩|⟨a,d,l⟩
 ·have a:b=false:=a
  subst a
  exact⟨fun h=>absurd h d,fun _=>rfl⟩
 ·have a:b=true:=a
  subst a;subst l
  exact⟨fun _=>k,fun h=>absurd d h⟩
theorem zrx: ∀ (n:Nat) (w:List Int),w.length=n→WIn (nIn m) w→(Good m c w→runT (nxV m c) (some (vw m c [])) w=some (vw m c w))∧(¬Good m c w→runT (nxV m c) (some (vw m c [])) w=none)
 |0,w,e,g=>by
  obtain rfl:=List.length_eq_zero_iff.1 e
  exact⟨fun _=>rfl,fun h=>absurd (fun s o t p f q k=>f (by
   have:(t:Int)=(s:Int):=k
   omega)) h⟩
 |n+1,w,e,g=>by
  obtain⟨v,i,rfl,l⟩:=zib e
  obtain⟨d,r,u⟩:=g.init
  obtain⟨j,rfl⟩: ∃ j:Nat,i=(j:Int):=⟨i.toNat,by omega⟩
  obtain⟨a,b⟩:=zrx n v l d
  rw [z5o]
  by_cases hg:Good m c v
  ·rw [a hg]
   exact ztm hm hc d hg (by omega)
  ·rw [b hg]
   exact⟨fun h=>absurd (Good.init hm hc d h) hg,fun _=>rfl⟩
theorem zyu{w:List Int}(e:WIn (nIn m) w):isV c (runT (nxV m c) (some (vw m c [])) w)=true↔Sep m c w:=by
 obtain⟨a,b⟩:=zrx hm hc _ w rfl e
 by_cases hg:Good m c w
 ·rw [a hg]
  obtain⟨d,f,g⟩:=ztz hm hc e hg
  show decide (z1o 5000 (vw m c w) c=some true)=true↔_
  rw [f,decide_eq_true_iff,←g]
  exact⟨Option.some.inj,fun h=>by rw [h]⟩
 ·rw [b hg]
  exact⟨fun h=>(nomatch h),fun h=>absurd h.good hg⟩
end
end GV
end Go.Proofs.Ytnnobdkjgafdmaa
