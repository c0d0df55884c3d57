import Derived.Test.YtnnobdkjgafdmaaVw15b
set_option linter.unusedVariables false
set_option linter.unusedSimpArgs false
set_option linter.unusedSectionVars false
namespace Go.Proofs.Ytnnobdkjgafdmaa
namespace GV
set_option maxRecDepth 100000
def z4f(m:Mach)(w:List Int)(s:Nat):Nat:=(z1s m (s:Int) w).toNat
def zzp(m:Mach)(w:List Int)(s t:Nat):Bool:=(List.range m.rows.length).any fun(u:Nat)=>decide (z05 m (u:Int) w=z05 m (s:Int) w)&&decide (z1s m (u:Int) w=(t:Int))
def zfy(m:Mach)(w:List Int)(s:Nat):Int:=bmk (zzp m w s) m.rows.length
def vwF(m:Mach)(c:Int)(w:List Int)(s:Nat):Int:=if tb c s=true then pkn (z4f m w s) (zfy m w s) else 0
def vw(m:Mach)(c:Int)(w:List Int):Arr 6 Int:=mkA 6 (vwF m c w)
def Sep(m:Mach)(c:Int)(w:List Int):Prop:= ∀ s,tb c s=true→ ∀ t:Nat,t<m.rows.length→t≠s→z05 m (t:Int) w≠z05 m (s:Int) w
def Good(m:Mach)(c:Int)(w:List Int):Prop:= ∀ s,tb c s=true→ ∀ t:Nat,t<m.rows.length→t≠s→z05 m (t:Int) w=z05 m (s:Int) w→z1s m (t:Int) w≠z1s m (s:Int) w
theorem Sep.good{m:Mach}{c:Int}{w:List Int}(h:Sep m c w):Good m c w:=fun s b t d a e=>absurd e (h s b t d a)
theorem znf{m:Mach}{w:List Int}{s t:Nat}:zzp m w s t=true↔ ∃ u:Nat,u<m.rows.length∧z05 m (u:Int) w=z05 m (s:Int) w∧z1s m (u:Int) w=(t:Int):=by
 unfold zzp
 rw [List.any_eq_true]
 constructor
 ·rintro⟨u,a,h⟩
  rw [Bool.and_eq_true,decide_eq_true_iff,decide_eq_true_iff] at h
  exact⟨u,List.mem_range.1 a,h.1,h.2⟩
 ·rintro⟨u,a,b,c⟩
  exact⟨u,List.mem_range.2 a,by rw [decide_eq_true b,decide_eq_true c];rfl⟩
section
variable {m : Mach} (hm : PM m)
include hm
theorem z3u{s:Nat}(d:s<m.rows.length){w:List Int}(c:WIn (nIn m) w):z1s m (s:Int) w=(z4f m w s:Int)∧z4f m w s<m.rows.length:=by
 have:=hm.toCM.aft (s:=(s:Int)) ⟨by omega,by omega⟩ c
 obtain⟨a,b⟩:=this
 unfold z4f
 omega
theorem z0s{s:Nat}(a:s<m.rows.length){w:List Int}(b:WIn (nIn m) w)(i:Int):z05 m (s:Int) (w++[i])=z05 m (s:Int) w++[(edI m (z4f m w s:Int) i).out]∧z1s m (s:Int) (w++[i])=(edI m (z4f m w s:Int) i).to:=by
 obtain⟨c,d⟩:=z3u hm a b
 rw [zav,z6a,c]
 have hI:InS m (z4f m w s:Int):=⟨by omega,by omega⟩
 exact⟨by rw [←zie hI];rfl,by rw [←zie hI];rfl⟩
theorem z5t{s t:Nat}(d:s<m.rows.length)(e:t<m.rows.length){w:List Int}(c:WIn (nIn m) w)(i:Int):z05 m (t:Int) (w++[i])=z05 m (s:Int) (w++[i])↔z05 m (t:Int) w=z05 m (s:Int) w∧(edI m (z4f m w t:Int) i).out=(edI m (z4f m w s:Int) i).out:=by
 rw [(z0s hm d c i).1,(z0s hm e c i).1]
 constructor
 ·intro h
  obtain⟨a,b⟩:=List.append_inj h (by rw [z5w,z5w])
  exact⟨a,(List.cons.inj b).1⟩
 ·rintro⟨a,b⟩;rw [a,b]
theorem z81{w:List Int}(b:WIn (nIn m) w){s t:Nat}:tb (zfy m w s) t=true↔ ∃ u:Nat,u<m.rows.length∧z05 m (u:Int) w=z05 m (s:Int) w∧z4f m w u=t:=by
 unfold zfy
 rw [z4s,Bool.and_eq_true,decide_eq_true_iff,znf]
 constructor
 ·rintro⟨h,u,a,c,d⟩
  exact⟨u,a,c,by have:=(z3u hm a b).1;omega⟩
 ·rintro⟨u,a,c,rfl⟩
  exact⟨(z3u hm a b).2,u,a,c,(z3u hm a b).1⟩
variable {c : Int} (hc : Cnt m c)
include hc
theorem Good.init{w:List Int}{i:Int}(a:WIn (nIn m) w)(h:Good m c (w++[i])):Good m c w:=fun s f t b d g j=>by
 have hs':=hc.in f
 have e:z4f m w t=z4f m w s:=by unfold z4f;rw [j]
 refine h s f t b d ((z5t hm hs' b a i).2 ⟨g,by rw [e]⟩) ?_
 rw [(z0s hm hs' a i).2,(z0s hm b a i).2,e]
theorem zzt:z0w 5000 (mkA 6 fun s=>if s<m.rows.length then pkn s (bmk (fun _=>true) m.rows.length) else 0) c=some (vw m c []):=by
 rw [zp1 (hc.le hm)]
 congr 1
 refine dn fun s e=>?_
 unfold vwF
 by_cases h:tb c s=true
 ·have hs':=hc.in h
  rw [if_pos h,if_pos h,if_pos hs']
  have a:z4f m [] s=s:=by show ((s:Int)).toNat=s;omega
  have b:zfy m [] s=bmk (fun _=>true) m.rows.length:=z94 fun t d=>znf.2 ⟨t,d,rfl,rfl⟩
  rw [a,b]
 ·rw [if_neg h,if_neg h]
theorem zl3{w:List Int}(g:WIn (nIn m) w)(K:Good m c w){i:Nat}(hi:i<nIn m): ∃ r v,z11 5000 m (vw m c w) (i:Int) c=some r∧z0w 5000 r.1 c=some v∧((r.2=false∧ ¬Good m c (w++[(i:Int)]))∨(r.2=true∧Good m c (w++[(i:Int)])∧v=vw m c (w++[(i:Int)]))):=by
 have L:=hm.pos
 obtain⟨r,H,p⟩:=zuj hm hc hi (cu:=fun s=>if tb c s=true then z4f m w s else 0) (X:=fun s=>if tb c s=true then zfy m w s else 0) (f:=vwF m c w)
  (fun s l=>by
   by_cases h:tb c s=true
   ·rw [if_pos h];exact(z3u hm l g).2
   ·rw [if_neg h];exact L)
  (fun s l=>by
   by_cases h:tb c s=true
   ·rw [if_pos h];exact z5h _ _
   ·rw [if_neg h]
    have:(0:Nat)<2^m.rows.length:=Nat.two_pow_pos _
    omega)
  (fun s l=>by
   unfold vwF
   by_cases h:tb c s=true
   ·rw [if_pos h,if_pos h,if_pos h]
   ·rw [if_neg h,if_neg h,if_neg h];rfl)
 have hlost: ∀ s t,z8o m c i s (if tb c s=true then z4f m w s else 0) (if tb c s=true then zfy m w s else 0) t=true→tb c s=true∧ ∃ u:Nat,u<m.rows.length∧u≠s∧z05 m (u:Int) (w++[(i:Int)])=z05 m (s:Int) (w++[(i:Int)])∧z1s m (u:Int) (w++[(i:Int)])=z1s m (s:Int) (w++[(i:Int)]):=fun s t h=>by
  unfold z8o at h
  rw [Bool.and_eq_true] at h
  obtain⟨h,d⟩:=h
  rw [if_pos d,if_pos d,Bool.and_eq_true,Bool.and_eq_true,Bool.and_eq_true,decide_eq_true_iff,decide_eq_true_iff] at h
  obtain⟨⟨M,z⟩,N,O⟩:=h
  have l:=hc.in d
  obtain⟨u,k,q,rfl⟩:=(z81 hm g).1 M
  unfold z1u at z
  rw [decide_eq_true_iff] at z
  refine⟨d,u,k,fun e=>O (by rw [e]),(z5t hm l k g _).2 ⟨q,z⟩,?_⟩
  rw [(z0s hm k g _).2,(z0s hm l g _).2]
  have x:=(hm.toCM.tgt (z3u hm k g).2 hi).2
  have I:=(hm.toCM.tgt (z3u hm l g).2 hi).2
  rw [x,I,N]
 rcases p with⟨p,s,t,l,o,P⟩|⟨p,Q⟩
 ·obtain⟨d,u,k,A,q,B⟩:=hlost s t P
  obtain⟨Y,b⟩:=r
  obtain⟨v,R⟩: ∃ v,z0w 5000 Y c=some v:=by
   have:Y=mkA 6 fun s=>Y.1.getD s default:=by
    refine Subtype.ext ?_
    apply List.ext_getElem?
    intro j
    show Y.1[j]? =((List.range 6).map fun s=>Y.1.getD s default)[j]?
    rw [List.getElem?_map]
    by_cases hj:j<6
    ·rw [List.getElem?_range hj,List.getElem?_eq_getElem (by rw [Y.2];exact hj)]
     simp [List.getD_eq_getElem?_getD,List.getElem?_eq_getElem (show j<Y.1.length by rw [Y.2];exact hj)]
    ·rw [List.getElem?_eq_none (by rw [Y.2];omega),List.getElem?_eq_none (by simp;omega)];rfl
   rw [this,zp1 (hc.le hm)];exact⟨_,rfl⟩
  exact⟨_,v,H,R,.inl ⟨p,fun C=>C s d u k A q B⟩⟩
 ·subst p
  have C:Good m c (w++[(i:Int)]):=fun s d t o D S J=>by
   have l:=hc.in d
   obtain⟨y,E⟩:=(z5t hm l o g _).1 S
   have F:=K s d t o D y
   rw [(z0s hm o g _).2,(z0s hm l g _).2] at J
   have hcur:=z3u hm o g
   have n:=z3u hm l g
   have:=Q s (z4f m w t) l hcur.2
   unfold z8o at this
   rw [if_pos d,if_pos d,d,Bool.and_true,(z81 hm g).2 ⟨t,o,y,rfl⟩] at this
   have T:z1u m i (z4f m w s) (z4f m w t)=true:=decide_eq_true E
   rw [T,decide_eq_true (show z4f m w t≠z4f m w s from fun e=>F (by rw [hcur.1,n.1,e]))] at this
   have x:=(hm.toCM.tgt hcur.2 hi).2
   have I:=(hm.toCM.tgt n.2 hi).2
   rw [decide_eq_true (show tgt m (z4f m w t) i=tgt m (z4f m w s) i by omega)] at this
   cases this
  refine⟨_,_,H,zp1 (hc.le hm),.inr ⟨rfl,C,?_⟩⟩
  refine dn fun s l=>?_
  unfold vwF
  by_cases h:tb c s=true
  ·have hs':=hc.in h
   have hcur:=z3u hm hs' g
   rw [if_pos h,if_pos h,if_pos h,if_pos hs',if_pos h]
   have y:tgt m (z4f m w s) i=z4f m (w++[(i:Int)]) s:=by
    have x:=(hm.toCM.tgt hcur.2 hi).2
    show _=(z1s m (s:Int) (w++[(i:Int)])).toNat
    rw [(z0s hm hs' g _).2,x];omega
   have E:zbk m (zfy m w s) i (z1u m i (z4f m w s))=zfy m (w++[(i:Int)]) s:=by
    refine zvz (zqf _ _ _ _).1 (z5h _ _).1 fun t=>?_
    rw [Bool.eq_iff_iff,zu0 hm.toCM hi,z81 hm (g.snoc (by omega) (by omega))]
    constructor
    ·rintro⟨a,J,q,B,rfl⟩
     obtain⟨u,k,G,rfl⟩:=(z81 hm g).1 q
     refine⟨u,k,(z5t hm hs' k g _).2 ⟨G,of_decide_eq_true B⟩,?_⟩
     show (z1s m (u:Int) (w++[(i:Int)])).toNat=_
     rw [(z0s hm k g _).2];rfl
    ·rintro⟨u,k,G,rfl⟩
     obtain⟨U,V⟩:=(z5t hm hs' k g _).1 G
     refine⟨z4f m w u,(z3u hm k g).2,(z81 hm g).2 ⟨u,k,U,rfl⟩,decide_eq_true V,?_⟩
     show _=(z1s m (u:Int) (w++[(i:Int)])).toNat
     rw [(z0s hm k g _).2];rfl
   rw [y,E]
  ·rw [if_neg h,if_neg h]
theorem zrf{w:List Int}(f:WIn (nIn m) w)(p:Good m c w): ∃ b,z19 5000 (vw m c w) c=some b∧(b=true↔Sep m c w):=by
 have q:=hm.r6
 have hset: ∀ s,0≤zfy m w s∧zfy m w s<256:=fun s=>zcw q
 have hval: ∀ s,0≤vwF m c w s∧vwF m c w s≤65535:=fun s=>by
  unfold vwF
  by_cases h:tb c s=true
  ·rw [if_pos h]
   have:=(z3u hm (hc.in h) f).2
   exact zto (by omega) (hset s)
  ·rw [if_neg h];omega
 refine⟨_,zxd (hc.le hm) fun s _=>hval s,?_⟩
 rw [List.all_eq_true]
 have hlow: ∀ s,tb c s=true→z0j (vwF m c w s) 255=zfy m w s:=fun s h=>by
  unfold vwF
  rw [if_pos h]
  have:=(z3u hm (hc.in h) f).2
  exact zx4 (by omega) (hset s)
 constructor
 ·intro h s d t g i n
  have j:=hc.in d
  have o:=h s (List.mem_range.2 (by omega))
  rw [d,Bool.true_and,Bool.not_eq_true',decide_eq_false_iff_not,hlow s d,zg6 (by have:=hset s;omega)] at o
  refine o ⟨z4f m w t,z4f m w s,fun e=>p s d t g i n ?_,(z81 hm f).2 ⟨t,g,n,rfl⟩,(z81 hm f).2 ⟨s,j,rfl,rfl⟩⟩
  rw [(z3u hm g f).1,(z3u hm j f).1,e]
 ·intro h s j
  cases d:tb c s with
  |false=>rfl
  |true=>
   rw [Bool.true_and,Bool.not_eq_true',decide_eq_false_iff_not,hlow s d,zg6 (by have:=hset s;omega)]
   rintro⟨a,b,k,l,r⟩
   have one: ∀ a,tb (zfy m w s) a=true→a=z4f m w s:=fun a l=>by
    obtain⟨u,v,x,rfl⟩:=(z81 hm f).1 l
    by_cases e:u=s
    ·rw [e]
    ·exact absurd x (h s d u v e)
   exact k ((one a l).trans (one b r).symm)
end
/-! ### as a search-/
def nxV(m:Mach)(c:Int)(x:Option (Arr 6 Int))(i:Int):Option (Arr 6 Int):=match x with
 |none=>none
 |some v=>match z11 5000 m v i c with
  |some (v',true)=>z0w 5000 v' c
  |_=>none
def isV(c:Int)(x:Option (Arr 6 Int)):Bool:=match x with
 |none=>false
 |some v=>decide (z19 5000 v c=some true)
section
variable {m : Mach} (hm : PM m) {c : Int} (hc : Cnt m c)
include hm hc
theorem zrq{w:List Int}(f:WIn (nIn m) w)(g:Good m c w){i:Nat}(hi:i<nIn m):(Good m c (w++[(i:Int)])→nxV m c (some (vw m c w)) (i:Int)=some (vw m c (w++[(i:Int)])))∧(¬Good m c (w++[(i:Int)])→nxV m c (some (vw m c w)) (i:Int)=none):=by
 obtain⟨⟨Y,b⟩,v,j,k,a⟩:=zl3 hm hc f g hi
 have e:nxV m c (some (vw m c w)) (i:Int)=match z11 5000 m (vw m c w) (i:Int) c with
  |some (v',true)=>z0w 5000 v' c
  |_=>none:=rfl
 rw [e,j]
 rcases a with⟨a,d⟩|⟨a,d,l⟩
 ·have a:b=false:=a
  subst a
  exact⟨fun h=>absurd h d,fun _=>rfl⟩
 ·have a:b=true:=a
  subst a;subst l
  exact⟨fun _=>k,fun h=>absurd d h⟩
theorem zpl: ∀ (n:Nat) (w:List Int),w.length=n→WIn (nIn m) w→(Good m c w→runT (nxV m c) (some (vw m c [])) w=some (vw m c w))∧(¬Good m c w→runT (nxV m c) (some (vw m c [])) w=none)
 |0,w,e,g=>by
  obtain rfl:=List.length_eq_zero_iff.1 e
  exact⟨fun _=>rfl,fun h=>absurd (fun s o t p f q k=>f (by
   have:(t:Int)=(s:Int):=k
   omega)) h⟩
 |n+1,w,e,g=>by
  obtain⟨v,i,rfl,l⟩:=zkh e
  obtain⟨d,r,u⟩:=g.init
  obtain⟨j,rfl⟩: ∃ j:Nat,i=(j:Int):=⟨i.toNat,by omega⟩
  obtain⟨a,b⟩:=zpl n v l d
  rw [z4d]
  by_cases hg:Good m c v
  ·rw [a hg]
   exact zrq hm hc d hg (by omega)
  ·rw [b hg]
   exact⟨fun h=>absurd (Good.init hm hc d h) hg,fun _=>rfl⟩
theorem zv6{w:List Int}(e:WIn (nIn m) w):isV c (runT (nxV m c) (some (vw m c [])) w)=true↔Sep m c w:=by
 obtain⟨a,b⟩:=zpl hm hc _ w rfl e
 by_cases hg:Good m c w
 ·rw [a hg]
  obtain⟨d,f,g⟩:=zrf hm hc e hg
  show decide (z19 5000 (vw m c w) c=some true)=true↔_
  rw [f,decide_eq_true_iff,←g]
  exact⟨Option.some.inj,fun h=>by rw [h]⟩
 ·rw [b hg]
  exact⟨fun h=>(nomatch h),fun h=>absurd h.good hg⟩
end
end GV
end Go.Proofs.Ytnnobdkjgafdmaa
