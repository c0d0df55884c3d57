import Derived.Test.YtnnobdkjgafdmaaVw15b
set_option linter.unusedVariables false
set_option linter.unusedSimpArgs false
set_option linter.unusedSectionVars false
namespace Go.Proofs.Ytnnobdkjgafdmaa
namespace GV
set_option maxRecDepth 100000
def z7v(m:Mach)(w:List Int)(s:Nat):Nat:=(z2s m (s:Int) w).toNat
def q9d(m:Mach)(w:List Int)(s t:Nat):Bool:=(List.range m.rows.length).any fun(u:Nat)=>decide (z1p m (u:Int) w=z1p m (s:Int) w)&&decide (z2s m (u:Int) w=(t:Int))
def zko(m:Mach)(w:List Int)(s:Nat):Int:=bmk (q9d m w s) m.rows.length
def vwF(m:Mach)(c:Int)(w:List Int)(s:Nat):Int:=if tb c s=true then pkn (z7v m w s) (zko m w s) else 0
def vw(m:Mach)(c:Int)(w:List Int):Arr 6 Int:=mkA 6 (vwF m c w)
def Sep(m:Mach)(c:Int)(w:List Int):Prop:= ∀ s,tb c s=true→ ∀ t:Nat,t<m.rows.length→t≠s→z1p m (t:Int) w≠z1p m (s:Int) w
def Good(m:Mach)(c:Int)(w:List Int):Prop:= ∀ s,tb c s=true→ ∀ t:Nat,t<m.rows.length→t≠s→z1p m (t:Int) w=z1p m (s:Int) w→z2s m (t:Int) w≠z2s m (s:Int) w
theorem Sep.good{m:Mach}{c:Int}{w:List Int}(h:Sep m c w):Good m c w:=fun s a t b hts d=>absurd d (h s a t b hts)
theorem zrs{m:Mach}{w:List Int}{s t:Nat}:q9d m w s t=true↔ ∃ u:Nat,u<m.rows.length∧z1p m (u:Int) w=z1p m (s:Int) w∧z2s m (u:Int) w=(t:Int):=by
 unfold q9d
 rw [List.any_eq_true]
 constructor
 ·rintro⟨u,a,h⟩
  rw [Bool.and_eq_true,decide_eq_true_iff,decide_eq_true_iff] at h
  exact⟨u,List.mem_range.1 a,h.1,h.2⟩
 ·rintro⟨u,a,b,c⟩
  exact⟨u,List.mem_range.2 a,by rw [decide_eq_true b,decide_eq_true c];rfl⟩
section
variable {m : Mach} (hm : PM m)
include hm
theorem z7h{s:Nat}(d:s<m.rows.length){w:List Int}(c:WIn (nIn m) w):z2s m (s:Int) w=(z7v m w s:Int)∧z7v m w s<m.rows.length:=by
 have:=hm.toCM.aft (s:=(s:Int)) ⟨by omega,by omega⟩ c
 obtain⟨a,b⟩:=this
 unfold z7v
 omega
theorem z3d{s:Nat}(a:s<m.rows.length){w:List Int}(b:WIn (nIn m) w)(i:Int):z1p m (s:Int) (w++[i])=z1p m (s:Int) w++[(edI m (z7v m w s:Int) i).out]∧z2s m (s:Int) (w++[i])=(edI m (z7v m w s:Int) i).to:=by
 obtain⟨c,d⟩:=z7h hm a b
 rw [zk8,zbm,c]
 have hI:InS m (z7v m w s:Int):=⟨by omega,by omega⟩
 exact⟨by rw [←zm9 hI];rfl,by rw [←zm9 hI];rfl⟩
theorem z9k{s t:Nat}(d:s<m.rows.length)(e:t<m.rows.length){w:List Int}(c:WIn (nIn m) w)(i:Int):z1p m (t:Int) (w++[i])=z1p m (s:Int) (w++[i])↔z1p m (t:Int) w=z1p m (s:Int) w∧(edI m (z7v m w t:Int) i).out=(edI m (z7v m w s:Int) i).out:=by
 rw [(z3d hm d c i).1,(z3d hm e c i).1]
 constructor
 ·intro h
  obtain⟨a,b⟩:=List.append_inj h (by rw [zel,zel])
  exact⟨a,(List.cons.inj b).1⟩
 ·rintro⟨a,b⟩;rw [a,b]
theorem zbt{w:List Int}(b:WIn (nIn m) w){s t:Nat}:tb (zko m w s) t=true↔ ∃ u:Nat,u<m.rows.length∧z1p m (u:Int) w=z1p m (s:Int) w∧z7v m w u=t:=by
 unfold zko
 rw [z8h,Bool.and_eq_true,decide_eq_true_iff,zrs]
 constructor
 ·rintro⟨h,u,a,c,d⟩
  exact⟨u,a,c,by have:=(z7h hm a b).1;omega⟩
 ·rintro⟨u,a,c,rfl⟩
  exact⟨(z7h hm a b).2,u,a,c,(z7h hm a b).1⟩
variable {c : Int} (hc : Cnt m c)
include hc
theorem Good.init{w:List Int}{i:Int}(a:WIn (nIn m) w)(h:Good m c (w++[i])):Good m c w:=fun s d t b hts f g=>by
 have hs':=hc.in d
 have e:z7v m w t=z7v m w s:=by unfold z7v;rw [g]
 refine h s d t b hts ((z9k hm hs' b a i).2 ⟨f,by rw [e]⟩) ?_
 rw [(z3d hm hs' a i).2,(z3d hm b a i).2,e]
theorem q8d:z3g 5000 (mkA 6 fun s=>if s<m.rows.length then pkn s (bmk (fun _=>true) m.rows.length) else 0) c=some (vw m c []):=by
 rw [zwv (hc.le hm)]
 congr 1
 refine iq fun s e=>?_
 unfold vwF
 by_cases h:tb c s=true
 ·have hs':=hc.in h
  rw [if_pos h,if_pos h,if_pos hs']
  have a:z7v m [] s=s:=by show ((s:Int)).toNat=s;omega
  have b:zko m [] s=bmk (fun _=>true) m.rows.length:=zcd fun t d=>zrs.2 ⟨t,d,rfl,rfl⟩
  rw [a,b]
 ·rw [if_neg h,if_neg h]
theorem zqu{w:List Int}(g:WIn (nIn m) w)(J:Good m c w){i:Nat}(hi:i<nIn m): ∃ r v,z3y 5000 m (vw m c w) (i:Int) c=some r∧z3g 5000 r.1 c=some v∧((r.2=false∧ ¬Good m c (w++[(i:Int)]))∨(r.2=true∧Good m c (w++[(i:Int)])∧v=vw m c (w++[(i:Int)]))):=by
 have K:=hm.pos
 obtain⟨r,G,p⟩:=q44 hm hc hi (cu:=fun s=>if tb c s=true then z7v m w s else 0) (X:=fun s=>if tb c s=true then zko m w s else 0) (f:=vwF m c w)
  (fun s l=>by
   by_cases h:tb c s=true
   ·rw [if_pos h];exact(z7h hm l g).2
   ·rw [if_neg h];exact K)
  (fun s l=>by
   by_cases h:tb c s=true
   ·rw [if_pos h];exact z9c _ _
   ·rw [if_neg h]
    have:(0:Nat)<2^m.rows.length:=Nat.two_pow_pos _
    omega)
  (fun s l=>by
   unfold vwF
   by_cases h:tb c s=true
   ·rw [if_pos h,if_pos h,if_pos h]
   ·rw [if_neg h,if_neg h,if_neg h];rfl)
 have hlost: ∀ s t,zcu m c i s (if tb c s=true then z7v m w s else 0) (if tb c s=true then zko m w s else 0) t=true→tb c s=true∧ ∃ u:Nat,u<m.rows.length∧u≠s∧z1p m (u:Int) (w++[(i:Int)])=z1p m (s:Int) (w++[(i:Int)])∧z2s m (u:Int) (w++[(i:Int)])=z2s m (s:Int) (w++[(i:Int)]):=fun s t h=>by
  unfold zcu at h
  rw [Bool.and_eq_true] at h
  obtain⟨h,d⟩:=h
  rw [if_pos d,if_pos d,Bool.and_eq_true,Bool.and_eq_true,Bool.and_eq_true,decide_eq_true_iff,decide_eq_true_iff] at h
  obtain⟨⟨L,z⟩,M,N⟩:=h
  have l:=hc.in d
  obtain⟨u,k,q,rfl⟩:=(zbt hm g).1 L
  unfold z4w at z
  rw [decide_eq_true_iff] at z
  refine⟨d,u,k,fun e=>N (by rw [e]),(z9k hm l k g _).2 ⟨q,z⟩,?_⟩
  rw [(z3d hm k g _).2,(z3d hm l g _).2]
  have x:=(hm.toCM.tgt (z7h hm k g).2 hi).2
  have H:=(hm.toCM.tgt (z7h hm l g).2 hi).2
  rw [x,H,M]
 rcases p with⟨p,s,t,l,o,O⟩|⟨p,P⟩
 ·obtain⟨d,u,k,A,q,B⟩:=hlost s t O
  obtain⟨Y,b⟩:=r
  obtain⟨v,Q⟩: ∃ v,z3g 5000 Y c=some v:=by
   have:Y=mkA 6 fun s=>Y.1.getD s default:=by
    refine Subtype.ext ?_
    apply List.ext_getElem?
    intro j
    show Y.1[j]? =((List.range 6).map fun s=>Y.1.getD s default)[j]?
    rw [List.getElem?_map]
    by_cases hj:j<6
    ·rw [List.getElem?_range hj,List.getElem?_eq_getElem (by rw [Y.2];exact hj)]
     simp [List.getD_eq_getElem?_getD,List.getElem?_eq_getElem (show j<Y.1.length by rw [Y.2];exact hj)]
    ·rw [List.getElem?_eq_none (by rw [Y.2];omega),List.getElem?_eq_none (by simp;omega)];rfl
   rw [this,zwv (hc.le hm)];exact⟨_,rfl⟩
  exact⟨_,v,G,Q,.inl ⟨p,fun C=>C s d u k A q B⟩⟩
 ·subst p
  have C:Good m c (w++[(i:Int)]):=fun s d t o hts R I=>by
   have l:=hc.in d
   obtain⟨y,D⟩:=(z9k hm l o g _).1 R
   have E:=J s d t o hts y
   rw [(z3d hm o g _).2,(z3d hm l g _).2] at I
   have hcur:=z7h hm o g
   have n:=z7h hm l g
   have:=P s (z7v m w t) l hcur.2
   unfold zcu at this
   rw [if_pos d,if_pos d,d,Bool.and_true,(zbt hm g).2 ⟨t,o,y,rfl⟩] at this
   have S:z4w m i (z7v m w s) (z7v m w t)=true:=decide_eq_true D
   rw [S,decide_eq_true (show z7v m w t≠z7v m w s from fun e=>E (by rw [hcur.1,n.1,e]))] at this
   have x:=(hm.toCM.tgt hcur.2 hi).2
   have H:=(hm.toCM.tgt n.2 hi).2
   rw [decide_eq_true (show tgt m (z7v m w t) i=tgt m (z7v m w s) i by omega)] at this
   cases this
  refine⟨_,_,G,zwv (hc.le hm),.inr ⟨rfl,C,?_⟩⟩
  refine iq fun s l=>?_
  unfold vwF
  by_cases h:tb c s=true
  ·have hs':=hc.in h
   have hcur:=z7h hm hs' g
   rw [if_pos h,if_pos h,if_pos h,if_pos hs',if_pos h]
   have y:tgt m (z7v m w s) i=z7v m (w++[(i:Int)]) s:=by
    have x:=(hm.toCM.tgt hcur.2 hi).2
    show _=(z2s m (s:Int) (w++[(i:Int)])).toNat
    rw [(z3d hm hs' g _).2,x];omega
   have D:zg7 m (zko m w s) i (z4w m i (z7v m w s))=zko m (w++[(i:Int)]) s:=by
    refine q3v (zxa _ _ _ _).1 (z9c _ _).1 fun t=>?_
    rw [Bool.eq_iff_iff,q2d hm.toCM hi,zbt hm (g.snoc (by omega) (by omega))]
    constructor
    ·rintro⟨a,I,q,B,rfl⟩
     obtain⟨u,k,F,rfl⟩:=(zbt hm g).1 q
     refine⟨u,k,(z9k hm hs' k g _).2 ⟨F,of_decide_eq_true B⟩,?_⟩
     show (z2s m (u:Int) (w++[(i:Int)])).toNat=_
     rw [(z3d hm k g _).2];rfl
    ·rintro⟨u,k,F,rfl⟩
     obtain⟨T,U⟩:=(z9k hm hs' k g _).1 F
     refine⟨z7v m w u,(z7h hm k g).2,(zbt hm g).2 ⟨u,k,T,rfl⟩,decide_eq_true U,?_⟩
     show _=(z2s m (u:Int) (w++[(i:Int)])).toNat
     rw [(z3d hm k g _).2];rfl
   rw [y,D]
  ·rw [if_neg h,if_neg h]
theorem zxw{w:List Int}(f:WIn (nIn m) w)(o:Good m c w): ∃ b,z3t 5000 (vw m c w) c=some b∧(b=true↔Sep m c w):=by
 have p:=hm.r6
 have hset: ∀ s,0≤zko m w s∧zko m w s<256:=fun s=>ziv p
 have hval: ∀ s,0≤vwF m c w s∧vwF m c w s≤65535:=fun s=>by
  unfold vwF
  by_cases h:tb c s=true
  ·rw [if_pos h]
   have:=(z7h hm (hc.in h) f).2
   exact q1b (by omega) (hset s)
  ·rw [if_neg h];omega
 refine⟨_,q6o (hc.le hm) fun s _=>hval s,?_⟩
 rw [List.all_eq_true]
 have hlow: ∀ s,tb c s=true→z2t (vwF m c w s) 255=zko m w s:=fun s h=>by
  unfold vwF
  rw [if_pos h]
  have:=(z7h hm (hc.in h) f).2
  exact q6h (by omega) (hset s)
 constructor
 ·intro h s d t g hts l
  have i:=hc.in d
  have n:=h s (List.mem_range.2 (by omega))
  rw [d,Bool.true_and,Bool.not_eq_true',decide_eq_false_iff_not,hlow s d,zfv (by have:=hset s;omega)] at n
  refine n ⟨z7v m w t,z7v m w s,fun e=>o s d t g hts l ?_,(zbt hm f).2 ⟨t,g,l,rfl⟩,(zbt hm f).2 ⟨s,i,rfl,rfl⟩⟩
  rw [(z7h hm g f).1,(z7h hm i f).1,e]
 ·intro h s i
  cases d:tb c s with
  |false=>rfl
  |true=>
   rw [Bool.true_and,Bool.not_eq_true',decide_eq_false_iff_not,hlow s d,zfv (by have:=hset s;omega)]
   rintro⟨a,b,j,k,q⟩
   have one: ∀ a,tb (zko m w s) a=true→a=z7v m w s:=fun a k=>by
    obtain⟨u,r,v,rfl⟩:=(zbt hm f).1 k
    by_cases e:u=s
    ·rw [e]
    ·exact absurd v (h s d u r e)
   exact j ((one a k).trans (one b q).symm)
end
/-! ### as a search-/
def nxV(m:Mach)(c:Int)(x:Option (Arr 6 Int))(i:Int):Option (Arr 6 Int):=match x with
 |none=>none
 |some v=>match z3y 5000 m v i c with
  |some (v',true)=>z3g 5000 v' c
  |_=>none
def isV(c:Int)(x:Option (Arr 6 Int)):Bool:=match x with
 |none=>false
 |some v=>decide (z3t 5000 v c=some true)
section
variable {m : Mach} (hm : PM m) {c : Int} (hc : Cnt m c)
include hm hc
theorem zyj{w:List Int}(f:WIn (nIn m) w)(g:Good m c w){i:Nat}(hi:i<nIn m):(Good m c (w++[(i:Int)])→nxV m c (some (vw m c w)) (i:Int)=some (vw m c (w++[(i:Int)])))∧(¬Good m c (w++[(i:Int)])→nxV m c (some (vw m c w)) (i:Int)=none):=by
 obtain⟨⟨Y,b⟩,v,j,k,a⟩:=zqu hm hc f g hi
 have e:nxV m c (some (vw m c w)) (i:Int)=match z3y 5000 m (vw m c w) (i:Int) c with
  |some (v',true)=>z3g 5000 v' c
  |_=>none:=rfl
 rw [e,j]
 rcases a with⟨a,d⟩|⟨a,d,l⟩
 ·have a:b=false:=a
  subst a
  exact⟨fun h=>absurd h d,fun _=>rfl⟩
 ·have a:b=true:=a
  subst a;subst l
  exact⟨fun _=>k,fun h=>absurd d h⟩
theorem zw4: ∀ (n:Nat) (w:List Int),w.length=n→WIn (nIn m) w→(Good m c w→runT (nxV m c) (some (vw m c [])) w=some (vw m c w))∧(¬Good m c w→runT (nxV m c) (some (vw m c [])) w=none)
 |0,w,e,f=>by
  obtain rfl:=List.length_eq_zero_iff.1 e
  exact⟨fun _=>rfl,fun h=>absurd (fun s l t o hts p g=>hts (by
   have:(t:Int)=(s:Int):=g
   omega)) h⟩
 |n+1,w,e,f=>by
  obtain⟨v,i,rfl,k⟩:=zpt e
  obtain⟨d,q,r⟩:=f.init
  obtain⟨j,rfl⟩: ∃ j:Nat,i=(j:Int):=⟨i.toNat,by omega⟩
  obtain⟨a,b⟩:=zw4 n v k d
  rw [z7n]
  by_cases hg:Good m c v
  ·rw [a hg]
   exact zyj hm hc d hg (by omega)
  ·rw [b hg]
   exact⟨fun h=>absurd (Good.init hm hc d h) hg,fun _=>rfl⟩
theorem q1d{w:List Int}(e:WIn (nIn m) w):isV c (runT (nxV m c) (some (vw m c [])) w)=true↔Sep m c w:=by
 obtain⟨a,b⟩:=zw4 hm hc _ w rfl e
 by_cases hg:Good m c w
 ·rw [a hg]
  obtain⟨d,f,g⟩:=zxw hm hc e hg
  show decide (z3t 5000 (vw m c w) c=some true)=true↔_
  rw [f,decide_eq_true_iff,←g]
  exact⟨Option.some.inj,fun h=>by rw [h]⟩
 ·rw [b hg]
  exact⟨fun h=>(nomatch h),fun h=>absurd h.good hg⟩
end
end GV
end Go.Proofs.Ytnnobdkjgafdmaa
