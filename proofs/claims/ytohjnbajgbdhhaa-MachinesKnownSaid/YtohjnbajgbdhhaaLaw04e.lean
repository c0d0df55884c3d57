
import Derived.Test.YtohjnbajgbdhhaaSpec04e
set_option linter.unusedVariables false
set_option linter.unusedSimpArgs false
namespace Go.Proofs.Ytohjnbajgbdhhaa
namespace GV
set_option maxRecDepth 100000
theorem z2a:vk 2000=some true:=by decide+kernel
theorem z6d(m:Mach):(⟨m.inputs,m.outputs,m.rows⟩:Mach)=m:=rfl
theorem z4p{x:MDat}(a:MDOk x):Small (mOf x):=(z8v a).small
theorem zf5(m:Mach)(a:MOk m): ∀ k,k≤m.rows.length→z5y m k≤m.inputs.toNat*k
 |0,_=>by simp [z5y]
 |k+1,h=>by
  have b:=zf5 m a k (by omega)
  have c:=a.row k (by omega)
  have d:=zbg (m.rows.getD k default) (m.rows.getD k default).length
  rw [z6l m k (by omega),Nat.mul_succ]
  omega
theorem zft{m:Mach}(h: ¬z3c m=1):z3c m=0:=by
 unfold z3c at h⊢
 split at h
 ·exact absurd rfl h
 ·rename_i h';exact if_neg h'
theorem zhu{m:Mach}(a:MOk m){k i:Nat}(b:k<m.rows.length)(hi:i<(m.rows.getD k default).length)(c:((m.rows.getD k default).getD i default).to<0): ∀ j,k<j→j≤m.rows.length→z5y m j<m.inputs.toNat*j
 |0,h,_=>by omega
 |j+1,h,g=>by
  have hrow:=a.row j (by omega)
  have l:=zbg (m.rows.getD j default) (m.rows.getD j default).length
  rw [z6l m j (by omega),Nat.mul_succ]
  by_cases e:k=j
  ·subst e
   have n:z5y m k≤m.inputs.toNat*k:=zf5 m a k (by omega)
   have o:z97 (m.rows.getD k default) (m.rows.getD k default).length<(m.rows.getD k default).length:=by
    unfold z97
    rw [List.take_length]
    refine Nat.lt_of_le_of_ne List.countP_le_length fun d=>?_
    have f:=List.countP_eq_length.1 d _ (z0i hi)
    exact absurd (of_decide_eq_true f) (by omega)
   omega
  ·have:=zhu a b hi c j (by omega) (by omega)
   omega
theorem zjk{m:Mach}(a:MOk m)(h:z5g m=true){k i:Nat}(b:k<m.rows.length)(hi:i<(m.rows.getD k default).length):0≤((m.rows.getD k default).getD i default).to:=by
 by_cases hn:((m.rows.getD k default).getD i default).to<0
 ·have e:=zhu a b hi hn m.rows.length b (Nat.le_refl _)
  unfold z5g at h
  have c:=of_decide_eq_true h
  rw [a.mul.2] at c
  have d:zct m=m.rows.length*m.inputs.toNat:=Int.ofNat.inj c
  unfold zct at d
  rw [Nat.mul_comm] at d
  omega
 ·omega
theorem zbh{m:Mach}(a:MOk m)(h:z5g m=true){s i:Int}(c:0≤s∧s<m.rows.length)(hi:0≤i∧i<m.inputs):(0≤(fo m s i).to∧(fo m s i).to<m.rows.length)∧0≤(fo m s i).out:=by
 have hrow:=a.row s.toNat (by omega)
 have d:=zjk a h (k:=s.toNat) (i:=i.toNat) (by omega) (by omega)
 have b:=a.edge s.toNat i.toNat (by omega) (by omega)
 unfold fo
 rw [if_neg (by omega)]
 rcases b with b|b<;>omega
theorem zdn{m:Mach}(b:MOk m)(h:z5g m=true): ∀ (s:Int) (w:List Int),(0≤s∧s<m.rows.length)→WOk m.inputs w→(0≤af m s w∧af m s w<m.rows.length)
 |s,[],a,_=>a
 |s,i::w,a,c=>zdn b h _ w (zbh b h a (by simpa using c 0 (by simp))).1 (fun k d=>by simpa using c (k+1) (by simpa using d))
theorem zjh{m:Mach}(a:MOk m){s:Int}{w:List Int}{k:Nat}(c:0≤s∧s<m.rows.length)(b:WOk m.inputs w)(d:k<w.length)(f:(fo m (af m s (w.take k)) (w.getD k default)).out<0):z5g m=false:=by
 cases h:z5g m
 ·rfl
 ·have e:=zdn a h s (w.take k) c (z9t b k)
  have g:=(zbh a h e (b k d)).2
  omega
theorem zkm{x y:MDat}{raw:Mach}(k:MDOk x)(l:MDOk y):mi 2000 x y raw=some true:=by
 unfold mi
 rw [qf (zf0 (by decide))]
 by_cases hg:z3c raw=1
 ·rw [nk hg]
 ·rw [dx hg]
  have g:Small raw:=(zay (zft hg)).1
  have f:=z4p k
  have n:=z4p l
  have d:=z8v k
  rw [qf (z95 k (by decide)),qf (z95 l (by decide))]
  simp only [z6d]
  have o:Small (⟨(mOf x).inputs,(mOf x).outputs+1,(mOf x).rows⟩:Mach):=⟨f.r,f.c⟩
  have i: ∀ a b:Mach,MOk a→z6j a b=decide (a=b):=fun a b p=>by
   cases e:z6j a b
   ·rw [eq_comm,decide_eq_false_iff_not];intro q;have:=(z2t a b).2 ⟨p,q⟩;rw [e] at this;cases this
   ·rw [eq_comm,decide_eq_true_eq];exact((z2t a b).1 e).2
  rw [qf (z3a f n (by decide)),qf (z6g f (by decide)),dw (fun _=>z3a n f (by decide)),dw (fun _=>z6g f (by decide)),dw (fun _=>z3a f f (by decide)),i _ _ d,i _ _ (z8v l),i _ _ d]
  have s:decide (mOf y=mOf x)=decide (mOf x=mOf y):=by
   by_cases e:mOf x=mOf y
   ·rw [decide_eq_true e,decide_eq_true e.symm]
   ·rw [decide_eq_false e,decide_eq_false (fun h=>e h.symm)]
  rw [s]
  have u:=d.o2
  have t:=d.o1
  rw [cf (by simp),zu (jc (by omega)),qf (z3a f o (by decide)),i _ _ d]
  have m: ¬(mOf x=(⟨(mOf x).inputs,(mOf x).outputs+1,(mOf x).rows⟩:Mach)):=fun e=>by
   have:=congrArg Mach.outputs e
   simp only at this
   omega
  rw [decide_eq_false m,dw (fun _=>z3a f g (by decide)),dw (fun _=>z6g f (by decide)),dw (fun _=>zar g (by decide)),dw (fun _=>z3a g g (by decide)),dw (fun _=>z2a),i _ _ d]
  have j:decide (u7 raw=0)=z6j raw raw:=by
   by_cases e:u7 raw=0
   ·rw [decide_eq_true e,(z2t raw raw).2 ⟨(oz raw).1 e,rfl⟩]
   ·rw [decide_eq_false e]
    cases h:z6j raw raw
    ·rfl
    ·exact absurd ((oz raw).2 ((z2t raw raw).1 h).1) e
  simp only [Bool.not_false,Bool.true_and,beq_true,cond_true,Option.getD_some,decide_true]
  cases e:z6j raw raw
  ·rw [e] at j;rw [j];simp
  ·rw [e] at j;rw [j];simp
theorem zmq{x:MDat}{y:WDat}{f:Int}(o:MDOk x)(v:WDOk y)(z:0≤f∧f≤255):o9 2000 x y f=some true:=by
 have a:=z8v o
 have c:=z4p o
 have g:=zgr (x:=y) (n:=(mOf x).inputs) a.i1
 have A:=a.r1
 have B:=a.r2
 unfold o9
 rw [qf (z95 o (by decide)),qf (zga v a.i1 (by decide)),zu (jc (by omega)),zu ⟨z.1,by omega⟩]
 simp only [z6d]
 generalize hm:mOf x=m at*
 generalize hwe:wOf y m.inputs=w at*
 have i:0≤f%(m.rows.length:Int)∧f%(m.rows.length:Int)<m.rows.length:=⟨Int.emod_nonneg _ (by omega),Int.emod_lt_of_pos _ (by omega)⟩
 generalize f%(m.rows.length:Int)=s at*
 have d:=z6i a i
 have e:=zdd a.i1 a.i2 g.1 (by omega)
 have C:zej m s w=aa m s w:=by unfold zej;rw [if_neg (by rw [d];simp),if_neg (by rw [e];simp)]
 have D:zf6 m s w=af m s w:=by unfold zf6;rw [if_neg (by rw [d];simp),if_neg (by rw [e];simp)]
 have E:z8u m s w=0:=by unfold z8u;rw [if_neg (by rw [d];simp),e]
 have G:=z07 m s w
 rw [qf (zcg c (by decide) (by omega) (by omega)),qf (z7o c (by decide) (by omega) (by omega)),C,D,E,dw (fun _=>zi1 a (.inr i) g.1 (by omega) (by omega)),dw (fun _=>ze2 (show (aa m s w).length<2000 by omega) (show (aa m s w).length≤_ by omega)),dw (fun _=>zeb a 2000 s w (.inr i) g.1 (by omega))]
 rw [cf (by simp)]
 have H:uu 2000 m w (aa m s w,0) 2000 s 0=some (Ex.go (af m s w)):=by
  refine bn (fun F k t=>uu 2000 m w (aa m s w,0) F t (k:Int)) w.length (fun k t=>t=af m s (w.take k)) _ (fun F k t j p=> .inr ?_) (fun F t p=>?_) 2000 0 s (Nat.zero_le _) (by omega) (by simp [af])
  ·subst p
   have hst':=z9r m a s (w.take k) (.inr i) (z9t g.1 k)
   have I:=g.1 k j
   refine⟨af m s (w.take (k+1)),rfl,?_⟩
   simp only [uu,z6d]
   rw [nk (by omega),show ji 2000 (-1) (-1)=some ⟨-1,-1⟩ from rfl,zbi]
   have J:(bif decide (0≤af m s (w.take k)) then(gd (okI w (k:Int))<|bd (ig 2000 m (af m s (w.take k)) (ix w (k:Int))) fun b=>bif decide (b.2≠0) then(some (Ex.rt (Ex.rt false))) else(some (Ex.go (b.1.to,b.1.out)))) else(some (Ex.go ((-1:Int),(-1:Int)))))=
    some (Ex.go (α:=Int×Int) (β:=Ex Int Bool) ((fo m (af m s (w.take k)) (w.getD k default)).to,(fo m (af m s (w.take k)) (w.getD k default)).out)):=by
    rcases hst' with h|h
    ·rw [h];rfl
    ·rw [nk h.1,zu (jo j)]
     refine Eq.trans (qf (zhz c (by decide))) ?_
     have u:=z6i a h
     have K:z3d m (af m s (w.take k)) (ix w (k:Int))=0:=by
      unfold z3d;rw [if_neg (by rw [u];simp)];exact if_neg (show¬(w.getD k default<0∨m.inputs≤w.getD k default) by omega)
     have L:zax m (af m s (w.take k)) (ix w (k:Int))=fo m (af m s (w.take k)) (w.getD k default):=by
      unfold zax fo;rw [if_neg (by rw [u];simp),if_neg (show¬af m s (w.take k)<0 by omega)];exact if_neg (show¬(w.getD k default<0∨m.inputs≤w.getD k default) by omega)
     rw [K,L];rfl
   refine Eq.trans (qf J) ?_
   rw [zcn]
   have l:k<(aa m s w).length:=by omega
   have q:(aa m s w).getD k default=(fo m (af m s (w.take k)) (w.getD k default)).out:=by
    have M:=za8 m s w k j
    have N:aa m s w=aa m s (w.take (k+1))++aa m (af m s (w.take (k+1))) (w.drop (k+1)):=by rw [←z5m,List.take_append_drop]
    have O:=z07 m s (w.take k)
    rw [List.length_take] at O
    rw [N,M,List.append_assoc]
    simp only [List.getD_eq_getElem?_getD]
    rw [List.getElem?_append_right (by omega),show k-(aa m s (w.take k)).length=0 by omega];rfl
   have r:ix (aa m s w) (k:Int)=(fo m (af m s (w.take k)) (w.getD k default)).out:=q
   rw [zu (jo l),zu (fun _=>jo l),dw (fun _=>z9f a (by decide))]
   simp only [r]
   have hfin:(decide ((fo m (af m s (w.take k)) (w.getD k default)).out≠(fo m (af m s (w.take k)) (w.getD k default)).out)||(decide ((fo m (af m s (w.take k)) (w.getD k default)).out<0)&&((bif (true&&(decide ((fo m (af m s (w.take k)) (w.getD k default)).out≠(fo m (af m s (w.take k)) (w.getD k default)).out)==false))&&(decide ((fo m (af m s (w.take k)) (w.getD k default)).out<0)==true) then some (z5g m) else none).getD default)))=false:=by
    rw [decide_eq_false (fun h=>h rfl)]
    by_cases hneg:(fo m (af m s (w.take k)) (w.getD k default)).out<0
    ·rw [decide_eq_true hneg]
     show (false||(true&&z5g m))=false
     simp only [Bool.false_or,Bool.true_and]
     exact zjh a i g.1 j hneg
    ·rw [decide_eq_false hneg];rfl
   refine Eq.trans (cf hfin) ?_
   rw [zu (jc (by omega)),zaj m s w k j];rfl
  ·subst p
   simp only [uu]
   rw [dx (by omega),List.take_length]
 rw [qf H,zcn,dw (fun _=>z2a)]
 simp
end GV
end Go.Proofs.Ytohjnbajgbdhhaa

namespace Go.Proofs.Ytohjnbajgbdhhaa
namespace GV
set_option maxRecDepth 100000
theorem zca(m:Mach)(i:Int):fo m (-1) i=⟨-1,-1⟩:=rfl
theorem zdf(m:Mach): ∀ v:List Int,aa m (-1) v=List.replicate v.length (-1)
 | []=>rfl
 |i::v=>by
  show (fo m (-1) i).out::aa m (fo m (-1) i).to v=_
  rw [zca,zdf m v];rfl
theorem zdj(m:Mach): ∀ v:List Int,af m (-1) v= -1
 | []=>rfl
 |i::v=>by
  show af m (fo m (-1) i).to v=_
  rw [zca];exact zdj m v
theorem zd6{α:Type}{X Y:List α}{k:Nat}{d:α}(h:X.length≤k):(X++Y).getD k d=Y.getD (k-X.length) d:=by
 simp only [List.getD_eq_getElem?_getD];rw [List.getElem?_append_right h]
theorem zgn{n:Int}{u v:List Int}(a:WOk n u)(b:WOk n v):WOk n (u++v):=fun k c=>by
 rw [List.length_append] at c
 by_cases h:k<u.length
 ·rw [z0h h];exact a k h
 ·rw [zd6 (by omega)];exact b _ (by omega)
theorem zbc{m:Mach}{s:Int}{w:List Int}(c:MOk m)(d:0≤s∧s<m.rows.length)(e:WOk m.inputs w)(f:w.length≤256):zej m s w=aa m s w∧zf6 m s w=af m s w∧z8u m s w=0:=by
 have a:=z6i c d
 have b:=zdd c.i1 c.i2 e f
 refine⟨?_,?_,?_⟩
 ·unfold zej;rw [if_neg (by rw [a];simp),if_neg (by rw [b];simp)]
 ·unfold zf6;rw [if_neg (by rw [a];simp),if_neg (by rw [b];simp)]
 ·unfold z8u;rw [if_neg (by rw [a];simp),b]
theorem zj2{x:MDat}{y:WDat×WDat}{f:Int}(g:MDOk x)(i:WDOk y.1)(j:WDOk y.2)(A:0≤f∧f≤255):cu 2000 x y f=some true:=by
 have a:=z8v g
 have c:=z4p g
 have l:=zgr (x:=y.1) (n:=(mOf x).inputs) a.i1
 have z:=zgr (x:=y.2) (n:=(mOf x).inputs) a.i1
 have B:=a.r1
 have C:=a.r2
 unfold cu
 rw [qf (z95 g (by decide)),qf (zga i a.i1 (by decide)),qf (zga j a.i1 (by decide)),zu (jc (by omega)),zu ⟨A.1,by omega⟩]
 simp only [z6d]
 generalize hm:mOf x=m at*
 generalize wOf y.1 m.inputs=u at*
 generalize wOf y.2 m.inputs=v at*
 have o:0≤f%(m.rows.length:Int)∧f%(m.rows.length:Int)<m.rows.length:=⟨Int.emod_nonneg _ (by omega),Int.emod_lt_of_pos _ (by omega)⟩
 generalize f%(m.rows.length:Int)=s at*
 have p:=zgn l.1 z.1
 have hluv:(u++v).length=u.length+v.length:=List.length_append
 obtain⟨D,E,G⟩:=zbc a o p (by omega)
 obtain⟨H,I,J⟩:=zbc a o l.1 (by omega)
 have K:=z07 m s (u++v)
 have d:=z07 m s u
 have happ:=z5m m s u v
 have hcut:cut (aa m s (u++v)) 0 (u.length:Int)=aa m s u:=by
  rw [happ];unfold cut
  simp only [Int.toNat_zero,List.drop_zero,Int.toNat_natCast,Nat.sub_zero]
  rw [←d,List.take_left]
 rw [qf (zhj (by omega) (by omega) (by decide)),qf (zcg c (by decide) (by omega) (by omega)),qf (zcg c (by decide) (by omega) (by omega)),qf (z7o c (by decide) (by omega) (by omega)),
  qf (zhj (by omega) (by omega) (by decide)),qf (z7o c (by decide) (by omega) (by omega)),D,E,G,H,I,J,zu (fun _=>jc (by omega)),
  zu (fun _=>show okS (aa m s (u++v)) 0 (u.length:Int) from⟨Int.le_refl _,by omega,by omega⟩),dw (fun _=>zc0 (show (cut (aa m s (u++v)) 0 (u.length:Int)).length<2000 by rw [hcut];omega) (show (cut (aa m s (u++v)) 0 (u.length:Int)).length≤_ by rw [hcut];omega))]
 rw [show cut (aa m s (u++v),(0:Int)).1 0 (u.length:Int)=aa m s u from hcut]
 have q:(((aa m s (u++v)).length:Nat):Int)=(u.length:Int)+(v.length:Int):=by omega
 refine Eq.trans (cf (by simp [q])) ?_
 have e:=z81 m s u v
 by_cases ht:af m s u= -1
 ·refine Eq.trans (nk ht) ?_
  have L:ug 2000 (aa m s (u++v),0) 2000 (u.length:Int)=some (Ex.go ()):=by
   refine bn (σ:=Unit) (fun F k _=>ug 2000 (aa m s (u++v),0) F (k:Int)) (aa m s (u++v)).length (fun k _=>u.length≤k) _ (fun F k _ M hi=> .inr ⟨(),by omega,?_⟩) (fun F _ hi=>?_) 2000 u.length () (by omega) (by omega) (Nat.le_refl _)
   ·simp only [ug]
    rw [nk (by omega),zu (jo M)]
    have r:(aa m s (u++v)).getD k default= -1:=by
     rw [happ,ht,zdf,zd6 (by omega)]
     have t:k-(aa m s u).length<v.length:=by omega
     simp [List.getD_eq_getElem?_getD,t]
    refine Eq.trans (dx (fun h=>h r)) ?_
    rw [zu (jc (by omega))];rfl
   ·simp only [ug]
    rw [dx (by omega)]
  rw [qf L,zcn,dw (fun _=>z2a)]
  have:af m s (u++v)= -1:=by rw [e,ht,zdj]
  simp [this]
 ·refine Eq.trans (dx ht) ?_
  have w:=(z9r m a s u (.inr o) l.1).resolve_left ht
  obtain⟨N,O,P⟩:=zbc a w z.1 (by omega)
  have Q:=z07 m (af m s u) v
  have b:cut (aa m s (u++v)) (u.length:Int) ((aa m s (u++v)).length:Int)=aa m (af m s u) v:=by
   unfold cut
   rw [happ]
   simp only [Int.toNat_natCast]
   rw [←d,List.drop_left,List.take_of_length_le (by rw [List.length_append];omega)]
  rw [qf (zcg c (by decide) (by omega) (by omega)),qf (z7o c (by decide) (by omega) (by omega)),N,O,P,zu (fun _=>show okS (aa m s (u++v)) (u.length:Int) ((aa m s (u++v)).length:Int) from⟨by omega,by omega,Int.le_refl _⟩),
   dw (fun _=>zc0 (show (cut (aa m s (u++v)) (u.length:Int) ((aa m s (u++v)).length:Int)).length<2000 by rw [b];omega) (show (cut (aa m s (u++v)) (u.length:Int) ((aa m s (u++v)).length:Int)).length≤_ by rw [b];omega)),dw (fun _=>z2a)]
  rw [show cut (aa m s (u++v),(0:Int)).1 (u.length:Int) ((aa m s (u++v),(0:Int)).1.length:Int)=aa m (af m s u) v from b]
  simp [e]
/-! ### The shape of a machine-/
theorem zlh{m:Mach}(a:MOk m){k i:Nat}(b:k<m.rows.length)(hi:i<m.inputs.toNat):(z14 m (k*m.inputs.toNat+i)).to= -1∧(z14 m (k*m.inputs.toNat+i)).out= -1∧ ¬0≤((m.rows.getD k default).getD i default).to∨
 ¬((z14 m (k*m.inputs.toNat+i)).to= -1∧(z14 m (k*m.inputs.toNat+i)).out= -1)∧0≤((m.rows.getD k default).getD i default).to:=by
 rw [za2 hi]
 have hrow:=a.row k b
 rcases a.edge k i b (by omega) with h|h
 ·left;omega
 ·right;omega
theorem zd3{m:Mach}(a:MOk m): ∀ k,k≤m.rows.length→z5y m k+(z2y m (k*m.inputs.toNat)).length=k*m.inputs.toNat
 |0,_=>by simp [z5y,z2y]
 |k+1,f=>by
  have ih:=zd3 a k (by omega)
  have hrow:=a.row k (by omega)
  have inner: ∀ i,i≤m.inputs.toNat→z97 (m.rows.getD k default) i+(z2y m (k*m.inputs.toNat+i)).length=(z2y m (k*m.inputs.toNat)).length+i:=by
   intro i
   induction i with
   |zero=>intro _;simp [zd4]
   |succ i ih'=>
    intro hi
    have g:=ih' (by omega)
    have b:i<(m.rows.getD k default).length:=by omega
    rw [zcz _ _ b,←Nat.add_assoc,zaz,List.length_append]
    rcases zlh a (by omega:k<m.rows.length) (by omega:i<m.inputs.toNat) with⟨c,d,e⟩|⟨c,d⟩
    ·rw [if_neg e,if_pos ⟨c,d⟩,List.length_singleton];omega
    ·rw [if_pos d,if_neg c,List.length_nil];omega
  have:=inner m.inputs.toNat (Nat.le_refl _)
  rw [z6l m k (by omega),Nat.succ_mul,show (m.rows.getD k default).length=m.inputs.toNat by omega]
  omega
theorem zh6{m:Mach}{k:Nat}(b:k<(z01 m).length): ∃ q,q<m.rows.length*m.inputs.toNat∧((z14 m q).to= -1∧(z14 m q).out= -1)∧(z01 m).getD k default=(((q/m.inputs.toNat:Nat):Int),((q%m.inputs.toNat:Nat):Int))∧
 (0<k→ ∃ p,p<q∧(z01 m).getD (k-1) default=(((p/m.inputs.toNat:Nat):Int),((p%m.inputs.toNat:Nat):Int))):=by
 unfold z01 z2y at b⊢
 generalize hQ:(List.range (m.rows.length*m.inputs.toNat)).filter (fun k=>decide ((z14 m k).to= -1∧(z14 m k).out= -1))=Q at*
 rw [List.length_map] at b
 have c:Q.Pairwise (· < ·):=by rw [←hQ];exact List.Pairwise.filter _ List.pairwise_lt_range
 have hall: ∀ a∈Q,a∈List.range (m.rows.length*m.inputs.toNat)∧decide ((z14 m a).to= -1∧(z14 m a).out= -1)=true:=by
  rw [←hQ];exact fun a d=>List.mem_filter.1 d
 obtain⟨e,f⟩:=hall _ (List.getElem_mem b)
 refine⟨Q[k],List.mem_range.1 e,of_decide_eq_true f,by simp [List.getD_eq_getElem?_getD,b],fun g=>⟨Q[k-1],List.pairwise_iff_getElem.1 c (k-1) k (by omega) b (by omega),by simp [List.getD_eq_getElem?_getD,show k-1<Q.length by omega]⟩⟩
theorem zgb{n p q:Nat}(a:0<n)(b:n≤16)(h:p<q):(((p/n:Nat):Int)*100+((p%n:Nat):Int))<(((q/n:Nat):Int)*100+((q%n:Nat):Int)):=by
 have d:p/n≤q/n:=Nat.div_le_div_right (Nat.le_of_lt h)
 have f:=Nat.mod_lt p a
 have g:=Nat.mod_lt q a
 have c:=Nat.div_add_mod p n
 have i:=Nat.div_add_mod q n
 by_cases e:p/n=q/n
 ·rw [e] at c
  rw [e];omega
 ·omega
theorem zlg{m:Mach}(h:MOk m){k:Nat}(r:k<(z01 m).length): ∃ a b:Nat,a<m.rows.length∧b<(m.rows.getD a default).length∧b<16∧(m.rows.getD a default).getD b default=⟨-1,-1⟩∧(z01 m).getD k default=((a:Int),(b:Int))∧
 (0<k→ ∃ c d:Nat,c<64∧d<16∧(z01 m).getD (k-1) default=((c:Int),(d:Int))∧(c:Int)*100+d<(a:Int)*100+b):=by
 obtain⟨q,i,j,l,n⟩:=zh6 r
 have s:=h.i1
 have t:=h.i2
 have u:=h.r2
 have o:0<m.inputs.toNat:=by omega
 have e:q/m.inputs.toNat<m.rows.length:=Nat.div_lt_of_lt_mul (by rw [Nat.mul_comm];exact i)
 have f:=Nat.mod_lt q o
 have hrow:=h.row (q/m.inputs.toNat) e
 have v:(m.rows.getD (q/m.inputs.toNat) default).length=m.inputs.toNat:=by omega
 refine⟨q/m.inputs.toNat,q%m.inputs.toNat,e,by rw [v];exact f,Nat.lt_of_lt_of_le f (by omega),z9l j,l,fun w=>?_⟩
 obtain⟨p,g,x⟩:=n w
 refine⟨p/m.inputs.toNat,p%m.inputs.toNat,Nat.lt_of_le_of_lt (Nat.div_le_div_right (Nat.le_of_lt g)) (by omega),Nat.lt_of_lt_of_le (Nat.mod_lt p o) (by omega),x,zgb o (by omega) g⟩
theorem zif{x:MDat}(j:MDOk x):ng 2000 x=some true:=by
 have e:=z8v j
 have f:=z4p j
 unfold ng
 rw [qf (z95 j (by decide))]
 simp only [z6d]
 generalize hm:mOf x=m at*
 have g:u7 m=0:=(oz m).2 e
 have hmul:=e.mul
 have y:=e.i1
 have z:=e.i2
 have A:=e.r2
 have B:=zd3 e m.rows.length (Nat.le_refl _)
 have L:(z01 m).length=(z2y m (m.rows.length*m.inputs.toNat)).length:=rfl
 have M:zct m=z5y m m.rows.length:=rfl
 have C:zau m=z5g m:=by
  unfold zau z5g
  rw [if_neg (by rw [g];simp),hmul.2]
  by_cases h:(z01 m).length=0
  ·rw [decide_eq_true (by omega),decide_eq_true (by omega)]
  ·rw [decide_eq_false (by omega),decide_eq_false (by omega)]
 have D:zjb m=(zct m:Int):=by
  unfold zjb
  rw [if_neg (by rw [g];simp),hmul.2];omega
 have E:zjd m=z01 m:=by unfold zjd;rw [if_neg (by rw [g];simp)]
 have G:(if u7 m≠0 then false else connB m)=connB m:=if_neg (by rw [g];simp)
 rw [qf (zb2 f (by decide)),qf (z9o f (by decide)),qf (zf1 f (by decide)),qf (z9x f (by decide)),C,D,E,G,g,
  dw (fun _=>z9f e (by decide)),dw (fun _=>zlf e (by decide)),dw (fun _=>zcj e (by decide)),zu (fun _=>jc (by show _≤(zct m:Int)+((z01 m).length:Int)∧(zct m:Int)+((z01 m).length:Int)≤_;omega)),zu (fun _=>jc (by rw [hmul.2];omega))]
 have hsum:(zct m:Int)+((z01 m).length:Int)=(m.rows.length:Int)*m.inputs:=by rw [hmul.2];omega
 refine Eq.trans (cf (by simp [hsum])) ?_
 have H:uf 2000 m (z01 m,0) 2000 0=some (Ex.go ()):=by
  refine bn (σ:=Unit) (fun F k _=>uf 2000 m (z01 m,0) F (k:Int)) (z01 m).length (fun _ _=>True) _ (fun F k _ i _=> .inr ⟨(),trivial,?_⟩) (fun F _ _=>?_) 2000 0 () (Nat.zero_le _) (by omega) trivial
  ·obtain⟨a,b,I,J,u,l,n,hprev⟩:=zlg e i
   have o:ix (z01 m) (k:Int)=((a:Int),(b:Int)):=n
   have p:ix (ix m.rows (a:Int)) (b:Int)=⟨-1,-1⟩:=l
   simp only [uf]
   rw [nk (by omega),zu (jo i)]
   simp only [o]
   rw [zu (jo I),zu (jo i),zu (show okI (ix m.rows (a:Int)) (b:Int) from jo J),show ji 2000 (-1) (-1)=some ⟨-1,-1⟩ from rfl,zbi]
   simp only [p]
   rw [zu (fun _=>jo i),zu (fun _=>jc (by omega)),zu (fun _=>jo i),zu (fun _=>jc (by omega)),zu (fun _=>jc (by omega))]
   by_cases h0:0<k
   ·obtain⟨c,d,v,w,q,hmono⟩:=hprev h0
    have r:((k:Int)-1)=((k-1:Nat):Int):=by omega
    have s:ix (z01 m) ((k-1:Nat):Int)=((c:Int),(d:Int)):=q
    simp only [r,s]
    rw [zu (fun _=>jo (by omega)),zu (fun _=>jc (by omega)),zu (fun _=>jc (by omega)),zu (fun _=>jo (by omega)),zu (fun _=>jc (by omega))]
    refine Eq.trans (cf ?_) ?_
    ·simp;omega
    ·rw [zu (jc (by omega))];rfl
   ·have t:k=0:=by omega
    subst t
    have K:decide ((0:Int)<((0:Nat):Int))=false:=rfl
    rw [K]
    rw [zu (fun h=>by simp at h),zu (fun h=>by simp at h),zu (fun h=>by simp at h),zu (fun h=>by simp at h),zu (fun h=>by simp at h)]
    refine Eq.trans (cf ?_) ?_
    ·simp
    ·rw [zu (jc (by omega))];rfl
  ·simp only [uf]
   rw [dx (by omega)]
 rw [qf H,zcn,qf z2a]
end GV
end Go.Proofs.Ytohjnbajgbdhhaa

namespace Go.Proofs.Ytohjnbajgbdhhaa
namespace GV
set_option maxRecDepth 100000
def z4f(m:Mach)(s i:Int)(x:Edge):Mach:=⟨m.inputs,m.outputs,m.rows.set s.toNat ((m.rows.getD s.toNat default).set i.toNat x)⟩
def z9q(m:Mach)(s i:Int)(x:Edge):Int:=if mh m s≠0 then mh m s else if(i<0∨m.inputs≤i)∨z1a m x=false then 1 else 0
def z8o(m:Mach)(s i:Int)(x:Edge):Mach:=if z9q m s i x≠0 then⟨0,0,[]⟩ else z4f m s i x
theorem zfy{N:Nat}{r:List Edge}(h:r.length≤100):nu N r=some r:=by
 unfold nu
 rw [zu ⟨by simp;omega,by simp;omega⟩];rfl
theorem zhg{N:Nat}{r:List Edge}:tq N r=some r:=by
 unfold tq
 rw [zu (zhv _),zic]
theorem zff{X:List (List Edge)}{k:Nat}(a:k<X.length):(X.take k++List.replicate (X.length-k) ([]:List Edge)).set k (X.getD k default)=X.take (k+1)++List.replicate (X.length-(k+1)) []:=by
 rw [List.set_append_right _ _ (by rw [List.length_take];omega),List.length_take,Nat.min_eq_left (by omega),Nat.sub_self,show X.length-k=(X.length-(k+1))+1 by omega,List.replicate_succ,List.set_cons_zero,List.take_succ_eq_append_getElem a,List.append_assoc]
 simp [List.getD_eq_getElem?_getD,a]
theorem zke{N:Nat}{m:Mach}(b:Small m)(e:200≤N):mq N m N 0 (List.replicate m.rows.length [])=some m.rows:=by
 have f:=b.r
 refine bn (fun F k acc=>mq N m F (k:Int) acc) m.rows.length (fun k acc=>acc=m.rows.take k++List.replicate (m.rows.length-k) []) _ (fun F k acc a hacc=> .inr ?_) (fun F acc hacc=>?_) N 0 _ (Nat.zero_le _) (by omega) (by simp)
 ·subst hacc
  refine⟨_,rfl,?_⟩
  have d:=b.c k a
  simp only [mq]
  rw [nk (by omega),zu (jo a)]
  refine Eq.trans (qf (zfy (show (m.rows.getD k default).length≤100 from d))) ?_
  rw [qf zhg,zu (jo (by rw [List.length_append,List.length_take,List.length_replicate];omega)),zu (jc (by omega)),zea,z6r,zff a];rfl
 ·subst hacc
  simp only [mq]
  rw [dx (by omega),List.take_length,Nat.sub_self,List.replicate_zero,List.append_nil]
theorem ziv{N:Nat}{m:Mach}(b:Small m)(e:200≤N):pq N m N 0 (List.replicate m.rows.length [])=some m.rows:=by
 have f:=b.r
 refine bn (fun F k acc=>pq N m F (k:Int) acc) m.rows.length (fun k acc=>acc=m.rows.take k++List.replicate (m.rows.length-k) []) _ (fun F k acc a hacc=> .inr ?_) (fun F acc hacc=>?_) N 0 _ (Nat.zero_le _) (by omega) (by simp)
 ·subst hacc
  refine⟨_,rfl,?_⟩
  have d:=b.c k a
  simp only [pq]
  rw [nk (by omega),zu (jo a)]
  refine Eq.trans (qf (zfy (show (m.rows.getD k default).length≤100 from d))) ?_
  rw [qf zhg,zu (jo (by rw [List.length_append,List.length_take,List.length_replicate];omega)),zu (jc (by omega)),zea,z6r,zff a];rfl
 ·subst hacc
  simp only [pq]
  rw [dx (by omega),List.take_length,Nat.sub_self,List.replicate_zero,List.append_nil]
theorem zm5{N:Nat}{m:Mach}(c:Small m){s i:Int}{x:Edge}(d:200≤N):ll N m s i x=some (z8o m s i x,z9q m s i x):=by
 have g:=c.r
 unfold ll z8o z9q
 rw [qf (z7q c d s)]
 by_cases h:mh m s≠0
 ·rw [nk h,if_pos h,if_pos h]
 ·rw [dx h,if_neg h,dw (fun _=>zhf N m x)]
  have e:=z3w (m:=m) (s:=s) (by simpa using h)
  by_cases a:i<0∨m.inputs≤i
  ·have b:(if(i<0∨m.inputs≤i)∨z1a m x=false then(1:Int) else 0)=1:=if_pos (.inl a)
   rw [b,if_pos (by decide),ct]
   rcases a with a|a
   ·rw [decide_eq_true a];rfl
   ·rw [decide_eq_true a];simp
  ·have f:(decide (i<0)||decide (m.inputs≤i))=false:=by simpa using a
   rw [f]
   cases hf:z1a m x
   ·have b:(if(i<0∨m.inputs≤i)∨(false=false) then(1:Int) else 0)=1:=if_pos (.inr rfl)
    rw [b,if_pos (by decide)];rfl
   ·have hrow:=e.1.row s.toNat (by omega)
    have b:(if(i<0∨m.inputs≤i)∨(true=false) then(1:Int) else 0)=0:=if_neg (fun h=>h.elim a (fun h=>by cases h))
    rw [b,if_neg (by decide)]
    refine Eq.trans (cf rfl) ?_
    rw [zu ⟨by omega,by omega,by omega⟩,zc1,qf (zke c d),zu e.2,zu (show okI (ix m.rows s) i from⟨by omega,by rw [z88,hrow];omega⟩)];rfl
theorem zl0{N:Nat}{m:Mach}(c:Small m){s i:Int}{x:Edge}(d:200≤N):z0w N m s i x=some (z8o m s i x,z9q m s i x):=by
 have g:=c.r
 unfold z0w z8o z9q
 rw [qf (z7q c d s)]
 by_cases h:mh m s≠0
 ·rw [nk h,if_pos h,if_pos h]
 ·rw [dx h,if_neg h,dw (fun _=>zhf N m x)]
  have e:=z3w (m:=m) (s:=s) (by simpa using h)
  by_cases a:i<0∨m.inputs≤i
  ·have b:(if(i<0∨m.inputs≤i)∨z1a m x=false then(1:Int) else 0)=1:=if_pos (.inl a)
   rw [b,if_pos (by decide),ct]
   rcases a with a|a
   ·rw [decide_eq_true a];rfl
   ·rw [decide_eq_true a];simp
  ·have f:(decide (i<0)||decide (m.inputs≤i))=false:=by simpa using a
   rw [f]
   cases hf:z1a m x
   ·have b:(if(i<0∨m.inputs≤i)∨(false=false) then(1:Int) else 0)=1:=if_pos (.inr rfl)
    rw [b,if_pos (by decide)];rfl
   ·have hrow:=e.1.row s.toNat (by omega)
    have b:(if(i<0∨m.inputs≤i)∨(true=false) then(1:Int) else 0)=0:=if_neg (fun h=>h.elim a (fun h=>by cases h))
    rw [b,if_neg (by decide)]
    refine Eq.trans (cf rfl) ?_
    rw [zu ⟨by omega,by omega,by omega⟩,zc1,qf (ziv c d),zu e.2,zu (show okI (ix m.rows s) i from⟨by omega,by rw [z88,hrow];omega⟩)];rfl
theorem zg4{N:Nat}{w:List Int}{n:Int}(c:w.length<N)(d:w.length≤4611686018427387904):iy N w n=some (z0g w n):=by
 unfold iy
 by_cases h:16<n∨256<w.length
 ·rw [ct (by simp;omega),zfg h]
 ·rw [cf (by simp;omega)]
  by_cases h1:n<1
  ·rw [nk h1,zc6 h (.inl h1)]
  ·rw [dx h1]
   have b:yw N w n N 0=some (if w.any (z2j n)=true then Ex.rt 1 else Ex.go ()):=by
    refine bn (σ:=Unit) (fun F k _=>yw N w n F (k:Int)) w.length (fun k _=>(w.take k).any (z2j n)=false) _ (fun F k _ a hi=>?_) (fun F _ hi=>?_) N 0 () (Nat.zero_le _) (by omega) (by simp)
    ·simp only [yw]
     rw [nk (by omega),zu (jo a),zu (fun _=>jo a)]
     cases hp:z2j n (w.getD k default)
     ·right
      refine⟨(),by rw [z3b (z2j n) w k a,hi,hp];rfl,Eq.trans (cf (show z2j n (w.getD k default)=false from hp)) ?_⟩
      rw [zu (jc (by omega))];rfl
     ·left
      refine Eq.trans (ct (show z2j n (w.getD k default)=true from hp)) ?_
      rw [if_pos (List.any_eq_true.2 ⟨_,z0i a,hp⟩)]
    ·simp only [yw]
     rw [dx (by omega),if_neg (by rw [List.take_length] at hi;rw [hi];decide)]
   rw [qf b]
   by_cases ha:w.any (z2j n)=true
   ·rw [if_pos ha,zc6 h (.inr ha)];rfl
   ·rw [if_neg ha,zeu h (fun h=>h.elim h1 ha)];rfl
theorem zee(m:Mach)(s:Int):(bif (decide (u7 m=0))&&((decide (s<0))||(decide ((m.rows.length:Int)≤s))) then some (1:Int) else some (u7 m))=some (mh m s):=by
 unfold mh
 by_cases h:u7 m=0
 ·rw [decide_eq_true h,if_neg (by rw [h];simp)]
  by_cases h1:s<0∨(m.rows.length:Int)≤s
  ·rw [if_pos h1,ct (by simpa using h1)]
  ·rw [if_neg h1,cf (by simpa using h1),h]
 ·rw [decide_eq_false h,if_pos h];rfl
theorem zfk(m:Mach)(s i:Int):(bif (decide (mh m s=0))&&((decide (i<0))||(decide (m.inputs≤i))) then some (1:Int) else some (mh m s))=some (z3d m s i):=by
 unfold z3d
 by_cases h:mh m s=0
 ·rw [decide_eq_true h,if_neg (by rw [h];simp)]
  by_cases h1:i<0∨m.inputs≤i
  ·rw [if_pos h1,ct (by simpa using h1)]
  ·rw [if_neg h1,cf (by simpa using h1),h]
 ·rw [decide_eq_false h,if_pos h];rfl
theorem zde(m:Mach)(s i:Int):z9q m s i ⟨0,0⟩=z3d m s i:=by
 unfold z9q z3d
 by_cases h:mh m s≠0
 ·rw [if_pos h,if_pos h]
 ·rw [if_neg h,if_neg h]
  have a:=z3w (m:=m) (s:=s) (by simpa using h)
  have c:=a.1.r1
  have d:=a.1.o1
  have b:z1a m ⟨0,0⟩=true:=(z2n m _).2 (.inr ⟨Int.le_refl _,by show (0:Int)<_;omega,Int.le_refl _,by show (0:Int)<_;omega⟩)
  by_cases h1:i<0∨m.inputs≤i
  ·rw [if_pos (.inl h1),if_pos h1]
  ·rw [if_neg (fun h=>h.elim h1 (fun h=>by rw [b] at h;cases h)),if_neg h1]
theorem zao{m:Mach}{p:Int×Int}{w:List Int}:yu 2000 m p w=some true:=by
 unfold yu
 rw [qf (zf0 (by decide))]
 by_cases hg:z3c m=1∨300<w.length
 ·rw [ct (by simp only [Bool.or_eq_true,decide_eq_true_eq];omega)]
 ·rw [cf (by simp only [Bool.or_eq_false_iff,decide_eq_false_iff_not];omega)]
  have a:Small m:=(zay (zft (fun h=>hg (.inl h)))).1
  have r:w.length≤300:=by omega
  rw [qf (zar a (by decide)),qf (zb2 a (by decide)),qf (z9o a (by decide)),qf (zf1 a (by decide)),qf (z9x a (by decide)),qf (z3t a (by decide)),dw (fun _=>z3a a a (by decide))]
  have hsame:z6j m m=decide (u7 m=0):=by
   by_cases e:u7 m=0
   ·rw [decide_eq_true e,(z2t m m).2 ⟨(oz m).1 e,rfl⟩]
   ·rw [decide_eq_false e]
    cases h:z6j m m
    ·rfl
    ·exact absurd ((oz m).2 ((z2t m m).1 h).1) e
  rw [hsame]
  have hfirst:((((((decide (u7 m≠u7 m)||decide (u7 m≠u7 m))||decide (u7 m≠u7 m))||decide (u7 m≠u7 m))||decide (u7 m≠u7 m))||(decide (u7 m≠0)&&(((zau m||(if u7 m≠0 then false else connB m))||decide (zjb m≠0))||decide (((zjd m).length:Int)≠0)))))=false:=by
   by_cases e:u7 m=0
   ·simp [e]
   ·simp [e,zau,zjb,zjd]
  refine Eq.trans (cf ?_) ?_
  ·show (_||decide (_≠_))=false
   rw [hfirst]
   simp
  ·rw [qf (zee m p.1),qf (zhz a (by decide)),show ji 2000 0 0=some ⟨0,0⟩ from rfl,zbi,qf (zm5 a (by decide)),qf (zfk m p.1 p.2),dw (fun _=>rfl)]
   rw [zde]
   have t:z8o m p.1 p.2 ⟨0,0⟩=if z3d m p.1 p.2≠0 then⟨0,0,[]⟩ else z4f m p.1 p.2 ⟨0,0⟩:=by unfold z8o;rw [zde]
   have hfacts:z3d m p.1 p.2=0→MOk m∧(0≤p.1∧p.1<m.rows.length)∧(0≤p.2∧p.2<m.inputs):=fun h=>by
    unfold z3d at h
    by_cases b:mh m p.1≠0
    ·rw [if_pos b] at h;exact absurd h b
    ·rw [if_neg b] at h
     have d:=z3w (m:=m) (s:=p.1) (by simpa using b)
     by_cases h2:p.2<0∨m.inputs≤p.2
     ·rw [if_pos h2] at h;cases h
     ·exact⟨d.1,d.2,by omega,by omega⟩
   have u:z3d m p.1 p.2=0→zax m p.1 p.2=ix (ix m.rows p.1) p.2:=fun h=>by
    have g:=hfacts h
    have f:=z6i g.1 g.2.1
    unfold zax
    rw [if_neg (by rw [f];simp),if_neg (by omega)];rfl
   have k:z3d m p.1 p.2≠0→zax m p.1 p.2=⟨0,0⟩:=fun h=>by
    unfold z3d at h
    unfold zax
    by_cases b:mh m p.1≠0
    ·rw [if_pos b]
    ·rw [if_neg b] at h⊢
     by_cases h2:p.2<0∨m.inputs≤p.2
     ·rw [if_pos h2]
     ·rw [if_neg h2] at h;exact absurd rfl h
   have hguard: ∀ c:Bool,((c&&(decide (z3d m p.1 p.2=0)==true))=true→okI m.rows p.1)∧((c&&(decide (z3d m p.1 p.2=0)==true))=true→okI (ix m.rows p.1) p.2):=fun c=>by
    refine⟨fun h=>?_,fun h=>?_⟩
    ·have b:z3d m p.1 p.2=0:=by cases c<;>simp at h;exact h
     exact(hfacts b).2.1
    ·have b:z3d m p.1 p.2=0:=by cases c<;>simp at h;exact h
     have g:=hfacts b
     have hrow:=g.1.row p.1.toNat (by omega)
     exact⟨g.2.2.1,by rw [z88,hrow];exact g.2.2.2⟩
   rw [zu (hguard _).1,zu (hguard _).2]
   refine Eq.trans (cf ?_) ?_
   ·by_cases h:z3d m p.1 p.2=0
    ·simp [h,u h]
    ·simp [h,k h,t]
   ·have l:(bif decide (mh m p.1=0) then bd (iy 2000 w m.inputs) fun i=>some i else some (mh m p.1))=some (z8u m p.1 w):=by
     unfold z8u
     by_cases h:mh m p.1=0
     ·rw [nk h,if_neg (by rw [h];simp),qf (zg4 (by omega) (by omega))]
     ·rw [dx h,if_pos h]
    rw [qf l,qf (zcg a (by decide) (by omega) (by omega)),qf (z7o a (by decide) (by omega) (by omega))]
    by_cases h:z8u m p.1 w=0
    ·have f:mh m p.1=0:=by
      unfold z8u at h
      by_cases b:mh m p.1≠0
      ·rw [if_pos b] at h;exact h
      ·simpa using b
     have n:z0g w m.inputs=0:=by
      unfold z8u at h;rw [if_neg (by rw [f];simp)] at h;exact h
     have d:=z3w f
     have j:=zcc n
     obtain⟨v,x,y⟩:=zbc d.1 d.2 j.1 j.2
     have z:=z07 m p.1 w
     rw [dx (fun h'=>h' h),v,x,y,qf (zi1 d.1 (.inr d.2) j.1 (by omega) (by omega)),qf (ze2 (show (aa m p.1 w).length<2000 by omega) (show (aa m p.1 w).length≤_ by omega)),dw (fun _=>zeb d.1 2000 p.1 w (.inr d.2) j.1 (by omega)),dw (fun _=>z2a)]
     simp
    ·have o:zej m p.1 w=[]:=by
      unfold zej z8u at*
      by_cases b:mh m p.1≠0
      ·rw [if_pos b]
      ·rw [if_neg b] at h⊢;rw [if_pos h]
     have q:zf6 m p.1 w=0:=by
      unfold zf6 z8u at*
      by_cases b:mh m p.1≠0
      ·rw [if_pos b]
      ·rw [if_neg b] at h⊢;rw [if_pos h]
     rw [nk h,o,q,qf (ze2 (by simp) (by simp)),dw (fun _=>z2a)]
     simp
end GV
end Go.Proofs.Ytohjnbajgbdhhaa

namespace Go.Proofs.Ytohjnbajgbdhhaa
namespace GV
set_option maxRecDepth 100000
theorem zn2{N:Nat}{m:Mach}(b:Small m)(d:200≤N):lu N m=some m:=by
 have e:=b.r
 unfold lu
 refine Eq.trans (qf (x:=m.rows) ?_) rfl
 refine bn (fun F k acc=>bv N m F (k:Int) acc) m.rows.length (fun k acc=>acc=m.rows.take k) _ (fun F k acc a hacc=> .inr ?_) (fun F acc hacc=>?_) N 0 [] (Nat.zero_le _) (by omega) (by simp)
 ·subst hacc
  refine⟨_,rfl,?_⟩
  have f:(ix m.rows (k:Int)).length≤100:=b.c k a
  simp only [bv]
  rw [nk (by omega),zu (jo a),zu ⟨by simp;omega,by simp;omega⟩,zu ⟨by simp;omega,by simp;omega⟩,zu (jc (by omega)),List.nil_append,z6r,List.take_succ_eq_append_getElem a]
  simp [List.getD_eq_getElem?_getD,a]
 ·subst hacc
  simp only [bv]
  rw [dx (by omega),List.take_length]
theorem zll{N:Nat}{m:Mach}(b:Small m)(d:200≤N):fu N m=some m:=by
 have e:=b.r
 unfold fu
 refine Eq.trans (qf (x:=m.rows) ?_) rfl
 refine bn (fun F k acc=>xy N m F (k:Int) acc) m.rows.length (fun k acc=>acc=m.rows.take k) _ (fun F k acc a hacc=> .inr ?_) (fun F acc hacc=>?_) N 0 [] (Nat.zero_le _) (by omega) (by simp)
 ·subst hacc
  refine⟨_,rfl,?_⟩
  have f:(ix m.rows (k:Int)).length≤100:=b.c k a
  simp only [xy]
  rw [nk (by omega),zu (jo a),zu ⟨by simp;omega,by simp;omega⟩,zu ⟨by simp;omega,by simp;omega⟩,zu (jc (by omega)),List.nil_append,z6r,List.take_succ_eq_append_getElem a]
  simp [List.getD_eq_getElem?_getD,a]
 ·subst hacc
  simp only [xy]
  rw [dx (by omega),List.take_length]
theorem z4o{α:Type}{X:List α}{i j:Nat}{y d:α}(hi:i<X.length):(X.set i y).getD j d=if j=i then y else X.getD j d:=z1p hi
section set
variable {m : Mach} {s i : Int} {x : Edge}
theorem z1e:(z4f m s i x).rows.length=m.rows.length:=List.length_set
theorem z7x(a:0≤s∧s<m.rows.length)(k:Nat):(z4f m s i x).rows.getD k default=if k=s.toNat then(m.rows.getD s.toNat default).set i.toNat x else m.rows.getD k default:=z4o (by omega)
theorem z4a(a:0≤s∧s<m.rows.length)(k:Nat):((z4f m s i x).rows.getD k default).length=(m.rows.getD k default).length:=by
 rw [z7x a]
 by_cases e:k=s.toNat
 ·rw [if_pos e,List.length_set,e]
 ·rw [if_neg e]
theorem zgi(a:MOk m)(d:0≤s∧s<m.rows.length):Small (z4f m s i x):=
 ⟨by rw [z1e];exact a.small.r,fun k b=>by rw [z4a d];exact a.small.c k (by rw [z1e] at b;exact b)⟩
theorem zd9(y:Edge):z1a (z4f m s i x) y=z1a m y:=by unfold z1a;rw [z1e];rfl
theorem zhk(a:MOk m)(c:0≤s∧s<m.rows.length)(hi:0≤i∧i<m.inputs):MOk (z4f m s i x)↔z1a m x=true:=by
 have hrow:=a.row s.toNat (by omega)
 constructor
 ·intro h
  have f:=h.edge s.toNat i.toNat (by rw [z1e];omega) (by rw [z4a c];omega)
  rw [z7x c,if_pos rfl,z4o (by omega),if_pos rfl] at f
  rw [←zd9 (m:=m) (s:=s) (i:=i) (x:=x)]
  exact(z2n _ _).2 f
 ·intro h
  refine⟨a.i1,a.i2,a.o1,a.o2,by rw [z1e];exact a.r1,by rw [z1e];exact a.r2,fun k b=>?_,fun k j b d=>?_⟩
  ·rw [z4a c];exact a.row k (by rw [z1e] at b;exact b)
  ·rw [z4a c] at d
   rw [z1e] at b
   refine(z2n _ _).1 ?_
   rw [zd9,z7x c]
   by_cases e:k=s.toNat
   ·subst e
    rw [if_pos rfl,z4o (by omega)]
    by_cases e2:j=i.toNat
    ·rw [if_pos e2];exact h
    ·rw [if_neg e2];exact(z2n _ _).2 (a.edge _ j b d)
   ·rw [if_neg e];exact(z2n _ _).2 (a.edge k j b d)
theorem zhb(a:MOk m)(b:0≤s∧s<m.rows.length)(hi:0≤i∧i<m.inputs):u7 (z4f m s i x)=if z1a m x=true then 0 else 1:=by
 by_cases h:z1a m x=true
 ·rw [if_pos h];exact(oz _).2 ((zhk a b hi).2 h)
 ·rw [if_neg h]
  have c:u7 (z4f m s i x)≠0:=fun e=>h ((zhk a b hi).1 ((oz _).1 e))
  have d:u7 (z4f m s i x)≠3:=by
   unfold u7
   rw [if_neg]
   ·split<;>(try split)<;>decide
   ·rw [z1e]
    have:=a.i2;have:=a.o2;have:=a.r2
    show¬((16<m.inputs∨16<m.outputs)∨64<m.rows.length)
    omega
  rcases zfq (z4f m s i x) with h|h|h
  ·exact absurd h d
  ·exact h
  ·exact absurd h c
theorem za9(a:MOk m)(b:0≤s∧s<m.rows.length)(hi:0≤i∧i<m.inputs):z9q m s i x=u7 (z4f m s i x):=by
 rw [zhb a b hi]
 unfold z9q
 rw [if_neg (by rw [z6i a b];simp)]
 cases h:z1a m x
 ·rw [if_pos (.inr rfl),if_neg (by decide)]
 ·rw [if_neg (fun h=>h.elim (by omega) (fun h=>by cases h)),if_pos rfl]
theorem zmi(c:MOk m)(a:0≤s∧s<m.rows.length)(hi:0≤i∧i<m.inputs):z4f m s i x=m↔((m.rows.getD s.toNat default).getD i.toNat default=x):=by
 have hrow:=c.row s.toNat (by omega)
 constructor
 ·intro h
  have b:((z4f m s i x).rows.getD s.toNat default).getD i.toNat default=(m.rows.getD s.toNat default).getD i.toNat default:=congrArg (fun q:Mach=>(q.rows.getD s.toNat default).getD i.toNat default) h
  rw [z7x a,if_pos rfl,z4o (by omega),if_pos rfl] at b
  exact b.symm
 ·intro h
  refine zbf.2 ⟨rfl,rfl,z3u z1e fun k d=>?_⟩
  rw [z7x a]
  by_cases e:k=s.toNat
  ·rw [if_pos e]
   subst e
   refine z3u (by rw [List.length_set]) fun j f=>?_
   rw [z4o (by omega)]
   by_cases e2:j=i.toNat
   ·rw [if_pos e2,e2];exact h.symm
   ·rw [if_neg e2]
  ·rw [if_neg e]
end set
theorem zkf{x:MDat}{p:Int×Int}{e:Edge}(q:MDOk x)(r:0≤p.1∧p.1≤255)(t:0≤p.2∧p.2≤255):nz 2000 x p e=some true:=by
 have c:=z8v q
 have d:=z4p q
 have B:=c.r1
 have C:=c.r2
 have D:=c.i1
 have E:=c.i2
 unfold nz
 rw [qf (z95 q (by decide))]
 simp only [z6d]
 generalize hm:mOf x=m at*
 rw [qf (zn2 d (by decide)),zu (jc (by omega)),zu ⟨r.1,by omega⟩,zu (jc (by omega)),zu ⟨t.1,by omega⟩]
 have f:0≤p.1%(m.rows.length:Int)∧p.1%(m.rows.length:Int)<m.rows.length:=⟨Int.emod_nonneg _ (by omega),Int.emod_lt_of_pos _ (by omega)⟩
 have hi:0≤p.2%m.inputs∧p.2%m.inputs<m.inputs:=⟨Int.emod_nonneg _ (by omega),Int.emod_lt_of_pos _ (by omega)⟩
 generalize p.1%(m.rows.length:Int)=s at*
 generalize p.2%m.inputs=i at*
 have hrow:=c.row s.toNat (by omega)
 have l:okI (ix m.rows s) i:=⟨hi.1,by rw [z88,hrow];exact hi.2⟩
 rw [qf (zl0 d (by decide)),qf (zll d (by decide)),zu f,zu l]
 have hset:(⟨m.inputs,m.outputs,up m.rows s (up (ix m.rows s) i e)⟩:Mach)=z4f m s i e:=rfl
 simp only [hset]
 have g:Small (z4f m s i e):=zgi c f
 rw [qf (z6g d (by decide)),dw (fun _=>zar g (by decide)),za9 c f hi]
 refine Eq.trans (cf (by simp)) ?_
 by_cases hc:u7 (z4f m s i e)≠0
 ·have u:z8o m s i e=⟨0,0,[]⟩:=by unfold z8o;rw [za9 c f hi,if_pos hc]
  rw [nk hc,u,dw (fun _=>z2a)];rfl
 ·have u:z8o m s i e=z4f m s i e:=by unfold z8o;rw [za9 c f hi,if_neg hc]
  have v:u7 (z4f m s i e)=0:=by simpa using hc
  have w:MOk (z4f m s i e):=(oz _).1 v
  have hsm': ∀ a b:Mach,MOk a→z6j a b=decide (a=b):=fun a b G=>by
   cases e:z6j a b
   ·rw [eq_comm,decide_eq_false_iff_not];intro H;have:=(z2t a b).2 ⟨G,H⟩;rw [e] at this;cases this
   ·rw [eq_comm,decide_eq_true_eq];exact((z2t a b).1 e).2
  rw [dx hc,u]
  have hiff:=zmi (x:=e) c f hi
  have n:decide (z4f m s i e=m)=decide ((ix (ix m.rows s) i).to=e.to∧(ix (ix m.rows s) i).out=e.out):=by
   by_cases h:(m.rows.getD s.toNat default).getD i.toNat default=e
   ·rw [decide_eq_true (hiff.2 h)]
    exact(decide_eq_true (show _∧_ from⟨congrArg Edge.to h,congrArg Edge.out h⟩)).symm
   ·rw [decide_eq_false (fun h'=>h (hiff.1 h'))]
    exact(decide_eq_false (fun h'=>h (z9l h'))).symm
  have y:decide (m=z4f m s i e)=decide ((ix (ix m.rows s) i).to=e.to∧(ix (ix m.rows s) i).out=e.out):=by
   rw [←n]
   by_cases h:z4f m s i e=m
   ·rw [decide_eq_true h,decide_eq_true h.symm]
   ·rw [decide_eq_false h,decide_eq_false (fun h'=>h h'.symm)]
  rw [qf (z6g g (by decide)),dw (fun _=>z3a g d (by decide)),zu (fun _=>f),zu (fun _=>l),dw (fun _=>z3a d g (by decide)),zu (fun _=>f),zu (fun _=>l),hsm' _ _ w,hsm' _ _ c,n,y]
  refine Eq.trans (cf (by simp)) ?_
  have I:um 2000 2000 0 (z4f m s i e).rows=some ():=by
   have J:=z1e (m:=m) (s:=s) (i:=i) (x:=e)
   refine bn (fun F k X=>um 2000 F (k:Int) X) m.rows.length (fun k X=>X.length=m.rows.length∧ ∀ j,j<m.rows.length→0<(X.getD j default).length) _ (fun F k X K o=> .inr ?_) (fun F X o=>?_) 2000 0 _ (Nat.zero_le _) (by omega) ⟨J,fun j z=>by rw [z4a f];have:=c.row j z;omega⟩
   ·have A:=o.2 k K
    refine⟨X.set k ((X.getD k default).set 0 ⟨0,0⟩),⟨by rw [List.length_set];exact o.1,fun j z=>?_⟩,?_⟩
    ·rw [z4o (by omega)]
     by_cases e:j=k
     ·rw [if_pos e,List.length_set];exact A
     ·rw [if_neg e];exact o.2 j z
    ·simp only [um]
     rw [nk (by omega),zu (jo (by omega)),show ji 2000 0 0=some ⟨0,0⟩ from rfl,zbi,zu (show okI (ix X (k:Int)) 0 from jo (k:=0) A),zu (jc (by omega))];rfl
   ·simp only [um]
    rw [dx (by omega)]
  rw [qf I,qf (z6g d (by decide)),dw (fun _=>z2a)]
  simp
end GV
end Go.Proofs.Ytohjnbajgbdhhaa
