
import Derived.Test.YtplgbkaollfmkaaGreatSpec09b
import Derived.Test.YtplgbkaollfmkaaGreatSpec04b
import Derived.Test.YtplgbkaollfmkaaGreatLaw04c
import Derived.Test.YtplgbkaollfmkaaGreatSpec06m
set_option linter.unusedVariables false
set_option linter.unusedSimpArgs false
namespace Go.Proofs.YtplgbkaollfmkaaGreat
namespace GV
set_option maxRecDepth 100000
theorem zxk{m:Mach}(d:MOk m){t:Nat}:Reach m 0 t↔occ (rch m 0) t=true:=by
 have a:=zql d
 constructor
 ·intro h
  induction h with
  |refl=>exact z4p.2 ⟨0,a.pos,by rw [a.root]⟩
  |step s o u v ih=>
   rename_i t i
   obtain⟨q,g,rfl⟩:=z4p.1 ih
   have k:=d.row _ o
   have e:ed m ((rch m 0).getD q default).st i≠ -1:=by show ((m.rows.getD ((rch m 0).getD q default).st default).getD i default).to≠ -1;omega
   obtain⟨j,c,p,_⟩:=a.cls q i g (by omega) e
   refine z4p.2 ⟨j,c,?_⟩
   have:ed m ((rch m 0).getD q default).st i=((m.rows.getD ((rch m 0).getD q default).st default).getD i default).to:=rfl
   omega
 ·intro h
  obtain⟨j,c,rfl⟩:=z4p.1 h
  clear h
  have key: ∀ n j,j≤n→j<(rch m 0).length→Reach m 0 ((rch m 0).getD j default).st:=by
   intro n
   induction n with
   |zero=>
    intro j c b
    obtain rfl:j=0:=by omega
    rw [a.root];exact .refl
   |succ n ih=>
    intro j c b
    by_cases h0:j=0
    ·exact ih j (by omega) b
    ·obtain⟨q,i,g,hi,_,_,_,f⟩:=a.par j (by omega) b
     have k:=ih q (by omega) (by omega)
     have r:=d.row _ (a.rng q (by omega))
     have l:((m.rows.getD ((rch m 0).getD q default).st default).getD i default).to=(((rch m 0).getD j default).st:Int):=f
     have:=Reach.step (i:=i) k (a.rng q (by omega)) (by omega) (by rw [l];omega)
     rw [l,Int.toNat_natCast] at this
     exact this
  exact key j j (Nat.le_refl _) c
theorem zva{m:Mach}(b:MOk m):reachL m 0=z08 m.rows.length (rch m 0):=by
 refine z5e (by rw [z3r,z4a]) fun k a=>?_
 rw [z3r] at a
 rw [Bool.eq_iff_iff,z98 a,z7x a]
 exact zxk b
/-! ### First ones-/
def fsS(m:Mach):List Nat:=(z9g (z3p (cls m) (rch m 0)) (rch m 0).length).map fun j=>((rch m 0).getD j default).st
section
variable {N : Nat} {m : Mach}
theorem zwe:(fsS m).length=cntF (z3p (cls m) (rch m 0)) (rch m 0).length:=by unfold fsS;rw [List.length_map,z7n]
theorem zwc(a:MOk m):zam m=(fsS m).map (cls m):=by
 unfold zam fsS zo2
 rw [q93 a,List.map_map]
 unfold zcl
 rw [List.map_map]
 rfl
theorem zfc(a:MOk m):(zam m).length=(fsS m).length:=by rw [zwc a,List.length_map]
theorem zsy(a:MOk m){c:Nat}(b:c<(fsS m).length):(zam m).getD c 0=cls m ((fsS m).getD c 0):=by
 rw [zwc a]
 simp [List.getD_eq_getElem?_getD,b]
theorem zq3(b:MOk m){c:Nat}(d:c<(fsS m).length):(fsS m).getD c 0<m.rows.length∧occ (rch m 0) ((fsS m).getD c 0)=true:=by
 have e:=zql b
 have hc':=d
 rw [zwe] at hc'
 obtain⟨a,_,_⟩:=zax hc'
 have f:(fsS m).getD c 0=((rch m 0).getD ((z9g (z3p (cls m) (rch m 0)) (rch m 0).length).getD c 0) default).st:=by
  unfold fsS
  have g:c<(z9g (z3p (cls m) (rch m 0)) (rch m 0).length).length:=by rw [z7n];exact hc'
  simp [List.getD_eq_getElem?_getD,g]
 rw [f]
 exact⟨e.rng _ a,z4p.2 ⟨_,a,rfl⟩⟩
theorem q1u(a:MOk m):(fsS m).length≤m.rows.length:=by
 rw [zwe];exact Nat.le_trans (zbz _ _) (zql a).le
theorem q52(a:MOk m):(zam m).Nodup:=q10 (qa9 a)
theorem zmb(d:MOk m)(q:400≤N)(r:m.rows.length≤6)(s:m.inputs≤3):z10 N m=some (z7i (fsS m)):=by
 have f:=zql d
 have u:=d.r2
 have v:=f.le
 have g:(z7b m).length=m.rows.length:=zev
 have w:=q2b (rch m 0)
 have key: ∀ j,j<(rch m 0).length→ix (z7b m) (ix (z16 (rch m 0)) (j:Int))=(z3p (cls m) (rch m 0) j:Int):=fun j a=>by
  rw [zm3 a];exact zcs (f.rng j a)
 have c: ∀ j,j<(rch m 0).length→okI (z7b m) (ix (z16 (rch m 0)) (j:Int)):=fun j a=>by
  rw [zm3 a];exact ql (by rw [g];exact f.rng j a)
 have i: ∀ j,j<(rch m 0).length→bi N (z7b m) (z16 (rch m 0)) (j:Int) N 0 0=some (if z3e (z3p (cls m) (rch m 0)) j=true then 0 else 1):=fun j a=>by
  refine kz (σ:=Int) (fun F k st=>bi N (z7b m) (z16 (rch m 0)) (j:Int) F st (k:Int)) j
   (fun k st=>st=if ∀ t,t<k→z3p (cls m) (rch m 0) t≠z3p (cls m) (rch m 0) j then 0 else 1) _ (fun F k st l b=> .inr ?_) (fun F st b=>?_) N 0 0 (Nat.zero_le _) (by omega) ?_
  ·subst b
   refine⟨_,rfl,?_⟩
   simp only [bi]
   rw [ui (by omega)]
   refine(q8 (x:=if ∀ t,t<k+1→z3p (cls m) (rch m 0) t≠z3p (cls m) (rch m 0) j then(0:Int) else 1) ?_).trans ?_
   ·rw [zh (ql (by omega)),zh (c k (by omega)),zh (ql (by omega)),zh (c j a),key k (by omega),key j a]
    by_cases e:z3p (cls m) (rch m 0) k=z3p (cls m) (rch m 0) j
    ·rw [ui (by omega),if_neg (fun h=>h k (by omega) e)]
    ·rw [uh (by omega)]
     by_cases h: ∀ t,t<k→z3p (cls m) (rch m 0) t≠z3p (cls m) (rch m 0) j
     ·rw [if_pos h,if_pos]
      intro t p
      by_cases ht':t=k
      ·subst ht';exact e
      ·exact h t (by omega)
     ·rw [if_neg h,if_neg]
      exact fun h'=>h fun t p=>h' t (by omega)
   ·rw [zh (qh (by omega))];rfl
  ·subst b
   simp only [bi]
   rw [uh (by omega)]
   by_cases h:z3e (z3p (cls m) (rch m 0)) j=true
   ·rw [if_pos h,if_pos (z0g.1 h)]
   ·rw [if_neg h,if_neg fun h'=>h (z0g.2 h')]
  ·rw [if_pos (fun t p=>by omega)]
 have n:gy N (z7b m) (z16 (rch m 0)) N [] 0=some (z7i (fsS m)):=by
  refine kz (σ:=List Int) (fun F k st=>gy N (z7b m) (z16 (rch m 0)) F st (k:Int)) (rch m 0).length
   (fun k st=>st=z7i ((z9g (z3p (cls m) (rch m 0)) k).map fun j=>((rch m 0).getD j default).st)) _ (fun F k st l b=> .inr ?_) (fun F st b=>?_) N 0 [] (Nat.zero_le _) (by omega) rfl
  ·subst b
   refine⟨_,rfl,?_⟩
   simp only [gy]
   rw [ui (by omega)]
   have o:=zbz (z3p (cls m) (rch m 0)) k
   refine(q8 (x:=z7i ((z9g (z3p (cls m) (rch m 0)) (k+1)).map fun j=>((rch m 0).getD j default).st)) ?_).trans ?_
   ·rw [q8 (i k l),zjh]
    by_cases h:z3e (z3p (cls m) (rch m 0)) k=true
    ·have y:(z7i ((z9g (z3p (cls m) (rch m 0)) k).map fun j=>((rch m 0).getD j default).st)).length≤k:=by
      rw [zk0,List.length_map,z7n];exact o
     rw [if_pos h,if_pos h,ui rfl,zh (ql (by omega)),zh ⟨by simp only [List.length_singleton];omega,by simp only [List.length_singleton];omega⟩,zm3 l]
     unfold z7i
     rw [List.map_append,List.map_append];rfl
    ·rw [if_neg h,if_neg h,uh (by decide),List.append_nil]
   ·rw [zh (qh (by omega))];rfl
  ·subst b
   simp only [gy]
   rw [uh (by omega)];rfl
 unfold z10
 rw [q8 (zeo d (by omega)),q8 (zyx d q r s),q8 n]
theorem q47(b:MOk m)(t:400≤N)(u:m.rows.length≤6)(v:m.inputs≤3):z4z N m=some (zqv m):=by
 have w:=b.r1
 have y:=q1u b
 have c:(z7b m).length=m.rows.length:=zev
 have z:(z7i (fsS m)).length=(fsS m).length:=zk0 _
 have j: ∀ s,s<m.rows.length→af N (z7b m) (z7i (fsS m)) (z08 m.rows.length (rch m 0)) (s:Int) N (-1) 0=some (zl1 m s):=fun s i=>by
  refine kz (σ:=Int) (fun F k st=>af N (z7b m) (z7i (fsS m)) (z08 m.rows.length (rch m 0)) (s:Int) F st (k:Int)) (fsS m).length
   (fun k st=>st=if occ (rch m 0) s=true∧cls m s∈(zam m).take k then(((zam m).idxOf (cls m s):Nat):Int) else-1) _ (fun F k st f d=> .inr ?_) (fun F st d=>?_) N 0 (-1) (Nat.zero_le _) (by omega) ?_
  ·subst d
   obtain⟨f1,C⟩:=zq3 b f
   have g:k<(zam m).length:=by rw [zfc b];exact f
   have hget:=zsy b f
   have l:ix (z08 m.rows.length (rch m 0)) (s:Int)=occ (rch m 0) s:=z7x i
   have A:ix (z7i (fsS m)) (k:Int)=(((fsS m).getD k 0:Nat):Int):=zpb f
   have n:ix (z7b m) (((fsS m).getD k 0:Nat):Int)=((cls m ((fsS m).getD k 0):Nat):Int):=zcs f1
   have o:ix (z7b m) (s:Int)=((cls m s:Nat):Int):=zcs i
   have B:(zam m).take (k+1)=(zam m).take k++[cls m ((fsS m).getD k 0)]:=by rw [←hget];exact zda _ k g
   refine⟨_,rfl,?_⟩
   simp only [af]
   rw [ui (by omega)]
   refine(q8 (x:=if occ (rch m 0) s=true∧cls m s∈(zam m).take (k+1) then(((zam m).idxOf (cls m s):Nat):Int) else-1) ?_).trans ?_
   ·rw [zh (ql (by rw [z4a];exact i)),zh (fun _=>ql (by omega)),A,zh (fun _=>ql (by rw [c];exact f1)),zh (fun _=>ql (by rw [c];exact i)),l,n,o,B]
    cases ho:occ (rch m 0) s
    ·rw [cf (by rw [Bool.false_and]),if_neg (fun h=>by cases h.1),if_neg (fun h=>by cases h.1)]
    ·by_cases e:cls m ((fsS m).getD k 0)=cls m s
     ·have hi:(zam m).idxOf (cls m s)=k:=by rw [←e,←hget];exact q0f (q52 b) g
      rw [ct (by rw [e];simp),if_pos ⟨rfl,List.mem_append.2 (.inr (by rw [e];exact List.mem_singleton.2 rfl))⟩,hi]
     ·rw [cf (by rw [Bool.true_and];exact decide_eq_false (by omega))]
      by_cases h:cls m s∈(zam m).take k
      ·rw [if_pos ⟨rfl,h⟩,if_pos ⟨rfl,List.mem_append.2 (.inl h)⟩]
      ·rw [if_neg (fun h'=>h h'.2),if_neg (fun h'=>by
        rcases List.mem_append.1 h'.2 with p|p
        ·exact h p
        ·exact e (List.mem_singleton.1 p).symm)]
   ·rw [zh (qh (by omega))];rfl
  ·subst d
   simp only [af]
   rw [uh (by omega),←zfc b,List.take_length]
   unfold zl1
   by_cases h:occ (rch m 0) s=true
   ·rw [if_pos h,if_pos ⟨h,q3y b h⟩]
   ·rw [if_neg h,if_neg (fun h'=>h h'.1)]
  ·rw [if_neg (fun h=>by simp at h)]
 have q:oo N (z7b m) (z7i (fsS m)) (z08 m.rows.length (rch m 0)) N [] 0=some (zqv m):=by
  refine kz (σ:=List Int) (fun F k st=>oo N (z7b m) (z7i (fsS m)) (z08 m.rows.length (rch m 0)) F st (k:Int)) m.rows.length
   (fun k st=>st=(List.range k).map (zl1 m)) _ (fun F k st f d=> .inr ?_) (fun F st d=>?_) N 0 [] (Nat.zero_le _) (by omega) rfl
  ·subst d
   refine⟨_,rfl,?_⟩
   simp only [oo]
   have r:((List.range k).map (zl1 m)).length=k:=by simp
   rw [ui (by rw [c];omega),q8 (j k f),zh ⟨by rw [r];simp only [List.length_singleton];omega,by rw [r];simp only [List.length_singleton];omega⟩,zh (qh (by omega)),z95]
   rfl
  ·subst d
   simp only [oo]
   rw [uh (by rw [c];omega)];rfl
 unfold z4z
 rw [q8 (zeo b (by omega)),q8 (zmb b t u v)]
 refine(q8 (show av N m 0=some (reachL m 0) from zn6 b (by omega) (a:=0) (by omega))).trans ?_
 rw [zva b,q8 q]
theorem q7o(b:MOk m){s i:Nat}(h:occ (rch m 0) s=true)(hi:i<m.inputs.toNat)(a:ed m s i≠ -1):occ (rch m 0) (ed m s i).toNat=true:=by
 have c:=zql b
 obtain⟨q,d,rfl⟩:=z4p.1 h
 obtain⟨j,e,f,_⟩:=c.cls q i d hi a
 exact z4p.2 ⟨j,e,by omega⟩
theorem zys(a:MOk m):(zkz m).rows=(List.range (fsS m).length).map fun c=>(List.range m.inputs.toNat).map fun i=>(⟨if 0≤ed m ((fsS m).getD c 0) i then zl1 m (ed m ((fsS m).getD c 0) i).toNat else ed m ((fsS m).getD c 0) i,ou m ((fsS m).getD c 0) i⟩:Edge):=by
 have k:=zn2 a
 show (zam m).map (rowP (zck m) (zam m))=_
 refine z5e (by simp [zfc a]) fun c e=>?_
 rw [List.length_map,zfc a] at e
 obtain⟨f1,l⟩:=zq3 a e
 have g:=zsy a e
 have b:=zh5 (m:=m) f1
 obtain⟨n,o⟩:=zpr a f1
 have f:(rowP (zck m) (zam m) (cls m ((fsS m).getD c 0))).length=m.inputs.toNat:=zn7 k (by rw [zj2];exact b)
 have p:((zam m).map (rowP (zck m) (zam m))).getD c default=rowP (zck m) (zam m) (cls m ((fsS m).getD c 0)):=by
  rw [←g]
  have:c<(zam m).length:=by rw [zfc a];exact e
  simp [List.getD_eq_getElem?_getD,this]
 rw [p,xw _ e]
 refine z5e (by rw [f];simp) fun i hi=>?_
 rw [f] at hi
 rw [xw _ hi,zri k (by rw [zj2];exact b) hi]
 obtain⟨q,r⟩:=zq2 a b hi
 obtain⟨s,j,t⟩:=zmj a n f1 o hi
 have q2':(((zck m).rows.getD (cls m ((fsS m).getD c 0)) default).getD i default).out=ou m ((fsS m).getD c 0) i:=r.trans s
 rw [q2',q]
 congr 1
 rcases zcr a f1 hi with h|⟨u,w⟩
 ·rw [j.2 h,zqc,h,if_neg (by decide)];rfl
 ·have d:ed m ((fsS m).getD c 0) i≠ -1:=by omega
  have v:=q7o a l hi d
  rw [if_pos u]
  unfold zl1
  rw [if_pos v]
  unfold hI
  rw [if_neg (fun h=>d (j.1 h)),t (fun h=>d (j.1 h)),q59]
theorem zw4(a:MOk m)(o:400≤N)(p:m.rows.length≤6)(q:m.inputs≤3):z1y N m=some (zkz m):=by
 have s:=a.r1;have t:=a.i1
 have u:=q1u a
 have v:(z7i (fsS m)).length=(fsS m).length:=zk0 _
 have d:=q0m (m:=m)
 have e: ∀ c,c<(fsS m).length→xc N m (z7i (fsS m)) (zqv m) (c:Int) N [] 0=some ((List.range m.inputs.toNat).map fun i=>(⟨if 0≤ed m ((fsS m).getD c 0) i then zl1 m (ed m ((fsS m).getD c 0) i).toNat else ed m ((fsS m).getD c 0) i,ou m ((fsS m).getD c 0) i⟩:Edge)):=fun c r=>by
  obtain⟨f1,z⟩:=zq3 a r
  have hrow:=a.row _ f1
  have w:ix (z7i (fsS m)) (c:Int)=(((fsS m).getD c 0:Nat):Int):=zpb r
  refine kz (σ:=List Edge) (fun F k st=>xc N m (z7i (fsS m)) (zqv m) (c:Int) F st (k:Int)) m.inputs.toNat
   (fun k st=>st=(List.range k).map fun i=>(⟨if 0≤ed m ((fsS m).getD c 0) i then zl1 m (ed m ((fsS m).getD c 0) i).toNat else ed m ((fsS m).getD c 0) i,ou m ((fsS m).getD c 0) i⟩:Edge)) _ (fun F k st f b=> .inr ?_) (fun F st b=>?_) N 0 [] (Nat.zero_le _) (by omega) rfl
  ·subst b
   refine⟨_,rfl,?_⟩
   simp only [xc]
   have g:ix m.rows (((fsS m).getD c 0:Nat):Int)=m.rows.getD ((fsS m).getD c 0) default:=rfl
   have j:ix (m.rows.getD ((fsS m).getD c 0) default) (k:Int)=⟨ed m ((fsS m).getD c 0) k,ou m ((fsS m).getD c 0) k⟩:=rfl
   rw [ui (by omega),zh (ql (by omega)),w,zh (ql f1),g,zh (ql (by omega)),j]
   refine(q8 (x:=if 0≤ed m ((fsS m).getD c 0) k then zl1 m (ed m ((fsS m).getD c 0) k).toNat else ed m ((fsS m).getD c 0) k) ?_).trans ?_
   ·rcases zcr a f1 f with h|⟨l,y⟩
    ·rw [uh (by dsimp only;omega),if_neg (by omega)]
    ·rw [ui l,zh ⟨l,by dsimp only;rw [d];exact y⟩,if_pos l]
     exact congrArg some (q2l (show (ed m ((fsS m).getD c 0) k).toNat<m.rows.length by omega))
   ·rw [zh ⟨by simp;omega,by simp;omega⟩,zh (qh (by omega)),z95];rfl
  ·subst b
   simp only [xc]
   rw [uh (by omega)]
 have n:xq N m (z7i (fsS m)) (zqv m) N 0 []=some (zkz m).rows:=by
  rw [zys a]
  refine kz (σ:=List (List Edge)) (fun F k st=>xq N m (z7i (fsS m)) (zqv m) F (k:Int) st) (fsS m).length
   (fun k st=>st=(List.range k).map fun c=>(List.range m.inputs.toNat).map fun i=>(⟨if 0≤ed m ((fsS m).getD c 0) i then zl1 m (ed m ((fsS m).getD c 0) i).toNat else ed m ((fsS m).getD c 0) i,ou m ((fsS m).getD c 0) i⟩:Edge)) _ (fun F k st f b=> .inr ?_) (fun F st b=>?_) N 0 [] (Nat.zero_le _) (by omega) rfl
  ·subst b
   refine⟨_,rfl,?_⟩
   simp only [xq]
   rw [ui (by omega),q8 (e k f),zh ⟨by simp;omega,by simp;omega⟩,zh (qh (by omega)),z95];rfl
  ·subst b
   simp only [xq]
   rw [uh (by omega)]
 unfold z1y
 rw [q8 (zmb a o p q),q8 (q47 a o p q),q8 n]
 rfl
end
end GV
end Go.Proofs.YtplgbkaollfmkaaGreat

namespace Go.Proofs.YtplgbkaollfmkaaGreat
namespace GV
set_option maxRecDepth 100000
theorem q0r{m:Mach}(a:MOk m):zqp m=mr m:=by
 have b:z2w m=0:=(z5u m).2 a
 have hmul:=a.mul
 have c:=zpd a m.rows.length (Nat.le_refl _)
 have d:(zpt m).length=(z9e m (m.rows.length*m.inputs.toNat)).length:=rfl
 have e:zue m=zbk m m.rows.length:=rfl
 unfold zqp mr
 rw [if_neg (by rw [b];simp),hmul.2]
 by_cases h:(zpt m).length=0
 ·rw [decide_eq_true (by omega),decide_eq_true (by omega)]
 ·rw [decide_eq_false (by omega),decide_eq_false (by omega)]
theorem ztl{m:Mach}(a:MOk m)(h: ∀ s i,s<m.rows.length→i<m.inputs.toNat→0≤ed m s i):mr m=true:=by
 have b:=a.i1
 have e: ∀ k,k≤m.rows.length→zbk m k=k*m.inputs.toNat:=by
  intro k
  induction k with
  |zero=>intro _;simp [zbk]
  |succ k ih=>
   intro c
   have hrow:=a.row k (by omega)
   rw [zaw m k (by omega),ih (by omega),zsv (fun i hi=>h k i (by omega) (by omega)) _ (Nat.le_refl _),Nat.succ_mul]
   omega
 unfold mr zue
 rw [e _ (Nat.le_refl _),a.mul.2]
 exact decide_eq_true rfl
theorem zjt{κ:Type}[DecidableEq κ]{f:Nat→κ}: ∀ {n:Nat},cntF f n=n↔ ∀ u,u<n→z3e f u=true
 |0=>⟨fun _ u b=>by omega,fun _=>rfl⟩
 |n+1=>by
  have ih:=zjt (f:=f) (n:=n)
  have c:=zbz f n
  have a:cntF f (n+1)=cntF f n+if z3e f n=true then 1 else 0:=rfl
  by_cases h:z3e f n=true
  ·rw [if_pos h] at a
   rw [a]
   constructor
   ·intro e u b
    by_cases e':u=n
    ·subst e';exact h
    ·exact ih.1 (by omega) u (by omega)
   ·intro e
    have:=ih.2 fun u b=>e u (by omega)
    omega
  ·rw [if_neg h] at a
   rw [a]
   exact⟨fun e=>by omega,fun e=>absurd (e n (by omega)) h⟩
theorem q4j{m:Mach}{k:Nat}(d:1≤k):max ((cntF (cls m) k:Int)-1) (cls m k:Int)=(cntF (cls m) (k+1):Int)-1:=by
 have b:cntF (cls m) (k+1)=cntF (cls m) k+if z3e (cls m) k=true then 1 else 0:=rfl
 have c:=ziw (m:=m) k
 by_cases h:z3e (cls m) k=true
 ·rw [if_pos h] at b
  rw [zfn h] at c
  omega
 ·rw [if_neg h] at b
  have f:=z4y (cls m) k
  have a:=z8r (cls m) k
  have g:z8h (cls m) k≠k:=fun e=>h (by rw [e] at a;exact a)
  have i:=zan (cls m) (show z8h (cls m) k<k by omega) a
  have j:cntF (cls m) (z8h (cls m) k)=cls m k:=c
  omega
def zno(m:Mach):Bool:=decide (cntF (cls m) m.rows.length=m.rows.length)
noncomputable def properM(m:Mach):Int:=if z2w m≠0 then z2w m else if mr m=false then 9 else if connB m=false then 11 else if zno m=false then 12 else 0
section
variable {N : Nat} {m : Mach}
theorem q4n(f:Nat→Nat):cntF f 1=1:=by
 have:z3e f 0=true:=z0g.2 fun t a=>by omega
 show 0+(if z3e f 0=true then 1 else 0)=1
 rw [if_pos this]
theorem q6o(c:MOk m)(l:200≤N):slices_Max_int N (z7b m)=some ((cntF (cls m) m.rows.length:Int)-1):=by
 have e:(z7b m).length=m.rows.length:=zev
 have a:=c.r1;have f:=c.r2
 have g:ix (z7b m) 0=(cntF (cls m) 1:Int)-1:=by
  have:ix (z7b m) 0=((cls m 0:Nat):Int):=zcs (s:=0) (by omega)
  rw [this,zs6,q4n];rfl
 have h:l9 N (z7b m) N ((cntF (cls m) 1:Int)-1) 1=some ((cntF (cls m) m.rows.length:Int)-1):=by
  refine kz (σ:=Int) (fun F k st=>l9 N (z7b m) F st (k:Int)) m.rows.length (fun k st=>1≤k∧st=(cntF (cls m) k:Int)-1) _ (fun F k st i b=> .inr ?_) (fun F st b=>?_) N 1 _ a (by omega) ⟨Nat.le_refl _,rfl⟩
  ·obtain⟨d,rfl⟩:=b
   refine⟨_,⟨by omega,rfl⟩,?_⟩
   simp only [l9]
   have j:ix (z7b m) (k:Int)=((cls m k:Nat):Int):=zcs i
   rw [ui (by omega),zh (ql (by omega)),zh (qh (by omega)),j,q4j d]
   rfl
  ·obtain⟨d,rfl⟩:=b
   simp only [l9]
   rw [uh (by omega)]
 unfold slices_Max_int
 rw [uh (by omega),zh ⟨by omega,by omega⟩,g,q8 h]
theorem zye(a:MOk m)(b:200≤N):z5b N m=some (zno m):=by
 have c:(z7b m).length=m.rows.length:=zev
 have d:=a.r2
 obtain⟨j,e⟩:=zum (N:=N) a b
 unfold z5b
 rw [q8 e,q8 (q6o a b),zh (qh (by dsimp only;omega))]
 unfold zno
 by_cases h:cntF (cls m) m.rows.length=m.rows.length
 ·rw [decide_eq_true h,decide_eq_true (by dsimp only;omega)]
 ·rw [decide_eq_false h,decide_eq_false (by dsimp only;omega)]
theorem zyp(a:MOk m)(b:200≤N):z4w N m=some (connB m):=by
 unfold z4w
 rw [q8 (zim a.small b),(z5u m).2 a];rfl
theorem zzh(a:MOk m)(b:200≤N):z5d N m=some (mr m):=by
 unfold z5d
 rw [q8 (zsk a.small b),q0r a]
theorem zym(c:Small m)(a:200≤N):z5l N m=some (properM m):=by
 unfold z5l properM
 rw [q8 (zj0 c a)]
 by_cases h:z2w m≠0
 ·rw [ui h,if_pos h]
 ·rw [uh h,if_neg h]
  have b:=(z5u m).1 (by omega)
  refine(zpx (x:=(m,m,m))).trans ?_
  refine(q8 (zzh b a)).trans ?_
  cases mr m
  ·rfl
  refine(cf rfl).trans ?_
  refine(q8 (zyp b a)).trans ?_
  cases connB m
  ·rfl
  refine(cf rfl).trans ?_
  refine(q8 (zye b a)).trans ?_
  cases zno m<;>rfl
theorem zvb(a:Small m)(b:200≤N):z2s N m=some (properM m):=by
 unfold z2s properM
 rw [q8 (zyz a b)]
 by_cases h:z2w m≠0
 ·rw [ui h,if_pos h]
 ·rw [uh h,if_neg h]
  have c:=(z5u m).1 (by omega)
  have j:=c.r2
  have k:(z7b m).length=m.rows.length:=zev
  refine(q8 (zpi c b)).trans ?_
  cases mr m
  ·rfl
  refine(cf rfl).trans ?_
  refine(q8 (q33 c b)).trans ?_
  cases connB m
  ·rfl
  refine(cf rfl).trans ?_
  refine(q8 (zeo c b)).trans ?_
  have hget: ∀ s,s<m.rows.length→ix (z7b m) (s:Int)=((cls m s:Nat):Int):=fun s a=>zcs a
  have f: ∀ s,s<m.rows.length→bv N (z7b m) (s:Int) N 0=some (if z3e (cls m) s=true then Ex.go () else Ex.rt (Ex.rt 12)):=fun s a=>by
   refine kz (σ:=Unit) (fun F t _=>bv N (z7b m) (s:Int) F (t:Int)) s (fun t _=> ∀ u,u<t→cls m u≠cls m s) _ (fun F t _ d hi=>?_) (fun F _ hi=>?_) N 0 () (Nat.zero_le _) (by omega) (fun u g=>by omega)
   ·simp only [bv]
    rw [ui (by omega),zh (ql (by omega)),zh (ql (by omega)),hget s a,hget t (by omega)]
    by_cases e:cls m s=cls m t
    ·left
     rw [ui (by omega),if_neg (fun l=>z0g.1 l t d e.symm)]
    ·right
     refine⟨(),fun u g=>?_,?_⟩
     ·by_cases e':u=t
      ·subst e';exact fun h=>e h.symm
      ·exact hi u (by omega)
     ·rw [uh (by omega),zh (qh (by omega))];rfl
   ·simp only [bv]
    rw [uh (by omega),if_pos (z0g.2 hi)]
  have i:xz N (z7b m) N 0=some (if zno m=true then Ex.go () else Ex.rt 12):=by
   refine kz (σ:=Unit) (fun F t _=>xz N (z7b m) F (t:Int)) m.rows.length (fun t _=> ∀ u,u<t→z3e (cls m) u=true) _ (fun F t _ d hi=>?_) (fun F _ hi=>?_) N 0 () (Nat.zero_le _) (by omega) (fun u g=>by omega)
   ·simp only [xz]
    rw [ui (by omega),q8 (f t d)]
    by_cases e:z3e (cls m) t=true
    ·right
     refine⟨(),fun u g=>?_,?_⟩
     ·by_cases e':u=t
      ·subst e';exact e
      ·exact hi u (by omega)
     ·rw [if_pos e,zi9,zh (qh (by omega))];rfl
    ·left
     have:zno m=false:=decide_eq_false fun h=>e (zjt.1 h t d)
     rw [if_neg e,this];rfl
   ·simp only [xz]
    have:zno m=true:=decide_eq_true (zjt.2 hi)
    rw [uh (by omega),if_pos this]
  refine(q8 i).trans ?_
  cases zno m<;>rfl
end
/-! ### Homomorphisms-/
section
variable {N : Nat} {a b : Mach} {f : List Int}
structure HOk (a b:Mach) (f:List Int):Prop where
 ha:MOk a
 hb:MOk b
 hi:a.inputs=b.inputs
 hl:f.length=a.rows.length
 hr: ∀ k,k<f.length→0≤f.getD k default∧f.getD k default<b.rows.length
end
end GV
end Go.Proofs.YtplgbkaollfmkaaGreat

namespace Go.Proofs.YtplgbkaollfmkaaGreat
namespace GV
set_option maxRecDepth 100000
section
variable {m : Mach}
end
end GV
end Go.Proofs.YtplgbkaollfmkaaGreat
