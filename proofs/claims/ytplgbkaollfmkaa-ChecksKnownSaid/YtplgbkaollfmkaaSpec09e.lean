
import Derived.Test.YtplgbkaollfmkaaSpec09b
import Derived.Test.YtplgbkaollfmkaaSpec04b
import Derived.Test.YtplgbkaollfmkaaLaw04c
import Derived.Test.YtplgbkaollfmkaaSpec06m
set_option linter.unusedVariables false
set_option linter.unusedSimpArgs false
namespace Go.Proofs.Ytplgbkaollfmkaa
namespace GV
set_option maxRecDepth 100000
theorem zvh{m:Mach}(d:MOk m){t:Nat}:Reach m 0 t↔occ (rch m 0) t=true:=by
 have a:=zpo d
 constructor
 ·intro h
  induction h with
  |refl=>exact z3q.2 ⟨0,a.pos,by rw [a.root]⟩
  |step s o u v ih=>
   rename_i t i
   obtain⟨q,g,rfl⟩:=z3q.1 ih
   have k:=d.row _ o
   have e:ed m ((rch m 0).getD q default).st i≠ -1:=by show ((m.rows.getD ((rch m 0).getD q default).st default).getD i default).to≠ -1;omega
   obtain⟨j,c,p,_⟩:=a.cls q i g (by omega) e
   refine z3q.2 ⟨j,c,?_⟩
   have:ed m ((rch m 0).getD q default).st i=((m.rows.getD ((rch m 0).getD q default).st default).getD i default).to:=rfl
   omega
 ·intro h
  obtain⟨j,c,rfl⟩:=z3q.1 h
  clear h
  have key: ∀ n j,j≤n→j<(rch m 0).length→Reach m 0 ((rch m 0).getD j default).st:=by
   intro n
   induction n with
   |zero=>
    intro j c b
    obtain rfl:j=0:=by omega
    rw [a.root];exact .refl
   |succ n ih=>
    intro j c b
    by_cases h0:j=0
    ·exact ih j (by omega) b
    ·obtain⟨q,i,g,hi,_,_,_,f⟩:=a.par j (by omega) b
     have k:=ih q (by omega) (by omega)
     have r:=d.row _ (a.rng q (by omega))
     have l:((m.rows.getD ((rch m 0).getD q default).st default).getD i default).to=(((rch m 0).getD j default).st:Int):=f
     have:=Reach.step (i:=i) k (a.rng q (by omega)) (by omega) (by rw [l];omega)
     rw [l,Int.toNat_natCast] at this
     exact this
  exact key j j (Nat.le_refl _) c
theorem zre{m:Mach}(b:MOk m):reachL m 0=z0j m.rows.length (rch m 0):=by
 refine z4t (by rw [z1v,z4d]) fun k a=>?_
 rw [z1v] at a
 rw [Bool.eq_iff_iff,z7r a,z7z a]
 exact zvh b
/-! ### First ones-/
def fsS(m:Mach):List Nat:=(z81 (z1s (cls m) (rch m 0)) (rch m 0).length).map fun j=>((rch m 0).getD j default).st
section
variable {N : Nat} {m : Mach}
theorem ztj:(fsS m).length=cntF (z1s (cls m) (rch m 0)) (rch m 0).length:=by unfold fsS;rw [List.length_map,z6c]
theorem ztq(a:MOk m):z95 m=(fsS m).map (cls m):=by
 unfold z95 fsS zlj
 rw [q4x a,List.map_map]
 unfold zav
 rw [List.map_map]
 rfl
theorem zdp(a:MOk m):(z95 m).length=(fsS m).length:=by rw [ztq a,List.length_map]
theorem zor(a:MOk m){c:Nat}(b:c<(fsS m).length):(z95 m).getD c 0=cls m ((fsS m).getD c 0):=by
 rw [ztq a]
 simp [List.getD_eq_getElem?_getD,b]
theorem zng(b:MOk m){c:Nat}(d:c<(fsS m).length):(fsS m).getD c 0<m.rows.length∧occ (rch m 0) ((fsS m).getD c 0)=true:=by
 have e:=zpo b
 have hc':=d
 rw [ztj] at hc'
 obtain⟨a,_,_⟩:=z9a hc'
 have f:(fsS m).getD c 0=((rch m 0).getD ((z81 (z1s (cls m) (rch m 0)) (rch m 0).length).getD c 0) default).st:=by
  unfold fsS
  have g:c<(z81 (z1s (cls m) (rch m 0)) (rch m 0).length).length:=by rw [z6c];exact hc'
  simp [List.getD_eq_getElem?_getD,g]
 rw [f]
 exact⟨e.rng _ a,z3q.2 ⟨_,a,rfl⟩⟩
theorem zwr(a:MOk m):(fsS m).length≤m.rows.length:=by
 rw [ztj];exact Nat.le_trans (zc4 _ _) (zpo a).le
theorem q07(a:MOk m):(z95 m).Nodup:=zz8 (q6w a)
theorem zkd(d:MOk m)(q:400≤N)(r:m.rows.length≤6)(s:m.inputs≤3):lq N m=some (z5w (fsS m)):=by
 have f:=zpo d
 have u:=d.r2
 have v:=f.le
 have g:(z5q m).length=m.rows.length:=zdc
 have w:=zz5 (rch m 0)
 have key: ∀ j,j<(rch m 0).length→ix (z5q m) (ix (z3i (rch m 0)) (j:Int))=(z1s (cls m) (rch m 0) j:Int):=fun j a=>by
  rw [zkb a];exact zao (f.rng j a)
 have c: ∀ j,j<(rch m 0).length→okI (z5q m) (ix (z3i (rch m 0)) (j:Int)):=fun j a=>by
  rw [zkb a];exact qx (by rw [g];exact f.rng j a)
 have i: ∀ j,j<(rch m 0).length→xn N (z5q m) (z3i (rch m 0)) (j:Int) N 0 0=some (if z1h (z1s (cls m) (rch m 0)) j=true then 0 else 1):=fun j a=>by
  refine ug (σ:=Int) (fun F k st=>xn N (z5q m) (z3i (rch m 0)) (j:Int) F st (k:Int)) j
   (fun k st=>st=if ∀ t,t<k→z1s (cls m) (rch m 0) t≠z1s (cls m) (rch m 0) j then 0 else 1) _ (fun F k st l b=> .inr ?_) (fun F st b=>?_) N 0 0 (Nat.zero_le _) (by omega) ?_
  ·subst b
   refine⟨_,rfl,?_⟩
   simp only [xn]
   rw [uy (by omega)]
   refine(qc (x:=if ∀ t,t<k+1→z1s (cls m) (rch m 0) t≠z1s (cls m) (rch m 0) j then(0:Int) else 1) ?_).trans ?_
   ·rw [zm (qx (by omega)),zm (c k (by omega)),zm (qx (by omega)),zm (c j a),key k (by omega),key j a]
    by_cases e:z1s (cls m) (rch m 0) k=z1s (cls m) (rch m 0) j
    ·rw [uy (by omega),if_neg (fun h=>h k (by omega) e)]
    ·rw [ul (by omega)]
     by_cases h: ∀ t,t<k→z1s (cls m) (rch m 0) t≠z1s (cls m) (rch m 0) j
     ·rw [if_pos h,if_pos]
      intro t p
      by_cases ht':t=k
      ·subst ht';exact e
      ·exact h t (by omega)
     ·rw [if_neg h,if_neg]
      exact fun h'=>h fun t p=>h' t (by omega)
   ·rw [zm (qo (by omega))];rfl
  ·subst b
   simp only [xn]
   rw [ul (by omega)]
   by_cases h:z1h (z1s (cls m) (rch m 0)) j=true
   ·rw [if_pos h,if_pos (ru.1 h)]
   ·rw [if_neg h,if_neg fun h'=>h (ru.2 h')]
  ·rw [if_pos (fun t p=>by omega)]
 have n:xk N (z5q m) (z3i (rch m 0)) N [] 0=some (z5w (fsS m)):=by
  refine ug (σ:=List Int) (fun F k st=>xk N (z5q m) (z3i (rch m 0)) F st (k:Int)) (rch m 0).length
   (fun k st=>st=z5w ((z81 (z1s (cls m) (rch m 0)) k).map fun j=>((rch m 0).getD j default).st)) _ (fun F k st l b=> .inr ?_) (fun F st b=>?_) N 0 [] (Nat.zero_le _) (by omega) rfl
  ·subst b
   refine⟨_,rfl,?_⟩
   simp only [xk]
   rw [uy (by omega)]
   have o:=zc4 (z1s (cls m) (rch m 0)) k
   refine(qc (x:=z5w ((z81 (z1s (cls m) (rch m 0)) (k+1)).map fun j=>((rch m 0).getD j default).st)) ?_).trans ?_
   ·rw [qc (i k l),zh0]
    by_cases h:z1h (z1s (cls m) (rch m 0)) k=true
    ·have y:(z5w ((z81 (z1s (cls m) (rch m 0)) k).map fun j=>((rch m 0).getD j default).st)).length≤k:=by
      rw [zha,List.length_map,z6c];exact o
     rw [if_pos h,if_pos h,uy rfl,zm (qx (by omega)),zm ⟨by simp only [List.length_singleton];omega,by simp only [List.length_singleton];omega⟩,zkb l]
     unfold z5w
     rw [List.map_append,List.map_append];rfl
    ·rw [if_neg h,if_neg h,ul (by decide),List.append_nil]
   ·rw [zm (qo (by omega))];rfl
  ·subst b
   simp only [xk]
   rw [ul (by omega)];rfl
 unfold lq
 rw [qc (zd0 d (by omega)),qc (zux d q r s),qc n]
theorem zzv(b:MOk m)(t:400≤N)(u:m.rows.length≤6)(v:m.inputs≤3):z3b N m=some (zo8 m):=by
 have w:=b.r1
 have y:=zwr b
 have c:(z5q m).length=m.rows.length:=zdc
 have z:(z5w (fsS m)).length=(fsS m).length:=zha _
 have j: ∀ s,s<m.rows.length→nz N (z5q m) (z5w (fsS m)) (z0j m.rows.length (rch m 0)) (s:Int) N (-1) 0=some (zik m s):=fun s i=>by
  refine ug (σ:=Int) (fun F k st=>nz N (z5q m) (z5w (fsS m)) (z0j m.rows.length (rch m 0)) (s:Int) F st (k:Int)) (fsS m).length
   (fun k st=>st=if occ (rch m 0) s=true∧cls m s∈(z95 m).take k then(((z95 m).idxOf (cls m s):Nat):Int) else-1) _ (fun F k st f d=> .inr ?_) (fun F st d=>?_) N 0 (-1) (Nat.zero_le _) (by omega) ?_
  ·subst d
   obtain⟨f1,C⟩:=zng b f
   have g:k<(z95 m).length:=by rw [zdp b];exact f
   have hget:=zor b f
   have l:ix (z0j m.rows.length (rch m 0)) (s:Int)=occ (rch m 0) s:=z7z i
   have A:ix (z5w (fsS m)) (k:Int)=(((fsS m).getD k 0:Nat):Int):=zmi f
   have n:ix (z5q m) (((fsS m).getD k 0:Nat):Int)=((cls m ((fsS m).getD k 0):Nat):Int):=zao f1
   have o:ix (z5q m) (s:Int)=((cls m s:Nat):Int):=zao i
   have B:(z95 m).take (k+1)=(z95 m).take k++[cls m ((fsS m).getD k 0)]:=by rw [←hget];exact zff _ k g
   refine⟨_,rfl,?_⟩
   simp only [nz]
   rw [uy (by omega)]
   refine(qc (x:=if occ (rch m 0) s=true∧cls m s∈(z95 m).take (k+1) then(((z95 m).idxOf (cls m s):Nat):Int) else-1) ?_).trans ?_
   ·rw [zm (qx (by rw [z4d];exact i)),zm (fun _=>qx (by omega)),A,zm (fun _=>qx (by rw [c];exact f1)),zm (fun _=>qx (by rw [c];exact i)),l,n,o,B]
    cases ho:occ (rch m 0) s
    ·rw [cf (by rw [Bool.false_and]),if_neg (fun h=>by cases h.1),if_neg (fun h=>by cases h.1)]
    ·by_cases e:cls m ((fsS m).getD k 0)=cls m s
     ·have hi:(z95 m).idxOf (cls m s)=k:=by rw [←e,←hget];exact zy6 (q07 b) g
      rw [ct (by rw [e];simp),if_pos ⟨rfl,List.mem_append.2 (.inr (by rw [e];exact List.mem_singleton.2 rfl))⟩,hi]
     ·rw [cf (by rw [Bool.true_and];exact decide_eq_false (by omega))]
      by_cases h:cls m s∈(z95 m).take k
      ·rw [if_pos ⟨rfl,h⟩,if_pos ⟨rfl,List.mem_append.2 (.inl h)⟩]
      ·rw [if_neg (fun h'=>h h'.2),if_neg (fun h'=>by
        rcases List.mem_append.1 h'.2 with p|p
        ·exact h p
        ·exact e (List.mem_singleton.1 p).symm)]
   ·rw [zm (qo (by omega))];rfl
  ·subst d
   simp only [nz]
   rw [ul (by omega),←zdp b,List.take_length]
   unfold zik
   by_cases h:occ (rch m 0) s=true
   ·rw [if_pos h,if_pos ⟨h,q0j b h⟩]
   ·rw [if_neg h,if_neg (fun h'=>h h'.1)]
  ·rw [if_neg (fun h=>by simp at h)]
 have q:ny N (z5q m) (z5w (fsS m)) (z0j m.rows.length (rch m 0)) N [] 0=some (zo8 m):=by
  refine ug (σ:=List Int) (fun F k st=>ny N (z5q m) (z5w (fsS m)) (z0j m.rows.length (rch m 0)) F st (k:Int)) m.rows.length
   (fun k st=>st=(List.range k).map (zik m)) _ (fun F k st f d=> .inr ?_) (fun F st d=>?_) N 0 [] (Nat.zero_le _) (by omega) rfl
  ·subst d
   refine⟨_,rfl,?_⟩
   simp only [ny]
   have r:((List.range k).map (zik m)).length=k:=by simp
   rw [uy (by rw [c];omega),qc (j k f),zm ⟨by rw [r];simp only [List.length_singleton];omega,by rw [r];simp only [List.length_singleton];omega⟩,zm (qo (by omega)),z7v]
   rfl
  ·subst d
   simp only [ny]
   rw [ul (by rw [c];omega)];rfl
 unfold z3b
 rw [qc (zd0 b (by omega)),qc (zkd b t u v)]
 refine(qc (show mi N m 0=some (reachL m 0) from zk4 b (by omega) (a:=0) (by omega))).trans ?_
 rw [zre b,qc q]
theorem q3i(b:MOk m){s i:Nat}(h:occ (rch m 0) s=true)(hi:i<m.inputs.toNat)(a:ed m s i≠ -1):occ (rch m 0) (ed m s i).toNat=true:=by
 have c:=zpo b
 obtain⟨q,d,rfl⟩:=z3q.1 h
 obtain⟨j,e,f,_⟩:=c.cls q i d hi a
 exact z3q.2 ⟨j,e,by omega⟩
theorem zur(a:MOk m):(zyp m).rows=(List.range (fsS m).length).map fun c=>(List.range m.inputs.toNat).map fun i=>(⟨if 0≤ed m ((fsS m).getD c 0) i then zik m (ed m ((fsS m).getD c 0) i).toNat else ed m ((fsS m).getD c 0) i,ou m ((fsS m).getD c 0) i⟩:Edge):=by
 have k:=zn4 a
 show (z95 m).map (rowP (zbd m) (z95 m))=_
 refine z4t (by simp [zdp a]) fun c e=>?_
 rw [List.length_map,zdp a] at e
 obtain⟨f1,l⟩:=zng a e
 have g:=zor a e
 have b:=zeu (m:=m) f1
 obtain⟨n,o⟩:=znf a f1
 have f:(rowP (zbd m) (z95 m) (cls m ((fsS m).getD c 0))).length=m.inputs.toNat:=zkk k (by rw [zj0];exact b)
 have p:((z95 m).map (rowP (zbd m) (z95 m))).getD c default=rowP (zbd m) (z95 m) (cls m ((fsS m).getD c 0)):=by
  rw [←g]
  have:c<(z95 m).length:=by rw [zdp a];exact e
  simp [List.getD_eq_getElem?_getD,this]
 rw [p,xc _ e]
 refine z4t (by rw [f];simp) fun i hi=>?_
 rw [f] at hi
 rw [xc _ hi,zod k (by rw [zj0];exact b) hi]
 obtain⟨q,r⟩:=zn9 a b hi
 obtain⟨s,j,t⟩:=zl1 a n f1 o hi
 have q2':(((zbd m).rows.getD (cls m ((fsS m).getD c 0)) default).getD i default).out=ou m ((fsS m).getD c 0) i:=r.trans s
 rw [q2',q]
 congr 1
 rcases zcb a f1 hi with h|⟨u,w⟩
 ·rw [j.2 h,znk,h,if_neg (by decide)];rfl
 ·have d:ed m ((fsS m).getD c 0) i≠ -1:=by omega
  have v:=q3i a l hi d
  rw [if_pos u]
  unfold zik
  rw [if_pos v]
  unfold hI
  rw [if_neg (fun h=>d (j.1 h)),t (fun h=>d (j.1 h)),q0w]
theorem q1c(a:MOk m)(o:400≤N)(p:m.rows.length≤6)(q:m.inputs≤3):z0k N m=some (zyp m):=by
 have s:=a.r1;have t:=a.i1
 have u:=zwr a
 have v:(z5w (fsS m)).length=(fsS m).length:=zha _
 have d:=zy9 (m:=m)
 have e: ∀ c,c<(fsS m).length→yt N m (z5w (fsS m)) (zo8 m) (c:Int) N [] 0=some ((List.range m.inputs.toNat).map fun i=>(⟨if 0≤ed m ((fsS m).getD c 0) i then zik m (ed m ((fsS m).getD c 0) i).toNat else ed m ((fsS m).getD c 0) i,ou m ((fsS m).getD c 0) i⟩:Edge)):=fun c r=>by
  obtain⟨f1,z⟩:=zng a r
  have hrow:=a.row _ f1
  have w:ix (z5w (fsS m)) (c:Int)=(((fsS m).getD c 0:Nat):Int):=zmi r
  refine ug (σ:=List Edge) (fun F k st=>yt N m (z5w (fsS m)) (zo8 m) (c:Int) F st (k:Int)) m.inputs.toNat
   (fun k st=>st=(List.range k).map fun i=>(⟨if 0≤ed m ((fsS m).getD c 0) i then zik m (ed m ((fsS m).getD c 0) i).toNat else ed m ((fsS m).getD c 0) i,ou m ((fsS m).getD c 0) i⟩:Edge)) _ (fun F k st f b=> .inr ?_) (fun F st b=>?_) N 0 [] (Nat.zero_le _) (by omega) rfl
  ·subst b
   refine⟨_,rfl,?_⟩
   simp only [yt]
   have g:ix m.rows (((fsS m).getD c 0:Nat):Int)=m.rows.getD ((fsS m).getD c 0) default:=rfl
   have j:ix (m.rows.getD ((fsS m).getD c 0) default) (k:Int)=⟨ed m ((fsS m).getD c 0) k,ou m ((fsS m).getD c 0) k⟩:=rfl
   rw [uy (by omega),zm (qx (by omega)),w,zm (qx f1),g,zm (qx (by omega)),j]
   refine(qc (x:=if 0≤ed m ((fsS m).getD c 0) k then zik m (ed m ((fsS m).getD c 0) k).toNat else ed m ((fsS m).getD c 0) k) ?_).trans ?_
   ·rcases zcb a f1 f with h|⟨l,y⟩
    ·rw [ul (by dsimp only;omega),if_neg (by omega)]
    ·rw [uy l,zm ⟨l,by dsimp only;rw [d];exact y⟩,if_pos l]
     exact congrArg some (zyu (show (ed m ((fsS m).getD c 0) k).toNat<m.rows.length by omega))
   ·rw [zm ⟨by simp;omega,by simp;omega⟩,zm (qo (by omega)),z7v];rfl
  ·subst b
   simp only [yt]
   rw [ul (by omega)]
 have n:yo N m (z5w (fsS m)) (zo8 m) N 0 []=some (zyp m).rows:=by
  rw [zur a]
  refine ug (σ:=List (List Edge)) (fun F k st=>yo N m (z5w (fsS m)) (zo8 m) F (k:Int) st) (fsS m).length
   (fun k st=>st=(List.range k).map fun c=>(List.range m.inputs.toNat).map fun i=>(⟨if 0≤ed m ((fsS m).getD c 0) i then zik m (ed m ((fsS m).getD c 0) i).toNat else ed m ((fsS m).getD c 0) i,ou m ((fsS m).getD c 0) i⟩:Edge)) _ (fun F k st f b=> .inr ?_) (fun F st b=>?_) N 0 [] (Nat.zero_le _) (by omega) rfl
  ·subst b
   refine⟨_,rfl,?_⟩
   simp only [yo]
   rw [uy (by omega),qc (e k f),zm ⟨by simp;omega,by simp;omega⟩,zm (qo (by omega)),z7v];rfl
  ·subst b
   simp only [yo]
   rw [ul (by omega)]
 unfold z0k
 rw [qc (zkd a o p q),qc (zzv a o p q),qc n]
 rfl
end
end GV
end Go.Proofs.Ytplgbkaollfmkaa

namespace Go.Proofs.Ytplgbkaollfmkaa
namespace GV
set_option maxRecDepth 100000
theorem zyd{m:Mach}(a:MOk m):zne m=z0x m:=by
 have b:z11 m=0:=(z4k m).2 a
 have hmul:=a.mul
 have c:=zm3 a m.rows.length (Nat.le_refl _)
 have d:(zna m).length=(z7q m (m.rows.length*m.inputs.toNat)).length:=rfl
 have e:zvo m=zas m m.rows.length:=rfl
 unfold zne z0x
 rw [if_neg (by rw [b];simp),hmul.2]
 by_cases h:(zna m).length=0
 ·rw [decide_eq_true (by omega),decide_eq_true (by omega)]
 ·rw [decide_eq_false (by omega),decide_eq_false (by omega)]
theorem zhl{κ:Type}[DecidableEq κ]{f:Nat→κ}: ∀ {n:Nat},cntF f n=n↔ ∀ u,u<n→z1h f u=true
 |0=>⟨fun _ u b=>by omega,fun _=>rfl⟩
 |n+1=>by
  have ih:=zhl (f:=f) (n:=n)
  have c:=zc4 f n
  have a:cntF f (n+1)=cntF f n+if z1h f n=true then 1 else 0:=rfl
  by_cases h:z1h f n=true
  ·rw [if_pos h] at a
   rw [a]
   constructor
   ·intro e u b
    by_cases e':u=n
    ·subst e';exact h
    ·exact ih.1 (by omega) u (by omega)
   ·intro e
    have:=ih.2 fun u b=>e u (by omega)
    omega
  ·rw [if_neg h] at a
   rw [a]
   exact⟨fun e=>by omega,fun e=>absurd (e n (by omega)) h⟩
theorem zzu{m:Mach}{k:Nat}(d:1≤k):max ((cntF (cls m) k:Int)-1) (cls m k:Int)=(cntF (cls m) (k+1):Int)-1:=by
 have b:cntF (cls m) (k+1)=cntF (cls m) k+if z1h (cls m) k=true then 1 else 0:=rfl
 have c:=zg5 (m:=m) k
 by_cases h:z1h (cls m) k=true
 ·rw [if_pos h] at b
  rw [ze7 h] at c
  omega
 ·rw [if_neg h] at b
  have f:=z3a (cls m) k
  have a:=z7g (cls m) k
  have g:z6t (cls m) k≠k:=fun e=>h (by rw [e] at a;exact a)
  have i:=z92 (cls m) (show z6t (cls m) k<k by omega) a
  have j:cntF (cls m) (z6t (cls m) k)=cls m k:=c
  omega
def zld(m:Mach):Bool:=decide (cntF (cls m) m.rows.length=m.rows.length)
noncomputable def properM(m:Mach):Int:=if z11 m≠0 then z11 m else if z0x m=false then 9 else if connB m=false then 11 else if zld m=false then 12 else 0
section
variable {N : Nat} {m : Mach}
theorem q18(f:Nat→Nat):cntF f 1=1:=by
 have:z1h f 0=true:=ru.2 fun t a=>by omega
 show 0+(if z1h f 0=true then 1 else 0)=1
 rw [if_pos this]
theorem q2s(c:MOk m)(l:200≤N):slices_Max_int N (z5q m)=some ((cntF (cls m) m.rows.length:Int)-1):=by
 have e:(z5q m).length=m.rows.length:=zdc
 have a:=c.r1;have f:=c.r2
 have g:ix (z5q m) 0=(cntF (cls m) 1:Int)-1:=by
  have:ix (z5q m) 0=((cls m 0:Nat):Int):=zao (s:=0) (by omega)
  rw [this,zob,q18];rfl
 have h:ib N (z5q m) N ((cntF (cls m) 1:Int)-1) 1=some ((cntF (cls m) m.rows.length:Int)-1):=by
  refine ug (σ:=Int) (fun F k st=>ib N (z5q m) F st (k:Int)) m.rows.length (fun k st=>1≤k∧st=(cntF (cls m) k:Int)-1) _ (fun F k st i b=> .inr ?_) (fun F st b=>?_) N 1 _ a (by omega) ⟨Nat.le_refl _,rfl⟩
  ·obtain⟨d,rfl⟩:=b
   refine⟨_,⟨by omega,rfl⟩,?_⟩
   simp only [ib]
   have j:ix (z5q m) (k:Int)=((cls m k:Nat):Int):=zao i
   rw [uy (by omega),zm (qx (by omega)),zm (qo (by omega)),j,zzu d]
   rfl
  ·obtain⟨d,rfl⟩:=b
   simp only [ib]
   rw [ul (by omega)]
 unfold slices_Max_int
 rw [ul (by omega),zm ⟨by omega,by omega⟩,g,qc h]
theorem zw7(a:MOk m)(b:200≤N):z3d N m=some (zld m):=by
 have c:(z5q m).length=m.rows.length:=zdc
 have d:=a.r2
 obtain⟨j,e⟩:=zqz (N:=N) a b
 unfold z3d
 rw [qc e,qc (q2s a b),zm (qo (by dsimp only;omega))]
 unfold zld
 by_cases h:cntF (cls m) m.rows.length=m.rows.length
 ·rw [decide_eq_true h,decide_eq_true (by dsimp only;omega)]
 ·rw [decide_eq_false h,decide_eq_false (by dsimp only;omega)]
theorem zu3(a:MOk m)(b:200≤N):z3m N m=some (connB m):=by
 unfold z3m
 rw [qc (zfq a.small b),(z4k m).2 a];rfl
theorem zug(a:MOk m)(b:200≤N):z2z N m=some (z0x m):=by
 unfold z2z
 rw [qc (zom a.small b),zyd a]
theorem zw3(c:Small m)(a:200≤N):z3z N m=some (properM m):=by
 unfold z3z properM
 rw [qc (zga c a)]
 by_cases h:z11 m≠0
 ·rw [uy h,if_pos h]
 ·rw [ul h,if_neg h]
  have b:=(z4k m).1 (by omega)
  refine(zn1 (x:=(m,m,m))).trans ?_
  refine(qc (zug b a)).trans ?_
  cases z0x m
  ·rfl
  refine(cf rfl).trans ?_
  refine(qc (zu3 b a)).trans ?_
  cases connB m
  ·rfl
  refine(cf rfl).trans ?_
  refine(qc (zw7 b a)).trans ?_
  cases zld m<;>rfl
theorem zqr(a:Small m)(b:200≤N):z13 N m=some (properM m):=by
 unfold z13 properM
 rw [qc (zul a b)]
 by_cases h:z11 m≠0
 ·rw [uy h,if_pos h]
 ·rw [ul h,if_neg h]
  have c:=(z4k m).1 (by omega)
  have j:=c.r2
  have k:(z5q m).length=m.rows.length:=zdc
  refine(qc (zo0 c b)).trans ?_
  cases z0x m
  ·rfl
  refine(cf rfl).trans ?_
  refine(qc (zx5 c b)).trans ?_
  cases connB m
  ·rfl
  refine(cf rfl).trans ?_
  refine(qc (zd0 c b)).trans ?_
  have hget: ∀ s,s<m.rows.length→ix (z5q m) (s:Int)=((cls m s:Nat):Int):=fun s a=>zao a
  have f: ∀ s,s<m.rows.length→xm N (z5q m) (s:Int) N 0=some (if z1h (cls m) s=true then Ex.go () else Ex.rt (Ex.rt 12)):=fun s a=>by
   refine ug (σ:=Unit) (fun F t _=>xm N (z5q m) (s:Int) F (t:Int)) s (fun t _=> ∀ u,u<t→cls m u≠cls m s) _ (fun F t _ d hi=>?_) (fun F _ hi=>?_) N 0 () (Nat.zero_le _) (by omega) (fun u g=>by omega)
   ·simp only [xm]
    rw [uy (by omega),zm (qx (by omega)),zm (qx (by omega)),hget s a,hget t (by omega)]
    by_cases e:cls m s=cls m t
    ·left
     rw [uy (by omega),if_neg (fun l=>ru.1 l t d e.symm)]
    ·right
     refine⟨(),fun u g=>?_,?_⟩
     ·by_cases e':u=t
      ·subst e';exact fun h=>e h.symm
      ·exact hi u (by omega)
     ·rw [ul (by omega),zm (qo (by omega))];rfl
   ·simp only [xm]
    rw [ul (by omega),if_pos (ru.2 hi)]
  have i:xw N (z5q m) N 0=some (if zld m=true then Ex.go () else Ex.rt 12):=by
   refine ug (σ:=Unit) (fun F t _=>xw N (z5q m) F (t:Int)) m.rows.length (fun t _=> ∀ u,u<t→z1h (cls m) u=true) _ (fun F t _ d hi=>?_) (fun F _ hi=>?_) N 0 () (Nat.zero_le _) (by omega) (fun u g=>by omega)
   ·simp only [xw]
    rw [uy (by omega),qc (f t d)]
    by_cases e:z1h (cls m) t=true
    ·right
     refine⟨(),fun u g=>?_,?_⟩
     ·by_cases e':u=t
      ·subst e';exact e
      ·exact hi u (by omega)
     ·rw [if_pos e,zkz,zm (qo (by omega))];rfl
    ·left
     have:zld m=false:=decide_eq_false fun h=>e (zhl.1 h t d)
     rw [if_neg e,this];rfl
   ·simp only [xw]
    have:zld m=true:=decide_eq_true (zhl.2 hi)
    rw [ul (by omega),if_pos this]
  refine(qc i).trans ?_
  cases zld m<;>rfl
end
/-! ### Homomorphisms-/
section
variable {N : Nat} {a b : Mach} {f : List Int}
structure HOk (a b:Mach) (f:List Int):Prop where
 ha:MOk a
 hb:MOk b
 hi:a.inputs=b.inputs
 hl:f.length=a.rows.length
 hr: ∀ k,k<f.length→0≤f.getD k default∧f.getD k default<b.rows.length
end
end GV
end Go.Proofs.Ytplgbkaollfmkaa

namespace Go.Proofs.Ytplgbkaollfmkaa
namespace GV
set_option maxRecDepth 100000
section
variable {m : Mach}
end
end GV
end Go.Proofs.Ytplgbkaollfmkaa
