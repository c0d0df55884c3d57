
import Derived.Test.YtplgbkaollfmkaaGreatSpec09b
import Derived.Test.YtplgbkaollfmkaaGreatSpec04b
import Derived.Test.YtplgbkaollfmkaaGreatLaw04c
import Derived.Test.YtplgbkaollfmkaaGreatSpec06m
set_option linter.unusedVariables false
set_option linter.unusedSimpArgs false
namespace Go.Proofs.YtplgbkaollfmkaaGreat
namespace GV
set_option maxRecDepth 100000
theorem zx5{m:Mach}(d:MOk m){t:Nat}:Reach m 0 t↔occ (rch m 0) t=true:=by
 have a:=zpo d
 constructor
 ·intro h
  induction h with
  |refl=>exact z4z.2 ⟨0,a.pos,by rw [a.root]⟩
  |step s o u v ih=>
   rename_i t i
   obtain⟨q,g,rfl⟩:=z4z.1 ih
   have k:=d.row _ o
   have e:ed m ((rch m 0).getD q default).st i≠ -1:=by show ((m.rows.getD ((rch m 0).getD q default).st default).getD i default).to≠ -1;omega
   obtain⟨j,c,p,_⟩:=a.cls q i g (by omega) e
   refine z4z.2 ⟨j,c,?_⟩
   have:ed m ((rch m 0).getD q default).st i=((m.rows.getD ((rch m 0).getD q default).st default).getD i default).to:=rfl
   omega
 ·intro h
  obtain⟨j,c,rfl⟩:=z4z.1 h
  clear h
  have key: ∀ n j,j≤n→j<(rch m 0).length→Reach m 0 ((rch m 0).getD j default).st:=by
   intro n
   induction n with
   |zero=>
    intro j c b
    obtain rfl:j=0:=by omega
    rw [a.root];exact .refl
   |succ n ih=>
    intro j c b
    by_cases h0:j=0
    ·exact ih j (by omega) b
    ·obtain⟨q,i,g,hi,_,_,_,f⟩:=a.par j (by omega) b
     have k:=ih q (by omega) (by omega)
     have r:=d.row _ (a.rng q (by omega))
     have l:((m.rows.getD ((rch m 0).getD q default).st default).getD i default).to=(((rch m 0).getD j default).st:Int):=f
     have:=Reach.step (i:=i) k (a.rng q (by omega)) (by omega) (by rw [l];omega)
     rw [l,Int.toNat_natCast] at this
     exact this
  exact key j j (Nat.le_refl _) c
theorem zu1{m:Mach}(b:MOk m):reachL m 0=z1o m.rows.length (rch m 0):=by
 refine z5s (by rw [z3i,z5b]) fun k a=>?_
 rw [z3i] at a
 rw [Bool.eq_iff_iff,z9l a,z9q a]
 exact zx5 b
/-! ### First ones-/
def fsS(m:Mach):List Nat:=(z9n (z3e (cls m) (rch m 0)) (rch m 0).length).map fun j=>((rch m 0).getD j default).st
section
variable {N : Nat} {m : Mach}
theorem zw8:(fsS m).length=cntF (z3e (cls m) (rch m 0)) (rch m 0).length:=by unfold fsS;rw [List.length_map,z7l]
theorem zvm(a:MOk m):zay m=(fsS m).map (cls m):=by
 unfold zay fsS znq
 rw [q8i a,List.map_map]
 unfold zcr
 rw [List.map_map]
 rfl
theorem zez(a:MOk m):(zay m).length=(fsS m).length:=by rw [zvm a,List.length_map]
theorem zsx(a:MOk m){c:Nat}(b:c<(fsS m).length):(zay m).getD c 0=cls m ((fsS m).getD c 0):=by
 rw [zvm a]
 simp [List.getD_eq_getElem?_getD,b]
theorem zqv(b:MOk m){c:Nat}(d:c<(fsS m).length):(fsS m).getD c 0<m.rows.length∧occ (rch m 0) ((fsS m).getD c 0)=true:=by
 have e:=zpo b
 have hc':=d
 rw [zw8] at hc'
 obtain⟨a,_,_⟩:=zb5 hc'
 have f:(fsS m).getD c 0=((rch m 0).getD ((z9n (z3e (cls m) (rch m 0)) (rch m 0).length).getD c 0) default).st:=by
  unfold fsS
  have g:c<(z9n (z3e (cls m) (rch m 0)) (rch m 0).length).length:=by rw [z7l];exact hc'
  simp [List.getD_eq_getElem?_getD,g]
 rw [f]
 exact⟨e.rng _ a,z4z.2 ⟨_,a,rfl⟩⟩
theorem q0l(a:MOk m):(fsS m).length≤m.rows.length:=by
 rw [zw8];exact Nat.le_trans (zc7 _ _) (zpo a).le
theorem q37(a:MOk m):(zay m).Nodup:=q0d (qbw a)
theorem zlz(d:MOk m)(q:400≤N)(r:m.rows.length≤6)(s:m.inputs≤3):z0r N m=some (z7e (fsS m)):=by
 have f:=zpo d
 have u:=d.r2
 have v:=f.le
 have g:(z7d m).length=m.rows.length:=zf2
 have w:=q2k (rch m 0)
 have key: ∀ j,j<(rch m 0).length→ix (z7d m) (ix (z4n (rch m 0)) (j:Int))=(z3e (cls m) (rch m 0) j:Int):=fun j a=>by
  rw [zle a];exact zct (f.rng j a)
 have c: ∀ j,j<(rch m 0).length→okI (z7d m) (ix (z4n (rch m 0)) (j:Int)):=fun j a=>by
  rw [zle a];exact qo (by rw [g];exact f.rng j a)
 have i: ∀ j,j<(rch m 0).length→bz N (z7d m) (z4n (rch m 0)) (j:Int) N 0 0=some (if z2x (z3e (cls m) (rch m 0)) j=true then 0 else 1):=fun j a=>by
  refine uk (σ:=Int) (fun F k st=>bz N (z7d m) (z4n (rch m 0)) (j:Int) F st (k:Int)) j
   (fun k st=>st=if ∀ t,t<k→z3e (cls m) (rch m 0) t≠z3e (cls m) (rch m 0) j then 0 else 1) _ (fun F k st l b=> .inr ?_) (fun F st b=>?_) N 0 0 (Nat.zero_le _) (by omega) ?_
  ·subst b
   refine⟨_,rfl,?_⟩
   simp only [bz]
   rw [uy (by omega)]
   refine(qc (x:=if ∀ t,t<k+1→z3e (cls m) (rch m 0) t≠z3e (cls m) (rch m 0) j then(0:Int) else 1) ?_).trans ?_
   ·rw [zk (qo (by omega)),zk (c k (by omega)),zk (qo (by omega)),zk (c j a),key k (by omega),key j a]
    by_cases e:z3e (cls m) (rch m 0) k=z3e (cls m) (rch m 0) j
    ·rw [uy (by omega),if_neg (fun h=>h k (by omega) e)]
    ·rw [uo (by omega)]
     by_cases h: ∀ t,t<k→z3e (cls m) (rch m 0) t≠z3e (cls m) (rch m 0) j
     ·rw [if_pos h,if_pos]
      intro t p
      by_cases ht':t=k
      ·subst ht';exact e
      ·exact h t (by omega)
     ·rw [if_neg h,if_neg]
      exact fun h'=>h fun t p=>h' t (by omega)
   ·rw [zk (qm (by omega))];rfl
  ·subst b
   simp only [bz]
   rw [uo (by omega)]
   by_cases h:z2x (z3e (cls m) (rch m 0)) j=true
   ·rw [if_pos h,if_pos (z08.1 h)]
   ·rw [if_neg h,if_neg fun h'=>h (z08.2 h')]
  ·rw [if_pos (fun t p=>by omega)]
 have n:gp N (z7d m) (z4n (rch m 0)) N [] 0=some (z7e (fsS m)):=by
  refine uk (σ:=List Int) (fun F k st=>gp N (z7d m) (z4n (rch m 0)) F st (k:Int)) (rch m 0).length
   (fun k st=>st=z7e ((z9n (z3e (cls m) (rch m 0)) k).map fun j=>((rch m 0).getD j default).st)) _ (fun F k st l b=> .inr ?_) (fun F st b=>?_) N 0 [] (Nat.zero_le _) (by omega) rfl
  ·subst b
   refine⟨_,rfl,?_⟩
   simp only [gp]
   rw [uy (by omega)]
   have o:=zc7 (z3e (cls m) (rch m 0)) k
   refine(qc (x:=z7e ((z9n (z3e (cls m) (rch m 0)) (k+1)).map fun j=>((rch m 0).getD j default).st)) ?_).trans ?_
   ·rw [qc (i k l),zjc]
    by_cases h:z2x (z3e (cls m) (rch m 0)) k=true
    ·have y:(z7e ((z9n (z3e (cls m) (rch m 0)) k).map fun j=>((rch m 0).getD j default).st)).length≤k:=by
      rw [zjn,List.length_map,z7l];exact o
     rw [if_pos h,if_pos h,uy rfl,zk (qo (by omega)),zk ⟨by simp only [List.length_singleton];omega,by simp only [List.length_singleton];omega⟩,zle l]
     unfold z7e
     rw [List.map_append,List.map_append];rfl
    ·rw [if_neg h,if_neg h,uo (by decide),List.append_nil]
   ·rw [zk (qm (by omega))];rfl
  ·subst b
   simp only [gp]
   rw [uo (by omega)];rfl
 unfold z0r
 rw [qc (zeh d (by omega)),qc (zxi d q r s),qc n]
theorem q3t(b:MOk m)(t:400≤N)(u:m.rows.length≤6)(v:m.inputs≤3):z4h N m=some (zql m):=by
 have w:=b.r1
 have y:=q0l b
 have c:(z7d m).length=m.rows.length:=zf2
 have z:(z7e (fsS m)).length=(fsS m).length:=zjn _
 have j: ∀ s,s<m.rows.length→ah N (z7d m) (z7e (fsS m)) (z1o m.rows.length (rch m 0)) (s:Int) N (-1) 0=some (zks m s):=fun s i=>by
  refine uk (σ:=Int) (fun F k st=>ah N (z7d m) (z7e (fsS m)) (z1o m.rows.length (rch m 0)) (s:Int) F st (k:Int)) (fsS m).length
   (fun k st=>st=if occ (rch m 0) s=true∧cls m s∈(zay m).take k then(((zay m).idxOf (cls m s):Nat):Int) else-1) _ (fun F k st f d=> .inr ?_) (fun F st d=>?_) N 0 (-1) (Nat.zero_le _) (by omega) ?_
  ·subst d
   obtain⟨f1,C⟩:=zqv b f
   have g:k<(zay m).length:=by rw [zez b];exact f
   have hget:=zsx b f
   have l:ix (z1o m.rows.length (rch m 0)) (s:Int)=occ (rch m 0) s:=z9q i
   have A:ix (z7e (fsS m)) (k:Int)=(((fsS m).getD k 0:Nat):Int):=zol f
   have n:ix (z7d m) (((fsS m).getD k 0:Nat):Int)=((cls m ((fsS m).getD k 0):Nat):Int):=zct f1
   have o:ix (z7d m) (s:Int)=((cls m s:Nat):Int):=zct i
   have B:(zay m).take (k+1)=(zay m).take k++[cls m ((fsS m).getD k 0)]:=by rw [←hget];exact z7x _ k g
   refine⟨_,rfl,?_⟩
   simp only [ah]
   rw [uy (by omega)]
   refine(qc (x:=if occ (rch m 0) s=true∧cls m s∈(zay m).take (k+1) then(((zay m).idxOf (cls m s):Nat):Int) else-1) ?_).trans ?_
   ·rw [zk (qo (by rw [z5b];exact i)),zk (fun _=>qo (by omega)),A,zk (fun _=>qo (by rw [c];exact f1)),zk (fun _=>qo (by rw [c];exact i)),l,n,o,B]
    cases ho:occ (rch m 0) s
    ·rw [cf (by rw [Bool.false_and]),if_neg (fun h=>by cases h.1),if_neg (fun h=>by cases h.1)]
    ·by_cases e:cls m ((fsS m).getD k 0)=cls m s
     ·have hi:(zay m).idxOf (cls m s)=k:=by rw [←e,←hget];exact zzt (q37 b) g
      rw [ct (by rw [e];simp),if_pos ⟨rfl,List.mem_append.2 (.inr (by rw [e];exact List.mem_singleton.2 rfl))⟩,hi]
     ·rw [cf (by rw [Bool.true_and];exact decide_eq_false (by omega))]
      by_cases h:cls m s∈(zay m).take k
      ·rw [if_pos ⟨rfl,h⟩,if_pos ⟨rfl,List.mem_append.2 (.inl h)⟩]
      ·rw [if_neg (fun h'=>h h'.2),if_neg (fun h'=>by
        rcases List.mem_append.1 h'.2 with p|p
        ·exact h p
        ·exact e (List.mem_singleton.1 p).symm)]
   ·rw [zk (qm (by omega))];rfl
  ·subst d
   simp only [ah]
   rw [uo (by omega),←zez b,List.take_length]
   unfold zks
   by_cases h:occ (rch m 0) s=true
   ·rw [if_pos h,if_pos ⟨h,q4x b h⟩]
   ·rw [if_neg h,if_neg (fun h'=>h h'.1)]
  ·rw [if_neg (fun h=>by simp at h)]
 have q:ae N (z7d m) (z7e (fsS m)) (z1o m.rows.length (rch m 0)) N [] 0=some (zql m):=by
  refine uk (σ:=List Int) (fun F k st=>ae N (z7d m) (z7e (fsS m)) (z1o m.rows.length (rch m 0)) F st (k:Int)) m.rows.length
   (fun k st=>st=(List.range k).map (zks m)) _ (fun F k st f d=> .inr ?_) (fun F st d=>?_) N 0 [] (Nat.zero_le _) (by omega) rfl
  ·subst d
   refine⟨_,rfl,?_⟩
   simp only [ae]
   have r:((List.range k).map (zks m)).length=k:=by simp
   rw [uy (by rw [c];omega),qc (j k f),zk ⟨by rw [r];simp only [List.length_singleton];omega,by rw [r];simp only [List.length_singleton];omega⟩,zk (qm (by omega)),z9g]
   rfl
  ·subst d
   simp only [ae]
   rw [uo (by rw [c];omega)];rfl
 unfold z4h
 rw [qc (zeh b (by omega)),qc (zlz b t u v)]
 refine(qc (show ib N m 0=some (reachL m 0) from zn0 b (by omega) (a:=0) (by omega))).trans ?_
 rw [zu1 b,qc q]
theorem q7o(b:MOk m){s i:Nat}(h:occ (rch m 0) s=true)(hi:i<m.inputs.toNat)(a:ed m s i≠ -1):occ (rch m 0) (ed m s i).toNat=true:=by
 have c:=zpo b
 obtain⟨q,d,rfl⟩:=z4z.1 h
 obtain⟨j,e,f,_⟩:=c.cls q i d hi a
 exact z4z.2 ⟨j,e,by omega⟩
theorem zya(a:MOk m):(zmx m).rows=(List.range (fsS m).length).map fun c=>(List.range m.inputs.toNat).map fun i=>(⟨if 0≤ed m ((fsS m).getD c 0) i then zks m (ed m ((fsS m).getD c 0) i).toNat else ed m ((fsS m).getD c 0) i,ou m ((fsS m).getD c 0) i⟩:Edge):=by
 have k:=zme a
 show (zay m).map (rowP (zcv m) (zay m))=_
 refine z5s (by simp [zez a]) fun c e=>?_
 rw [List.length_map,zez a] at e
 obtain⟨f1,l⟩:=zqv a e
 have g:=zsx a e
 have b:=zh4 (m:=m) f1
 obtain⟨n,o⟩:=zq1 a f1
 have f:(rowP (zcv m) (zay m) (cls m ((fsS m).getD c 0))).length=m.inputs.toNat:=zlk k (by rw [zhk];exact b)
 have p:((zay m).map (rowP (zcv m) (zay m))).getD c default=rowP (zcv m) (zay m) (cls m ((fsS m).getD c 0)):=by
  rw [←g]
  have:c<(zay m).length:=by rw [zez a];exact e
  simp [List.getD_eq_getElem?_getD,this]
 rw [p,z0i _ e]
 refine z5s (by rw [f];simp) fun i hi=>?_
 rw [f] at hi
 rw [z0i _ hi,zsp k (by rw [zhk];exact b) hi]
 obtain⟨q,r⟩:=zpp a b hi
 obtain⟨s,j,t⟩:=zn1 a n f1 o hi
 have q2':(((zcv m).rows.getD (cls m ((fsS m).getD c 0)) default).getD i default).out=ou m ((fsS m).getD c 0) i:=r.trans s
 rw [q2',q]
 congr 1
 rcases z94 a f1 hi with h|⟨u,w⟩
 ·rw [j.2 h,zqr,h,if_neg (by decide)];rfl
 ·have d:ed m ((fsS m).getD c 0) i≠ -1:=by omega
  have v:=q7o a l hi d
  rw [if_pos u]
  unfold zks
  rw [if_pos v]
  unfold hI
  rw [if_neg (fun h=>d (j.1 h)),t (fun h=>d (j.1 h)),q45]
theorem q40(a:MOk m)(o:400≤N)(p:m.rows.length≤6)(q:m.inputs≤3):z1p N m=some (zmx m):=by
 have s:=a.r1;have t:=a.i1
 have u:=q0l a
 have v:(z7e (fsS m)).length=(fsS m).length:=zjn _
 have d:=q2m (m:=m)
 have e: ∀ c,c<(fsS m).length→xg N m (z7e (fsS m)) (zql m) (c:Int) N [] 0=some ((List.range m.inputs.toNat).map fun i=>(⟨if 0≤ed m ((fsS m).getD c 0) i then zks m (ed m ((fsS m).getD c 0) i).toNat else ed m ((fsS m).getD c 0) i,ou m ((fsS m).getD c 0) i⟩:Edge)):=fun c r=>by
  obtain⟨f1,z⟩:=zqv a r
  have hrow:=a.row _ f1
  have w:ix (z7e (fsS m)) (c:Int)=(((fsS m).getD c 0:Nat):Int):=zol r
  refine uk (σ:=List Edge) (fun F k st=>xg N m (z7e (fsS m)) (zql m) (c:Int) F st (k:Int)) m.inputs.toNat
   (fun k st=>st=(List.range k).map fun i=>(⟨if 0≤ed m ((fsS m).getD c 0) i then zks m (ed m ((fsS m).getD c 0) i).toNat else ed m ((fsS m).getD c 0) i,ou m ((fsS m).getD c 0) i⟩:Edge)) _ (fun F k st f b=> .inr ?_) (fun F st b=>?_) N 0 [] (Nat.zero_le _) (by omega) rfl
  ·subst b
   refine⟨_,rfl,?_⟩
   simp only [xg]
   have g:ix m.rows (((fsS m).getD c 0:Nat):Int)=m.rows.getD ((fsS m).getD c 0) default:=rfl
   have j:ix (m.rows.getD ((fsS m).getD c 0) default) (k:Int)=⟨ed m ((fsS m).getD c 0) k,ou m ((fsS m).getD c 0) k⟩:=rfl
   rw [uy (by omega),zk (qo (by omega)),w,zk (qo f1),g,zk (qo (by omega)),j]
   refine(qc (x:=if 0≤ed m ((fsS m).getD c 0) k then zks m (ed m ((fsS m).getD c 0) k).toNat else ed m ((fsS m).getD c 0) k) ?_).trans ?_
   ·rcases z94 a f1 f with h|⟨l,y⟩
    ·rw [uo (by dsimp only;omega),if_neg (by omega)]
    ·rw [uy l,zk ⟨l,by dsimp only;rw [d];exact y⟩,if_pos l]
     exact congrArg some (q1g (show (ed m ((fsS m).getD c 0) k).toNat<m.rows.length by omega))
   ·rw [zk ⟨by simp;omega,by simp;omega⟩,zk (qm (by omega)),z9g];rfl
  ·subst b
   simp only [xg]
   rw [uo (by omega)]
 have n:xe N m (z7e (fsS m)) (zql m) N 0 []=some (zmx m).rows:=by
  rw [zya a]
  refine uk (σ:=List (List Edge)) (fun F k st=>xe N m (z7e (fsS m)) (zql m) F (k:Int) st) (fsS m).length
   (fun k st=>st=(List.range k).map fun c=>(List.range m.inputs.toNat).map fun i=>(⟨if 0≤ed m ((fsS m).getD c 0) i then zks m (ed m ((fsS m).getD c 0) i).toNat else ed m ((fsS m).getD c 0) i,ou m ((fsS m).getD c 0) i⟩:Edge)) _ (fun F k st f b=> .inr ?_) (fun F st b=>?_) N 0 [] (Nat.zero_le _) (by omega) rfl
  ·subst b
   refine⟨_,rfl,?_⟩
   simp only [xe]
   rw [uy (by omega),qc (e k f),zk ⟨by simp;omega,by simp;omega⟩,zk (qm (by omega)),z9g];rfl
  ·subst b
   simp only [xe]
   rw [uo (by omega)]
 unfold z1p
 rw [qc (zlz a o p q),qc (q3t a o p q),qc n]
 rfl
end
end GV
end Go.Proofs.YtplgbkaollfmkaaGreat

namespace Go.Proofs.YtplgbkaollfmkaaGreat
namespace GV
set_option maxRecDepth 100000
theorem q2x{m:Mach}(a:MOk m):zpk m=oo m:=by
 have b:z2l m=0:=(z5l m).2 a
 have hmul:=a.mul
 have c:=zoq a m.rows.length (Nat.le_refl _)
 have d:(zpw m).length=(z9h m (m.rows.length*m.inputs.toNat)).length:=rfl
 have e:zrg m=zav m m.rows.length:=rfl
 unfold zpk oo
 rw [if_neg (by rw [b];simp),hmul.2]
 by_cases h:(zpw m).length=0
 ·rw [decide_eq_true (by omega),decide_eq_true (by omega)]
 ·rw [decide_eq_false (by omega),decide_eq_false (by omega)]
theorem zus{m:Mach}(a:MOk m)(h: ∀ s i,s<m.rows.length→i<m.inputs.toNat→0≤ed m s i):oo m=true:=by
 have b:=a.i1
 have e: ∀ k,k≤m.rows.length→zav m k=k*m.inputs.toNat:=by
  intro k
  induction k with
  |zero=>intro _;simp [zav]
  |succ k ih=>
   intro c
   have hrow:=a.row k (by omega)
   rw [z9p m k (by omega),ih (by omega),zmz (fun i hi=>h k i (by omega) (by omega)) _ (Nat.le_refl _),Nat.succ_mul]
   omega
 unfold oo zrg
 rw [e _ (Nat.le_refl _),a.mul.2]
 exact decide_eq_true rfl
theorem zjr{κ:Type}[DecidableEq κ]{f:Nat→κ}: ∀ {n:Nat},cntF f n=n↔ ∀ u,u<n→z2x f u=true
 |0=>⟨fun _ u b=>by omega,fun _=>rfl⟩
 |n+1=>by
  have ih:=zjr (f:=f) (n:=n)
  have c:=zc7 f n
  have a:cntF f (n+1)=cntF f n+if z2x f n=true then 1 else 0:=rfl
  by_cases h:z2x f n=true
  ·rw [if_pos h] at a
   rw [a]
   constructor
   ·intro e u b
    by_cases e':u=n
    ·subst e';exact h
    ·exact ih.1 (by omega) u (by omega)
   ·intro e
    have:=ih.2 fun u b=>e u (by omega)
    omega
  ·rw [if_neg h] at a
   rw [a]
   exact⟨fun e=>by omega,fun e=>absurd (e n (by omega)) h⟩
theorem q4d{m:Mach}{k:Nat}(d:1≤k):max ((cntF (cls m) k:Int)-1) (cls m k:Int)=(cntF (cls m) (k+1):Int)-1:=by
 have b:cntF (cls m) (k+1)=cntF (cls m) k+if z2x (cls m) k=true then 1 else 0:=rfl
 have c:=zhj (m:=m) k
 by_cases h:z2x (cls m) k=true
 ·rw [if_pos h] at b
  rw [zfn h] at c
  omega
 ·rw [if_neg h] at b
  have f:=z4i (cls m) k
  have a:=z98 (cls m) k
  have g:z8m (cls m) k≠k:=fun e=>h (by rw [e] at a;exact a)
  have i:=zax (cls m) (show z8m (cls m) k<k by omega) a
  have j:cntF (cls m) (z8m (cls m) k)=cls m k:=c
  omega
def znr(m:Mach):Bool:=decide (cntF (cls m) m.rows.length=m.rows.length)
noncomputable def properM(m:Mach):Int:=if z2l m≠0 then z2l m else if oo m=false then 9 else if connB m=false then 11 else if znr m=false then 12 else 0
section
variable {N : Nat} {m : Mach}
theorem q4l(f:Nat→Nat):cntF f 1=1:=by
 have:z2x f 0=true:=z08.2 fun t a=>by omega
 show 0+(if z2x f 0=true then 1 else 0)=1
 rw [if_pos this]
theorem q74(c:MOk m)(l:200≤N):slices_Max_int N (z7d m)=some ((cntF (cls m) m.rows.length:Int)-1):=by
 have e:(z7d m).length=m.rows.length:=zf2
 have a:=c.r1;have f:=c.r2
 have g:ix (z7d m) 0=(cntF (cls m) 1:Int)-1:=by
  have:ix (z7d m) 0=((cls m 0:Nat):Int):=zct (s:=0) (by omega)
  rw [this,zr8,q4l];rfl
 have h:lg N (z7d m) N ((cntF (cls m) 1:Int)-1) 1=some ((cntF (cls m) m.rows.length:Int)-1):=by
  refine uk (σ:=Int) (fun F k st=>lg N (z7d m) F st (k:Int)) m.rows.length (fun k st=>1≤k∧st=(cntF (cls m) k:Int)-1) _ (fun F k st i b=> .inr ?_) (fun F st b=>?_) N 1 _ a (by omega) ⟨Nat.le_refl _,rfl⟩
  ·obtain⟨d,rfl⟩:=b
   refine⟨_,⟨by omega,rfl⟩,?_⟩
   simp only [lg]
   have j:ix (z7d m) (k:Int)=((cls m k:Nat):Int):=zct i
   rw [uy (by omega),zk (qo (by omega)),zk (qm (by omega)),j,q4d d]
   rfl
  ·obtain⟨d,rfl⟩:=b
   simp only [lg]
   rw [uo (by omega)]
 unfold slices_Max_int
 rw [uo (by omega),zk ⟨by omega,by omega⟩,g,qc h]
theorem zz5(a:MOk m)(b:200≤N):z4q N m=some (znr m):=by
 have c:(z7d m).length=m.rows.length:=zf2
 have d:=a.r2
 obtain⟨j,e⟩:=ztr (N:=N) a b
 unfold z4q
 rw [qc e,qc (q74 a b),zk (qm (by dsimp only;omega))]
 unfold znr
 by_cases h:cntF (cls m) m.rows.length=m.rows.length
 ·rw [decide_eq_true h,decide_eq_true (by dsimp only;omega)]
 ·rw [decide_eq_false h,decide_eq_false (by dsimp only;omega)]
theorem zxd(a:MOk m)(b:200≤N):z4m N m=some (connB m):=by
 unfold z4m
 rw [qc (zif a.small b),(z5l m).2 a];rfl
theorem zy3(a:MOk m)(b:200≤N):z4l N m=some (oo m):=by
 unfold z4l
 rw [qc (zsk a.small b),q2x a]
theorem zxs(c:Small m)(a:200≤N):z5f N m=some (properM m):=by
 unfold z5f properM
 rw [qc (zhx c a)]
 by_cases h:z2l m≠0
 ·rw [uy h,if_pos h]
 ·rw [uo h,if_neg h]
  have b:=(z5l m).1 (by omega)
  refine(zpn (x:=(m,m,m))).trans ?_
  refine(qc (zy3 b a)).trans ?_
  cases oo m
  ·rfl
  refine(cf rfl).trans ?_
  refine(qc (zxd b a)).trans ?_
  cases connB m
  ·rfl
  refine(cf rfl).trans ?_
  refine(qc (zz5 b a)).trans ?_
  cases znr m<;>rfl
theorem ztf(a:Small m)(b:200≤N):z2c N m=some (properM m):=by
 unfold z2c properM
 rw [qc (zy9 a b)]
 by_cases h:z2l m≠0
 ·rw [uy h,if_pos h]
 ·rw [uo h,if_neg h]
  have c:=(z5l m).1 (by omega)
  have j:=c.r2
  have k:(z7d m).length=m.rows.length:=zf2
  refine(qc (zq9 c b)).trans ?_
  cases oo m
  ·rfl
  refine(cf rfl).trans ?_
  refine(qc (q06 c b)).trans ?_
  cases connB m
  ·rfl
  refine(cf rfl).trans ?_
  refine(qc (zeh c b)).trans ?_
  have hget: ∀ s,s<m.rows.length→ix (z7d m) (s:Int)=((cls m s:Nat):Int):=fun s a=>zct a
  have f: ∀ s,s<m.rows.length→p9 N (z7d m) (s:Int) N 0=some (if z2x (cls m) s=true then Ex.go () else Ex.rt (Ex.rt 12)):=fun s a=>by
   refine uk (σ:=Unit) (fun F t _=>p9 N (z7d m) (s:Int) F (t:Int)) s (fun t _=> ∀ u,u<t→cls m u≠cls m s) _ (fun F t _ d hi=>?_) (fun F _ hi=>?_) N 0 () (Nat.zero_le _) (by omega) (fun u g=>by omega)
   ·simp only [p9]
    rw [uy (by omega),zk (qo (by omega)),zk (qo (by omega)),hget s a,hget t (by omega)]
    by_cases e:cls m s=cls m t
    ·left
     rw [uy (by omega),if_neg (fun l=>z08.1 l t d e.symm)]
    ·right
     refine⟨(),fun u g=>?_,?_⟩
     ·by_cases e':u=t
      ·subst e';exact fun h=>e h.symm
      ·exact hi u (by omega)
     ·rw [uo (by omega),zk (qm (by omega))];rfl
   ·simp only [p9]
    rw [uo (by omega),if_pos (z08.2 hi)]
  have i:gz N (z7d m) N 0=some (if znr m=true then Ex.go () else Ex.rt 12):=by
   refine uk (σ:=Unit) (fun F t _=>gz N (z7d m) F (t:Int)) m.rows.length (fun t _=> ∀ u,u<t→z2x (cls m) u=true) _ (fun F t _ d hi=>?_) (fun F _ hi=>?_) N 0 () (Nat.zero_le _) (by omega) (fun u g=>by omega)
   ·simp only [gz]
    rw [uy (by omega),qc (f t d)]
    by_cases e:z2x (cls m) t=true
    ·right
     refine⟨(),fun u g=>?_,?_⟩
     ·by_cases e':u=t
      ·subst e';exact e
      ·exact hi u (by omega)
     ·rw [if_pos e,zkt,zk (qm (by omega))];rfl
    ·left
     have:znr m=false:=decide_eq_false fun h=>e (zjr.1 h t d)
     rw [if_neg e,this];rfl
   ·simp only [gz]
    have:znr m=true:=decide_eq_true (zjr.2 hi)
    rw [uo (by omega),if_pos this]
  refine(qc i).trans ?_
  cases znr m<;>rfl
end
/-! ### Homomorphisms-/
section
variable {N : Nat} {a b : Mach} {f : List Int}
structure HOk (a b:Mach) (f:List Int):Prop where
 ha:MOk a
 hb:MOk b
 hi:a.inputs=b.inputs
 hl:f.length=a.rows.length
 hr: ∀ k,k<f.length→0≤f.getD k default∧f.getD k default<b.rows.length
end
end GV
end Go.Proofs.YtplgbkaollfmkaaGreat

namespace Go.Proofs.YtplgbkaollfmkaaGreat
namespace GV
set_option maxRecDepth 100000
section
variable {m : Mach}
end
end GV
end Go.Proofs.YtplgbkaollfmkaaGreat
