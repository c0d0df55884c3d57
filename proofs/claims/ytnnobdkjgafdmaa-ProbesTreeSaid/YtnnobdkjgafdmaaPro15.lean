
import Derived.Test.YtnnobdkjgafdmaaSpec09a
import Derived.Test.YtnnobdkjgafdmaaLaw04c
import Derived.Test.YtnnobdkjgafdmaaSpec06g
set_option linter.unusedVariables false
set_option linter.unusedSimpArgs false
set_option linter.unusedSectionVars false
namespace Go.Proofs.Ytnnobdkjgafdmaa
namespace GV
set_option maxRecDepth 100000
/-! ### First ones,merged-/
theorem zhp{m:Mach}:(z8s m).length=m.rows.length:=zqb _
theorem zex{m:Mach}{s:Nat}(a:s<m.rows.length):(z8s m).getD s default=(cls m s:Int):=zvp a
section
variable {N : Nat} {m : Mach}
/-! ### The map-/
def z2j(m:Mach):List Nat:=zg0 (rch (z7w m) 0)
def zkk(m:Mach)(s:Nat):Int:=if occ (rch m 0) s=true then(((z2j m).idxOf (cls m s):Nat):Int) else-1
def zpv(m:Mach):List Int:=(List.range m.rows.length).map (zkk m)
theorem q4w:(zpv m).length=m.rows.length:=by simp [zpv]
theorem q1q{s:Nat}(a:s<m.rows.length):(zpv m).getD s default=zkk m s:=ik _ a
theorem qce(a:MOk m):rch (z7w m) 0=zc6 (cls m) (rch m 0):=by
 have:=q84 (zkt a) (s0:=0) (by have:=a.r1;omega)
 rwa [zry] at this
theorem q8l(a:MOk m):Rch (z7w m) 0 (rch (z7w m) 0):=zt8 (zeh a)
theorem zxp(a:MOk m){s:Nat}(h:occ (rch m 0) s=true):cls m s∈z2j m:=by
 obtain⟨j,e,rfl⟩:=z3w.1 h
 unfold z2j
 rw [qce a,zhd]
 obtain⟨f,b,g⟩:=z4e (z2h (cls m) (rch m 0)) j
 obtain⟨c,d⟩:=zl7 (h:=cls m) (P:=rch m 0) (u:=z7x (z2h (cls m) (rch m 0)) j) (by omega) (z8o _ _)
 exact⟨_,by rw [zto];exact c,by rw [d];exact b⟩
end
end GV
end Go.Proofs.Ytnnobdkjgafdmaa

namespace Go.Proofs.Ytnnobdkjgafdmaa
namespace GV
set_option maxRecDepth 100000
theorem zok{m:Mach}(d:MOk m){t:Nat}:Reach m 0 t↔occ (rch m 0) t=true:=by
 have a:=zt8 d
 constructor
 ·intro h
  induction h with
  |refl=>exact z3w.2 ⟨0,a.pos,by rw [a.root]⟩
  |step s o u v ih=>
   rename_i t i
   obtain⟨q,g,rfl⟩:=z3w.1 ih
   have k:=d.row _ o
   have e:ed m ((rch m 0).getD q default).st i≠ -1:=by show ((m.rows.getD ((rch m 0).getD q default).st default).getD i default).to≠ -1;omega
   obtain⟨j,c,p,_⟩:=a.cls q i g (by omega) e
   refine z3w.2 ⟨j,c,?_⟩
   have:ed m ((rch m 0).getD q default).st i=((m.rows.getD ((rch m 0).getD q default).st default).getD i default).to:=rfl
   omega
 ·intro h
  obtain⟨j,c,rfl⟩:=z3w.1 h
  clear h
  have key: ∀ n j,j≤n→j<(rch m 0).length→Reach m 0 ((rch m 0).getD j default).st:=by
   intro n
   induction n with
   |zero=>
    intro j c b
    obtain rfl:j=0:=by omega
    rw [a.root];exact .refl
   |succ n ih=>
    intro j c b
    by_cases h0:j=0
    ·exact ih j (by omega) b
    ·obtain⟨q,i,g,hi,_,_,_,f⟩:=a.par j (by omega) b
     have k:=ih q (by omega) (by omega)
     have r:=d.row _ (a.rng q (by omega))
     have l:((m.rows.getD ((rch m 0).getD q default).st default).getD i default).to=(((rch m 0).getD j default).st:Int):=f
     have:=Reach.step (i:=i) k (a.rng q (by omega)) (by omega) (by rw [l];omega)
     rw [l,Int.toNat_natCast] at this
     exact this
  exact key j j (Nat.le_refl _) c
theorem zuk{m:Mach}(b:MOk m):reachL m 0=z1d m.rows.length (rch m 0):=by
 refine z3c (by rw [zc1,z4t]) fun k a=>?_
 rw [zc1] at a
 rw [Bool.eq_iff_iff,zdd a,z92 a]
 exact zok b
/-! ### First ones-/
def fsS(m:Mach):List Nat:=(z8c (z2h (cls m) (rch m 0)) (rch m 0).length).map fun j=>((rch m 0).getD j default).st
section
variable {N : Nat} {m : Mach}
theorem zya:(fsS m).length=cntF (z2h (cls m) (rch m 0)) (rch m 0).length:=by unfold fsS;rw [List.length_map,z6x]
theorem zxn(a:MOk m):z2j m=(fsS m).map (cls m):=by
 unfold z2j fsS zg0
 rw [qce a,List.map_map]
 unfold zc6
 rw [List.map_map]
 rfl
theorem zb6(a:MOk m):(z2j m).length=(fsS m).length:=by rw [zxn a,List.length_map]
theorem znh(a:MOk m){c:Nat}(b:c<(fsS m).length):(z2j m).getD c 0=cls m ((fsS m).getD c 0):=by
 rw [zxn a]
 simp [List.getD_eq_getElem?_getD,b]
theorem zl3(b:MOk m){c:Nat}(d:c<(fsS m).length):(fsS m).getD c 0<m.rows.length∧occ (rch m 0) ((fsS m).getD c 0)=true:=by
 have e:=zt8 b
 have hc':=d
 rw [zya] at hc'
 obtain⟨a,_,_⟩:=z7o hc'
 have f:(fsS m).getD c 0=((rch m 0).getD ((z8c (z2h (cls m) (rch m 0)) (rch m 0).length).getD c 0) default).st:=by
  unfold fsS
  have g:c<(z8c (z2h (cls m) (rch m 0)) (rch m 0).length).length:=by rw [z6x];exact hc'
  simp [List.getD_eq_getElem?_getD,g]
 rw [f]
 exact⟨e.rng _ a,z3w.2 ⟨_,a,rfl⟩⟩
theorem zvj(a:MOk m):(fsS m).length≤m.rows.length:=by
 rw [zya];exact Nat.le_trans (zcz _ _) (zt8 a).le
theorem zii(a:MOk m):(z2j m).Nodup:=zv4 (q8l a)
theorem zld(d:MOk m)(q:400≤N)(r:m.rows.length≤6)(s:m.inputs≤3):z0p N m=some (z6r (fsS m)):=by
 have f:=zt8 d
 have u:=d.r2
 have v:=f.le
 have g:(z8s m).length=m.rows.length:=zhp
 have w:=q41 (rch m 0)
 have key: ∀ j,j<(rch m 0).length→ix (z8s m) (ix (z4k (rch m 0)) (j:Int))=(z2h (cls m) (rch m 0) j:Int):=fun j a=>by
  rw [zla a];exact zex (f.rng j a)
 have c: ∀ j,j<(rch m 0).length→okI (z8s m) (ix (z4k (rch m 0)) (j:Int)):=fun j a=>by
  rw [zla a];exact qy (by rw [g];exact f.rng j a)
 have i: ∀ j,j<(rch m 0).length→gm N (z8s m) (z4k (rch m 0)) (j:Int) N 0 0=some (if z2x (z2h (cls m) (rch m 0)) j=true then 0 else 1):=fun j a=>by
  refine ru (σ:=Int) (fun F k st=>gm N (z8s m) (z4k (rch m 0)) (j:Int) F st (k:Int)) j
   (fun k st=>st=if ∀ t,t<k→z2h (cls m) (rch m 0) t≠z2h (cls m) (rch m 0) j then 0 else 1) _ (fun F k st l b=> .inr ?_) (fun F st b=>?_) N 0 0 (Nat.zero_le _) (by omega) ?_
  ·subst b
   refine⟨_,rfl,?_⟩
   simp only [gm]
   rw [wu (by omega)]
   refine(qc (x:=if ∀ t,t<k+1→z2h (cls m) (rch m 0) t≠z2h (cls m) (rch m 0) j then(0:Int) else 1) ?_).trans ?_
   ·rw [ze (qy (by omega)),ze (c k (by omega)),ze (qy (by omega)),ze (c j a),key k (by omega),key j a]
    by_cases e:z2h (cls m) (rch m 0) k=z2h (cls m) (rch m 0) j
    ·rw [wu (by omega),if_neg (fun h=>h k (by omega) e)]
    ·rw [um (by omega)]
     by_cases h: ∀ t,t<k→z2h (cls m) (rch m 0) t≠z2h (cls m) (rch m 0) j
     ·rw [if_pos h,if_pos]
      intro t p
      by_cases ht':t=k
      ·subst ht';exact e
      ·exact h t (by omega)
     ·rw [if_neg h,if_neg]
      exact fun h'=>h fun t p=>h' t (by omega)
   ·rw [ze (qm (by omega))];rfl
  ·subst b
   simp only [gm]
   rw [um (by omega)]
   by_cases h:z2x (z2h (cls m) (rch m 0)) j=true
   ·rw [if_pos h,if_pos (z09.1 h)]
   ·rw [if_neg h,if_neg fun h'=>h (z09.2 h')]
  ·rw [if_pos (fun t p=>by omega)]
 have n:xu N (z8s m) (z4k (rch m 0)) N [] 0=some (z6r (fsS m)):=by
  refine ru (σ:=List Int) (fun F k st=>xu N (z8s m) (z4k (rch m 0)) F st (k:Int)) (rch m 0).length
   (fun k st=>st=z6r ((z8c (z2h (cls m) (rch m 0)) k).map fun j=>((rch m 0).getD j default).st)) _ (fun F k st l b=> .inr ?_) (fun F st b=>?_) N 0 [] (Nat.zero_le _) (by omega) rfl
  ·subst b
   refine⟨_,rfl,?_⟩
   simp only [xu]
   rw [wu (by omega)]
   have o:=zcz (z2h (cls m) (rch m 0)) k
   refine(qc (x:=z6r ((z8c (z2h (cls m) (rch m 0)) (k+1)).map fun j=>((rch m 0).getD j default).st)) ?_).trans ?_
   ·rw [qc (i k l),zjo]
    by_cases h:z2x (z2h (cls m) (rch m 0)) k=true
    ·have y:(z6r ((z8c (z2h (cls m) (rch m 0)) k).map fun j=>((rch m 0).getD j default).st)).length≤k:=by
      rw [zjj,List.length_map,z6x];exact o
     rw [if_pos h,if_pos h,wu rfl,ze (qy (by omega)),ze ⟨by simp only [List.length_singleton];omega,by simp only [List.length_singleton];omega⟩,zla l]
     unfold z6r
     rw [List.map_append,List.map_append];rfl
    ·rw [if_neg h,if_neg h,um (by decide),List.append_nil]
   ·rw [ze (qm (by omega))];rfl
  ·subst b
   simp only [xu]
   rw [um (by omega)];rfl
 unfold z0p
 rw [qc (zkb d (by omega)),qc (q0o d q r s),qc n]
theorem q60(b:MOk m)(t:400≤N)(u:m.rows.length≤6)(v:m.inputs≤3):z4f N m=some (zpv m):=by
 have w:=b.r1
 have y:=zvj b
 have c:(z8s m).length=m.rows.length:=zhp
 have z:(z6r (fsS m)).length=(fsS m).length:=zjj _
 have j: ∀ s,s<m.rows.length→tu N (z8s m) (z6r (fsS m)) (z1d m.rows.length (rch m 0)) (s:Int) N (-1) 0=some (zkk m s):=fun s i=>by
  refine ru (σ:=Int) (fun F k st=>tu N (z8s m) (z6r (fsS m)) (z1d m.rows.length (rch m 0)) (s:Int) F st (k:Int)) (fsS m).length
   (fun k st=>st=if occ (rch m 0) s=true∧cls m s∈(z2j m).take k then(((z2j m).idxOf (cls m s):Nat):Int) else-1) _ (fun F k st f d=> .inr ?_) (fun F st d=>?_) N 0 (-1) (Nat.zero_le _) (by omega) ?_
  ·subst d
   obtain⟨f1,C⟩:=zl3 b f
   have g:k<(z2j m).length:=by rw [zb6 b];exact f
   have hget:=znh b f
   have l:ix (z1d m.rows.length (rch m 0)) (s:Int)=occ (rch m 0) s:=z92 i
   have A:ix (z6r (fsS m)) (k:Int)=(((fsS m).getD k 0:Nat):Int):=zpg f
   have n:ix (z8s m) (((fsS m).getD k 0:Nat):Int)=((cls m ((fsS m).getD k 0):Nat):Int):=zex f1
   have o:ix (z8s m) (s:Int)=((cls m s:Nat):Int):=zex i
   have B:(z2j m).take (k+1)=(z2j m).take k++[cls m ((fsS m).getD k 0)]:=by rw [←hget];exact zgn _ k g
   refine⟨_,rfl,?_⟩
   simp only [tu]
   rw [wu (by omega)]
   refine(qc (x:=if occ (rch m 0) s=true∧cls m s∈(z2j m).take (k+1) then(((z2j m).idxOf (cls m s):Nat):Int) else-1) ?_).trans ?_
   ·rw [ze (qy (by rw [z4t];exact i)),ze (fun _=>qy (by omega)),A,ze (fun _=>qy (by rw [c];exact f1)),ze (fun _=>qy (by rw [c];exact i)),l,n,o,B]
    cases ho:occ (rch m 0) s
    ·rw [cf (by rw [Bool.false_and]),if_neg (fun h=>by cases h.1),if_neg (fun h=>by cases h.1)]
    ·by_cases e:cls m ((fsS m).getD k 0)=cls m s
     ·have hi:(z2j m).idxOf (cls m s)=k:=by rw [←e,←hget];exact zcv (zii b) g
      rw [ct (by rw [e];simp),if_pos ⟨rfl,List.mem_append.2 (.inr (by rw [e];exact List.mem_singleton.2 rfl))⟩,hi]
     ·rw [cf (by rw [Bool.true_and];exact decide_eq_false (by omega))]
      by_cases h:cls m s∈(z2j m).take k
      ·rw [if_pos ⟨rfl,h⟩,if_pos ⟨rfl,List.mem_append.2 (.inl h)⟩]
      ·rw [if_neg (fun h'=>h h'.2),if_neg (fun h'=>by
        rcases List.mem_append.1 h'.2 with p|p
        ·exact h p
        ·exact e (List.mem_singleton.1 p).symm)]
   ·rw [ze (qm (by omega))];rfl
  ·subst d
   simp only [tu]
   rw [um (by omega),←zb6 b,List.take_length]
   unfold zkk
   by_cases h:occ (rch m 0) s=true
   ·rw [if_pos h,if_pos ⟨h,zxp b h⟩]
   ·rw [if_neg h,if_neg (fun h'=>h h'.1)]
  ·rw [if_neg (fun h=>by simp at h)]
 have q:mq N (z8s m) (z6r (fsS m)) (z1d m.rows.length (rch m 0)) N [] 0=some (zpv m):=by
  refine ru (σ:=List Int) (fun F k st=>mq N (z8s m) (z6r (fsS m)) (z1d m.rows.length (rch m 0)) F st (k:Int)) m.rows.length
   (fun k st=>st=(List.range k).map (zkk m)) _ (fun F k st f d=> .inr ?_) (fun F st d=>?_) N 0 [] (Nat.zero_le _) (by omega) rfl
  ·subst d
   refine⟨_,rfl,?_⟩
   simp only [mq]
   have r:((List.range k).map (zkk m)).length=k:=by simp
   rw [wu (by rw [c];omega),qc (j k f),ze ⟨by rw [r];simp only [List.length_singleton];omega,by rw [r];simp only [List.length_singleton];omega⟩,ze (qm (by omega)),z9e]
   rfl
  ·subst d
   simp only [mq]
   rw [um (by rw [c];omega)];rfl
 unfold z4f
 rw [qc (zkb b (by omega)),qc (zld b t u v)]
 refine(qc (show z04 N m 0=some (reachL m 0) from zvh b (by omega) (a:=0) (by omega))).trans ?_
 rw [zuk b,qc q]
theorem q9b(b:MOk m){s i:Nat}(h:occ (rch m 0) s=true)(hi:i<m.inputs.toNat)(a:ed m s i≠ -1):occ (rch m 0) (ed m s i).toNat=true:=by
 have c:=zt8 b
 obtain⟨q,d,rfl⟩:=z3w.1 h
 obtain⟨j,e,f,_⟩:=c.cls q i d hi a
 exact z3w.2 ⟨j,e,by omega⟩
theorem zzl(a:MOk m):(zbh m).rows=(List.range (fsS m).length).map fun c=>(List.range m.inputs.toNat).map fun i=>(⟨if 0≤ed m ((fsS m).getD c 0) i then zkk m (ed m ((fsS m).getD c 0) i).toNat else ed m ((fsS m).getD c 0) i,ou m ((fsS m).getD c 0) i⟩:Edge):=by
 have k:=zeh a
 show (z2j m).map (rowP (z7w m) (z2j m))=_
 refine z3c (by simp [zb6 a]) fun c e=>?_
 rw [List.length_map,zb6 a] at e
 obtain⟨f1,l⟩:=zl3 a e
 have g:=znh a e
 have b:=zge (m:=m) f1
 obtain⟨n,o⟩:=zqj a f1
 have f:(rowP (z7w m) (z2j m) (cls m ((fsS m).getD c 0))).length=m.inputs.toNat:=znu k (by rw [zio];exact b)
 have p:((z2j m).map (rowP (z7w m) (z2j m))).getD c default=rowP (z7w m) (z2j m) (cls m ((fsS m).getD c 0)):=by
  rw [←g]
  have:c<(z2j m).length:=by rw [zb6 a];exact e
  simp [List.getD_eq_getElem?_getD,this]
 rw [p,ik _ e]
 refine z3c (by rw [f];simp) fun i hi=>?_
 rw [f] at hi
 rw [ik _ hi,zed k (by rw [zio];exact b) hi]
 obtain⟨q,r⟩:=zrf a b hi
 obtain⟨s,j,t⟩:=zne a n f1 o hi
 have q2':(((z7w m).rows.getD (cls m ((fsS m).getD c 0)) default).getD i default).out=ou m ((fsS m).getD c 0) i:=r.trans s
 rw [q2',q]
 congr 1
 rcases z8w a f1 hi with h|⟨u,w⟩
 ·rw [j.2 h,zq8,h,if_neg (by decide)];rfl
 ·have d:ed m ((fsS m).getD c 0) i≠ -1:=by omega
  have v:=q9b a l hi d
  rw [if_pos u]
  unfold zkk
  rw [if_pos v]
  unfold hI
  rw [if_neg (fun h=>d (j.1 h)),t (fun h=>d (j.1 h)),zqc]
theorem q67(a:MOk m)(o:400≤N)(p:m.rows.length≤6)(q:m.inputs≤3):z1a N m=some (zbh m):=by
 have s:=a.r1;have t:=a.i1
 have u:=zvj a
 have v:(z6r (fsS m)).length=(fsS m).length:=zjj _
 have d:=q4w (m:=m)
 have e: ∀ c,c<(fsS m).length→xk N m (z6r (fsS m)) (zpv m) (c:Int) N [] 0=some ((List.range m.inputs.toNat).map fun i=>(⟨if 0≤ed m ((fsS m).getD c 0) i then zkk m (ed m ((fsS m).getD c 0) i).toNat else ed m ((fsS m).getD c 0) i,ou m ((fsS m).getD c 0) i⟩:Edge)):=fun c r=>by
  obtain⟨f1,z⟩:=zl3 a r
  have hrow:=a.row _ f1
  have w:ix (z6r (fsS m)) (c:Int)=(((fsS m).getD c 0:Nat):Int):=zpg r
  refine ru (σ:=List Edge) (fun F k st=>xk N m (z6r (fsS m)) (zpv m) (c:Int) F st (k:Int)) m.inputs.toNat
   (fun k st=>st=(List.range k).map fun i=>(⟨if 0≤ed m ((fsS m).getD c 0) i then zkk m (ed m ((fsS m).getD c 0) i).toNat else ed m ((fsS m).getD c 0) i,ou m ((fsS m).getD c 0) i⟩:Edge)) _ (fun F k st f b=> .inr ?_) (fun F st b=>?_) N 0 [] (Nat.zero_le _) (by omega) rfl
  ·subst b
   refine⟨_,rfl,?_⟩
   simp only [xk]
   have g:ix m.rows (((fsS m).getD c 0:Nat):Int)=m.rows.getD ((fsS m).getD c 0) default:=rfl
   have j:ix (m.rows.getD ((fsS m).getD c 0) default) (k:Int)=⟨ed m ((fsS m).getD c 0) k,ou m ((fsS m).getD c 0) k⟩:=rfl
   rw [wu (by omega),ze (qy (by omega)),w,ze (qy f1),g,ze (qy (by omega)),j]
   refine(qc (x:=if 0≤ed m ((fsS m).getD c 0) k then zkk m (ed m ((fsS m).getD c 0) k).toNat else ed m ((fsS m).getD c 0) k) ?_).trans ?_
   ·rcases z8w a f1 f with h|⟨l,y⟩
    ·rw [um (by dsimp only;omega),if_neg (by omega)]
    ·rw [wu l,ze ⟨l,by dsimp only;rw [d];exact y⟩,if_pos l]
     exact congrArg some (q1q (show (ed m ((fsS m).getD c 0) k).toNat<m.rows.length by omega))
   ·rw [ze ⟨by simp;omega,by simp;omega⟩,ze (qm (by omega)),z9e];rfl
  ·subst b
   simp only [xk]
   rw [um (by omega)]
 have n:xh N m (z6r (fsS m)) (zpv m) N 0 []=some (zbh m).rows:=by
  rw [zzl a]
  refine ru (σ:=List (List Edge)) (fun F k st=>xh N m (z6r (fsS m)) (zpv m) F (k:Int) st) (fsS m).length
   (fun k st=>st=(List.range k).map fun c=>(List.range m.inputs.toNat).map fun i=>(⟨if 0≤ed m ((fsS m).getD c 0) i then zkk m (ed m ((fsS m).getD c 0) i).toNat else ed m ((fsS m).getD c 0) i,ou m ((fsS m).getD c 0) i⟩:Edge)) _ (fun F k st f b=> .inr ?_) (fun F st b=>?_) N 0 [] (Nat.zero_le _) (by omega) rfl
  ·subst b
   refine⟨_,rfl,?_⟩
   simp only [xh]
   rw [wu (by omega),qc (e k f),ze ⟨by simp;omega,by simp;omega⟩,ze (qm (by omega)),z9e];rfl
  ·subst b
   simp only [xh]
   rw [um (by omega)]
 unfold z1a
 rw [qc (zld a o p q),qc (q60 a o p q),qc n]
 rfl
end
end GV
end Go.Proofs.Ytnnobdkjgafdmaa

namespace Go.Proofs.Ytnnobdkjgafdmaa
namespace GV
set_option maxRecDepth 100000
theorem q34{m:Mach}(a:MOk m):zps m=z9a m:=by
 have b:z3k m=0:=(z6b m).2 a
 have hmul:=a.mul
 have c:=zp8 a m.rows.length (Nat.le_refl _)
 have d:(zrh m).length=(z9d m (m.rows.length*m.inputs.toNat)).length:=rfl
 have e:q3n m=zj7 m m.rows.length:=rfl
 unfold zps z9a
 rw [if_neg (by rw [b];simp),hmul.2]
 by_cases h:(zrh m).length=0
 ·rw [decide_eq_true (by omega),decide_eq_true (by omega)]
 ·rw [decide_eq_false (by omega),decide_eq_false (by omega)]
theorem zw8{m:Mach}(a:MOk m)(h: ∀ s i,s<m.rows.length→i<m.inputs.toNat→0≤ed m s i):z9a m=true:=by
 have b:=a.i1
 have e: ∀ k,k≤m.rows.length→zj7 m k=k*m.inputs.toNat:=by
  intro k
  induction k with
  |zero=>intro _;simp [zj7]
  |succ k ih=>
   intro c
   have hrow:=a.row k (by omega)
   rw [zfi m k (by omega),ih (by omega),zrx (fun i hi=>h k i (by omega) (by omega)) _ (Nat.le_refl _),Nat.succ_mul]
   omega
 unfold z9a q3n
 rw [e _ (Nat.le_refl _),a.mul.2]
 exact decide_eq_true rfl
theorem zot{κ:Type}[DecidableEq κ]{f:Nat→κ}: ∀ {n:Nat},cntF f n=n↔ ∀ u,u<n→z2x f u=true
 |0=>⟨fun _ u b=>by omega,fun _=>rfl⟩
 |n+1=>by
  have ih:=zot (f:=f) (n:=n)
  have c:=zcz f n
  have a:cntF f (n+1)=cntF f n+if z2x f n=true then 1 else 0:=rfl
  by_cases h:z2x f n=true
  ·rw [if_pos h] at a
   rw [a]
   constructor
   ·intro e u b
    by_cases e':u=n
    ·subst e';exact h
    ·exact ih.1 (by omega) u (by omega)
   ·intro e
    have:=ih.2 fun u b=>e u (by omega)
    omega
  ·rw [if_neg h] at a
   rw [a]
   exact⟨fun e=>by omega,fun e=>absurd (e n (by omega)) h⟩
theorem q5y{m:Mach}{k:Nat}(d:1≤k):max ((cntF (cls m) k:Int)-1) (cls m k:Int)=(cntF (cls m) (k+1):Int)-1:=by
 have b:cntF (cls m) (k+1)=cntF (cls m) k+if z2x (cls m) k=true then 1 else 0:=rfl
 have c:=zcg (m:=m) k
 by_cases h:z2x (cls m) k=true
 ·rw [if_pos h] at b
  rw [zah h] at c
  omega
 ·rw [if_neg h] at b
  have f:=z4e (cls m) k
  have a:=z8o (cls m) k
  have g:z7x (cls m) k≠k:=fun e=>h (by rw [e] at a;exact a)
  have i:=zaa (cls m) (show z7x (cls m) k<k by omega) a
  have j:cntF (cls m) (z7x (cls m) k)=cls m k:=c
  omega
def zw3(m:Mach):Bool:=decide (cntF (cls m) m.rows.length=m.rows.length)
noncomputable def properM(m:Mach):Int:=if z3k m≠0 then z3k m else if z9a m=false then 9 else if connB m=false then 11 else if zw3 m=false then 12 else 0
section
variable {N : Nat} {m : Mach}
theorem q5u(f:Nat→Nat):cntF f 1=1:=by
 have:z2x f 0=true:=z09.2 fun t a=>by omega
 show 0+(if z2x f 0=true then 1 else 0)=1
 rw [if_pos this]
theorem q8i(c:MOk m)(l:200≤N):slices_Max_int N (z8s m)=some ((cntF (cls m) m.rows.length:Int)-1):=by
 have e:(z8s m).length=m.rows.length:=zhp
 have a:=c.r1;have f:=c.r2
 have g:ix (z8s m) 0=(cntF (cls m) 1:Int)-1:=by
  have:ix (z8s m) 0=((cls m 0:Nat):Int):=zex (s:=0) (by omega)
  rw [this,zry,q5u];rfl
 have h:ry N (z8s m) N ((cntF (cls m) 1:Int)-1) 1=some ((cntF (cls m) m.rows.length:Int)-1):=by
  refine ru (σ:=Int) (fun F k st=>ry N (z8s m) F st (k:Int)) m.rows.length (fun k st=>1≤k∧st=(cntF (cls m) k:Int)-1) _ (fun F k st i b=> .inr ?_) (fun F st b=>?_) N 1 _ a (by omega) ⟨Nat.le_refl _,rfl⟩
  ·obtain⟨d,rfl⟩:=b
   refine⟨_,⟨by omega,rfl⟩,?_⟩
   simp only [ry]
   have j:ix (z8s m) (k:Int)=((cls m k:Nat):Int):=zex i
   rw [wu (by omega),ze (qy (by omega)),ze (qm (by omega)),j,q5y d]
   rfl
  ·obtain⟨d,rfl⟩:=b
   simp only [ry]
   rw [um (by omega)]
 unfold slices_Max_int
 rw [um (by omega),ze ⟨by omega,by omega⟩,g,qc h]
theorem q0n(a:MOk m)(b:200≤N):z4c N m=some (zw3 m):=by
 have c:(z8s m).length=m.rows.length:=zhp
 have d:=a.r2
 obtain⟨j,e⟩:=zvd (N:=N) a b
 unfold z4c
 rw [qc e,qc (q8i a b),ze (qm (by dsimp only;omega))]
 unfold zw3
 by_cases h:cntF (cls m) m.rows.length=m.rows.length
 ·rw [decide_eq_true h,decide_eq_true (by dsimp only;omega)]
 ·rw [decide_eq_false h,decide_eq_false (by dsimp only;omega)]
theorem zzq(a:MOk m)(b:200≤N):z3u N m=some (connB m):=by
 unfold z3u
 rw [qc (zr5 a.small b),(z6b m).2 a];rfl
theorem q00(a:MOk m)(b:200≤N):z3x N m=some (z9a m):=by
 unfold z3x
 rw [qc (zs5 a.small b),q34 a]
theorem q15(c:Small m)(a:200≤N):z4s N m=some (properM m):=by
 unfold z4s properM
 rw [qc (zhj c a)]
 by_cases h:z3k m≠0
 ·rw [wu h,if_pos h]
 ·rw [um h,if_neg h]
  have b:=(z6b m).1 (by omega)
  refine(zg4 (x:=(m,m,m))).trans ?_
  refine(qc (q00 b a)).trans ?_
  cases z9a m
  ·rfl
  refine(cf rfl).trans ?_
  refine(qc (zzq b a)).trans ?_
  cases connB m
  ·rfl
  refine(cf rfl).trans ?_
  refine(qc (q0n b a)).trans ?_
  cases zw3 m<;>rfl
end
/-! ### Homomorphisms-/
section
variable {N : Nat} {a b : Mach} {f : List Int}
structure HOk (a b:Mach) (f:List Int):Prop where
 ha:MOk a
 hb:MOk b
 hi:a.inputs=b.inputs
 hl:f.length=a.rows.length
 hr: ∀ k,k<f.length→0≤f.getD k default∧f.getD k default<b.rows.length
end
end GV
end Go.Proofs.Ytnnobdkjgafdmaa

namespace Go.Proofs.Ytnnobdkjgafdmaa
namespace GV
set_option maxRecDepth 100000
section
variable {m : Mach}
theorem q1k(b:MOk m)(h:Red m):zw3 m=true:=decide_eq_true (zot.2 fun u a=>z09.2 fun t c e=>by
 have:=h t u (by omega) a ((zwy b (by omega) a).1 e)
 omega)
theorem zku:(zbh m).rows.length=(z2j m).length:=zoq
theorem zfb(a:MOk m):ClosedP (z7w m) (z2j m):=zlk (q8l a)
theorem q0e(a:MOk m):0∈z2j m∧(z2j m).idxOf 0=0:=q1v (q8l a)
theorem zi4{c:Nat}(a:c<(z2j m).length):(z2j m).getD c 0∈z2j m:=by simp [List.getD_eq_getElem?_getD,a]
theorem zyb(a:MOk m){c:Nat}(b:c∈z2j m){w:List Int}(d:WOk m.inputs w):z1p (zbh m) (((z2j m).idxOf c:Nat):Int) w=z1p (z7w m) (c:Int) w:=by
 have:=(zsn (zeh a) (zfb a) w (s:=(c:Int)) (.inr ⟨by omega,by rw [Int.toNat_natCast];exact b⟩) d).1
 rw [zqc] at this
 exact this
theorem q79(a:MOk m):Red (zbh m):=by
 intro c d e f l
 rw [zku] at e f
 have o:=zeh a
 have b:=zfb a
 have g:=zcv (zii a) e
 have i:=zcv (zii a) f
 have h:=q6v a _ _ (b.rng _ (zi4 e)) (b.rng _ (zi4 f)) (fun w hw'=>by
  have n:=l w hw'
  have j:=zyb a (zi4 e) (w:=w) hw'
  have k:=zyb a (zi4 f) (w:=w) hw'
  rw [g] at j;rw [i] at k
  rw [←j,←k];exact n)
 rw [h,i] at g
 exact g.symm
theorem q5d(a:MOk m):rch (zbh m) 0=(rch (z7w m) 0).map (ren (z2j m)):=by
 obtain⟨b,c⟩:=q0e a
 have hren:=q6t (zeh a) (zfb a) b
 rw [c] at hren
 exact hren
theorem q5b(h: ∀ t,t<m.rows.length→occ (rch m 0) t=true)(b:MOk m):connB m=true:=q6u fun j a=>(zdd a).2 ((zok b).2 (h j a))
theorem q3y(a:MOk m):connB (zbh m)=true:=by
 refine q5b (fun c b=>?_) (zwq a)
 rw [zku] at b
 rw [q5d a]
 have d:c<(rch (z7w m) 0).length:=by rw [←zm1];exact b
 refine z3w.2 ⟨c,by rw [List.length_map];exact d,?_⟩
 rw [getD_map d]
 show (z2j m).idxOf (((rch (z7w m) 0).getD c default).st)=c
 rw [←zt3 _ d]
 exact zcv (zii a) b
theorem q95(a:MOk m){s i:Nat}(b:s<m.rows.length)(e:occ (rch m 0) s=true)(hi:i<m.inputs.toNat):ed (zbh m) ((z2j m).idxOf (cls m s)) i=pos (z2j m) (hI (cls m) (ed m s i))∧ou (zbh m) ((z2j m).idxOf (cls m s)) i=ou m s i:=by
 have f:=zeh a
 have c:=zkt a
 obtain⟨g,h⟩:=zdi (zxp a e)
 have j:(zbh m).rows.getD ((z2j m).idxOf (cls m s)) default=rowP (z7w m) (z2j m) (cls m s):=by
  have:(zbh m).rows.getD ((z2j m).idxOf (cls m s)) default=rowP (z7w m) (z2j m) ((z2j m).getD ((z2j m).idxOf (cls m s)) 0):=zci g
  rw [this,h]
 have k:=zed (L:=z2j m) f (c.rng s b) (show i<(z7w m).inputs.toNat from hi)
 have d:((zbh m).rows.getD ((z2j m).idxOf (cls m s)) default).getD i default=⟨pos (z2j m) (ed (z7w m) (cls m s) i),ou (z7w m) (cls m s) i⟩:=by rw [j];exact k
 constructor
 ·show (((zbh m).rows.getD ((z2j m).idxOf (cls m s)) default).getD i default).to=_
  rw [d,c.to s i b hi]
 ·show (((zbh m).rows.getD ((z2j m).idxOf (cls m s)) default).getD i default).out=_
  rw [d,c.out s i b hi]
theorem q99(a:MOk m):(zbh m).rows.length≤m.rows.length:=by
 rw [zku,zb6 a];exact zvj a
theorem zz0(a:MOk m)(h: ∀ s i,s<m.rows.length→i<m.inputs.toNat→0≤ed m s i):z9a (zbh m)=true:=by
 refine zw8 (zwq a) fun c i b hi=>?_
 rw [zku] at b
 have hi':i<m.inputs.toNat:=hi
 have hc':c<(fsS m).length:=by rw [←zb6 a];exact b
 obtain⟨f1,f⟩:=zl3 a hc'
 have e:=zcv (zii a) b
 rw [znh a hc'] at e
 have d:=(q95 a f1 f hi').1
 rw [e] at d
 rw [d]
 obtain⟨t,g⟩:=Int.eq_ofNat_of_zero_le (h _ i f1 hi')
 rw [g,zbx,zqc];omega
end
end GV
end Go.Proofs.Ytnnobdkjgafdmaa

namespace Go.Proofs.Ytnnobdkjgafdmaa
namespace GV
section sea
variable {T : Type} [DecidableEq T]
abbrev LS (T:Type):=List (T×List Int)×List T
def zin(s:LS T)(x:T)(w:List Int):LS T:=if x∈s.2 then s else(s.1++[(x,w)],s.2++[x])
def zac(next:T→Int→T)(x:T)(w:List Int)(s:LS T):Nat→LS T
 |0=>s
 |i+1=>zin (zac next x w s i) (next x (i:Int)) (w++[(i:Int)])
def zec(next:T→Int→T)(ni:Nat)(s:LS T):List (T×List Int)→LS T
 | []=>s
 |p::L=>zec next ni (zac next p.1 p.2 s ni) L
def zht(next:T→Int→T)(isb:T→Bool)(ni:Nat):Nat→List (T×List Int)→List T→Option (List Int)
 |0,_,_=>none
 |g+1,L,S=>if L=[] then none else match L.find? fun p=>isb p.1 with
  |some p=>some p.2
  |none=>zht next isb ni g (zec next ni ([],S) L).1 (zec next ni ([],S) L).2
def runT(next:T→Int→T)(x:T)(w:List Int):T:=w.foldl next x
def WIn(ni:Nat)(w:List Int):Prop:= ∀ i∈w,0≤i∧i<(ni:Int)
theorem z7n{next:T→Int→T}{x:T}{w:List Int}{i:Int}:runT next x (w++[i])=next (runT next x w) i:=by simp [runT]
theorem WIn.snoc{ni:Nat}{w:List Int}{i:Int}(h:WIn ni w)(b:0≤i)(c:i<(ni:Int)):WIn ni (w++[i]):=fun j a=>by
 rcases List.mem_append.1 a with a|a
 ·exact h j a
 ·rw [List.mem_singleton.1 a];exact⟨b,c⟩
theorem WIn.append{ni:Nat}{w v:List Int}(h:WIn ni w)(k:WIn ni v):WIn ni (w++v):=fun j a=>by
 rcases List.mem_append.1 a with a|a
 ·exact h j a
 ·exact k j a
theorem WIn.init{ni:Nat}{w:List Int}{i:Int}(h:WIn ni (w++[i])):WIn ni w∧0≤i∧i<(ni:Int):=
 ⟨fun j a=>h j (List.mem_append.2 (.inl a)),h i (List.mem_append.2 (.inr (List.mem_singleton.2 rfl)))⟩
theorem zpt{w:List Int}{k:Nat}(h:w.length=k+1): ∃ v i,w=v++[i]∧v.length=k:=by
 have a:w≠[]:=by intro e;rw [e] at h;simp at h
 refine⟨w.dropLast,w.getLast a,(List.dropLast_concat_getLast a).symm,?_⟩
 rw [List.length_dropLast];omega
structure PS (S0:List T) (Q:T→List Int→Prop) (s:LS T):Prop where
 seen:s.2=S0++s.1.map Prod.fst
 nd:s.2.Nodup
 ord:s.1.Pairwise fun a b=>llt a.2 b.2
 out: ∀ q∈s.1,Q q.1 q.2
 got: ∀ x w,Q x w→x∈S0∨ ∃ q∈s.1,q.1=x∧lle q.2 w
theorem PS.congr{S0:List T}{Q Q':T→List Int→Prop}{s:LS T}(h:PS S0 Q s)(e: ∀ x w,Q x w↔Q' x w):PS S0 Q' s:=
 ⟨h.seen,h.nd,h.ord,fun q a=>(e _ _).1 (h.out q a),fun x w b=>h.got x w ((e _ _).2 b)⟩
theorem q5g{S0:List T}{Q:T→List Int→Prop}{s:LS T}{x:T}{w:List Int}(h:PS S0 Q s)(i: ∀ x' w',Q x' w'→llt w' w):PS S0 (fun x' w'=>Q x' w'∨(x'=x∧w'=w)) (zin s x w):=by
 unfold zin
 by_cases d:x∈s.2
 ·rw [if_pos d]
  refine⟨h.seen,h.nd,h.ord,fun q c=> .inl (h.out q c),fun x' w' hw'=>?_⟩
  rcases hw' with hw'|⟨rfl,rfl⟩
  ·exact h.got x' w' hw'
  ·rw [h.seen] at d
   rcases List.mem_append.1 d with d|d
   ·exact .inl d
   ·obtain⟨q,c,rfl⟩:=List.mem_map.1 d
    exact .inr ⟨q,c,rfl,.inr (i _ _ (h.out q c))⟩
 ·rw [if_neg d]
  refine⟨?_,?_,?_,fun q c=>?_,fun x' w' hw'=>?_⟩
  ·show s.2++[x]=S0++(s.1++[(x,w)]).map Prod.fst
   rw [h.seen,List.map_append,List.append_assoc];rfl
  ·show (s.2++[x]).Nodup
   rw [List.nodup_append]
   refine⟨h.nd,List.nodup_cons.2 ⟨List.not_mem_nil,List.nodup_nil⟩,fun a f b g e=>?_⟩
   rw [List.mem_singleton.1 g] at e
   exact d (e▸f)
  ·show (s.1++[(x,w)]).Pairwise _
   rw [List.pairwise_append]
   exact⟨h.ord,List.pairwise_singleton ..,fun a f b g=>by rw [List.mem_singleton.1 g];exact i _ _ (h.out a f)⟩
  ·rcases List.mem_append.1 c with c|c
   ·exact .inl (h.out q c)
   ·rw [List.mem_singleton.1 c];exact .inr ⟨rfl,rfl⟩
  ·rcases hw' with hw'|⟨rfl,rfl⟩
   ·rcases h.got x' w' hw' with k|⟨q,c,k⟩
    ·exact .inl k
    ·exact .inr ⟨q,List.mem_append.2 (.inl c),k⟩
   ·exact .inr ⟨(x',w'),List.mem_append.2 (.inr (List.mem_singleton.2 rfl)),rfl,.inl rfl⟩
theorem zy3{next:T→Int→T}{S0:List T}{Q:T→List Int→Prop}{s:LS T}{x:T}{w:List Int}(h:PS S0 Q s)(b: ∀ x' w',Q x' w'→ ∀ j:Int,llt w' (w++[j])):
 ∀ k:Nat,PS S0 (fun x' w'=>Q x' w'∨ ∃ j:Nat,j<k∧x'=next x (j:Int)∧w'=w++[(j:Int)]) (zac next x w s k)
 |0=>h.congr fun x' w'=>⟨.inl,fun h=>h.resolve_right fun⟨j,a,_⟩=>by omega⟩
 |k+1=>by
  refine(q5g (zy3 h b k) (x:=next x (k:Int)) (w:=w++[(k:Int)]) fun x' w' hw'=>?_).congr fun x' w'=>?_
  ·rcases hw' with hw'|⟨j,a,_,rfl⟩
   ·exact b x' w' hw' _
   ·exact zsu w (by omega)
  ·constructor
   ·rintro((h|⟨j,a,h⟩)|h)
    ·exact .inl h
    ·exact .inr ⟨j,by omega,h⟩
    ·exact .inr ⟨k,by omega,h⟩
   ·rintro(h|⟨j,a,h⟩)
    ·exact .inl (.inl h)
    ·by_cases e:j=k
     ·subst e;exact .inr h
     ·exact .inl (.inr ⟨j,by omega,h⟩)
theorem zx4{next:T→Int→T}{ni:Nat}{S0:List T}: ∀ {L:List (T×List Int)} {Q:T→List Int→Prop} {s:LS T},PS S0 Q s→L.Pairwise (fun a b=>llt a.2 b.2)→(∀ x' w',Q x' w'→ ∀ p∈L,∀ j:Int,llt w' (p.2++[j]))→
 PS S0 (fun x' w'=>Q x' w'∨ ∃ p∈L,∃ j:Nat,j<ni∧x'=next p.1 (j:Int)∧w'=p.2++[(j:Int)]) (zec next ni s L)
 | [],Q,s,h,_,_=>h.congr fun x' w'=>⟨.inl,fun h=>h.resolve_right fun⟨p,d,_⟩=>absurd d List.not_mem_nil⟩
 |p::L,Q,s,h,e,c=>by
  obtain⟨f,g⟩:=List.pairwise_cons.1 e
  refine(zx4 (L:=L) (zy3 h (fun x' w' hw' j=>c x' w' hw' p (List.mem_cons_self ..) j) ni) g fun x' w' hw' p' hp' j=>?_).congr fun x' w'=>?_
  ·rcases hw' with hw'|⟨i,hi,_,rfl⟩
   ·exact c x' w' hw' p' (List.mem_cons_of_mem _ hp') j
   ·exact zie _ _ (f p' hp')
  ·constructor
   ·rintro((h|h)|⟨p',hp',h⟩)
    ·exact .inl h
    ·exact .inr ⟨p,List.mem_cons_self ..,h⟩
    ·exact .inr ⟨p',List.mem_cons_of_mem _ hp',h⟩
   ·rintro(h|⟨p',hp',h⟩)
    ·exact .inl (.inl h)
    ·rcases List.mem_cons.1 hp' with rfl|hp'
     ·exact .inl (.inr h)
     ·exact .inr ⟨p',hp',h⟩
structure LI (next:T→Int→T) (isb:T→Bool) (ni:Nat) (x0:T) (k:Nat) (L:List (T×List Int)) (S:List T):Prop where
 wd: ∀ p∈L,p.2.length=k∧WIn ni p.2∧p.1=runT next x0 p.2
 nd:S.Nodup
 ord:L.Pairwise fun a b=>llt a.2 b.2
 seen: ∀ x,x∈S↔ ∃ v,v.length≤k∧WIn ni v∧x=runT next x0 v
 rep: ∀ v,v.length=k→WIn ni v→(∃ p∈L,p.1=runT next x0 v∧lle p.2 v)∨ ∃ u,u.length<k∧WIn ni u∧runT next x0 u=runT next x0 v
 no: ∀ v,v.length<k→WIn ni v→isb (runT next x0 v)=false
 num:L≠[]→k<S.length
 sub: ∀ p∈L,p.1∈S
theorem q25{next:T→Int→T}{isb:T→Bool}{ni:Nat}{a:T}:LI next isb ni a 0 [(a,[])] [a]:=by
 have d: ∀ p∈[(a,([]:List Int))],p=(a,[]):=fun p b=>List.mem_singleton.1 b
 refine⟨fun p b=>?_,List.nodup_cons.2 ⟨List.not_mem_nil,List.nodup_nil⟩,List.pairwise_singleton ..,fun x=>?_,fun v c e=>?_,fun v c=>by omega,fun _=>Nat.zero_lt_one,fun p b=>?_⟩
 ·rw [d p b];exact⟨rfl,fun i hi=>absurd hi List.not_mem_nil,rfl⟩
 ·rw [List.mem_singleton]
  constructor
  ·rintro rfl;exact⟨[],Nat.le_refl _,fun i hi=>absurd hi List.not_mem_nil,rfl⟩
  ·rintro⟨v,c,_,rfl⟩
   rw [List.length_eq_zero_iff.1 (Nat.le_zero.1 c)];rfl
 ·rw [List.length_eq_zero_iff.1 c]
  exact .inl ⟨(a,[]),List.mem_singleton.2 rfl,rfl,.inl rfl⟩
 ·rw [d p b];exact List.mem_singleton.2 rfl
theorem q8m{next:T→Int→T}{isb:T→Bool}{ni:Nat}{a:T}{k:Nat}{L:List (T×List Int)}{S:List T}(h:LI next isb ni a k L S):
 PS S (fun x' w'=> ∃ p∈L,∃ j:Nat,j<ni∧x'=next p.1 (j:Int)∧w'=p.2++[(j:Int)]) (zec next ni ([],S) L):=by
 refine(zx4 (next:=next) (ni:=ni) (L:=L) (Q:=fun _ _=>False) (s:=([],S)) (S0:=S) ⟨by simp,h.nd,List.Pairwise.nil,fun q b=>absurd b List.not_mem_nil,fun _ _ h=>h.elim⟩ h.ord fun _ _ h=>h.elim).congr fun x' w'=>?_
 exact⟨fun h=>h.resolve_left id,.inr⟩
theorem zks{next:T→Int→T}{isb:T→Bool}{ni:Nat}{t:T}{k:Nat}{L:List (T×List Int)}{S:List T}(h:LI next isb ni t k L S)(A: ∀ p∈L,isb p.1=false):
 LI next isb ni t (k+1) (zec next ni ([],S) L).1 (zec next ni ([],S) L).2:=by
 have n:=q8m h
 generalize zec next ni ([],S) L=s at n
 have hseen: ∀ x,x∈s.2↔x∈S∨ ∃ q∈s.1,q.1=x:=fun x=>by rw [n.seen,List.mem_append,List.mem_map]
 have hout: ∀ q∈s.1,q.2.length=k+1∧WIn ni q.2∧q.1=runT next t q.2:=fun q f=>by
  obtain⟨p,d,j,J,o,y⟩:=n.out q f
  obtain⟨B,C,D⟩:=h.wd p d
  rw [o,y]
  exact⟨by simp [B],C.snoc (by omega) (by omega),by rw [z7n,D]⟩
 have hnew: ∀ v,v.length=k+1→WIn ni v→(runT next t v∈S)∨ ∃ q∈s.1,q.1=runT next t v∧lle q.2 v:=fun v r l=>by
  obtain⟨v',i,rfl,hv'⟩:=zpt r
  obtain⟨hw',E,F⟩:=l.init
  rcases h.rep v' hv' hw' with⟨p,d,o,y⟩|⟨u,z,m,e⟩
  ·obtain⟨j,rfl⟩: ∃ j:Nat,i=(j:Int):=⟨i.toNat,by omega⟩
   rcases n.got (next p.1 (j:Int)) (p.2++[(j:Int)]) ⟨p,d,j,by omega,rfl,rfl⟩ with g|⟨q,f,G,H⟩
   ·left;rw [z7n,←o];exact g
   ·right;exact⟨q,f,by rw [G,z7n,←o],zfg H (zss _ y)⟩
  ·left
   rw [z7n,←e,←z7n (next:=next),h.seen]
   exact⟨u++[i],by simp;omega,m.snoc E F,rfl⟩
 refine⟨hout,n.nd,n.ord,fun x=>?_,fun v r l=>?_,fun v r l=>?_,fun w=>?_,fun q f=>(hseen _).2 (.inr ⟨q,f,rfl⟩)⟩
 ·rw [hseen]
  constructor
  ·rintro(I|⟨q,f,rfl⟩)
   ·obtain⟨v,r,l,e⟩:=(h.seen x).1 I
    exact⟨v,by omega,l,e⟩
   ·obtain⟨a,b,c⟩:=hout q f
    exact⟨q.2,by omega,b,c⟩
  ·rintro⟨v,r,l,rfl⟩
   by_cases e:v.length=k+1
   ·rcases hnew v e l with g|⟨q,f,g,_⟩
    ·exact .inl g
    ·exact .inr ⟨q,f,g⟩
   ·exact .inl ((h.seen _).2 ⟨v,by omega,l,rfl⟩)
 ·rcases hnew v r l with g|g
  ·obtain⟨u,z,m,e⟩:=(h.seen _).1 g
   exact .inr ⟨u,by omega,m,e.symm⟩
  ·exact .inl g
 ·by_cases e:v.length=k
  ·rcases h.rep v e l with⟨p,d,o,_⟩|⟨u,z,m,o⟩
   ·rw [←o];exact A p d
   ·rw [←o];exact h.no u z m
  ·exact h.no v (by omega) l
 ·have hlen:s.2.length=S.length+s.1.length:=by rw [n.seen,List.length_append,List.length_map]
  have K:0<s.1.length:=List.length_pos_iff.2 w
  by_cases hL:L=[]
  ·exfalso
   obtain⟨q,f⟩:=List.exists_mem_of_ne_nil _ w
   obtain⟨p,d,_⟩:=n.out q f
   rw [hL] at d;exact absurd d List.not_mem_nil
  ·have:=h.num hL;omega
theorem zm7{isb:T→Bool}: ∀ {L:List (T×List Int)} {p:T×List Int},L.Pairwise (fun a b=>llt a.2 b.2)→L.find? (fun p=>isb p.1)=some p→ ∀ q∈L,isb q.1=true→lle p.2 q.2
 | [],p,_,h,q,c,_=>absurd c List.not_mem_nil
 |a::L,p,e,h,q,c,d=>by
  obtain⟨f,g⟩:=List.pairwise_cons.1 e
  rw [List.find?_cons] at h
  cases ha:isb a.1 with
  |true=>
   rw [ha] at h
   obtain rfl:=Option.some.inj h
   rcases List.mem_cons.1 c with rfl|c
   ·exact .inl rfl
   ·exact .inr (f q c)
  |false=>
   rw [ha] at h
   rcases List.mem_cons.1 c with rfl|c
   ·rw [ha] at d;cases d
   ·exact zm7 g h q c d
def Lst(next:T→Int→T)(isb:T→Bool)(ni:Nat)(a:T)(w:List Int):Prop:=WIn ni w∧isb (runT next a w)=true∧ ∀ v,WIn ni v→isb (runT next a v)=true→lle w v
theorem q8w{next:T→Int→T}{isb:T→Bool}{ni:Nat}{b:T}{k:Nat}{S:List T}(h:LI next isb ni b k [] S): ∀ v,WIn ni v→isb (runT next b v)=false:=by
 have key: ∀ n v,v.length=n→WIn ni v→ ∃ u,u.length<k∧WIn ni u∧runT next b u=runT next b v:=by
  have base: ∀ v,v.length≤k→WIn ni v→ ∃ u,u.length<k∧WIn ni u∧runT next b u=runT next b v:=fun v c a=>by
   by_cases e:v.length=k
   ·exact(h.rep v e a).resolve_left fun⟨p,l,_⟩=>absurd l List.not_mem_nil
   ·exact⟨v,by omega,a,rfl⟩
  intro n
  induction n with
  |zero=>intro v c a;exact base v (by omega) a
  |succ n ih=>
   intro v c a
   obtain⟨v',i,rfl,hv'⟩:=zpt c
   obtain⟨hw',m,o⟩:=a.init
   obtain⟨u,r,d,e⟩:=ih v' hv' hw'
   obtain⟨q,f,g,j⟩:=base (u++[i]) (by simp;omega) (d.snoc m o)
   exact⟨q,f,g,by rw [j,z7n,z7n,e]⟩
 intro v a
 obtain⟨u,f,g,j⟩:=key v.length v rfl a
 rw [←j];exact h.no u f g
theorem zov{next:T→Int→T}{isb:T→Bool}{ni:Nat}{f:T}{w:List Int}: ∀ {g k:Nat} {L:List (T×List Int)} {S:List T},LI next isb ni f k L S→zht next isb ni g L S=some w→Lst next isb ni f w
 |0,k,L,S,h,e=>by cases e
 |g+1,k,L,S,h,e=>by
  unfold zht at e
  by_cases hL:L=[]
  ·rw [if_pos hL] at e;cases e
  ·rw [if_neg hL] at e
   cases hf:L.find? (fun p=>isb p.1) with
   |some p=>
    rw [hf] at e
    obtain rfl:=Option.some.inj e
    have b:=List.mem_of_find?_eq_some hf
    have j:=List.find?_some hf
    obtain⟨t,l,m⟩:=h.wd p b
    refine⟨l,by rw [←m];exact j,fun v i a=>?_⟩
    by_cases hk:v.length<k
    ·rw [h.no v hk i] at a;cases a
    ·by_cases hk2:v.length=k
     ·rcases h.rep v hk2 i with⟨q,n,c,o⟩|⟨u,r,d,c⟩
      ·exact zfg (zm7 h.ord hf q n (by rw [c];exact a)) o
      ·rw [←c,h.no u r d] at a;cases a
     ·exact .inr (.inl (by omega))
   |none=>
    rw [hf] at e
    exact zov (zks h fun p s=>by simpa using List.find?_eq_none.1 hf p s) e
theorem zop{next:T→Int→T}{isb:T→Bool}{ni:Nat}{b:T}: ∀ {g k:Nat} {L:List (T×List Int)} {S:List T},LI next isb ni b k L S→zht next isb ni g L S=none→ ∀ v,WIn ni v→v.length<k+g→isb (runT next b v)=false
 |0,k,L,S,h,e,v,a,c=>h.no v (by omega) a
 |g+1,k,L,S,h,e,v,a,c=>by
  unfold zht at e
  by_cases hL:L=[]
  ·subst hL;exact q8w h v a
  ·rw [if_neg hL] at e
   cases hf:L.find? (fun p=>isb p.1) with
   |some p=>rw [hf] at e;cases e
   |none=>
    rw [hf] at e
    exact zop (zks h fun p d=>by simpa using List.find?_eq_none.1 hf p d) e v a (by omega)
end sea
end GV
end Go.Proofs.Ytnnobdkjgafdmaa

namespace Go.Proofs.Ytnnobdkjgafdmaa
namespace GV
set_option maxRecDepth 100000
theorem zt6(m:Mach)(a:MOk m): ∀ k,k≤m.rows.length→zj7 m k≤m.inputs.toNat*k
 |0,_=>by simp [zj7]
 |k+1,h=>by
  have b:=zt6 m a k (by omega)
  have c:=a.row k (by omega)
  have d:=zym (m.rows.getD k default) (m.rows.getD k default).length
  rw [zfi m k (by omega),Nat.mul_succ]
  omega
theorem zyr{m:Mach}(a:MOk m){k i:Nat}(b:k<m.rows.length)(hi:i<(m.rows.getD k default).length)(c:((m.rows.getD k default).getD i default).to<0): ∀ j,k<j→j≤m.rows.length→zj7 m j<m.inputs.toNat*j
 |0,h,_=>by omega
 |j+1,h,g=>by
  have hrow:=a.row j (by omega)
  have l:=zym (m.rows.getD j default) (m.rows.getD j default).length
  rw [zfi m j (by omega),Nat.mul_succ]
  by_cases e:k=j
  ·subst e
   have n:zj7 m k≤m.inputs.toNat*k:=zt6 m a k (by omega)
   have o:zjt (m.rows.getD k default) (m.rows.getD k default).length<(m.rows.getD k default).length:=by
    unfold zjt
    rw [List.take_length]
    refine Nat.lt_of_le_of_ne List.countP_le_length fun d=>?_
    have f:=List.countP_eq_length.1 d _ (z19 hi)
    exact absurd (of_decide_eq_true f) (by omega)
   omega
  ·have:=zyr a b hi c j (by omega) (by omega)
   omega
theorem zzi{m:Mach}(a:MOk m)(h:z9a m=true){k i:Nat}(b:k<m.rows.length)(hi:i<(m.rows.getD k default).length):0≤((m.rows.getD k default).getD i default).to:=by
 by_cases hn:((m.rows.getD k default).getD i default).to<0
 ·have e:=zyr a b hi hn m.rows.length b (Nat.le_refl _)
  unfold z9a at h
  have c:=of_decide_eq_true h
  rw [a.mul.2] at c
  have d:q3n m=m.rows.length*m.inputs.toNat:=Int.ofNat.inj c
  unfold q3n at d
  rw [Nat.mul_comm] at d
  omega
 ·omega
theorem q4i{m:Mach}(h:properM m=0):MOk m∧z9a m=true∧connB m=true∧zw3 m=true:=by
 unfold properM at h
 by_cases hc:z3k m=0
 ·rw [if_neg (by omega)] at h
  refine⟨(z6b m).1 hc,?_⟩
  cases h1:z9a m
  ·rw [h1,if_pos rfl] at h;omega
  cases h2:connB m
  ·rw [h1,h2,if_neg Bool.noConfusion,if_pos rfl] at h;omega
  cases h3:zw3 m
  ·rw [h1,h2,h3,if_neg Bool.noConfusion,if_neg Bool.noConfusion,if_pos rfl] at h;omega
  exact⟨rfl,rfl,rfl⟩
 ·rw [if_pos hc] at h;exact absurd h hc
theorem znb{κ β:Type}[DecidableEq κ](z:β)(M:List (κ×β))(k:κ)(v:β)(j:κ):z7i z (z8z M k v) j=if j=k then v else z7i z M j:=by
 induction M with
 |nil=>unfold z8z z7i;rfl
 |cons p M ih=>
  unfold z8z
  by_cases h:k=p.1
  ·rw [if_pos h]
   unfold z7i
   by_cases e:j=k
   ·rw [if_pos e,if_pos e]
   ·rw [if_neg e,if_neg e,if_neg (fun q=>e (q.trans h.symm))]
  ·rw [if_neg h]
   unfold z7i
   by_cases e:j=p.1
   ·rw [if_pos e,if_pos e,if_neg (fun q=>h (q.symm.trans e))]
   ·rw [if_neg e,if_neg e];exact ih
theorem zxm{α:Type}[Inhabited α]{s:List α}{a:Nat}(h:a<s.length):s.take (a+1)=s.take a++[s.getD a default]:=by
 rw [List.take_add_one,List.getD_eq_getElem?_getD,List.getElem?_eq_getElem h];rfl
theorem su{α:Type}[Inhabited α]{L:List α}{i:Nat}(h:i<L.length):L.getD i default∈L:=by
 rw [List.getD_eq_getElem?_getD,List.getElem?_eq_getElem h];exact List.getElem_mem h
theorem z2k{σ ρ:Type}(L:Nat→Nat→σ→Option ρ)(n:Nat)(st:Nat→σ)(r:ρ)(step: ∀ F k,k<n→L (F+1) k (st k)=L F (k+1) (st (k+1)))(fin: ∀ F,L (F+1) n (st n)=some r){F:Nat}(hF:n<F):L F 0 (st 0)=some r:=
 ru L n (fun k s=>s=st k) r (fun F k s b a=> .inr ⟨_,rfl,by rw [a];exact step F k b⟩) (fun F s a=>by rw [a];exact fin F) F 0 (st 0) (Nat.zero_le _) (by omega) rfl
theorem zjx{α:Type}{b:Bool}{e:Option α}{x:α}(h:b=true)(a:e=some x):gop b e=some (some x):=by rw [q7k h,a];rfl
structure CM (m:Mach):Prop where
 ok:MOk m
 full: ∀ s i,s<m.rows.length→i<(m.rows.getD s default).length→0≤((m.rows.getD s default).getD i default).to
def InS(m:Mach)(s:Int):Prop:=0≤s∧s<(m.rows.length:Int)
def edI(m:Mach)(s i:Int):Edge:=ix (ix m.rows s) i
abbrev nIn (m:Mach):Nat:=m.inputs.toNat
theorem CM.nin{m:Mach}(h:CM m):((nIn m:Nat):Int)=m.inputs:=by have:=h.ok.i1;show ((m.inputs.toNat:Nat):Int)=_;omega
theorem CM.row{m:Mach}(h:CM m){s:Int}(c:InS m s):((ix m.rows s).length:Int)=m.inputs:=by
 obtain⟨a,b⟩:=c
 exact h.ok.row s.toNat (by omega)
theorem CM.edge{m:Mach}(h:CM m){s i:Int}(d:InS m s)(j:0≤i)(k:i<m.inputs):InS m (edI m s i).to∧0≤(edI m s i).out∧(edI m s i).out<m.outputs:=by
 obtain⟨a,b⟩:=d
 have l:((m.rows.getD s.toNat default).length:Int)=m.inputs:=h.ok.row s.toNat (by omega)
 have n:=h.full s.toNat i.toNat (by omega) (by omega)
 rcases h.ok.edge s.toNat i.toNat (by omega) (by omega) with⟨c,_⟩|⟨c,e,f,g⟩
 ·omega
 ·exact⟨⟨c,e⟩,f,g⟩
theorem CM.okr{m:Mach}(h:CM m){s i:Int}(a:InS m s)(b:0≤i)(c:i<m.inputs):okI (ix m.rows s) i:=⟨b,by rw [h.row a];exact c⟩
theorem zm9{m:Mach}{s i:Int}(c:InS m s):z1l m s i=edI m s i:=by
 obtain⟨a,b⟩:=c
 unfold z1l;rw [if_neg (by omega)];rfl
theorem WIn.head{n:Nat}{i:Int}{w:List Int}(h:WIn n (i::w)):0≤i∧i<(n:Int):=h i (List.mem_cons_self ..)
theorem WIn.tail{n:Nat}{i:Int}{w:List Int}(h:WIn n (i::w)):WIn n w:=fun j a=>h j (List.mem_cons_of_mem _ a)
theorem WIn.cons{n:Nat}{i:Int}{w:List Int}(b:0≤i)(c:i<(n:Int))(h:WIn n w):WIn n (i::w):=fun j a=>by
 rcases List.mem_cons.1 a with rfl|a
 ·exact⟨b,c⟩
 ·exact h j a
theorem WIn.nil{n:Nat}:WIn n []:=fun j a=>absurd a List.not_mem_nil
theorem CM.wok{m:Mach}(h:CM m){w:List Int}:WIn (nIn m) w↔WOk m.inputs w:=by
 have c:=h.nin
 constructor
 ·intro b k a
  have:=b _ (su a)
  rw [c] at this;exact this
 ·intro b i hi
  obtain⟨k,a,rfl⟩:=List.mem_iff_getElem.1 hi
  have:=b k a
  rw [List.getD_eq_getElem?_getD,List.getElem?_eq_getElem a] at this
  rw [c];exact this
theorem CM.aft{m:Mach}(h:CM m): ∀ {w:List Int} {s:Int},InS m s→WIn (nIn m) w→InS m (z2s m s w)
 | [],s,a,_=>a
 |i::w,s,a,b=>by
  have:=b.head
  rw [h.nin] at this
  have:=(h.edge a this.1 this.2).1
  unfold z2s
  rw [zm9 a]
  exact h.aft this b.tail
def tgt(m:Mach)(s i:Nat):Nat:=(edI m (s:Int) (i:Int)).to.toNat
theorem CM.tgt{m:Mach}(h:CM m){s i:Nat}(c:s<m.rows.length)(hi:i<nIn m):GV.tgt m s i<m.rows.length∧(edI m (s:Int) (i:Int)).to=(GV.tgt m s i:Int):=by
 have d:=h.nin
 obtain⟨⟨a,b⟩,_⟩:=h.edge (s:=(s:Int)) (i:=(i:Int)) ⟨by omega,by omega⟩ (by omega) (by omega)
 unfold GV.tgt
 exact⟨by omega,by omega⟩
def tb(x:Int)(s:Nat):Bool:=x.toNat.testBit s
theorem zch(k s:Nat):ow (k:Int) (s:Int)=((k/2^s:Nat):Int):=by
 show Int.fdiv (k:Int) (2^((s:Int).toNat))=_
 rw [Int.toNat_natCast,Int.fdiv_eq_ediv_of_nonneg _ (by exact_mod_cast Nat.zero_le _)]
 norm_cast
theorem zi3(a b:Nat):z2t (a:Int) (b:Int)=((a&&&b:Nat):Int):=rfl
theorem zq2{x:Int}(a:0≤x)(s:Nat):decide (z2t (ow x (s:Int)) 1=1)=tb x s:=by
 obtain⟨k,rfl⟩: ∃ k:Nat,x=(k:Int):=⟨x.toNat,by omega⟩
 rw [zch,show (1:Int)=((1:Nat):Int) from rfl,zi3,Nat.and_one_is_mod]
 unfold tb
 rw [Int.toNat_natCast,Nat.testBit_eq_decide_div_mod_eq]
 by_cases h:k/2^s%2=1
 ·rw [decide_eq_true h,decide_eq_true (by omega)]
 ·rw [decide_eq_false h,decide_eq_false (by omega)]
theorem zfp{x:Int}(a:0≤x∧x≤65535)(s:Nat):0≤ow x (s:Int)∧ow x (s:Int)≤65535:=by
 obtain⟨k,rfl⟩: ∃ k:Nat,x=(k:Int):=⟨x.toNat,by omega⟩
 rw [zch]
 have:=Nat.div_le_self k (2^s)
 generalize k/2^s=q at this⊢
 omega
theorem zij{t:Nat}(h:t<16):1≤2^t∧2^t≤32768:=⟨Nat.one_le_two_pow,by
 have:=Nat.pow_le_pow_right (n:=2) (by decide) (show t≤15 by omega)
 omega⟩
theorem zcq{t:Nat}(h:t<16):lh .u16 1 (t:Int)=((2^t:Nat):Int):=by
 have:=zij h
 unfold lh
 rw [Int.toNat_natCast,Int.one_mul,show ((2:Int)^t)=((2^t:Nat):Int) by norm_cast]
 exact z6o _ (by omega) (by show ((2^t:Nat):Int)≤65535;omega)
theorem q4v{x:Int}(a:0≤x)(t s:Nat):tb (ior x ((2^t:Nat):Int)) s=(tb x s||decide (s=t)):=by
 unfold tb ior
 rw [Int.toNat_natCast,Int.toNat_natCast,Nat.testBit_or,Nat.testBit_two_pow]
 by_cases h:s=t
 ·subst h;simp
 ·rw [decide_eq_false h,decide_eq_false (fun e=>h e.symm)]
theorem q57{x:Int}{n t:Nat}(b:0≤x)(c:x<((2^n:Nat):Int))(a:t<n):0≤ior x ((2^t:Nat):Int)∧ior x ((2^t:Nat):Int)<((2^n:Nat):Int):=by
 refine⟨Int.natCast_nonneg _,?_⟩
 unfold ior
 rw [Int.toNat_natCast]
 exact Int.ofNat_lt.2 (Nat.or_lt_two_pow (by omega) (Nat.pow_lt_pow_right (by decide) a))
theorem q3v{x y:Int}(a:0≤x)(b:0≤y)(h: ∀ s,tb x s=tb y s):x=y:=by
 have:=Nat.eq_of_testBit_eq h
 omega
theorem zu1{x:Int}{n s:Nat}(b:x<((2^n:Nat):Int))(a:n≤s):tb x s=false:=by
 unfold tb
 by_cases h0:0≤x
 ·exact Nat.testBit_lt_two_pow (Nat.lt_of_lt_of_le (show x.toNat<2^n by omega) (Nat.pow_le_pow_right (by decide) a))
 ·rw [show x.toNat=0 by omega,Nat.zero_testBit]
theorem zcx(s:Nat):tb 0 s=false:=Nat.zero_testBit s
def bmk(p:Nat→Bool):Nat→Int
 |0=>0
 |n+1=>if p n=true then ior (bmk p n) ((2^n:Nat):Int) else bmk p n
theorem z9c(p:Nat→Bool): ∀ n,0≤bmk p n∧bmk p n<((2^n:Nat):Int)
 |0=>⟨Int.le_refl _,by show (0:Int)<((1:Nat):Int);decide⟩
 |n+1=>by
  obtain⟨a,b⟩:=z9c p n
  have c:((2^n:Nat):Int)<((2^(n+1):Nat):Int):=Int.ofNat_lt.2 (Nat.pow_lt_pow_right (by decide) (Nat.lt_succ_self n))
  unfold bmk
  split
  ·exact q57 a (by omega) (Nat.lt_succ_self n)
  ·exact⟨a,by omega⟩
theorem z8h(p:Nat→Bool): ∀ n s,tb (bmk p n) s=(decide (s<n)&&p s)
 |0,s=>by rw [show bmk p 0=0 from rfl,zcx];simp
 |n+1,s=>by
  unfold bmk
  by_cases hp:p n=true
  ·rw [if_pos hp,q4v (z9c p n).1,z8h p n s]
   by_cases h:s=n
   ·subst h;simp [hp]
   ·rw [decide_eq_false h,Bool.or_false]
    by_cases h2:s<n
    ·rw [decide_eq_true h2,decide_eq_true (by omega)]
    ·rw [decide_eq_false h2,decide_eq_false (by omega)]
  ·rw [if_neg hp,z8h p n s]
   by_cases h:s=n
   ·subst h;simp [hp]
   ·by_cases h2:s<n
    ·rw [decide_eq_true h2,decide_eq_true (by omega)]
    ·rw [decide_eq_false h2,decide_eq_false (by omega)]
theorem zar{x:Int}{n:Nat}{p:Nat→Bool}(a:0≤x)(b:x<((2^n:Nat):Int))(h: ∀ s,s<n→tb x s=p s):x=bmk p n:=by
 refine q3v a (z9c p n).1 fun s=>?_
 rw [z8h]
 by_cases hs:s<n
 ·rw [h s hs,decide_eq_true hs,Bool.true_and]
 ·rw [zu1 b (by omega),decide_eq_false hs,Bool.false_and]
theorem zcd{p q:Nat→Bool}{n:Nat}(h: ∀ s,s<n→p s=q s):bmk p n=bmk q n:=zar (z9c p n).1 (z9c p n).2 fun s a=>by rw [z8h,decide_eq_true a,Bool.true_and,h s a]
def pcB(x:Int):Nat:=(List.range 16).countP (tb x)
theorem ztg: ∀ k,k<256→strT1.getD k default=((List.range 8).countP (fun s=>k.testBit s):Int):=by
 have h:(List.range 256).all (fun k=>decide (strT1.getD k default=((List.range 8).countP (fun s=>k.testBit s):Int)))=true:=by decide+kernel
 intro k a
 exact of_decide_eq_true (List.all_eq_true.1 h k (List.mem_range.2 a))
theorem zzf(k:Nat):pcB (k:Int)=(List.range 8).countP (fun s=>(k/256).testBit s)+(List.range 8).countP (fun s=>(k%256).testBit s):=by
 have e:List.range 16=List.range 8++(List.range 8).map (· +8):=by decide
 unfold pcB
 rw [e,List.countP_append,List.countP_map,Nat.add_comm]
 congr 1
 ·refine List.countP_congr fun s a=>?_
  show (tb (k:Int) (s+8)=true)↔_
  unfold tb
  rw [Int.toNat_natCast,show (256:Nat)=2^8 from rfl,Nat.testBit_div_two_pow,Nat.add_comm]
 ·refine List.countP_congr fun s a=>?_
  have a:=List.mem_range.1 a
  unfold tb
  rw [Int.toNat_natCast,show (256:Nat)=2^8 from rfl,Nat.testBit_mod_two_pow,decide_eq_true a,Bool.true_and]
theorem zou{N:Nat}{x:Int}(h:0≤x∧x≤65535):z07 N x=some (pcB x:Int):=by
 obtain⟨k,rfl⟩: ∃ k:Nat,x=(k:Int):=⟨x.toNat,by omega⟩
 have a:k/256<256:=by omega
 have b:k%256<256:=by omega
 have c:ow (k:Int) (8:Int)=((k/256:Nat):Int):=zch k 8
 have d:z2t (k:Int) 255=((k%256:Nat):Int):=by
  rw [show (255:Int)=((255:Nat):Int) from rfl,zi3]
  have:=Nat.and_two_pow_sub_one_eq_mod k 8
  rw [show (255:Nat)=2^8-1 from rfl,this]
 have l:strT1.length=256:=by decide
 have e:=List.countP_le_length (p:=fun s=>(k/256).testBit s) (l:=List.range 8)
 have f:=List.countP_le_length (p:=fun s=>(k%256).testBit s) (l:=List.range 8)
 rw [List.length_range] at e f
 have g:=zzf k
 have w:IntKind.u8.wrap (strT1.getD (k/256) default+strT1.getD (k%256) default)=(pcB (k:Int):Int):=by
  rw [ztg _ a,ztg _ b,z6o _ (by omega) (by show _≤(255:Int);omega),g];rfl
 unfold z07
 rw [ze ⟨by decide,by decide⟩,c,d,ze (qy (by rw [l];exact a)),ze ⟨⟨by omega,by show (k:Int)≤65535;omega⟩,by decide,by decide⟩,ze (qy (by rw [l];exact b)),yn,yn,w,ze (qm (by omega))]
theorem zmu{p:Nat→Bool}: ∀ {l:List Nat},l.Nodup→(1<l.countP p↔ ∃ a b,a∈l∧b∈l∧a≠b∧p a=true∧p b=true)
 | [],_=>by simp
 |c::l,k=>by
  obtain⟨m,n⟩:=List.nodup_cons.1 k
  rw [List.countP_cons]
  by_cases hc:p c=true
  ·rw [if_pos hc]
   constructor
   ·intro h
    obtain⟨a,f,d⟩:=List.countP_pos_iff.1 (show 0<l.countP p by omega)
    exact⟨c,a,List.mem_cons_self ..,List.mem_cons_of_mem _ f,fun e=>m (e▸f),hc,d⟩
   ·rintro⟨a,b,f,g,j,d,i⟩
    have:0<l.countP p:=List.countP_pos_iff.2 (by
     rcases List.mem_cons.1 f with rfl|f
     ·rcases List.mem_cons.1 g with rfl|g
      ·exact absurd rfl j
      ·exact⟨b,g,i⟩
     ·exact⟨a,f,d⟩)
    omega
  ·rw [if_neg hc,Nat.add_zero,zmu n]
   constructor
   ·rintro⟨a,b,f,g,h⟩
    exact⟨a,b,List.mem_cons_of_mem _ f,List.mem_cons_of_mem _ g,h⟩
   ·rintro⟨a,b,f,g,j,d,i⟩
    rcases List.mem_cons.1 f with rfl|f
    ·exact absurd d hc
    ·rcases List.mem_cons.1 g with rfl|g
     ·exact absurd i hc
     ·exact⟨a,b,f,g,j,d,i⟩
theorem zfv{x:Int}(f:x<65536):1<pcB x↔ ∃ a b,a≠b∧tb x a=true∧tb x b=true:=by
 unfold pcB
 rw [zmu List.nodup_range]
 have d: ∀ a,tb x a=true→a∈List.range 16:=fun a c=>by
  rw [List.mem_range]
  by_cases h:a<16
  ·exact h
  ·rw [zu1 (n:=16) (by omega) (by omega)] at c;cases c
 constructor
 ·rintro⟨a,b,_,_,h⟩;exact⟨a,b,h⟩
 ·rintro⟨a,b,h,c,e⟩;exact⟨a,b,d a c,d b e,h,c,e⟩
def zct(m:Mach)(x:Int)(i:Nat)(q:Nat→Bool)(k t:Nat):Bool:=(List.range k).any fun s=>(tb x s&&q s)&&decide (tgt m s i=t)
def zg7(m:Mach)(x:Int)(i:Nat)(q:Nat→Bool):Int:=bmk (zct m x i q m.rows.length) m.rows.length
theorem zjl{m:Mach}{x:Int}{i:Nat}{q:Nat→Bool}{k t:Nat}:zct m x i q (k+1) t=(zct m x i q k t||((tb x k&&q k)&&decide (tgt m k i=t))):=by
 unfold zct;rw [List.range_succ,List.any_append];simp
theorem zib{m:Mach}{x:Int}{i:Nat}{q:Nat→Bool}{k t:Nat}:zct m x i q k t=true↔ ∃ s,s<k∧tb x s=true∧q s=true∧tgt m s i=t:=by
 unfold zct
 rw [List.any_eq_true]
 constructor
 ·rintro⟨s,a,h⟩
  rw [Bool.and_eq_true,Bool.and_eq_true,decide_eq_true_iff] at h
  exact⟨s,List.mem_range.1 a,h.1.1,h.1.2,h.2⟩
 ·rintro⟨s,a,b,c,d⟩
  exact⟨s,List.mem_range.2 a,by rw [b,c,decide_eq_true d];rfl⟩
theorem q2d{m:Mach}(h:CM m){x:Int}{i:Nat}(hi:i<nIn m){q:Nat→Bool}{t:Nat}:tb (zg7 m x i q) t=true↔ ∃ s,s<m.rows.length∧tb x s=true∧q s=true∧tgt m s i=t:=by
 unfold zg7
 rw [z8h,Bool.and_eq_true,decide_eq_true_iff,zib]
 constructor
 ·rintro⟨_,h⟩;exact h
 ·rintro⟨s,a,b,c,rfl⟩;exact⟨(h.tgt a hi).1,s,a,b,c,rfl⟩
theorem zxa(m:Mach)(x:Int)(i:Nat)(q:Nat→Bool):0≤zg7 m x i q∧zg7 m x i q<((2^m.rows.length:Nat):Int):=z9c _ _
theorem zrz{m:Mach}{x:Int}{i k n:Nat}{q:Nat→Bool}(c:tgt m k i<n)(j:n≤16):(if(tb x k&&q k)=true then ior (bmk (zct m x i q k) n) (lh .u16 1 (tgt m k i:Int)) else bmk (zct m x i q k) n)=bmk (zct m x i q (k+1)) n:=by
 obtain⟨a,d⟩:=z9c (zct m x i q k) n
 by_cases hb:(tb x k&&q k)=true
 ·rw [if_pos hb,zcq (by omega)]
  obtain⟨f,g⟩:=q57 a d c
  refine zar f g fun s b=>?_
  rw [q4v a,z8h,decide_eq_true b,Bool.true_and,zjl,hb,Bool.true_and]
  congr 1
  by_cases e:s=tgt m k i
  ·rw [decide_eq_true e,decide_eq_true e.symm]
  ·rw [decide_eq_false e,decide_eq_false (fun h=>e h.symm)]
 ·rw [if_neg hb]
  refine zcd fun s b=>?_
  rw [zjl,show (tb x k&&q k)=false by simpa using hb,Bool.false_and,Bool.or_false]
end GV
end Go.Proofs.Ytnnobdkjgafdmaa

namespace Go.Proofs.Ytnnobdkjgafdmaa
namespace GV
set_option maxRecDepth 100000
structure PM (m:Mach):Prop extends CM m where
 prop:properM m=0
 r6:m.rows.length≤6
theorem qb4{m:Mach}(h:properM m=0)(c:m.rows.length≤6):PM m:=by
 obtain⟨a,b,_,_⟩:=q4i h
 exact⟨⟨a,fun s i d hi=>zzi a b d hi⟩,h,c⟩
theorem PM.pos{m:Mach}(h:PM m):1≤m.rows.length:=h.ok.r1
theorem qbo{x:Sj}(d:CDOk x.fM): ∃ m,z1g 5000 x=some m∧PM m∧m.rows.length≤5∧m.inputs≤3:=by
 have h:=d.st
 have hx':CDOk ⟨x.fM.fG%5,x.fM.fD,x.fM.fF,x.fM.fH,x.fM.fJ⟩:=⟨⟨by dsimp only;omega,by dsimp only;omega⟩,d.ins,d.outs,d.tr,d.ed⟩
 obtain⟨c,j,a,k⟩:=q6g (N:=5000) hx' (by decide)
 dsimp only at k
 have b:=a.ok
 have l:=q99 b
 have n:z1g 5000 x=some (zbh c):=by
  unfold z1g
  rw [ze ⟨by omega,by omega⟩,qc j,qc (q67 b (by decide) a.rows a.ins)]
 have f:=zwq b
 have o:properM (zbh c)=0:=by
  unfold properM
  have e:z9a (zbh c)=true:=zz0 b fun s i g hi=>a.full s i g (by have:=b.row s g;omega)
  rw [if_neg (by rw [(z6b _).2 f];simp),e,if_neg (by decide),q3y b,if_neg (by decide),q1k f (q79 b),if_neg (by decide)]
 exact⟨zbh c,n,qb4 o (by omega),by omega,a.ins⟩
noncomputable def readyI(m:Mach):Int:=if properM m≠0 then properM m else if 6<m.rows.length then 3 else 0
theorem ready_eq{m:Mach}(a:Small m):z2m 5000 m=some (readyI m):=by
 unfold z2m readyI
 rw [qc (q15 a (by decide))]
 by_cases h:properM m=0
 ·rw [um (fun e=>e h),if_neg (fun e=>e h)]
  by_cases h6:6<m.rows.length
  ·rw [wu (by omega),if_pos h6]
  ·rw [um (by omega),if_neg h6]
 ·rw [wu h,if_pos h]
theorem PM.ready{m:Mach}(h:PM m):readyI m=0:=by
 have:=h.r6
 unfold readyI
 rw [if_neg (fun e=>e h.prop),if_neg (by omega)]
theorem PM.ready_eq{m:Mach}(h:PM m):z2m 5000 m=some 0:=by rw [GV.ready_eq h.ok.small,h.ready]
end GV
end Go.Proofs.Ytnnobdkjgafdmaa
