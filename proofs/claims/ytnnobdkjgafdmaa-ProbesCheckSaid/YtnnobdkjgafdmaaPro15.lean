
import Derived.Test.YtnnobdkjgafdmaaSpec09a
import Derived.Test.YtnnobdkjgafdmaaLaw04c
import Derived.Test.YtnnobdkjgafdmaaSpec06g
set_option linter.unusedVariables false
set_option linter.unusedSimpArgs false
set_option linter.unusedSectionVars false
namespace Go.Proofs.Ytnnobdkjgafdmaa
namespace GV
set_option maxRecDepth 100000
/-! ### First ones,merged-/
theorem zez{m:Mach}:(z5y m).length=m.rows.length:=zlz _
theorem zc6{m:Mach}{s:Nat}(a:s<m.rows.length):(z5y m).getD s default=(cls m s:Int):=zqr a
section
variable {N : Nat} {m : Mach}
/-! ### The map-/
def z08(m:Mach):List Nat:=zd8 (rch (z5g m) 0)
def zhb(m:Mach)(s:Nat):Int:=if occ (rch m 0) s=true then(((z08 m).idxOf (cls m s):Nat):Int) else-1
def zlv(m:Mach):List Int:=(List.range m.rows.length).map (zhb m)
theorem zvx:(zlv m).length=m.rows.length:=by simp [zlv]
theorem zx2{s:Nat}(a:s<m.rows.length):(zlv m).getD s default=zhb m s:=z8l _ a
theorem q2f(a:MOk m):rch (z5g m) 0=za6 (cls m) (rch m 0):=by
 have:=q0w (zhl a) (s0:=0) (by have:=a.r1;omega)
 rwa [znn] at this
theorem q18(a:MOk m):Rch (z5g m) 0 (rch (z5g m) 0):=znu (zcq a)
theorem zri(a:MOk m){s:Nat}(h:occ (rch m 0) s=true):cls m s∈z08 m:=by
 obtain⟨j,e,rfl⟩:=z13.1 h
 unfold z08
 rw [q2f a,zfs]
 obtain⟨f,b,g⟩:=z1c (z0a (cls m) (rch m 0)) j
 obtain⟨c,d⟩:=zhh (h:=cls m) (P:=rch m 0) (u:=z5f (z0a (cls m) (rch m 0)) j) (by omega) (z5l _ _)
 exact⟨_,by rw [zox];exact c,by rw [d];exact b⟩
end
end GV
end Go.Proofs.Ytnnobdkjgafdmaa

namespace Go.Proofs.Ytnnobdkjgafdmaa
namespace GV
set_option maxRecDepth 100000
theorem zkq{m:Mach}(d:MOk m){t:Nat}:Reach m 0 t↔occ (rch m 0) t=true:=by
 have a:=znu d
 constructor
 ·intro h
  induction h with
  |refl=>exact z13.2 ⟨0,a.pos,by rw [a.root]⟩
  |step s o u v ih=>
   rename_i t i
   obtain⟨q,g,rfl⟩:=z13.1 ih
   have k:=d.row _ o
   have e:ed m ((rch m 0).getD q default).st i≠ -1:=by show ((m.rows.getD ((rch m 0).getD q default).st default).getD i default).to≠ -1;omega
   obtain⟨j,c,p,_⟩:=a.cls q i g (by omega) e
   refine z13.2 ⟨j,c,?_⟩
   have:ed m ((rch m 0).getD q default).st i=((m.rows.getD ((rch m 0).getD q default).st default).getD i default).to:=rfl
   omega
 ·intro h
  obtain⟨j,c,rfl⟩:=z13.1 h
  clear h
  have key: ∀ n j,j≤n→j<(rch m 0).length→Reach m 0 ((rch m 0).getD j default).st:=by
   intro n
   induction n with
   |zero=>
    intro j c b
    obtain rfl:j=0:=by omega
    rw [a.root];exact .refl
   |succ n ih=>
    intro j c b
    by_cases h0:j=0
    ·exact ih j (by omega) b
    ·obtain⟨q,i,g,hi,_,_,_,f⟩:=a.par j (by omega) b
     have k:=ih q (by omega) (by omega)
     have r:=d.row _ (a.rng q (by omega))
     have l:((m.rows.getD ((rch m 0).getD q default).st default).getD i default).to=(((rch m 0).getD j default).st:Int):=f
     have:=Reach.step (i:=i) k (a.rng q (by omega)) (by omega) (by rw [l];omega)
     rw [l,Int.toNat_natCast] at this
     exact this
  exact key j j (Nat.le_refl _) c
theorem zqx{m:Mach}(b:MOk m):reachL m 0=ru m.rows.length (rch m 0):=by
 refine z3k (by rw [z9o,z1y]) fun k a=>?_
 rw [z9o] at a
 rw [Bool.eq_iff_iff,zb1 a,z6c a]
 exact zkq b
/-! ### First ones-/
def fsS(m:Mach):List Nat:=(z5k (z0a (cls m) (rch m 0)) (rch m 0).length).map fun j=>((rch m 0).getD j default).st
section
variable {N : Nat} {m : Mach}
theorem zsf:(fsS m).length=cntF (z0a (cls m) (rch m 0)) (rch m 0).length:=by unfold fsS;rw [List.length_map,z4m]
theorem zs5(a:MOk m):z08 m=(fsS m).map (cls m):=by
 unfold z08 fsS zd8
 rw [q2f a,List.map_map]
 unfold za6
 rw [List.map_map]
 rfl
theorem z8f(a:MOk m):(z08 m).length=(fsS m).length:=by rw [zs5 a,List.length_map]
theorem zjq(a:MOk m){c:Nat}(b:c<(fsS m).length):(z08 m).getD c 0=cls m ((fsS m).getD c 0):=by
 rw [zs5 a]
 simp [List.getD_eq_getElem?_getD,b]
theorem zhg(b:MOk m){c:Nat}(d:c<(fsS m).length):(fsS m).getD c 0<m.rows.length∧occ (rch m 0) ((fsS m).getD c 0)=true:=by
 have e:=znu b
 have hc':=d
 rw [zsf] at hc'
 obtain⟨a,_,_⟩:=z5a hc'
 have f:(fsS m).getD c 0=((rch m 0).getD ((z5k (z0a (cls m) (rch m 0)) (rch m 0).length).getD c 0) default).st:=by
  unfold fsS
  have g:c<(z5k (z0a (cls m) (rch m 0)) (rch m 0).length).length:=by rw [z4m];exact hc'
  simp [List.getD_eq_getElem?_getD,g]
 rw [f]
 exact⟨e.rng _ a,z13.2 ⟨_,a,rfl⟩⟩
theorem zr3(a:MOk m):(fsS m).length≤m.rows.length:=by
 rw [zsf];exact Nat.le_trans (zbb _ _) (znu a).le
theorem zfv(a:MOk m):(z08 m).Nodup:=zpb (q18 a)
theorem zhw(d:MOk m)(q:400≤N)(r:m.rows.length≤6)(s:m.inputs≤3):ic N m=some (z4e (fsS m)):=by
 have f:=znu d
 have u:=d.r2
 have v:=f.le
 have g:(z5y m).length=m.rows.length:=zez
 have w:=zuv (rch m 0)
 have key: ∀ j,j<(rch m 0).length→ix (z5y m) (ix (z1j (rch m 0)) (j:Int))=(z0a (cls m) (rch m 0) j:Int):=fun j a=>by
  rw [zjs a];exact zc6 (f.rng j a)
 have c: ∀ j,j<(rch m 0).length→okI (z5y m) (ix (z1j (rch m 0)) (j:Int)):=fun j a=>by
  rw [zjs a];exact jk (by rw [g];exact f.rng j a)
 have i: ∀ j,j<(rch m 0).length→yc N (z5y m) (z1j (rch m 0)) (j:Int) N 0 0=some (if z0s (z0a (cls m) (rch m 0)) j=true then 0 else 1):=fun j a=>by
  refine mr (σ:=Int) (fun F k st=>yc N (z5y m) (z1j (rch m 0)) (j:Int) F st (k:Int)) j
   (fun k st=>st=if ∀ t,t<k→z0a (cls m) (rch m 0) t≠z0a (cls m) (rch m 0) j then 0 else 1) _ (fun F k st l b=> .inr ?_) (fun F st b=>?_) N 0 0 (Nat.zero_le _) (by omega) ?_
  ·subst b
   refine⟨_,rfl,?_⟩
   simp only [yc]
   rw [pq (by omega)]
   refine(qz (x:=if ∀ t,t<k+1→z0a (cls m) (rch m 0) t≠z0a (cls m) (rch m 0) j then(0:Int) else 1) ?_).trans ?_
   ·rw [zy (jk (by omega)),zy (c k (by omega)),zy (jk (by omega)),zy (c j a),key k (by omega),key j a]
    by_cases e:z0a (cls m) (rch m 0) k=z0a (cls m) (rch m 0) j
    ·rw [pq (by omega),if_neg (fun h=>h k (by omega) e)]
    ·rw [bn (by omega)]
     by_cases h: ∀ t,t<k→z0a (cls m) (rch m 0) t≠z0a (cls m) (rch m 0) j
     ·rw [if_pos h,if_pos]
      intro t p
      by_cases ht':t=k
      ·subst ht';exact e
      ·exact h t (by omega)
     ·rw [if_neg h,if_neg]
      exact fun h'=>h fun t p=>h' t (by omega)
   ·rw [zy (jl (by omega))];rfl
  ·subst b
   simp only [yc]
   rw [bn (by omega)]
   by_cases h:z0s (z0a (cls m) (rch m 0)) j=true
   ·rw [if_pos h,if_pos (ae.1 h)]
   ·rw [if_neg h,if_neg fun h'=>h (ae.2 h')]
  ·rw [if_pos (fun t p=>by omega)]
 have n:yg N (z5y m) (z1j (rch m 0)) N [] 0=some (z4e (fsS m)):=by
  refine mr (σ:=List Int) (fun F k st=>yg N (z5y m) (z1j (rch m 0)) F st (k:Int)) (rch m 0).length
   (fun k st=>st=z4e ((z5k (z0a (cls m) (rch m 0)) k).map fun j=>((rch m 0).getD j default).st)) _ (fun F k st l b=> .inr ?_) (fun F st b=>?_) N 0 [] (Nat.zero_le _) (by omega) rfl
  ·subst b
   refine⟨_,rfl,?_⟩
   simp only [yg]
   rw [pq (by omega)]
   have o:=zbb (z0a (cls m) (rch m 0)) k
   refine(qz (x:=z4e ((z5k (z0a (cls m) (rch m 0)) (k+1)).map fun j=>((rch m 0).getD j default).st)) ?_).trans ?_
   ·rw [qz (i k l),zgl]
    by_cases h:z0s (z0a (cls m) (rch m 0)) k=true
    ·have y:(z4e ((z5k (z0a (cls m) (rch m 0)) k).map fun j=>((rch m 0).getD j default).st)).length≤k:=by
      rw [zfz,List.length_map,z4m];exact o
     rw [if_pos h,if_pos h,pq rfl,zy (jk (by omega)),zy ⟨by simp only [List.length_singleton];omega,by simp only [List.length_singleton];omega⟩,zjs l]
     unfold z4e
     rw [List.map_append,List.map_append];rfl
    ·rw [if_neg h,if_neg h,bn (by decide),List.append_nil]
   ·rw [zy (jl (by omega))];rfl
  ·subst b
   simp only [yg]
   rw [bn (by omega)];rfl
 unfold ic
 rw [qz (zh1 d (by omega)),qz (zu0 d q r s),qz n]
theorem zyh(b:MOk m)(t:400≤N)(u:m.rows.length≤6)(v:m.inputs≤3):z1m N m=some (zlv m):=by
 have w:=b.r1
 have y:=zr3 b
 have c:(z5y m).length=m.rows.length:=zez
 have z:(z4e (fsS m)).length=(fsS m).length:=zfz _
 have j: ∀ s,s<m.rows.length→gz N (z5y m) (z4e (fsS m)) (ru m.rows.length (rch m 0)) (s:Int) N (-1) 0=some (zhb m s):=fun s i=>by
  refine mr (σ:=Int) (fun F k st=>gz N (z5y m) (z4e (fsS m)) (ru m.rows.length (rch m 0)) (s:Int) F st (k:Int)) (fsS m).length
   (fun k st=>st=if occ (rch m 0) s=true∧cls m s∈(z08 m).take k then(((z08 m).idxOf (cls m s):Nat):Int) else-1) _ (fun F k st f d=> .inr ?_) (fun F st d=>?_) N 0 (-1) (Nat.zero_le _) (by omega) ?_
  ·subst d
   obtain⟨f1,C⟩:=zhg b f
   have g:k<(z08 m).length:=by rw [z8f b];exact f
   have hget:=zjq b f
   have l:ix (ru m.rows.length (rch m 0)) (s:Int)=occ (rch m 0) s:=z6c i
   have A:ix (z4e (fsS m)) (k:Int)=(((fsS m).getD k 0:Nat):Int):=zle f
   have n:ix (z5y m) (((fsS m).getD k 0:Nat):Int)=((cls m ((fsS m).getD k 0):Nat):Int):=zc6 f1
   have o:ix (z5y m) (s:Int)=((cls m s:Nat):Int):=zc6 i
   have B:(z08 m).take (k+1)=(z08 m).take k++[cls m ((fsS m).getD k 0)]:=by rw [←hget];exact ze5 _ k g
   refine⟨_,rfl,?_⟩
   simp only [gz]
   rw [pq (by omega)]
   refine(qz (x:=if occ (rch m 0) s=true∧cls m s∈(z08 m).take (k+1) then(((z08 m).idxOf (cls m s):Nat):Int) else-1) ?_).trans ?_
   ·rw [zy (jk (by rw [z1y];exact i)),zy (fun _=>jk (by omega)),A,zy (fun _=>jk (by rw [c];exact f1)),zy (fun _=>jk (by rw [c];exact i)),l,n,o,B]
    cases ho:occ (rch m 0) s
    ·rw [cf (by rw [Bool.false_and]),if_neg (fun h=>by cases h.1),if_neg (fun h=>by cases h.1)]
    ·by_cases e:cls m ((fsS m).getD k 0)=cls m s
     ·have hi:(z08 m).idxOf (cls m s)=k:=by rw [←e,←hget];exact za5 (zfv b) g
      rw [ct (by rw [e];simp),if_pos ⟨rfl,List.mem_append.2 (.inr (by rw [e];exact List.mem_singleton.2 rfl))⟩,hi]
     ·rw [cf (by rw [Bool.true_and];exact decide_eq_false (by omega))]
      by_cases h:cls m s∈(z08 m).take k
      ·rw [if_pos ⟨rfl,h⟩,if_pos ⟨rfl,List.mem_append.2 (.inl h)⟩]
      ·rw [if_neg (fun h'=>h h'.2),if_neg (fun h'=>by
        rcases List.mem_append.1 h'.2 with p|p
        ·exact h p
        ·exact e (List.mem_singleton.1 p).symm)]
   ·rw [zy (jl (by omega))];rfl
  ·subst d
   simp only [gz]
   rw [bn (by omega),←z8f b,List.take_length]
   unfold zhb
   by_cases h:occ (rch m 0) s=true
   ·rw [if_pos h,if_pos ⟨h,zri b h⟩]
   ·rw [if_neg h,if_neg (fun h'=>h h'.1)]
  ·rw [if_neg (fun h=>by simp at h)]
 have q:bf N (z5y m) (z4e (fsS m)) (ru m.rows.length (rch m 0)) N [] 0=some (zlv m):=by
  refine mr (σ:=List Int) (fun F k st=>bf N (z5y m) (z4e (fsS m)) (ru m.rows.length (rch m 0)) F st (k:Int)) m.rows.length
   (fun k st=>st=(List.range k).map (zhb m)) _ (fun F k st f d=> .inr ?_) (fun F st d=>?_) N 0 [] (Nat.zero_le _) (by omega) rfl
  ·subst d
   refine⟨_,rfl,?_⟩
   simp only [bf]
   have r:((List.range k).map (zhb m)).length=k:=by simp
   rw [pq (by rw [c];omega),qz (j k f),zy ⟨by rw [r];simp only [List.length_singleton];omega,by rw [r];simp only [List.length_singleton];omega⟩,zy (jl (by omega)),z6q]
   rfl
  ·subst d
   simp only [bf]
   rw [bn (by rw [c];omega)];rfl
 unfold z1m
 rw [qz (zh1 b (by omega)),qz (zhw b t u v)]
 refine(qz (show om N m 0=some (reachL m 0) from zqk b (by omega) (a:=0) (by omega))).trans ?_
 rw [zqx b,qz q]
theorem q0j(b:MOk m){s i:Nat}(h:occ (rch m 0) s=true)(hi:i<m.inputs.toNat)(a:ed m s i≠ -1):occ (rch m 0) (ed m s i).toNat=true:=by
 have c:=znu b
 obtain⟨q,d,rfl⟩:=z13.1 h
 obtain⟨j,e,f,_⟩:=c.cls q i d hi a
 exact z13.2 ⟨j,e,by omega⟩
theorem zsy(a:MOk m):(z8x m).rows=(List.range (fsS m).length).map fun c=>(List.range m.inputs.toNat).map fun i=>(⟨if 0≤ed m ((fsS m).getD c 0) i then zhb m (ed m ((fsS m).getD c 0) i).toNat else ed m ((fsS m).getD c 0) i,ou m ((fsS m).getD c 0) i⟩:Edge):=by
 have k:=zcq a
 show (z08 m).map (rowP (z5g m) (z08 m))=_
 refine z3k (by simp [z8f a]) fun c e=>?_
 rw [List.length_map,z8f a] at e
 obtain⟨f1,l⟩:=zhg a e
 have g:=zjq a e
 have b:=ze4 (m:=m) f1
 obtain⟨n,o⟩:=zm1 a f1
 have f:(rowP (z5g m) (z08 m) (cls m ((fsS m).getD c 0))).length=m.inputs.toNat:=zil k (by rw [zem];exact b)
 have p:((z08 m).map (rowP (z5g m) (z08 m))).getD c default=rowP (z5g m) (z08 m) (cls m ((fsS m).getD c 0)):=by
  rw [←g]
  have:c<(z08 m).length:=by rw [z8f a];exact e
  simp [List.getD_eq_getElem?_getD,this]
 rw [p,z8l _ e]
 refine z3k (by rw [f];simp) fun i hi=>?_
 rw [f] at hi
 rw [z8l _ hi,zbx k (by rw [zem];exact b) hi]
 obtain⟨q,r⟩:=zmn a b hi
 obtain⟨s,j,t⟩:=zic a n f1 o hi
 have q2':(((z5g m).rows.getD (cls m ((fsS m).getD c 0)) default).getD i default).out=ou m ((fsS m).getD c 0) i:=r.trans s
 rw [q2',q]
 congr 1
 rcases z6b a f1 hi with h|⟨u,w⟩
 ·rw [j.2 h,zm0,h,if_neg (by decide)];rfl
 ·have d:ed m ((fsS m).getD c 0) i≠ -1:=by omega
  have v:=q0j a l hi d
  rw [if_pos u]
  unfold zhb
  rw [if_pos v]
  unfold hI
  rw [if_neg (fun h=>d (j.1 h)),t (fun h=>d (j.1 h)),zln]
theorem zy0(a:MOk m)(o:400≤N)(p:m.rows.length≤6)(q:m.inputs≤3):rq N m=some (z8x m):=by
 have s:=a.r1;have t:=a.i1
 have u:=zr3 a
 have v:(z4e (fsS m)).length=(fsS m).length:=zfz _
 have d:=zvx (m:=m)
 have e: ∀ c,c<(fsS m).length→vg N m (z4e (fsS m)) (zlv m) (c:Int) N [] 0=some ((List.range m.inputs.toNat).map fun i=>(⟨if 0≤ed m ((fsS m).getD c 0) i then zhb m (ed m ((fsS m).getD c 0) i).toNat else ed m ((fsS m).getD c 0) i,ou m ((fsS m).getD c 0) i⟩:Edge)):=fun c r=>by
  obtain⟨f1,z⟩:=zhg a r
  have hrow:=a.row _ f1
  have w:ix (z4e (fsS m)) (c:Int)=(((fsS m).getD c 0:Nat):Int):=zle r
  refine mr (σ:=List Edge) (fun F k st=>vg N m (z4e (fsS m)) (zlv m) (c:Int) F st (k:Int)) m.inputs.toNat
   (fun k st=>st=(List.range k).map fun i=>(⟨if 0≤ed m ((fsS m).getD c 0) i then zhb m (ed m ((fsS m).getD c 0) i).toNat else ed m ((fsS m).getD c 0) i,ou m ((fsS m).getD c 0) i⟩:Edge)) _ (fun F k st f b=> .inr ?_) (fun F st b=>?_) N 0 [] (Nat.zero_le _) (by omega) rfl
  ·subst b
   refine⟨_,rfl,?_⟩
   simp only [vg]
   have g:ix m.rows (((fsS m).getD c 0:Nat):Int)=m.rows.getD ((fsS m).getD c 0) default:=rfl
   have j:ix (m.rows.getD ((fsS m).getD c 0) default) (k:Int)=⟨ed m ((fsS m).getD c 0) k,ou m ((fsS m).getD c 0) k⟩:=rfl
   rw [pq (by omega),zy (jk (by omega)),w,zy (jk f1),g,zy (jk (by omega)),j]
   refine(qz (x:=if 0≤ed m ((fsS m).getD c 0) k then zhb m (ed m ((fsS m).getD c 0) k).toNat else ed m ((fsS m).getD c 0) k) ?_).trans ?_
   ·rcases z6b a f1 f with h|⟨l,y⟩
    ·rw [bn (by dsimp only;omega),if_neg (by omega)]
    ·rw [pq l,zy ⟨l,by dsimp only;rw [d];exact y⟩,if_pos l]
     exact congrArg some (zx2 (show (ed m ((fsS m).getD c 0) k).toNat<m.rows.length by omega))
   ·rw [zy ⟨by simp;omega,by simp;omega⟩,zy (jl (by omega)),z6q];rfl
  ·subst b
   simp only [vg]
   rw [bn (by omega)]
 have n:vv N m (z4e (fsS m)) (zlv m) N 0 []=some (z8x m).rows:=by
  rw [zsy a]
  refine mr (σ:=List (List Edge)) (fun F k st=>vv N m (z4e (fsS m)) (zlv m) F (k:Int) st) (fsS m).length
   (fun k st=>st=(List.range k).map fun c=>(List.range m.inputs.toNat).map fun i=>(⟨if 0≤ed m ((fsS m).getD c 0) i then zhb m (ed m ((fsS m).getD c 0) i).toNat else ed m ((fsS m).getD c 0) i,ou m ((fsS m).getD c 0) i⟩:Edge)) _ (fun F k st f b=> .inr ?_) (fun F st b=>?_) N 0 [] (Nat.zero_le _) (by omega) rfl
  ·subst b
   refine⟨_,rfl,?_⟩
   simp only [vv]
   rw [pq (by omega),qz (e k f),zy ⟨by simp;omega,by simp;omega⟩,zy (jl (by omega)),z6q];rfl
  ·subst b
   simp only [vv]
   rw [bn (by omega)]
 unfold rq
 rw [qz (zhw a o p q),qz (zyh a o p q),qz n]
 rfl
end
end GV
end Go.Proofs.Ytnnobdkjgafdmaa

namespace Go.Proofs.Ytnnobdkjgafdmaa
namespace GV
set_option maxRecDepth 100000
theorem zwy{m:Mach}(a:MOk m):zmg m=z6k m:=by
 have b:z0m m=0:=(z3m m).2 a
 have hmul:=a.mul
 have c:=zky a m.rows.length (Nat.le_refl _)
 have d:(zn0 m).length=(z6m m (m.rows.length*m.inputs.toNat)).length:=rfl
 have e:zvd m=zg8 m m.rows.length:=rfl
 unfold zmg z6k
 rw [if_neg (by rw [b];simp),hmul.2]
 by_cases h:(zn0 m).length=0
 ·rw [decide_eq_true (by omega),decide_eq_true (by omega)]
 ·rw [decide_eq_false (by omega),decide_eq_false (by omega)]
theorem zpl{m:Mach}(a:MOk m)(h: ∀ s i,s<m.rows.length→i<m.inputs.toNat→0≤ed m s i):z6k m=true:=by
 have b:=a.i1
 have e: ∀ k,k≤m.rows.length→zg8 m k=k*m.inputs.toNat:=by
  intro k
  induction k with
  |zero=>intro _;simp [zg8]
  |succ k ih=>
   intro c
   have hrow:=a.row k (by omega)
   rw [zcu m k (by omega),ih (by omega),zp3 (fun i hi=>h k i (by omega) (by omega)) _ (Nat.le_refl _),Nat.succ_mul]
   omega
 unfold z6k zvd
 rw [e _ (Nat.le_refl _),a.mul.2]
 exact decide_eq_true rfl
theorem zl8{κ:Type}[DecidableEq κ]{f:Nat→κ}: ∀ {n:Nat},cntF f n=n↔ ∀ u,u<n→z0s f u=true
 |0=>⟨fun _ u b=>by omega,fun _=>rfl⟩
 |n+1=>by
  have ih:=zl8 (f:=f) (n:=n)
  have c:=zbb f n
  have a:cntF f (n+1)=cntF f n+if z0s f n=true then 1 else 0:=rfl
  by_cases h:z0s f n=true
  ·rw [if_pos h] at a
   rw [a]
   constructor
   ·intro e u b
    by_cases e':u=n
    ·subst e';exact h
    ·exact ih.1 (by omega) u (by omega)
   ·intro e
    have:=ih.2 fun u b=>e u (by omega)
    omega
  ·rw [if_neg h] at a
   rw [a]
   exact⟨fun e=>by omega,fun e=>absurd (e n (by omega)) h⟩
theorem zz0{m:Mach}{k:Nat}(d:1≤k):max ((cntF (cls m) k:Int)-1) (cls m k:Int)=(cntF (cls m) (k+1):Int)-1:=by
 have b:cntF (cls m) (k+1)=cntF (cls m) k+if z0s (cls m) k=true then 1 else 0:=rfl
 have c:=z9s (m:=m) k
 by_cases h:z0s (cls m) k=true
 ·rw [if_pos h] at b
  rw [z8d h] at c
  omega
 ·rw [if_neg h] at b
  have f:=z1c (cls m) k
  have a:=z5l (cls m) k
  have g:z5f (cls m) k≠k:=fun e=>h (by rw [e] at a;exact a)
  have i:=z7w (cls m) (show z5f (cls m) k<k by omega) a
  have j:cntF (cls m) (z5f (cls m) k)=cls m k:=c
  omega
def zr1(m:Mach):Bool:=decide (cntF (cls m) m.rows.length=m.rows.length)
noncomputable def properM(m:Mach):Int:=if z0m m≠0 then z0m m else if z6k m=false then 9 else if connB m=false then 11 else if zr1 m=false then 12 else 0
section
variable {N : Nat} {m : Mach}
theorem zyo(f:Nat→Nat):cntF f 1=1:=by
 have:z0s f 0=true:=ae.2 fun t a=>by omega
 show 0+(if z0s f 0=true then 1 else 0)=1
 rw [if_pos this]
theorem q0y(c:MOk m)(l:200≤N):slices_Max_int N (z5y m)=some ((cntF (cls m) m.rows.length:Int)-1):=by
 have e:(z5y m).length=m.rows.length:=zez
 have a:=c.r1;have f:=c.r2
 have g:ix (z5y m) 0=(cntF (cls m) 1:Int)-1:=by
  have:ix (z5y m) 0=((cls m 0:Nat):Int):=zc6 (s:=0) (by omega)
  rw [this,znn,zyo];rfl
 have h:ma N (z5y m) N ((cntF (cls m) 1:Int)-1) 1=some ((cntF (cls m) m.rows.length:Int)-1):=by
  refine mr (σ:=Int) (fun F k st=>ma N (z5y m) F st (k:Int)) m.rows.length (fun k st=>1≤k∧st=(cntF (cls m) k:Int)-1) _ (fun F k st i b=> .inr ?_) (fun F st b=>?_) N 1 _ a (by omega) ⟨Nat.le_refl _,rfl⟩
  ·obtain⟨d,rfl⟩:=b
   refine⟨_,⟨by omega,rfl⟩,?_⟩
   simp only [ma]
   have j:ix (z5y m) (k:Int)=((cls m k:Nat):Int):=zc6 i
   rw [pq (by omega),zy (jk (by omega)),zy (jl (by omega)),j,zz0 d]
   rfl
  ·obtain⟨d,rfl⟩:=b
   simp only [ma]
   rw [bn (by omega)]
 unfold slices_Max_int
 rw [bn (by omega),zy ⟨by omega,by omega⟩,g,qz h]
theorem zt2(a:MOk m)(b:200≤N):z18 N m=some (zr1 m):=by
 have c:(z5y m).length=m.rows.length:=zez
 have d:=a.r2
 obtain⟨j,e⟩:=zpp (N:=N) a b
 unfold z18
 rw [qz e,qz (q0y a b),zy (jl (by dsimp only;omega))]
 unfold zr1
 by_cases h:cntF (cls m) m.rows.length=m.rows.length
 ·rw [decide_eq_true h,decide_eq_true (by dsimp only;omega)]
 ·rw [decide_eq_false h,decide_eq_false (by dsimp only;omega)]
theorem ztv(a:MOk m)(b:200≤N):z11 N m=some (connB m):=by
 unfold z11
 rw [qz (zmb a.small b),(z3m m).2 a];rfl
theorem zte(a:MOk m)(b:200≤N):z15 N m=some (z6k m):=by
 unfold z15
 rw [qz (zna a.small b),zwy a]
theorem zsv(c:Small m)(a:200≤N):z1v N m=some (properM m):=by
 unfold z1v properM
 rw [qz (zeu c a)]
 by_cases h:z0m m≠0
 ·rw [pq h,if_pos h]
 ·rw [bn h,if_neg h]
  have b:=(z3m m).1 (by omega)
  refine(zki (x:=(m,m,m))).trans ?_
  refine(qz (zte b a)).trans ?_
  cases z6k m
  ·rfl
  refine(cf rfl).trans ?_
  refine(qz (ztv b a)).trans ?_
  cases connB m
  ·rfl
  refine(cf rfl).trans ?_
  refine(qz (zt2 b a)).trans ?_
  cases zr1 m<;>rfl
end
/-! ### Homomorphisms-/
section
variable {N : Nat} {a b : Mach} {f : List Int}
structure HOk (a b:Mach) (f:List Int):Prop where
 ha:MOk a
 hb:MOk b
 hi:a.inputs=b.inputs
 hl:f.length=a.rows.length
 hr: ∀ k,k<f.length→0≤f.getD k default∧f.getD k default<b.rows.length
end
end GV
end Go.Proofs.Ytnnobdkjgafdmaa

namespace Go.Proofs.Ytnnobdkjgafdmaa
namespace GV
set_option maxRecDepth 100000
section
variable {m : Mach}
theorem zwz(b:MOk m)(h:Red m):zr1 m=true:=decide_eq_true (zl8.2 fun u a=>ae.2 fun t c e=>by
 have:=h t u (by omega) a ((zs8 b (by omega) a).1 e)
 omega)
theorem zhj:(z8x m).rows.length=(z08 m).length:=zl4
theorem zch(a:MOk m):ClosedP (z5g m) (z08 m):=zjt (q18 a)
theorem zu7(a:MOk m):0∈z08 m∧(z08 m).idxOf 0=0:=zv3 (q18 a)
theorem zf6{c:Nat}(a:c<(z08 m).length):(z08 m).getD c 0∈z08 m:=by simp [List.getD_eq_getElem?_getD,a]
theorem zrc(a:MOk m){c:Nat}(b:c∈z08 m){w:List Int}(d:WOk m.inputs w):z9j (z8x m) (((z08 m).idxOf c:Nat):Int) w=z9j (z5g m) (c:Int) w:=by
 have:=(zn7 (zcq a) (zch a) w (s:=(c:Int)) (.inr ⟨by omega,by rw [Int.toNat_natCast];exact b⟩) d).1
 rw [zln] at this
 exact this
theorem zym(a:MOk m):Red (z8x m):=by
 intro c d e f l
 rw [zhj] at e f
 have o:=zcq a
 have b:=zch a
 have g:=za5 (zfv a) e
 have i:=za5 (zfv a) f
 have h:=zxp a _ _ (b.rng _ (zf6 e)) (b.rng _ (zf6 f)) (fun w hw'=>by
  have n:=l w hw'
  have j:=zrc a (zf6 e) (w:=w) hw'
  have k:=zrc a (zf6 f) (w:=w) hw'
  rw [g] at j;rw [i] at k
  rw [←j,←k];exact n)
 rw [h,i] at g
 exact g.symm
theorem zya(a:MOk m):rch (z8x m) 0=(rch (z5g m) 0).map (ren (z08 m)):=by
 obtain⟨b,c⟩:=zu7 a
 have hren:=zyc (zcq a) (zch a) b
 rw [c] at hren
 exact hren
theorem zxy(h: ∀ t,t<m.rows.length→occ (rch m 0) t=true)(b:MOk m):connB m=true:=zz6 fun j a=>(zb1 a).2 ((zkq b).2 (h j a))
theorem zx1(a:MOk m):connB (z8x m)=true:=by
 refine zxy (fun c b=>?_) (zr0 a)
 rw [zhj] at b
 rw [zya a]
 have d:c<(rch (z5g m) 0).length:=by rw [←zjb];exact b
 refine z13.2 ⟨c,by rw [List.length_map];exact d,?_⟩
 rw [getD_map d]
 show (z08 m).idxOf (((rch (z5g m) 0).getD c default).st)=c
 rw [←zov _ d]
 exact za5 (zfv a) b
theorem q04(a:MOk m){s i:Nat}(b:s<m.rows.length)(e:occ (rch m 0) s=true)(hi:i<m.inputs.toNat):ed (z8x m) ((z08 m).idxOf (cls m s)) i=pos (z08 m) (hI (cls m) (ed m s i))∧ou (z8x m) ((z08 m).idxOf (cls m s)) i=ou m s i:=by
 have f:=zcq a
 have c:=zhl a
 obtain⟨g,h⟩:=zao (zri a e)
 have j:(z8x m).rows.getD ((z08 m).idxOf (cls m s)) default=rowP (z5g m) (z08 m) (cls m s):=by
  have:(z8x m).rows.getD ((z08 m).idxOf (cls m s)) default=rowP (z5g m) (z08 m) ((z08 m).getD ((z08 m).idxOf (cls m s)) 0):=z9t g
  rw [this,h]
 have k:=zbx (L:=z08 m) f (c.rng s b) (show i<(z5g m).inputs.toNat from hi)
 have d:((z8x m).rows.getD ((z08 m).idxOf (cls m s)) default).getD i default=⟨pos (z08 m) (ed (z5g m) (cls m s) i),ou (z5g m) (cls m s) i⟩:=by rw [j];exact k
 constructor
 ·show (((z8x m).rows.getD ((z08 m).idxOf (cls m s)) default).getD i default).to=_
  rw [d,c.to s i b hi]
 ·show (((z8x m).rows.getD ((z08 m).idxOf (cls m s)) default).getD i default).out=_
  rw [d,c.out s i b hi]
theorem q0v(a:MOk m):(z8x m).rows.length≤m.rows.length:=by
 rw [zhj,z8f a];exact zr3 a
theorem zu4(a:MOk m)(h: ∀ s i,s<m.rows.length→i<m.inputs.toNat→0≤ed m s i):z6k (z8x m)=true:=by
 refine zpl (zr0 a) fun c i b hi=>?_
 rw [zhj] at b
 have hi':i<m.inputs.toNat:=hi
 have hc':c<(fsS m).length:=by rw [←z8f a];exact b
 obtain⟨f1,f⟩:=zhg a hc'
 have e:=za5 (zfv a) b
 rw [zjq a hc'] at e
 have d:=(q04 a f1 f hi').1
 rw [e] at d
 rw [d]
 obtain⟨t,g⟩:=Int.eq_ofNat_of_zero_le (h _ i f1 hi')
 rw [g,z9m,zln];omega
end
end GV
end Go.Proofs.Ytnnobdkjgafdmaa

namespace Go.Proofs.Ytnnobdkjgafdmaa
namespace GV
section sea
variable {T : Type} [DecidableEq T]
abbrev LS (T:Type):=List (T×List Int)×List T
def runT(next:T→Int→T)(x:T)(w:List Int):T:=w.foldl next x
def WIn(ni:Nat)(w:List Int):Prop:= ∀ i∈w,0≤i∧i<(ni:Int)
theorem WIn.append{ni:Nat}{w v:List Int}(h:WIn ni w)(k:WIn ni v):WIn ni (w++v):=fun j a=>by
 rcases List.mem_append.1 a with a|a
 ·exact h j a
 ·exact k j a
structure PS (S0:List T) (Q:T→List Int→Prop) (s:LS T):Prop where
 seen:s.2=S0++s.1.map Prod.fst
 nd:s.2.Nodup
 ord:s.1.Pairwise fun a b=>llt a.2 b.2
 out: ∀ q∈s.1,Q q.1 q.2
 got: ∀ x w,Q x w→x∈S0∨ ∃ q∈s.1,q.1=x∧lle q.2 w
theorem PS.congr{a:List T}{Q Q':T→List Int→Prop}{s:LS T}(h:PS a Q s)(e: ∀ x w,Q x w↔Q' x w):PS a Q' s:=
 ⟨h.seen,h.nd,h.ord,fun q b=>(e _ _).1 (h.out q b),fun x w c=>h.got x w ((e _ _).2 c)⟩
structure LI (next:T→Int→T) (isb:T→Bool) (ni:Nat) (x0:T) (k:Nat) (L:List (T×List Int)) (S:List T):Prop where
 wd: ∀ p∈L,p.2.length=k∧WIn ni p.2∧p.1=runT next x0 p.2
 nd:S.Nodup
 ord:L.Pairwise fun a b=>llt a.2 b.2
 seen: ∀ x,x∈S↔ ∃ v,v.length≤k∧WIn ni v∧x=runT next x0 v
 rep: ∀ v,v.length=k→WIn ni v→(∃ p∈L,p.1=runT next x0 v∧lle p.2 v)∨ ∃ u,u.length<k∧WIn ni u∧runT next x0 u=runT next x0 v
 no: ∀ v,v.length<k→WIn ni v→isb (runT next x0 v)=false
 num:L≠[]→k<S.length
 sub: ∀ p∈L,p.1∈S
end sea
end GV
end Go.Proofs.Ytnnobdkjgafdmaa

namespace Go.Proofs.Ytnnobdkjgafdmaa
namespace GV
set_option maxRecDepth 100000
theorem zo5(m:Mach)(a:MOk m): ∀ k,k≤m.rows.length→zg8 m k≤m.inputs.toNat*k
 |0,_=>by simp [zg8]
 |k+1,h=>by
  have b:=zo5 m a k (by omega)
  have c:=a.row k (by omega)
  have d:=zsj (m.rows.getD k default) (m.rows.getD k default).length
  rw [zcu m k (by omega),Nat.mul_succ]
  omega
theorem zrq{m:Mach}(a:MOk m){k i:Nat}(b:k<m.rows.length)(hi:i<(m.rows.getD k default).length)(c:((m.rows.getD k default).getD i default).to<0): ∀ j,k<j→j≤m.rows.length→zg8 m j<m.inputs.toNat*j
 |0,h,_=>by omega
 |j+1,h,g=>by
  have hrow:=a.row j (by omega)
  have l:=zsj (m.rows.getD j default) (m.rows.getD j default).length
  rw [zcu m j (by omega),Nat.mul_succ]
  by_cases e:k=j
  ·subst e
   have n:zg8 m k≤m.inputs.toNat*k:=zo5 m a k (by omega)
   have o:zg5 (m.rows.getD k default) (m.rows.getD k default).length<(m.rows.getD k default).length:=by
    unfold zg5
    rw [List.take_length]
    refine Nat.lt_of_le_of_ne List.countP_le_length fun d=>?_
    have f:=List.countP_eq_length.1 d _ (fo hi)
    exact absurd (of_decide_eq_true f) (by omega)
   omega
  ·have:=zrq a b hi c j (by omega) (by omega)
   omega
theorem zsn{m:Mach}(a:MOk m)(h:z6k m=true){k i:Nat}(b:k<m.rows.length)(hi:i<(m.rows.getD k default).length):0≤((m.rows.getD k default).getD i default).to:=by
 by_cases hn:((m.rows.getD k default).getD i default).to<0
 ·have e:=zrq a b hi hn m.rows.length b (Nat.le_refl _)
  unfold z6k at h
  have c:=of_decide_eq_true h
  rw [a.mul.2] at c
  have d:zvd m=m.rows.length*m.inputs.toNat:=Int.ofNat.inj c
  unfold zvd at d
  rw [Nat.mul_comm] at d
  omega
 ·omega
theorem zux{m:Mach}(h:properM m=0):MOk m∧z6k m=true∧connB m=true∧zr1 m=true:=by
 unfold properM at h
 by_cases hc:z0m m=0
 ·rw [if_neg (by omega)] at h
  refine⟨(z3m m).1 hc,?_⟩
  cases h1:z6k m
  ·rw [h1,if_pos rfl] at h;omega
  cases h2:connB m
  ·rw [h1,h2,if_neg Bool.noConfusion,if_pos rfl] at h;omega
  cases h3:zr1 m
  ·rw [h1,h2,h3,if_neg Bool.noConfusion,if_neg Bool.noConfusion,if_pos rfl] at h;omega
  exact⟨rfl,rfl,rfl⟩
 ·rw [if_pos hc] at h;exact absurd h hc
theorem zqf{α:Type}[Inhabited α]{L:List α}{i:Nat}(h:i<L.length):L.getD i default∈L:=by
 rw [List.getD_eq_getElem?_getD,List.getElem?_eq_getElem h];exact List.getElem_mem h
theorem zk4{α:Type}{b:Bool}{e:Option α}{x:α}(h:b=true)(a:e=some x):gop b e=some (some x):=by rw [zz7 h,a];rfl
structure CM (m:Mach):Prop where
 ok:MOk m
 full: ∀ s i,s<m.rows.length→i<(m.rows.getD s default).length→0≤((m.rows.getD s default).getD i default).to
def InS(m:Mach)(s:Int):Prop:=0≤s∧s<(m.rows.length:Int)
def edI(m:Mach)(s i:Int):Edge:=ix (ix m.rows s) i
abbrev nIn (m:Mach):Nat:=m.inputs.toNat
theorem CM.nin{m:Mach}(h:CM m):((nIn m:Nat):Int)=m.inputs:=by have:=h.ok.i1;show ((m.inputs.toNat:Nat):Int)=_;omega
theorem CM.row{m:Mach}(h:CM m){s:Int}(c:InS m s):((ix m.rows s).length:Int)=m.inputs:=by
 obtain⟨a,b⟩:=c
 exact h.ok.row s.toNat (by omega)
theorem CM.edge{m:Mach}(h:CM m){s i:Int}(d:InS m s)(j:0≤i)(k:i<m.inputs):InS m (edI m s i).to∧0≤(edI m s i).out∧(edI m s i).out<m.outputs:=by
 obtain⟨a,b⟩:=d
 have l:((m.rows.getD s.toNat default).length:Int)=m.inputs:=h.ok.row s.toNat (by omega)
 have n:=h.full s.toNat i.toNat (by omega) (by omega)
 rcases h.ok.edge s.toNat i.toNat (by omega) (by omega) with⟨c,_⟩|⟨c,e,f,g⟩
 ·omega
 ·exact⟨⟨c,e⟩,f,g⟩
theorem CM.okr{m:Mach}(h:CM m){s i:Int}(a:InS m s)(b:0≤i)(c:i<m.inputs):okI (ix m.rows s) i:=⟨b,by rw [h.row a];exact c⟩
theorem zw0{m:Mach}{s i:Int}(c:InS m s):l7 m s i=edI m s i:=by
 obtain⟨a,b⟩:=c
 unfold l7;rw [if_neg (by omega)];rfl
theorem WIn.head{n:Nat}{i:Int}{w:List Int}(h:WIn n (i::w)):0≤i∧i<(n:Int):=h i (List.mem_cons_self ..)
theorem WIn.tail{n:Nat}{i:Int}{w:List Int}(h:WIn n (i::w)):WIn n w:=fun j a=>h j (List.mem_cons_of_mem _ a)
theorem WIn.cons{n:Nat}{i:Int}{w:List Int}(b:0≤i)(c:i<(n:Int))(h:WIn n w):WIn n (i::w):=fun j a=>by
 rcases List.mem_cons.1 a with rfl|a
 ·exact⟨b,c⟩
 ·exact h j a
theorem WIn.nil{n:Nat}:WIn n []:=fun j a=>absurd a List.not_mem_nil
theorem CM.wok{m:Mach}(h:CM m){w:List Int}:WIn (nIn m) w↔WOk m.inputs w:=by
 have c:=h.nin
 constructor
 ·intro b k a
  have:=b _ (zqf a)
  rw [c] at this;exact this
 ·intro b i hi
  obtain⟨k,a,rfl⟩:=List.mem_iff_getElem.1 hi
  have:=b k a
  rw [List.getD_eq_getElem?_getD,List.getElem?_eq_getElem a] at this
  rw [c];exact this
theorem CM.aft{m:Mach}(h:CM m): ∀ {w:List Int} {s:Int},InS m s→WIn (nIn m) w→InS m (z3o m s w)
 | [],s,a,_=>a
 |i::w,s,a,b=>by
  have:=b.head
  rw [h.nin] at this
  have:=(h.edge a this.1 this.2).1
  unfold z3o
  rw [zw0 a]
  exact h.aft this b.tail
end GV
end Go.Proofs.Ytnnobdkjgafdmaa

namespace Go.Proofs.Ytnnobdkjgafdmaa
namespace GV
set_option maxRecDepth 100000
structure PM (m:Mach):Prop extends CM m where
 prop:properM m=0
 r6:m.rows.length≤6
theorem q2q{m:Mach}(h:properM m=0)(c:m.rows.length≤6):PM m:=by
 obtain⟨a,b,_,_⟩:=zux h
 exact⟨⟨a,fun s i d hi=>zsn a b d hi⟩,h,c⟩
theorem PM.pos{m:Mach}(h:PM m):1≤m.rows.length:=h.ok.r1
theorem q3w{x:Sj}(d:CDOk x.fK): ∃ m,l6 5000 x=some m∧PM m∧m.rows.length≤5∧m.inputs≤3:=by
 have h:=d.st
 have hx':CDOk ⟨x.fK.fG%5,x.fK.fE,x.fK.fF,x.fK.fH,x.fK.fJ⟩:=⟨⟨by dsimp only;omega,by dsimp only;omega⟩,d.ins,d.outs,d.tr,d.ed⟩
 obtain⟨c,j,a,k⟩:=zyt (N:=5000) hx' (by decide)
 dsimp only at k
 have b:=a.ok
 have l:=q0v b
 have n:l6 5000 x=some (z8x c):=by
  unfold l6
  rw [zy ⟨by omega,by omega⟩,qz j,qz (zy0 b (by decide) a.rows a.ins)]
 have f:=zr0 b
 have o:properM (z8x c)=0:=by
  unfold properM
  have e:z6k (z8x c)=true:=zu4 b fun s i g hi=>a.full s i g (by have:=b.row s g;omega)
  rw [if_neg (by rw [(z3m _).2 f];simp),e,if_neg (by decide),zx1 b,if_neg (by decide),zwz f (zym b),if_neg (by decide)]
 exact⟨z8x c,n,q2q o (by omega),by omega,a.ins⟩
noncomputable def readyI(m:Mach):Int:=if properM m≠0 then properM m else if 6<m.rows.length then 3 else 0
theorem ready_eq{m:Mach}(a:Small m):z09 5000 m=some (readyI m):=by
 unfold z09 readyI
 rw [qz (zsv a (by decide))]
 by_cases h:properM m=0
 ·rw [bn (fun e=>e h),if_neg (fun e=>e h)]
  by_cases h6:6<m.rows.length
  ·rw [pq (by omega),if_pos h6]
  ·rw [bn (by omega),if_neg h6]
 ·rw [pq h,if_pos h]
theorem PM.ready{m:Mach}(h:PM m):readyI m=0:=by
 have:=h.r6
 unfold readyI
 rw [if_neg (fun e=>e h.prop),if_neg (by omega)]
theorem PM.ready_eq{m:Mach}(h:PM m):z09 5000 m=some 0:=by rw [GV.ready_eq h.ok.small,h.ready]
end GV
end Go.Proofs.Ytnnobdkjgafdmaa
