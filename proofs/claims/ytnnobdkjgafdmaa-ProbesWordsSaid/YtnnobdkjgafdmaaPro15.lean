
import Derived.Test.YtnnobdkjgafdmaaSpec09a
import Derived.Test.YtnnobdkjgafdmaaLaw04c
import Derived.Test.YtnnobdkjgafdmaaSpec06g
set_option linter.unusedVariables false
set_option linter.unusedSimpArgs false
set_option linter.unusedSectionVars false
namespace Go.Proofs.Ytnnobdkjgafdmaa
namespace GV
set_option maxRecDepth 100000
/-! ### First ones,merged-/
theorem zff{m:Mach}:(z6m m).length=m.rows.length:=zn5 _
theorem zca{m:Mach}{s:Nat}(a:s<m.rows.length):(z6m m).getD s default=(cls m s:Int):=zsm a
section
variable {N : Nat} {m : Mach}
/-! ### The map-/
def z0s(m:Mach):List Nat:=zdn (rch (z5r m) 0)
def zhr(m:Mach)(s:Nat):Int:=if occ (rch m 0) s=true then(((z0s m).idxOf (cls m s):Nat):Int) else-1
def znm(m:Mach):List Int:=(List.range m.rows.length).map (zhr m)
theorem zzt:(znm m).length=m.rows.length:=by simp [znm]
theorem zyy{s:Nat}(a:s<m.rows.length):(znm m).getD s default=zhr m s:=z6h _ a
theorem q5l(a:MOk m):rch (z5r m) 0=zam (cls m) (rch m 0):=by
 have:=q43 (zi7 a) (s0:=0) (by have:=a.r1;omega)
 rwa [zp2] at this
theorem q39(a:MOk m):Rch (z5r m) 0 (rch (z5r m) 0):=zp8 (zcr a)
theorem zu1(a:MOk m){s:Nat}(h:occ (rch m 0) s=true):cls m s∈z0s m:=by
 obtain⟨j,e,rfl⟩:=z2h.1 h
 unfold z0s
 rw [q5l a,zfv]
 obtain⟨f,b,g⟩:=z2a (z0r (cls m) (rch m 0)) j
 obtain⟨c,d⟩:=zi5 (h:=cls m) (P:=rch m 0) (u:=z5q (z0r (cls m) (rch m 0)) j) (by omega) (z6e _ _)
 exact⟨_,by rw [zon];exact c,by rw [d];exact b⟩
end
end GV
end Go.Proofs.Ytnnobdkjgafdmaa

namespace Go.Proofs.Ytnnobdkjgafdmaa
namespace GV
set_option maxRecDepth 100000
theorem zlw{m:Mach}(d:MOk m){t:Nat}:Reach m 0 t↔occ (rch m 0) t=true:=by
 have a:=zp8 d
 constructor
 ·intro h
  induction h with
  |refl=>exact z2h.2 ⟨0,a.pos,by rw [a.root]⟩
  |step s o u v ih=>
   rename_i t i
   obtain⟨q,g,rfl⟩:=z2h.1 ih
   have k:=d.row _ o
   have e:ed m ((rch m 0).getD q default).st i≠ -1:=by show ((m.rows.getD ((rch m 0).getD q default).st default).getD i default).to≠ -1;omega
   obtain⟨j,c,p,_⟩:=a.cls q i g (by omega) e
   refine z2h.2 ⟨j,c,?_⟩
   have:ed m ((rch m 0).getD q default).st i=((m.rows.getD ((rch m 0).getD q default).st default).getD i default).to:=rfl
   omega
 ·intro h
  obtain⟨j,c,rfl⟩:=z2h.1 h
  clear h
  have key: ∀ n j,j≤n→j<(rch m 0).length→Reach m 0 ((rch m 0).getD j default).st:=by
   intro n
   induction n with
   |zero=>
    intro j c b
    obtain rfl:j=0:=by omega
    rw [a.root];exact .refl
   |succ n ih=>
    intro j c b
    by_cases h0:j=0
    ·exact ih j (by omega) b
    ·obtain⟨q,i,g,hi,_,_,_,f⟩:=a.par j (by omega) b
     have k:=ih q (by omega) (by omega)
     have r:=d.row _ (a.rng q (by omega))
     have l:((m.rows.getD ((rch m 0).getD q default).st default).getD i default).to=(((rch m 0).getD j default).st:Int):=f
     have:=Reach.step (i:=i) k (a.rng q (by omega)) (by omega) (by rw [l];omega)
     rw [l,Int.toNat_natCast] at this
     exact this
  exact key j j (Nat.le_refl _) c
theorem zsn{m:Mach}(b:MOk m):reachL m 0=lm m.rows.length (rch m 0):=by
 refine z4g (by rw [za1,z2p]) fun k a=>?_
 rw [za1] at a
 rw [Bool.eq_iff_iff,zb7 a,z7e a]
 exact zlw b
/-! ### First ones-/
def fsS(m:Mach):List Nat:=(z6k (z0r (cls m) (rch m 0)) (rch m 0).length).map fun j=>((rch m 0).getD j default).st
section
variable {N : Nat} {m : Mach}
theorem zt2:(fsS m).length=cntF (z0r (cls m) (rch m 0)) (rch m 0).length:=by unfold fsS;rw [List.length_map,z4y]
theorem zuh(a:MOk m):z0s m=(fsS m).map (cls m):=by
 unfold z0s fsS zdn
 rw [q5l a,List.map_map]
 unfold zam
 rw [List.map_map]
 rfl
theorem z8x(a:MOk m):(z0s m).length=(fsS m).length:=by rw [zuh a,List.length_map]
theorem zkq(a:MOk m){c:Nat}(b:c<(fsS m).length):(z0s m).getD c 0=cls m ((fsS m).getD c 0):=by
 rw [zuh a]
 simp [List.getD_eq_getElem?_getD,b]
theorem zi6(b:MOk m){c:Nat}(d:c<(fsS m).length):(fsS m).getD c 0<m.rows.length∧occ (rch m 0) ((fsS m).getD c 0)=true:=by
 have e:=zp8 b
 have hc':=d
 rw [zt2] at hc'
 obtain⟨a,_,_⟩:=z5m hc'
 have f:(fsS m).getD c 0=((rch m 0).getD ((z6k (z0r (cls m) (rch m 0)) (rch m 0).length).getD c 0) default).st:=by
  unfold fsS
  have g:c<(z6k (z0r (cls m) (rch m 0)) (rch m 0).length).length:=by rw [z4y];exact hc'
  simp [List.getD_eq_getElem?_getD,g]
 rw [f]
 exact⟨e.rng _ a,z2h.2 ⟨_,a,rfl⟩⟩
theorem zrs(a:MOk m):(fsS m).length≤m.rows.length:=by
 rw [zt2];exact Nat.le_trans (zbj _ _) (zp8 a).le
theorem zf1(a:MOk m):(z0s m).Nodup:=zs8 (q39 a)
theorem zks(d:MOk m)(q:400≤N)(r:m.rows.length≤6)(s:m.inputs≤3):sj N m=some (z4u (fsS m)):=by
 have f:=zp8 d
 have u:=d.r2
 have v:=f.le
 have g:(z6m m).length=m.rows.length:=zff
 have w:=zx1 (rch m 0)
 have key: ∀ j,j<(rch m 0).length→ix (z6m m) (ix (z1y (rch m 0)) (j:Int))=(z0r (cls m) (rch m 0) j:Int):=fun j a=>by
  rw [zjv a];exact zca (f.rng j a)
 have c: ∀ j,j<(rch m 0).length→okI (z6m m) (ix (z1y (rch m 0)) (j:Int)):=fun j a=>by
  rw [zjv a];exact jf (by rw [g];exact f.rng j a)
 have i: ∀ j,j<(rch m 0).length→vz N (z6m m) (z1y (rch m 0)) (j:Int) N 0 0=some (if z0z (z0r (cls m) (rch m 0)) j=true then 0 else 1):=fun j a=>by
  refine cz (σ:=Int) (fun F k st=>vz N (z6m m) (z1y (rch m 0)) (j:Int) F st (k:Int)) j
   (fun k st=>st=if ∀ t,t<k→z0r (cls m) (rch m 0) t≠z0r (cls m) (rch m 0) j then 0 else 1) _ (fun F k st l b=> .inr ?_) (fun F st b=>?_) N 0 0 (Nat.zero_le _) (by omega) ?_
  ·subst b
   refine⟨_,rfl,?_⟩
   simp only [vz]
   rw [bq (by omega)]
   refine(qg (x:=if ∀ t,t<k+1→z0r (cls m) (rch m 0) t≠z0r (cls m) (rch m 0) j then(0:Int) else 1) ?_).trans ?_
   ·rw [zl (jf (by omega)),zl (c k (by omega)),zl (jf (by omega)),zl (c j a),key k (by omega),key j a]
    by_cases e:z0r (cls m) (rch m 0) k=z0r (cls m) (rch m 0) j
    ·rw [bq (by omega),if_neg (fun h=>h k (by omega) e)]
    ·rw [xh (by omega)]
     by_cases h: ∀ t,t<k→z0r (cls m) (rch m 0) t≠z0r (cls m) (rch m 0) j
     ·rw [if_pos h,if_pos]
      intro t p
      by_cases ht':t=k
      ·subst ht';exact e
      ·exact h t (by omega)
     ·rw [if_neg h,if_neg]
      exact fun h'=>h fun t p=>h' t (by omega)
   ·rw [zl (j6 (by omega))];rfl
  ·subst b
   simp only [vz]
   rw [xh (by omega)]
   by_cases h:z0z (z0r (cls m) (rch m 0)) j=true
   ·rw [if_pos h,if_pos (af.1 h)]
   ·rw [if_neg h,if_neg fun h'=>h (af.2 h')]
  ·rw [if_pos (fun t p=>by omega)]
 have n:vv N (z6m m) (z1y (rch m 0)) N [] 0=some (z4u (fsS m)):=by
  refine cz (σ:=List Int) (fun F k st=>vv N (z6m m) (z1y (rch m 0)) F st (k:Int)) (rch m 0).length
   (fun k st=>st=z4u ((z6k (z0r (cls m) (rch m 0)) k).map fun j=>((rch m 0).getD j default).st)) _ (fun F k st l b=> .inr ?_) (fun F st b=>?_) N 0 [] (Nat.zero_le _) (by omega) rfl
  ·subst b
   refine⟨_,rfl,?_⟩
   simp only [vv]
   rw [bq (by omega)]
   have o:=zbj (z0r (cls m) (rch m 0)) k
   refine(qg (x:=z4u ((z6k (z0r (cls m) (rch m 0)) (k+1)).map fun j=>((rch m 0).getD j default).st)) ?_).trans ?_
   ·rw [qg (i k l),zgr]
    by_cases h:z0z (z0r (cls m) (rch m 0)) k=true
    ·have y:(z4u ((z6k (z0r (cls m) (rch m 0)) k).map fun j=>((rch m 0).getD j default).st)).length≤k:=by
      rw [zh0,List.length_map,z4y];exact o
     rw [if_pos h,if_pos h,bq rfl,zl (jf (by omega)),zl ⟨by simp only [List.length_singleton];omega,by simp only [List.length_singleton];omega⟩,zjv l]
     unfold z4u
     rw [List.map_append,List.map_append];rfl
    ·rw [if_neg h,if_neg h,xh (by decide),List.append_nil]
   ·rw [zl (j6 (by omega))];rfl
  ·subst b
   simp only [vv]
   rw [xh (by omega)];rfl
 unfold sj
 rw [qg (zhm d (by omega)),qg (zv4 d q r s),qg n]
theorem q0r(b:MOk m)(t:400≤N)(u:m.rows.length≤6)(v:m.inputs≤3):z1s N m=some (znm m):=by
 have w:=b.r1
 have y:=zrs b
 have c:(z6m m).length=m.rows.length:=zff
 have z:(z4u (fsS m)).length=(fsS m).length:=zh0 _
 have j: ∀ s,s<m.rows.length→bn N (z6m m) (z4u (fsS m)) (lm m.rows.length (rch m 0)) (s:Int) N (-1) 0=some (zhr m s):=fun s i=>by
  refine cz (σ:=Int) (fun F k st=>bn N (z6m m) (z4u (fsS m)) (lm m.rows.length (rch m 0)) (s:Int) F st (k:Int)) (fsS m).length
   (fun k st=>st=if occ (rch m 0) s=true∧cls m s∈(z0s m).take k then(((z0s m).idxOf (cls m s):Nat):Int) else-1) _ (fun F k st f d=> .inr ?_) (fun F st d=>?_) N 0 (-1) (Nat.zero_le _) (by omega) ?_
  ·subst d
   obtain⟨f1,C⟩:=zi6 b f
   have g:k<(z0s m).length:=by rw [z8x b];exact f
   have hget:=zkq b f
   have l:ix (lm m.rows.length (rch m 0)) (s:Int)=occ (rch m 0) s:=z7e i
   have A:ix (z4u (fsS m)) (k:Int)=(((fsS m).getD k 0:Nat):Int):=zmn f
   have n:ix (z6m m) (((fsS m).getD k 0:Nat):Int)=((cls m ((fsS m).getD k 0):Nat):Int):=zca f1
   have o:ix (z6m m) (s:Int)=((cls m s:Nat):Int):=zca i
   have B:(z0s m).take (k+1)=(z0s m).take k++[cls m ((fsS m).getD k 0)]:=by rw [←hget];exact ze4 _ k g
   refine⟨_,rfl,?_⟩
   simp only [bn]
   rw [bq (by omega)]
   refine(qg (x:=if occ (rch m 0) s=true∧cls m s∈(z0s m).take (k+1) then(((z0s m).idxOf (cls m s):Nat):Int) else-1) ?_).trans ?_
   ·rw [zl (jf (by rw [z2p];exact i)),zl (fun _=>jf (by omega)),A,zl (fun _=>jf (by rw [c];exact f1)),zl (fun _=>jf (by rw [c];exact i)),l,n,o,B]
    cases ho:occ (rch m 0) s
    ·rw [cf (by rw [Bool.false_and]),if_neg (fun h=>by cases h.1),if_neg (fun h=>by cases h.1)]
    ·by_cases e:cls m ((fsS m).getD k 0)=cls m s
     ·have hi:(z0s m).idxOf (cls m s)=k:=by rw [←e,←hget];exact zaq (zf1 b) g
      rw [ct (by rw [e];simp),if_pos ⟨rfl,List.mem_append.2 (.inr (by rw [e];exact List.mem_singleton.2 rfl))⟩,hi]
     ·rw [cf (by rw [Bool.true_and];exact decide_eq_false (by omega))]
      by_cases h:cls m s∈(z0s m).take k
      ·rw [if_pos ⟨rfl,h⟩,if_pos ⟨rfl,List.mem_append.2 (.inl h)⟩]
      ·rw [if_neg (fun h'=>h h'.2),if_neg (fun h'=>by
        rcases List.mem_append.1 h'.2 with p|p
        ·exact h p
        ·exact e (List.mem_singleton.1 p).symm)]
   ·rw [zl (j6 (by omega))];rfl
  ·subst d
   simp only [bn]
   rw [xh (by omega),←z8x b,List.take_length]
   unfold zhr
   by_cases h:occ (rch m 0) s=true
   ·rw [if_pos h,if_pos ⟨h,zu1 b h⟩]
   ·rw [if_neg h,if_neg (fun h'=>h h'.1)]
  ·rw [if_neg (fun h=>by simp at h)]
 have q:bi N (z6m m) (z4u (fsS m)) (lm m.rows.length (rch m 0)) N [] 0=some (znm m):=by
  refine cz (σ:=List Int) (fun F k st=>bi N (z6m m) (z4u (fsS m)) (lm m.rows.length (rch m 0)) F st (k:Int)) m.rows.length
   (fun k st=>st=(List.range k).map (zhr m)) _ (fun F k st f d=> .inr ?_) (fun F st d=>?_) N 0 [] (Nat.zero_le _) (by omega) rfl
  ·subst d
   refine⟨_,rfl,?_⟩
   simp only [bi]
   have r:((List.range k).map (zhr m)).length=k:=by simp
   rw [bq (by rw [c];omega),qg (j k f),zl ⟨by rw [r];simp only [List.length_singleton];omega,by rw [r];simp only [List.length_singleton];omega⟩,zl (j6 (by omega)),z6s]
   rfl
  ·subst d
   simp only [bi]
   rw [xh (by rw [c];omega)];rfl
 unfold z1s
 rw [qg (zhm b (by omega)),qg (zks b t u v)]
 refine(qg (show oz N m 0=some (reachL m 0) from zrd b (by omega) (a:=0) (by omega))).trans ?_
 rw [zsn b,qg q]
theorem q3u(b:MOk m){s i:Nat}(h:occ (rch m 0) s=true)(hi:i<m.inputs.toNat)(a:ed m s i≠ -1):occ (rch m 0) (ed m s i).toNat=true:=by
 have c:=zp8 b
 obtain⟨q,d,rfl⟩:=z2h.1 h
 obtain⟨j,e,f,_⟩:=c.cls q i d hi a
 exact z2h.2 ⟨j,e,by omega⟩
theorem zvh(a:MOk m):(z9g m).rows=(List.range (fsS m).length).map fun c=>(List.range m.inputs.toNat).map fun i=>(⟨if 0≤ed m ((fsS m).getD c 0) i then zhr m (ed m ((fsS m).getD c 0) i).toNat else ed m ((fsS m).getD c 0) i,ou m ((fsS m).getD c 0) i⟩:Edge):=by
 have k:=zcr a
 show (z0s m).map (rowP (z5r m) (z0s m))=_
 refine z4g (by simp [z8x a]) fun c e=>?_
 rw [List.length_map,z8x a] at e
 obtain⟨f1,l⟩:=zi6 a e
 have g:=zkq a e
 have b:=ze5 (m:=m) f1
 obtain⟨n,o⟩:=znf a f1
 have f:(rowP (z5r m) (z0s m) (cls m ((fsS m).getD c 0))).length=m.inputs.toNat:=zl3 k (by rw [zfl];exact b)
 have p:((z0s m).map (rowP (z5r m) (z0s m))).getD c default=rowP (z5r m) (z0s m) (cls m ((fsS m).getD c 0)):=by
  rw [←g]
  have:c<(z0s m).length:=by rw [z8x a];exact e
  simp [List.getD_eq_getElem?_getD,this]
 rw [p,z6h _ e]
 refine z4g (by rw [f];simp) fun i hi=>?_
 rw [f] at hi
 rw [z6h _ hi,zcm k (by rw [zfl];exact b) hi]
 obtain⟨q,r⟩:=zn6 a b hi
 obtain⟨s,j,t⟩:=zkx a n f1 o hi
 have q2':(((z5r m).rows.getD (cls m ((fsS m).getD c 0)) default).getD i default).out=ou m ((fsS m).getD c 0) i:=r.trans s
 rw [q2',q]
 congr 1
 rcases z6n a f1 hi with h|⟨u,w⟩
 ·rw [j.2 h,zo1,h,if_neg (by decide)];rfl
 ·have d:ed m ((fsS m).getD c 0) i≠ -1:=by omega
  have v:=q3u a l hi d
  rw [if_pos u]
  unfold zhr
  rw [if_pos v]
  unfold hI
  rw [if_neg (fun h=>d (j.1 h)),t (fun h=>d (j.1 h)),zn2]
theorem q1m(a:MOk m)(o:400≤N)(p:m.rows.length≤6)(q:m.inputs≤3):lc N m=some (z9g m):=by
 have s:=a.r1;have t:=a.i1
 have u:=zrs a
 have v:(z4u (fsS m)).length=(fsS m).length:=zh0 _
 have d:=zzt (m:=m)
 have e: ∀ c,c<(fsS m).length→vk N m (z4u (fsS m)) (znm m) (c:Int) N [] 0=some ((List.range m.inputs.toNat).map fun i=>(⟨if 0≤ed m ((fsS m).getD c 0) i then zhr m (ed m ((fsS m).getD c 0) i).toNat else ed m ((fsS m).getD c 0) i,ou m ((fsS m).getD c 0) i⟩:Edge)):=fun c r=>by
  obtain⟨f1,z⟩:=zi6 a r
  have hrow:=a.row _ f1
  have w:ix (z4u (fsS m)) (c:Int)=(((fsS m).getD c 0:Nat):Int):=zmn r
  refine cz (σ:=List Edge) (fun F k st=>vk N m (z4u (fsS m)) (znm m) (c:Int) F st (k:Int)) m.inputs.toNat
   (fun k st=>st=(List.range k).map fun i=>(⟨if 0≤ed m ((fsS m).getD c 0) i then zhr m (ed m ((fsS m).getD c 0) i).toNat else ed m ((fsS m).getD c 0) i,ou m ((fsS m).getD c 0) i⟩:Edge)) _ (fun F k st f b=> .inr ?_) (fun F st b=>?_) N 0 [] (Nat.zero_le _) (by omega) rfl
  ·subst b
   refine⟨_,rfl,?_⟩
   simp only [vk]
   have g:ix m.rows (((fsS m).getD c 0:Nat):Int)=m.rows.getD ((fsS m).getD c 0) default:=rfl
   have j:ix (m.rows.getD ((fsS m).getD c 0) default) (k:Int)=⟨ed m ((fsS m).getD c 0) k,ou m ((fsS m).getD c 0) k⟩:=rfl
   rw [bq (by omega),zl (jf (by omega)),w,zl (jf f1),g,zl (jf (by omega)),j]
   refine(qg (x:=if 0≤ed m ((fsS m).getD c 0) k then zhr m (ed m ((fsS m).getD c 0) k).toNat else ed m ((fsS m).getD c 0) k) ?_).trans ?_
   ·rcases z6n a f1 f with h|⟨l,y⟩
    ·rw [xh (by dsimp only;omega),if_neg (by omega)]
    ·rw [bq l,zl ⟨l,by dsimp only;rw [d];exact y⟩,if_pos l]
     exact congrArg some (zyy (show (ed m ((fsS m).getD c 0) k).toNat<m.rows.length by omega))
   ·rw [zl ⟨by simp;omega,by simp;omega⟩,zl (j6 (by omega)),z6s];rfl
  ·subst b
   simp only [vk]
   rw [xh (by omega)]
 have n:vo N m (z4u (fsS m)) (znm m) N 0 []=some (z9g m).rows:=by
  rw [zvh a]
  refine cz (σ:=List (List Edge)) (fun F k st=>vo N m (z4u (fsS m)) (znm m) F (k:Int) st) (fsS m).length
   (fun k st=>st=(List.range k).map fun c=>(List.range m.inputs.toNat).map fun i=>(⟨if 0≤ed m ((fsS m).getD c 0) i then zhr m (ed m ((fsS m).getD c 0) i).toNat else ed m ((fsS m).getD c 0) i,ou m ((fsS m).getD c 0) i⟩:Edge)) _ (fun F k st f b=> .inr ?_) (fun F st b=>?_) N 0 [] (Nat.zero_le _) (by omega) rfl
  ·subst b
   refine⟨_,rfl,?_⟩
   simp only [vo]
   rw [bq (by omega),qg (e k f),zl ⟨by simp;omega,by simp;omega⟩,zl (j6 (by omega)),z6s];rfl
  ·subst b
   simp only [vo]
   rw [xh (by omega)]
 unfold lc
 rw [qg (zks a o p q),qg (q0r a o p q),qg n]
 rfl
end
end GV
end Go.Proofs.Ytnnobdkjgafdmaa

namespace Go.Proofs.Ytnnobdkjgafdmaa
namespace GV
set_option maxRecDepth 100000
theorem zyi{m:Mach}(a:MOk m):znq m=z6y m:=by
 have b:z14 m=0:=(z4a m).2 a
 have hmul:=a.mul
 have c:=zmf a m.rows.length (Nat.le_refl _)
 have d:(zmv m).length=(z6r m (m.rows.length*m.inputs.toNat)).length:=rfl
 have e:zzr m=zge m m.rows.length:=rfl
 unfold znq z6y
 rw [if_neg (by rw [b];simp),hmul.2]
 by_cases h:(zmv m).length=0
 ·rw [decide_eq_true (by omega),decide_eq_true (by omega)]
 ·rw [decide_eq_false (by omega),decide_eq_false (by omega)]
theorem zqz{m:Mach}(a:MOk m)(h: ∀ s i,s<m.rows.length→i<m.inputs.toNat→0≤ed m s i):z6y m=true:=by
 have b:=a.i1
 have e: ∀ k,k≤m.rows.length→zge m k=k*m.inputs.toNat:=by
  intro k
  induction k with
  |zero=>intro _;simp [zge]
  |succ k ih=>
   intro c
   have hrow:=a.row k (by omega)
   rw [zd3 m k (by omega),ih (by omega),zp3 (fun i hi=>h k i (by omega) (by omega)) _ (Nat.le_refl _),Nat.succ_mul]
   omega
 unfold z6y zzr
 rw [e _ (Nat.le_refl _),a.mul.2]
 exact decide_eq_true rfl
theorem zm0{κ:Type}[DecidableEq κ]{f:Nat→κ}: ∀ {n:Nat},cntF f n=n↔ ∀ u,u<n→z0z f u=true
 |0=>⟨fun _ u b=>by omega,fun _=>rfl⟩
 |n+1=>by
  have ih:=zm0 (f:=f) (n:=n)
  have c:=zbj f n
  have a:cntF f (n+1)=cntF f n+if z0z f n=true then 1 else 0:=rfl
  by_cases h:z0z f n=true
  ·rw [if_pos h] at a
   rw [a]
   constructor
   ·intro e u b
    by_cases e':u=n
    ·subst e';exact h
    ·exact ih.1 (by omega) u (by omega)
   ·intro e
    have:=ih.2 fun u b=>e u (by omega)
    omega
  ·rw [if_neg h] at a
   rw [a]
   exact⟨fun e=>by omega,fun e=>absurd (e n (by omega)) h⟩
theorem q0h{m:Mach}{k:Nat}(d:1≤k):max ((cntF (cls m) k:Int)-1) (cls m k:Int)=(cntF (cls m) (k+1):Int)-1:=by
 have b:cntF (cls m) (k+1)=cntF (cls m) k+if z0z (cls m) k=true then 1 else 0:=rfl
 have c:=zau (m:=m) k
 by_cases h:z0z (cls m) k=true
 ·rw [if_pos h] at b
  rw [z8t h] at c
  omega
 ·rw [if_neg h] at b
  have f:=z2a (cls m) k
  have a:=z6e (cls m) k
  have g:z5q (cls m) k≠k:=fun e=>h (by rw [e] at a;exact a)
  have i:=z8j (cls m) (show z5q (cls m) k<k by omega) a
  have j:cntF (cls m) (z5q (cls m) k)=cls m k:=c
  omega
def zsa(m:Mach):Bool:=decide (cntF (cls m) m.rows.length=m.rows.length)
noncomputable def properM(m:Mach):Int:=if z14 m≠0 then z14 m else if z6y m=false then 9 else if connB m=false then 11 else if zsa m=false then 12 else 0
section
variable {N : Nat} {m : Mach}
theorem q15(f:Nat→Nat):cntF f 1=1:=by
 have:z0z f 0=true:=af.2 fun t a=>by omega
 show 0+(if z0z f 0=true then 1 else 0)=1
 rw [if_pos this]
theorem q4i(c:MOk m)(l:200≤N):slices_Max_int N (z6m m)=some ((cntF (cls m) m.rows.length:Int)-1):=by
 have e:(z6m m).length=m.rows.length:=zff
 have a:=c.r1;have f:=c.r2
 have g:ix (z6m m) 0=(cntF (cls m) 1:Int)-1:=by
  have:ix (z6m m) 0=((cls m 0:Nat):Int):=zca (s:=0) (by omega)
  rw [this,zp2,q15];rfl
 have h:nz N (z6m m) N ((cntF (cls m) 1:Int)-1) 1=some ((cntF (cls m) m.rows.length:Int)-1):=by
  refine cz (σ:=Int) (fun F k st=>nz N (z6m m) F st (k:Int)) m.rows.length (fun k st=>1≤k∧st=(cntF (cls m) k:Int)-1) _ (fun F k st i b=> .inr ?_) (fun F st b=>?_) N 1 _ a (by omega) ⟨Nat.le_refl _,rfl⟩
  ·obtain⟨d,rfl⟩:=b
   refine⟨_,⟨by omega,rfl⟩,?_⟩
   simp only [nz]
   have j:ix (z6m m) (k:Int)=((cls m k:Nat):Int):=zca i
   rw [bq (by omega),zl (jf (by omega)),zl (j6 (by omega)),j,q0h d]
   rfl
  ·obtain⟨d,rfl⟩:=b
   simp only [nz]
   rw [xh (by omega)]
 unfold slices_Max_int
 rw [xh (by omega),zl ⟨by omega,by omega⟩,g,qg h]
theorem zvi(a:MOk m)(b:200≤N):z1x N m=some (zsa m):=by
 have c:(z6m m).length=m.rows.length:=zff
 have d:=a.r2
 obtain⟨j,e⟩:=zrm (N:=N) a b
 unfold z1x
 rw [qg e,qg (q4i a b),zl (j6 (by dsimp only;omega))]
 unfold zsa
 by_cases h:cntF (cls m) m.rows.length=m.rows.length
 ·rw [decide_eq_true h,decide_eq_true (by dsimp only;omega)]
 ·rw [decide_eq_false h,decide_eq_false (by dsimp only;omega)]
theorem zv5(a:MOk m)(b:200≤N):z2c N m=some (connB m):=by
 unfold z2c
 rw [qg (znd a.small b),(z4a m).2 a];rfl
theorem zw4(a:MOk m)(b:200≤N):z2d N m=some (z6y m):=by
 unfold z2d
 rw [qg (zqf a.small b),zyi a]
theorem zwm(c:Small m)(a:200≤N):z2r N m=some (properM m):=by
 unfold z2r properM
 rw [qg (zfa c a)]
 by_cases h:z14 m≠0
 ·rw [bq h,if_pos h]
 ·rw [xh h,if_neg h]
  have b:=(z4a m).1 (by omega)
  refine(zst (x:=(m,m,m))).trans ?_
  refine(qg (zw4 b a)).trans ?_
  cases z6y m
  ·rfl
  refine(cf rfl).trans ?_
  refine(qg (zv5 b a)).trans ?_
  cases connB m
  ·rfl
  refine(cf rfl).trans ?_
  refine(qg (zvi b a)).trans ?_
  cases zsa m<;>rfl
end
/-! ### Homomorphisms-/
section
variable {N : Nat} {a b : Mach} {f : List Int}
structure HOk (a b:Mach) (f:List Int):Prop where
 ha:MOk a
 hb:MOk b
 hi:a.inputs=b.inputs
 hl:f.length=a.rows.length
 hr: ∀ k,k<f.length→0≤f.getD k default∧f.getD k default<b.rows.length
end
end GV
end Go.Proofs.Ytnnobdkjgafdmaa

namespace Go.Proofs.Ytnnobdkjgafdmaa
namespace GV
set_option maxRecDepth 100000
section
variable {m : Mach}
theorem q04(b:MOk m)(h:Red m):zsa m=true:=decide_eq_true (zm0.2 fun u a=>af.2 fun t c e=>by
 have:=h t u (by omega) a ((zua b (by omega) a).1 e)
 omega)
theorem zi4:(z9g m).rows.length=(z0s m).length:=zlq
theorem zcp(a:MOk m):ClosedP (z5r m) (z0s m):=zjw (q39 a)
theorem zw7(a:MOk m):0∈z0s m∧(z0s m).idxOf 0=0:=zy2 (q39 a)
theorem zfd{c:Nat}(a:c<(z0s m).length):(z0s m).getD c 0∈z0s m:=by simp [List.getD_eq_getElem?_getD,a]
theorem zts(a:MOk m){c:Nat}(b:c∈z0s m){w:List Int}(d:WOk m.inputs w):ig (z9g m) (((z0s m).idxOf c:Nat):Int) w=ig (z5r m) (c:Int) w:=by
 have:=(zoi (zcr a) (zcp a) w (s:=(c:Int)) (.inr ⟨by omega,by rw [Int.toNat_natCast];exact b⟩) d).1
 rw [zn2] at this
 exact this
theorem q0i(a:MOk m):Red (z9g m):=by
 intro c d e f l
 rw [zi4] at e f
 have o:=zcr a
 have b:=zcp a
 have g:=zaq (zf1 a) e
 have i:=zaq (zf1 a) f
 have h:=q1y a _ _ (b.rng _ (zfd e)) (b.rng _ (zfd f)) (fun w hw'=>by
  have n:=l w hw'
  have j:=zts a (zfd e) (w:=w) hw'
  have k:=zts a (zfd f) (w:=w) hw'
  rw [g] at j;rw [i] at k
  rw [←j,←k];exact n)
 rw [h,i] at g
 exact g.symm
theorem q1u(a:MOk m):rch (z9g m) 0=(rch (z5r m) 0).map (ren (z0s m)):=by
 obtain⟨b,c⟩:=zw7 a
 have hren:=q1d (zcr a) (zcp a) b
 rw [c] at hren
 exact hren
theorem q0p(h: ∀ t,t<m.rows.length→occ (rch m 0) t=true)(b:MOk m):connB m=true:=q0s fun j a=>(zb7 a).2 ((zlw b).2 (h j a))
theorem zxy(a:MOk m):connB (z9g m)=true:=by
 refine q0p (fun c b=>?_) (zrv a)
 rw [zi4] at b
 rw [q1u a]
 have d:c<(rch (z5r m) 0).length:=by rw [←zk5];exact b
 refine z2h.2 ⟨c,by rw [List.length_map];exact d,?_⟩
 rw [getD_map d]
 show (z0s m).idxOf (((rch (z5r m) 0).getD c default).st)=c
 rw [←zpf _ d]
 exact zaq (zf1 a) b
theorem q4t(a:MOk m){s i:Nat}(b:s<m.rows.length)(e:occ (rch m 0) s=true)(hi:i<m.inputs.toNat):ed (z9g m) ((z0s m).idxOf (cls m s)) i=pos (z0s m) (hI (cls m) (ed m s i))∧ou (z9g m) ((z0s m).idxOf (cls m s)) i=ou m s i:=by
 have f:=zcr a
 have c:=zi7 a
 obtain⟨g,h⟩:=zax (zu1 a e)
 have j:(z9g m).rows.getD ((z0s m).idxOf (cls m s)) default=rowP (z5r m) (z0s m) (cls m s):=by
  have:(z9g m).rows.getD ((z0s m).idxOf (cls m s)) default=rowP (z5r m) (z0s m) ((z0s m).getD ((z0s m).idxOf (cls m s)) 0):=zai g
  rw [this,h]
 have k:=zcm (L:=z0s m) f (c.rng s b) (show i<(z5r m).inputs.toNat from hi)
 have d:((z9g m).rows.getD ((z0s m).idxOf (cls m s)) default).getD i default=⟨pos (z0s m) (ed (z5r m) (cls m s) i),ou (z5r m) (cls m s) i⟩:=by rw [j];exact k
 constructor
 ·show (((z9g m).rows.getD ((z0s m).idxOf (cls m s)) default).getD i default).to=_
  rw [d,c.to s i b hi]
 ·show (((z9g m).rows.getD ((z0s m).idxOf (cls m s)) default).getD i default).out=_
  rw [d,c.out s i b hi]
theorem q3x(a:MOk m):(z9g m).rows.length≤m.rows.length:=by
 rw [zi4,z8x a];exact zrs a
theorem zvl(a:MOk m)(h: ∀ s i,s<m.rows.length→i<m.inputs.toNat→0≤ed m s i):z6y (z9g m)=true:=by
 refine zqz (zrv a) fun c i b hi=>?_
 rw [zi4] at b
 have hi':i<m.inputs.toNat:=hi
 have hc':c<(fsS m).length:=by rw [←z8x a];exact b
 obtain⟨f1,f⟩:=zi6 a hc'
 have e:=zaq (zf1 a) b
 rw [zkq a hc'] at e
 have d:=(q4t a f1 f hi').1
 rw [e] at d
 rw [d]
 obtain⟨t,g⟩:=Int.eq_ofNat_of_zero_le (h _ i f1 hi')
 rw [g,z9t,zn2];omega
end
end GV
end Go.Proofs.Ytnnobdkjgafdmaa

namespace Go.Proofs.Ytnnobdkjgafdmaa
namespace GV
section sea
variable {T : Type} [DecidableEq T]
abbrev LS (T:Type):=List (T×List Int)×List T
def zg4(s:LS T)(x:T)(w:List Int):LS T:=if x∈s.2 then s else(s.1++[(x,w)],s.2++[x])
def z8o(next:T→Int→T)(x:T)(w:List Int)(s:LS T):Nat→LS T
 |0=>s
 |i+1=>zg4 (z8o next x w s i) (next x (i:Int)) (w++[(i:Int)])
def zcx(next:T→Int→T)(ni:Nat)(s:LS T):List (T×List Int)→LS T
 | []=>s
 |p::L=>zcx next ni (z8o next p.1 p.2 s ni) L
def zex(next:T→Int→T)(isb:T→Bool)(ni:Nat):Nat→List (T×List Int)→List T→Option (List Int)
 |0,_,_=>none
 |g+1,L,S=>if L=[] then none else match L.find? fun p=>isb p.1 with
  |some p=>some p.2
  |none=>zex next isb ni g (zcx next ni ([],S) L).1 (zcx next ni ([],S) L).2
def runT(next:T→Int→T)(x:T)(w:List Int):T:=w.foldl next x
def WIn(ni:Nat)(w:List Int):Prop:= ∀ i∈w,0≤i∧i<(ni:Int)
theorem z5o{next:T→Int→T}{x:T}{w:List Int}{i:Int}:runT next x (w++[i])=next (runT next x w) i:=by simp [runT]
theorem WIn.snoc{ni:Nat}{w:List Int}{i:Int}(h:WIn ni w)(b:0≤i)(c:i<(ni:Int)):WIn ni (w++[i]):=fun j a=>by
 rcases List.mem_append.1 a with a|a
 ·exact h j a
 ·rw [List.mem_singleton.1 a];exact⟨b,c⟩
theorem WIn.append{ni:Nat}{w v:List Int}(h:WIn ni w)(k:WIn ni v):WIn ni (w++v):=fun j a=>by
 rcases List.mem_append.1 a with a|a
 ·exact h j a
 ·exact k j a
theorem WIn.init{ni:Nat}{w:List Int}{i:Int}(h:WIn ni (w++[i])):WIn ni w∧0≤i∧i<(ni:Int):=
 ⟨fun j a=>h j (List.mem_append.2 (.inl a)),h i (List.mem_append.2 (.inr (List.mem_singleton.2 rfl)))⟩
theorem zib{w:List Int}{k:Nat}(h:w.length=k+1): ∃ v i,w=v++[i]∧v.length=k:=by
 have a:w≠[]:=by intro e;rw [e] at h;simp at h
 refine⟨w.dropLast,w.getLast a,(List.dropLast_concat_getLast a).symm,?_⟩
 rw [List.length_dropLast];omega
structure PS (S0:List T) (Q:T→List Int→Prop) (s:LS T):Prop where
 seen:s.2=S0++s.1.map Prod.fst
 nd:s.2.Nodup
 ord:s.1.Pairwise fun a b=>llt a.2 b.2
 out: ∀ q∈s.1,Q q.1 q.2
 got: ∀ x w,Q x w→x∈S0∨ ∃ q∈s.1,q.1=x∧lle q.2 w
theorem PS.congr{S0:List T}{Q Q':T→List Int→Prop}{s:LS T}(h:PS S0 Q s)(e: ∀ x w,Q x w↔Q' x w):PS S0 Q' s:=
 ⟨h.seen,h.nd,h.ord,fun q a=>(e _ _).1 (h.out q a),fun x w b=>h.got x w ((e _ _).2 b)⟩
theorem q0e{S0:List T}{Q:T→List Int→Prop}{s:LS T}{x:T}{w:List Int}(h:PS S0 Q s)(i: ∀ x' w',Q x' w'→llt w' w):PS S0 (fun x' w'=>Q x' w'∨(x'=x∧w'=w)) (zg4 s x w):=by
 unfold zg4
 by_cases d:x∈s.2
 ·rw [if_pos d]
  refine⟨h.seen,h.nd,h.ord,fun q c=> .inl (h.out q c),fun x' w' hw'=>?_⟩
  rcases hw' with hw'|⟨rfl,rfl⟩
  ·exact h.got x' w' hw'
  ·rw [h.seen] at d
   rcases List.mem_append.1 d with d|d
   ·exact .inl d
   ·obtain⟨q,c,rfl⟩:=List.mem_map.1 d
    exact .inr ⟨q,c,rfl,.inr (i _ _ (h.out q c))⟩
 ·rw [if_neg d]
  refine⟨?_,?_,?_,fun q c=>?_,fun x' w' hw'=>?_⟩
  ·show s.2++[x]=S0++(s.1++[(x,w)]).map Prod.fst
   rw [h.seen,List.map_append,List.append_assoc];rfl
  ·show (s.2++[x]).Nodup
   rw [List.nodup_append]
   refine⟨h.nd,List.nodup_cons.2 ⟨List.not_mem_nil,List.nodup_nil⟩,fun a f b g e=>?_⟩
   rw [List.mem_singleton.1 g] at e
   exact d (e▸f)
  ·show (s.1++[(x,w)]).Pairwise _
   rw [List.pairwise_append]
   exact⟨h.ord,List.pairwise_singleton ..,fun a f b g=>by rw [List.mem_singleton.1 g];exact i _ _ (h.out a f)⟩
  ·rcases List.mem_append.1 c with c|c
   ·exact .inl (h.out q c)
   ·rw [List.mem_singleton.1 c];exact .inr ⟨rfl,rfl⟩
  ·rcases hw' with hw'|⟨rfl,rfl⟩
   ·rcases h.got x' w' hw' with k|⟨q,c,k⟩
    ·exact .inl k
    ·exact .inr ⟨q,List.mem_append.2 (.inl c),k⟩
   ·exact .inr ⟨(x',w'),List.mem_append.2 (.inr (List.mem_singleton.2 rfl)),rfl,.inl rfl⟩
theorem zuj{next:T→Int→T}{S0:List T}{Q:T→List Int→Prop}{s:LS T}{x:T}{w:List Int}(h:PS S0 Q s)(b: ∀ x' w',Q x' w'→ ∀ j:Int,llt w' (w++[j])):
 ∀ k:Nat,PS S0 (fun x' w'=>Q x' w'∨ ∃ j:Nat,j<k∧x'=next x (j:Int)∧w'=w++[(j:Int)]) (z8o next x w s k)
 |0=>h.congr fun x' w'=>⟨.inl,fun h=>h.resolve_right fun⟨j,a,_⟩=>by omega⟩
 |k+1=>by
  refine(q0e (zuj h b k) (x:=next x (k:Int)) (w:=w++[(k:Int)]) fun x' w' hw'=>?_).congr fun x' w'=>?_
  ·rcases hw' with hw'|⟨j,a,_,rfl⟩
   ·exact b x' w' hw' _
   ·exact zke w (by omega)
  ·constructor
   ·rintro((h|⟨j,a,h⟩)|h)
    ·exact .inl h
    ·exact .inr ⟨j,by omega,h⟩
    ·exact .inr ⟨k,by omega,h⟩
   ·rintro(h|⟨j,a,h⟩)
    ·exact .inl (.inl h)
    ·by_cases e:j=k
     ·subst e;exact .inr h
     ·exact .inl (.inr ⟨j,by omega,h⟩)
theorem ztq{next:T→Int→T}{ni:Nat}{S0:List T}: ∀ {L:List (T×List Int)} {Q:T→List Int→Prop} {s:LS T},PS S0 Q s→L.Pairwise (fun a b=>llt a.2 b.2)→(∀ x' w',Q x' w'→ ∀ p∈L,∀ j:Int,llt w' (p.2++[j]))→
 PS S0 (fun x' w'=>Q x' w'∨ ∃ p∈L,∃ j:Nat,j<ni∧x'=next p.1 (j:Int)∧w'=p.2++[(j:Int)]) (zcx next ni s L)
 | [],Q,s,h,_,_=>h.congr fun x' w'=>⟨.inl,fun h=>h.resolve_right fun⟨p,d,_⟩=>absurd d List.not_mem_nil⟩
 |p::L,Q,s,h,e,c=>by
  obtain⟨f,g⟩:=List.pairwise_cons.1 e
  refine(ztq (L:=L) (zuj h (fun x' w' hw' j=>c x' w' hw' p (List.mem_cons_self ..) j) ni) g fun x' w' hw' p' hp' j=>?_).congr fun x' w'=>?_
  ·rcases hw' with hw'|⟨i,hi,_,rfl⟩
   ·exact c x' w' hw' p' (List.mem_cons_of_mem _ hp') j
   ·exact zc4 _ _ (f p' hp')
  ·constructor
   ·rintro((h|h)|⟨p',hp',h⟩)
    ·exact .inl h
    ·exact .inr ⟨p,List.mem_cons_self ..,h⟩
    ·exact .inr ⟨p',List.mem_cons_of_mem _ hp',h⟩
   ·rintro(h|⟨p',hp',h⟩)
    ·exact .inl (.inl h)
    ·rcases List.mem_cons.1 hp' with rfl|hp'
     ·exact .inl (.inr h)
     ·exact .inr ⟨p',hp',h⟩
structure LI (next:T→Int→T) (isb:T→Bool) (ni:Nat) (x0:T) (k:Nat) (L:List (T×List Int)) (S:List T):Prop where
 wd: ∀ p∈L,p.2.length=k∧WIn ni p.2∧p.1=runT next x0 p.2
 nd:S.Nodup
 ord:L.Pairwise fun a b=>llt a.2 b.2
 seen: ∀ x,x∈S↔ ∃ v,v.length≤k∧WIn ni v∧x=runT next x0 v
 rep: ∀ v,v.length=k→WIn ni v→(∃ p∈L,p.1=runT next x0 v∧lle p.2 v)∨ ∃ u,u.length<k∧WIn ni u∧runT next x0 u=runT next x0 v
 no: ∀ v,v.length<k→WIn ni v→isb (runT next x0 v)=false
 num:L≠[]→k<S.length
 sub: ∀ p∈L,p.1∈S
theorem zxf{next:T→Int→T}{isb:T→Bool}{ni:Nat}{a:T}:LI next isb ni a 0 [(a,[])] [a]:=by
 have d: ∀ p∈[(a,([]:List Int))],p=(a,[]):=fun p b=>List.mem_singleton.1 b
 refine⟨fun p b=>?_,List.nodup_cons.2 ⟨List.not_mem_nil,List.nodup_nil⟩,List.pairwise_singleton ..,fun x=>?_,fun v c e=>?_,fun v c=>by omega,fun _=>Nat.zero_lt_one,fun p b=>?_⟩
 ·rw [d p b];exact⟨rfl,fun i hi=>absurd hi List.not_mem_nil,rfl⟩
 ·rw [List.mem_singleton]
  constructor
  ·rintro rfl;exact⟨[],Nat.le_refl _,fun i hi=>absurd hi List.not_mem_nil,rfl⟩
  ·rintro⟨v,c,_,rfl⟩
   rw [List.length_eq_zero_iff.1 (Nat.le_zero.1 c)];rfl
 ·rw [List.length_eq_zero_iff.1 c]
  exact .inl ⟨(a,[]),List.mem_singleton.2 rfl,rfl,.inl rfl⟩
 ·rw [d p b];exact List.mem_singleton.2 rfl
theorem q4j{next:T→Int→T}{isb:T→Bool}{ni:Nat}{a:T}{k:Nat}{L:List (T×List Int)}{S:List T}(h:LI next isb ni a k L S):
 PS S (fun x' w'=> ∃ p∈L,∃ j:Nat,j<ni∧x'=next p.1 (j:Int)∧w'=p.2++[(j:Int)]) (zcx next ni ([],S) L):=by
 refine(ztq (next:=next) (ni:=ni) (L:=L) (Q:=fun _ _=>False) (s:=([],S)) (S0:=S) ⟨by simp,h.nd,List.Pairwise.nil,fun q b=>absurd b List.not_mem_nil,fun _ _ h=>h.elim⟩ h.ord fun _ _ h=>h.elim).congr fun x' w'=>?_
 exact⟨fun h=>h.resolve_left id,.inr⟩
theorem zhz{next:T→Int→T}{isb:T→Bool}{ni:Nat}{t:T}{k:Nat}{L:List (T×List Int)}{S:List T}(h:LI next isb ni t k L S)(A: ∀ p∈L,isb p.1=false):
 LI next isb ni t (k+1) (zcx next ni ([],S) L).1 (zcx next ni ([],S) L).2:=by
 have n:=q4j h
 generalize zcx next ni ([],S) L=s at n
 have hseen: ∀ x,x∈s.2↔x∈S∨ ∃ q∈s.1,q.1=x:=fun x=>by rw [n.seen,List.mem_append,List.mem_map]
 have hout: ∀ q∈s.1,q.2.length=k+1∧WIn ni q.2∧q.1=runT next t q.2:=fun q f=>by
  obtain⟨p,d,j,J,o,y⟩:=n.out q f
  obtain⟨B,C,D⟩:=h.wd p d
  rw [o,y]
  exact⟨by simp [B],C.snoc (by omega) (by omega),by rw [z5o,D]⟩
 have hnew: ∀ v,v.length=k+1→WIn ni v→(runT next t v∈S)∨ ∃ q∈s.1,q.1=runT next t v∧lle q.2 v:=fun v r l=>by
  obtain⟨v',i,rfl,hv'⟩:=zib r
  obtain⟨hw',E,F⟩:=l.init
  rcases h.rep v' hv' hw' with⟨p,d,o,y⟩|⟨u,z,m,e⟩
  ·obtain⟨j,rfl⟩: ∃ j:Nat,i=(j:Int):=⟨i.toNat,by omega⟩
   rcases n.got (next p.1 (j:Int)) (p.2++[(j:Int)]) ⟨p,d,j,by omega,rfl,rfl⟩ with g|⟨q,f,G,H⟩
   ·left;rw [z5o,←o];exact g
   ·right;exact⟨q,f,by rw [G,z5o,←o],zd8 H (zp6 _ y)⟩
  ·left
   rw [z5o,←e,←z5o (next:=next),h.seen]
   exact⟨u++[i],by simp;omega,m.snoc E F,rfl⟩
 refine⟨hout,n.nd,n.ord,fun x=>?_,fun v r l=>?_,fun v r l=>?_,fun w=>?_,fun q f=>(hseen _).2 (.inr ⟨q,f,rfl⟩)⟩
 ·rw [hseen]
  constructor
  ·rintro(I|⟨q,f,rfl⟩)
   ·obtain⟨v,r,l,e⟩:=(h.seen x).1 I
    exact⟨v,by omega,l,e⟩
   ·obtain⟨a,b,c⟩:=hout q f
    exact⟨q.2,by omega,b,c⟩
  ·rintro⟨v,r,l,rfl⟩
   by_cases e:v.length=k+1
   ·rcases hnew v e l with g|⟨q,f,g,_⟩
    ·exact .inl g
    ·exact .inr ⟨q,f,g⟩
   ·exact .inl ((h.seen _).2 ⟨v,by omega,l,rfl⟩)
 ·rcases hnew v r l with g|g
  ·obtain⟨u,z,m,e⟩:=(h.seen _).1 g
   exact .inr ⟨u,by omega,m,e.symm⟩
  ·exact .inl g
 ·by_cases e:v.length=k
  ·rcases h.rep v e l with⟨p,d,o,_⟩|⟨u,z,m,o⟩
   ·rw [←o];exact A p d
   ·rw [←o];exact h.no u z m
  ·exact h.no v (by omega) l
 ·have hlen:s.2.length=S.length+s.1.length:=by rw [n.seen,List.length_append,List.length_map]
  have K:0<s.1.length:=List.length_pos_iff.2 w
  by_cases hL:L=[]
  ·exfalso
   obtain⟨q,f⟩:=List.exists_mem_of_ne_nil _ w
   obtain⟨p,d,_⟩:=n.out q f
   rw [hL] at d;exact absurd d List.not_mem_nil
  ·have:=h.num hL;omega
theorem zil{isb:T→Bool}: ∀ {L:List (T×List Int)} {p:T×List Int},L.Pairwise (fun a b=>llt a.2 b.2)→L.find? (fun p=>isb p.1)=some p→ ∀ q∈L,isb q.1=true→lle p.2 q.2
 | [],p,_,h,q,c,_=>absurd c List.not_mem_nil
 |a::L,p,e,h,q,c,d=>by
  obtain⟨f,g⟩:=List.pairwise_cons.1 e
  rw [List.find?_cons] at h
  cases ha:isb a.1 with
  |true=>
   rw [ha] at h
   obtain rfl:=Option.some.inj h
   rcases List.mem_cons.1 c with rfl|c
   ·exact .inl rfl
   ·exact .inr (f q c)
  |false=>
   rw [ha] at h
   rcases List.mem_cons.1 c with rfl|c
   ·rw [ha] at d;cases d
   ·exact zil g h q c d
def Lst(next:T→Int→T)(isb:T→Bool)(ni:Nat)(a:T)(w:List Int):Prop:=WIn ni w∧isb (runT next a w)=true∧ ∀ v,WIn ni v→isb (runT next a v)=true→lle w v
theorem q4h{next:T→Int→T}{isb:T→Bool}{ni:Nat}{b:T}{k:Nat}{S:List T}(h:LI next isb ni b k [] S): ∀ v,WIn ni v→isb (runT next b v)=false:=by
 have key: ∀ n v,v.length=n→WIn ni v→ ∃ u,u.length<k∧WIn ni u∧runT next b u=runT next b v:=by
  have base: ∀ v,v.length≤k→WIn ni v→ ∃ u,u.length<k∧WIn ni u∧runT next b u=runT next b v:=fun v c a=>by
   by_cases e:v.length=k
   ·exact(h.rep v e a).resolve_left fun⟨p,l,_⟩=>absurd l List.not_mem_nil
   ·exact⟨v,by omega,a,rfl⟩
  intro n
  induction n with
  |zero=>intro v c a;exact base v (by omega) a
  |succ n ih=>
   intro v c a
   obtain⟨v',i,rfl,hv'⟩:=zib c
   obtain⟨hw',m,o⟩:=a.init
   obtain⟨u,r,d,e⟩:=ih v' hv' hw'
   obtain⟨q,f,g,j⟩:=base (u++[i]) (by simp;omega) (d.snoc m o)
   exact⟨q,f,g,by rw [j,z5o,z5o,e]⟩
 intro v a
 obtain⟨u,f,g,j⟩:=key v.length v rfl a
 rw [←j];exact h.no u f g
theorem zmh{next:T→Int→T}{isb:T→Bool}{ni:Nat}{f:T}{w:List Int}: ∀ {g k:Nat} {L:List (T×List Int)} {S:List T},LI next isb ni f k L S→zex next isb ni g L S=some w→Lst next isb ni f w
 |0,k,L,S,h,e=>by cases e
 |g+1,k,L,S,h,e=>by
  unfold zex at e
  by_cases hL:L=[]
  ·rw [if_pos hL] at e;cases e
  ·rw [if_neg hL] at e
   cases hf:L.find? (fun p=>isb p.1) with
   |some p=>
    rw [hf] at e
    obtain rfl:=Option.some.inj e
    have b:=List.mem_of_find?_eq_some hf
    have j:=List.find?_some hf
    obtain⟨t,l,m⟩:=h.wd p b
    refine⟨l,by rw [←m];exact j,fun v i a=>?_⟩
    by_cases hk:v.length<k
    ·rw [h.no v hk i] at a;cases a
    ·by_cases hk2:v.length=k
     ·rcases h.rep v hk2 i with⟨q,n,c,o⟩|⟨u,r,d,c⟩
      ·exact zd8 (zil h.ord hf q n (by rw [c];exact a)) o
      ·rw [←c,h.no u r d] at a;cases a
     ·exact .inr (.inl (by omega))
   |none=>
    rw [hf] at e
    exact zmh (zhz h fun p s=>by simpa using List.find?_eq_none.1 hf p s) e
theorem zm6{next:T→Int→T}{isb:T→Bool}{ni:Nat}{b:T}: ∀ {g k:Nat} {L:List (T×List Int)} {S:List T},LI next isb ni b k L S→zex next isb ni g L S=none→ ∀ v,WIn ni v→v.length<k+g→isb (runT next b v)=false
 |0,k,L,S,h,e,v,a,c=>h.no v (by omega) a
 |g+1,k,L,S,h,e,v,a,c=>by
  unfold zex at e
  by_cases hL:L=[]
  ·subst hL;exact q4h h v a
  ·rw [if_neg hL] at e
   cases hf:L.find? (fun p=>isb p.1) with
   |some p=>rw [hf] at e;cases e
   |none=>
    rw [hf] at e
    exact zm6 (zhz h fun p d=>by simpa using List.find?_eq_none.1 hf p d) e v a (by omega)
end sea
end GV
end Go.Proofs.Ytnnobdkjgafdmaa

namespace Go.Proofs.Ytnnobdkjgafdmaa
namespace GV
set_option maxRecDepth 100000
theorem zpl(m:Mach)(a:MOk m): ∀ k,k≤m.rows.length→zge m k≤m.inputs.toNat*k
 |0,_=>by simp [zge]
 |k+1,h=>by
  have b:=zpl m a k (by omega)
  have c:=a.row k (by omega)
  have d:=ztj (m.rows.getD k default) (m.rows.getD k default).length
  rw [zd3 m k (by omega),Nat.mul_succ]
  omega
theorem ztt{m:Mach}(a:MOk m){k i:Nat}(b:k<m.rows.length)(hi:i<(m.rows.getD k default).length)(c:((m.rows.getD k default).getD i default).to<0): ∀ j,k<j→j≤m.rows.length→zge m j<m.inputs.toNat*j
 |0,h,_=>by omega
 |j+1,h,g=>by
  have hrow:=a.row j (by omega)
  have l:=ztj (m.rows.getD j default) (m.rows.getD j default).length
  rw [zd3 m j (by omega),Nat.mul_succ]
  by_cases e:k=j
  ·subst e
   have n:zge m k≤m.inputs.toNat*k:=zpl m a k (by omega)
   have o:zh1 (m.rows.getD k default) (m.rows.getD k default).length<(m.rows.getD k default).length:=by
    unfold zh1
    rw [List.take_length]
    refine Nat.lt_of_le_of_ne List.countP_le_length fun d=>?_
    have f:=List.countP_eq_length.1 d _ (z0n hi)
    exact absurd (of_decide_eq_true f) (by omega)
   omega
  ·have:=ztt a b hi c j (by omega) (by omega)
   omega
theorem zv9{m:Mach}(a:MOk m)(h:z6y m=true){k i:Nat}(b:k<m.rows.length)(hi:i<(m.rows.getD k default).length):0≤((m.rows.getD k default).getD i default).to:=by
 by_cases hn:((m.rows.getD k default).getD i default).to<0
 ·have e:=ztt a b hi hn m.rows.length b (Nat.le_refl _)
  unfold z6y at h
  have c:=of_decide_eq_true h
  rw [a.mul.2] at c
  have d:zzr m=m.rows.length*m.inputs.toNat:=Int.ofNat.inj c
  unfold zzr at d
  rw [Nat.mul_comm] at d
  omega
 ·omega
theorem zxl{m:Mach}(h:properM m=0):MOk m∧z6y m=true∧connB m=true∧zsa m=true:=by
 unfold properM at h
 by_cases hc:z14 m=0
 ·rw [if_neg (by omega)] at h
  refine⟨(z4a m).1 hc,?_⟩
  cases h1:z6y m
  ·rw [h1,if_pos rfl] at h;omega
  cases h2:connB m
  ·rw [h1,h2,if_neg Bool.noConfusion,if_pos rfl] at h;omega
  cases h3:zsa m
  ·rw [h1,h2,h3,if_neg Bool.noConfusion,if_neg Bool.noConfusion,if_pos rfl] at h;omega
  exact⟨rfl,rfl,rfl⟩
 ·rw [if_pos hc] at h;exact absurd h hc
theorem zka{κ β:Type}[DecidableEq κ](z:β)(M:List (κ×β))(k:κ)(v:β)(j:κ):z5b z (z6t M k v) j=if j=k then v else z5b z M j:=by
 induction M with
 |nil=>unfold z6t z5b;rfl
 |cons p M ih=>
  unfold z6t
  by_cases h:k=p.1
  ·rw [if_pos h]
   unfold z5b
   by_cases e:j=k
   ·rw [if_pos e,if_pos e]
   ·rw [if_neg e,if_neg e,if_neg (fun q=>e (q.trans h.symm))]
  ·rw [if_neg h]
   unfold z5b
   by_cases e:j=p.1
   ·rw [if_pos e,if_pos e,if_neg (fun q=>h (q.symm.trans e))]
   ·rw [if_neg e,if_neg e];exact ih
theorem q0v{α:Type}[Inhabited α]{s:List α}{a:Nat}(h:a<s.length):s.take (a+1)=s.take a++[s.getD a default]:=by
 rw [List.take_add_one,List.getD_eq_getElem?_getD,List.getElem?_eq_getElem h];rfl
theorem zea{α:Type}[Inhabited α]{L:List α}{i:Nat}(h:i<L.length):L.getD i default∈L:=by
 rw [List.getD_eq_getElem?_getD,List.getElem?_eq_getElem h];exact List.getElem_mem h
theorem zu5{σ ρ:Type}(L:Nat→Nat→σ→Option ρ)(n:Nat)(st:Nat→σ)(r:ρ)(step: ∀ F k,k<n→L (F+1) k (st k)=L F (k+1) (st (k+1)))(fin: ∀ F,L (F+1) n (st n)=some r){F:Nat}(c:n<F):L F 0 (st 0)=some r:=
 cz L n (fun k s=>s=st k) r (fun F k s b a=> .inr ⟨_,rfl,by rw [a];exact step F k b⟩) (fun F s a=>by rw [a];exact fin F) F 0 (st 0) (Nat.zero_le _) (by omega) rfl
theorem ztx{α:Type}{b:Bool}{e:Option α}{x:α}(h:b=true)(a:e=some x):gop b e=some (some x):=by rw [q2v h,a];rfl
structure CM (m:Mach):Prop where
 ok:MOk m
 full: ∀ s i,s<m.rows.length→i<(m.rows.getD s default).length→0≤((m.rows.getD s default).getD i default).to
def InS(m:Mach)(s:Int):Prop:=0≤s∧s<(m.rows.length:Int)
def edI(m:Mach)(s i:Int):Edge:=ix (ix m.rows s) i
abbrev nIn (m:Mach):Nat:=m.inputs.toNat
theorem CM.nin{m:Mach}(h:CM m):((nIn m:Nat):Int)=m.inputs:=by have:=h.ok.i1;show ((m.inputs.toNat:Nat):Int)=_;omega
theorem CM.row{m:Mach}(h:CM m){s:Int}(c:InS m s):((ix m.rows s).length:Int)=m.inputs:=by
 obtain⟨a,b⟩:=c
 exact h.ok.row s.toNat (by omega)
theorem CM.edge{m:Mach}(h:CM m){s i:Int}(d:InS m s)(j:0≤i)(k:i<m.inputs):InS m (edI m s i).to∧0≤(edI m s i).out∧(edI m s i).out<m.outputs:=by
 obtain⟨a,b⟩:=d
 have l:((m.rows.getD s.toNat default).length:Int)=m.inputs:=h.ok.row s.toNat (by omega)
 have n:=h.full s.toNat i.toNat (by omega) (by omega)
 rcases h.ok.edge s.toNat i.toNat (by omega) (by omega) with⟨c,_⟩|⟨c,e,f,g⟩
 ·omega
 ·exact⟨⟨c,e⟩,f,g⟩
theorem CM.okr{m:Mach}(h:CM m){s i:Int}(a:InS m s)(b:0≤i)(c:i<m.inputs):okI (ix m.rows s) i:=⟨b,by rw [h.row a];exact c⟩
theorem zj1{m:Mach}{s i:Int}(c:InS m s):l7 m s i=edI m s i:=by
 obtain⟨a,b⟩:=c
 unfold l7;rw [if_neg (by omega)];rfl
theorem WIn.head{n:Nat}{i:Int}{w:List Int}(h:WIn n (i::w)):0≤i∧i<(n:Int):=h i (List.mem_cons_self ..)
theorem WIn.tail{n:Nat}{i:Int}{w:List Int}(h:WIn n (i::w)):WIn n w:=fun j a=>h j (List.mem_cons_of_mem _ a)
theorem WIn.cons{n:Nat}{i:Int}{w:List Int}(b:0≤i)(c:i<(n:Int))(h:WIn n w):WIn n (i::w):=fun j a=>by
 rcases List.mem_cons.1 a with rfl|a
 ·exact⟨b,c⟩
 ·exact h j a
theorem WIn.nil{n:Nat}:WIn n []:=fun j a=>absurd a List.not_mem_nil
theorem CM.wok{m:Mach}(h:CM m){w:List Int}:WIn (nIn m) w↔WOk m.inputs w:=by
 have c:=h.nin
 constructor
 ·intro b k a
  have:=b _ (zea a)
  rw [c] at this;exact this
 ·intro b i hi
  obtain⟨k,a,rfl⟩:=List.mem_iff_getElem.1 hi
  have:=b k a
  rw [List.getD_eq_getElem?_getD,List.getElem?_eq_getElem a] at this
  rw [c];exact this
theorem CM.aft{m:Mach}(h:CM m): ∀ {w:List Int} {s:Int},InS m s→WIn (nIn m) w→InS m (z02 m s w)
 | [],s,a,_=>a
 |i::w,s,a,b=>by
  have:=b.head
  rw [h.nin] at this
  have:=(h.edge a this.1 this.2).1
  unfold z02
  rw [zj1 a]
  exact h.aft this b.tail
def tgt(m:Mach)(s i:Nat):Nat:=(edI m (s:Int) (i:Int)).to.toNat
theorem CM.tgt{m:Mach}(h:CM m){s i:Nat}(c:s<m.rows.length)(hi:i<nIn m):GV.tgt m s i<m.rows.length∧(edI m (s:Int) (i:Int)).to=(GV.tgt m s i:Int):=by
 have d:=h.nin
 obtain⟨⟨a,b⟩,_⟩:=h.edge (s:=(s:Int)) (i:=(i:Int)) ⟨by omega,by omega⟩ (by omega) (by omega)
 unfold GV.tgt
 exact⟨by omega,by omega⟩
def tb(x:Int)(s:Nat):Bool:=x.toNat.testBit s
theorem zc9(k s:Nat):df (k:Int) (s:Int)=((k/2^s:Nat):Int):=by
 show Int.fdiv (k:Int) (2^((s:Int).toNat))=_
 rw [Int.toNat_natCast,Int.fdiv_eq_ediv_of_nonneg _ (by exact_mod_cast Nat.zero_le _)]
 norm_cast
theorem zfn(a b:Nat):z1g (a:Int) (b:Int)=((a&&&b:Nat):Int):=rfl
theorem zrt{x:Int}(a:0≤x)(s:Nat):decide (z1g (df x (s:Int)) 1=1)=tb x s:=by
 obtain⟨k,rfl⟩: ∃ k:Nat,x=(k:Int):=⟨x.toNat,by omega⟩
 rw [zc9,show (1:Int)=((1:Nat):Int) from rfl,zfn,Nat.and_one_is_mod]
 unfold tb
 rw [Int.toNat_natCast,Nat.testBit_eq_decide_div_mod_eq]
 by_cases h:k/2^s%2=1
 ·rw [decide_eq_true h,decide_eq_true (by omega)]
 ·rw [decide_eq_false h,decide_eq_false (by omega)]
theorem zid{x:Int}(a:0≤x∧x≤65535)(s:Nat):0≤df x (s:Int)∧df x (s:Int)≤65535:=by
 obtain⟨k,rfl⟩: ∃ k:Nat,x=(k:Int):=⟨x.toNat,by omega⟩
 rw [zc9]
 have:=Nat.div_le_self k (2^s)
 generalize k/2^s=q at this⊢
 omega
theorem zqa{t:Nat}(h:t<16):1≤2^t∧2^t≤32768:=⟨Nat.one_le_two_pow,by
 have:=Nat.pow_le_pow_right (n:=2) (by decide) (show t≤15 by omega)
 omega⟩
theorem zio{t:Nat}(h:t<16):l9 .u16 1 (t:Int)=((2^t:Nat):Int):=by
 have:=zqa h
 unfold l9
 rw [Int.toNat_natCast,Int.one_mul,show ((2:Int)^t)=((2^t:Nat):Int) by norm_cast]
 exact z7k _ (by omega) (by show ((2^t:Nat):Int)≤65535;omega)
theorem q2w{x:Int}(a:0≤x)(t s:Nat):tb (ior x ((2^t:Nat):Int)) s=(tb x s||decide (s=t)):=by
 unfold tb ior
 rw [Int.toNat_natCast,Int.toNat_natCast,Nat.testBit_or,Nat.testBit_two_pow]
 by_cases h:s=t
 ·subst h;simp
 ·rw [decide_eq_false h,decide_eq_false (fun e=>h e.symm)]
theorem zye{x:Int}{n t:Nat}(b:0≤x)(c:x<((2^n:Nat):Int))(a:t<n):0≤ior x ((2^t:Nat):Int)∧ior x ((2^t:Nat):Int)<((2^n:Nat):Int):=by
 refine⟨Int.natCast_nonneg _,?_⟩
 unfold ior
 rw [Int.toNat_natCast]
 exact Int.ofNat_lt.2 (Nat.or_lt_two_pow (by omega) (Nat.pow_lt_pow_right (by decide) a))
theorem zzd{x y:Int}(a:0≤x)(b:0≤y)(h: ∀ s,tb x s=tb y s):x=y:=by
 have:=Nat.eq_of_testBit_eq h
 omega
theorem zzl{x:Int}{n s:Nat}(b:x<((2^n:Nat):Int))(a:n≤s):tb x s=false:=by
 unfold tb
 by_cases h0:0≤x
 ·exact Nat.testBit_lt_two_pow (Nat.lt_of_lt_of_le (show x.toNat<2^n by omega) (Nat.pow_le_pow_right (by decide) a))
 ·rw [show x.toNat=0 by omega,Nat.zero_testBit]
theorem zu3(s:Nat):tb 0 s=false:=Nat.zero_testBit s
def bmk(p:Nat→Bool):Nat→Int
 |0=>0
 |n+1=>if p n=true then ior (bmk p n) ((2^n:Nat):Int) else bmk p n
theorem z8z(p:Nat→Bool): ∀ n,0≤bmk p n∧bmk p n<((2^n:Nat):Int)
 |0=>⟨Int.le_refl _,by show (0:Int)<((1:Nat):Int);decide⟩
 |n+1=>by
  obtain⟨a,b⟩:=z8z p n
  have c:((2^n:Nat):Int)<((2^(n+1):Nat):Int):=Int.ofNat_lt.2 (Nat.pow_lt_pow_right (by decide) (Nat.lt_succ_self n))
  unfold bmk
  split
  ·exact zye a (by omega) (Nat.lt_succ_self n)
  ·exact⟨a,by omega⟩
theorem zb9(p:Nat→Bool): ∀ n s,tb (bmk p n) s=(decide (s<n)&&p s)
 |0,s=>by rw [show bmk p 0=0 from rfl,zu3];simp
 |n+1,s=>by
  unfold bmk
  by_cases hp:p n=true
  ·rw [if_pos hp,q2w (z8z p n).1,zb9 p n s]
   by_cases h:s=n
   ·subst h;simp [hp]
   ·rw [decide_eq_false h,Bool.or_false]
    by_cases h2:s<n
    ·rw [decide_eq_true h2,decide_eq_true (by omega)]
    ·rw [decide_eq_false h2,decide_eq_false (by omega)]
  ·rw [if_neg hp,zb9 p n s]
   by_cases h:s=n
   ·subst h;simp [hp]
   ·by_cases h2:s<n
    ·rw [decide_eq_true h2,decide_eq_true (by omega)]
    ·rw [decide_eq_false h2,decide_eq_false (by omega)]
theorem zsf{x:Int}{n:Nat}{p:Nat→Bool}(a:0≤x)(b:x<((2^n:Nat):Int))(h: ∀ s,s<n→tb x s=p s):x=bmk p n:=by
 refine zzd a (z8z p n).1 fun s=>?_
 rw [zb9]
 by_cases hs:s<n
 ·rw [h s hs,decide_eq_true hs,Bool.true_and]
 ·rw [zzl b (by omega),decide_eq_false hs,Bool.false_and]
theorem zlr{p q:Nat→Bool}{n:Nat}(h: ∀ s,s<n→p s=q s):bmk p n=bmk q n:=zsf (z8z p n).1 (z8z p n).2 fun s a=>by rw [zb9,decide_eq_true a,Bool.true_and,h s a]
def pcB(x:Int):Nat:=(List.range 16).countP (tb x)
theorem zp0: ∀ k,k<256→strT1.getD k default=((List.range 8).countP (fun s=>k.testBit s):Int):=by
 have h:(List.range 256).all (fun k=>decide (strT1.getD k default=((List.range 8).countP (fun s=>k.testBit s):Int)))=true:=by decide+kernel
 intro k a
 exact of_decide_eq_true (List.all_eq_true.1 h k (List.mem_range.2 a))
theorem zvy(k:Nat):pcB (k:Int)=(List.range 8).countP (fun s=>(k/256).testBit s)+(List.range 8).countP (fun s=>(k%256).testBit s):=by
 have e:List.range 16=List.range 8++(List.range 8).map (· +8):=by decide
 unfold pcB
 rw [e,List.countP_append,List.countP_map,Nat.add_comm]
 congr 1
 ·refine List.countP_congr fun s a=>?_
  show (tb (k:Int) (s+8)=true)↔_
  unfold tb
  rw [Int.toNat_natCast,show (256:Nat)=2^8 from rfl,Nat.testBit_div_two_pow,Nat.add_comm]
 ·refine List.countP_congr fun s a=>?_
  have a:=List.mem_range.1 a
  unfold tb
  rw [Int.toNat_natCast,show (256:Nat)=2^8 from rfl,Nat.testBit_mod_two_pow,decide_eq_true a,Bool.true_and]
theorem zva{N:Nat}{x:Int}(h:0≤x∧x≤65535):aa N x=some (pcB x:Int):=by
 obtain⟨k,rfl⟩: ∃ k:Nat,x=(k:Int):=⟨x.toNat,by omega⟩
 have a:k/256<256:=by omega
 have b:k%256<256:=by omega
 have c:df (k:Int) (8:Int)=((k/256:Nat):Int):=zc9 k 8
 have d:z1g (k:Int) 255=((k%256:Nat):Int):=by
  rw [show (255:Int)=((255:Nat):Int) from rfl,zfn]
  have:=Nat.and_two_pow_sub_one_eq_mod k 8
  rw [show (255:Nat)=2^8-1 from rfl,this]
 have l:strT1.length=256:=by decide
 have e:=List.countP_le_length (p:=fun s=>(k/256).testBit s) (l:=List.range 8)
 have f:=List.countP_le_length (p:=fun s=>(k%256).testBit s) (l:=List.range 8)
 rw [List.length_range] at e f
 have g:=zvy k
 have w:IntKind.u8.wrap (strT1.getD (k/256) default+strT1.getD (k%256) default)=(pcB (k:Int):Int):=by
  rw [zp0 _ a,zp0 _ b,z7k _ (by omega) (by show _≤(255:Int);omega),g];rfl
 unfold aa
 rw [zl ⟨by decide,by decide⟩,c,d,zl (jf (by rw [l];exact a)),zl ⟨⟨by omega,by show (k:Int)≤65535;omega⟩,by decide,by decide⟩,zl (jf (by rw [l];exact b)),su,su,w,zl (j6 (by omega))]
theorem ziw{p:Nat→Bool}: ∀ {l:List Nat},l.Nodup→(1<l.countP p↔ ∃ a b,a∈l∧b∈l∧a≠b∧p a=true∧p b=true)
 | [],_=>by simp
 |c::l,k=>by
  obtain⟨m,n⟩:=List.nodup_cons.1 k
  rw [List.countP_cons]
  by_cases hc:p c=true
  ·rw [if_pos hc]
   constructor
   ·intro h
    obtain⟨a,f,d⟩:=List.countP_pos_iff.1 (show 0<l.countP p by omega)
    exact⟨c,a,List.mem_cons_self ..,List.mem_cons_of_mem _ f,fun e=>m (e▸f),hc,d⟩
   ·rintro⟨a,b,f,g,j,d,i⟩
    have:0<l.countP p:=List.countP_pos_iff.2 (by
     rcases List.mem_cons.1 f with rfl|f
     ·rcases List.mem_cons.1 g with rfl|g
      ·exact absurd rfl j
      ·exact⟨b,g,i⟩
     ·exact⟨a,f,d⟩)
    omega
  ·rw [if_neg hc,Nat.add_zero,ziw n]
   constructor
   ·rintro⟨a,b,f,g,h⟩
    exact⟨a,b,List.mem_cons_of_mem _ f,List.mem_cons_of_mem _ g,h⟩
   ·rintro⟨a,b,f,g,j,d,i⟩
    rcases List.mem_cons.1 f with rfl|f
    ·exact absurd d hc
    ·rcases List.mem_cons.1 g with rfl|g
     ·exact absurd i hc
     ·exact⟨a,b,f,g,j,d,i⟩
theorem zur{x:Int}(f:x<65536):1<pcB x↔ ∃ a b,a≠b∧tb x a=true∧tb x b=true:=by
 unfold pcB
 rw [ziw List.nodup_range]
 have d: ∀ a,tb x a=true→a∈List.range 16:=fun a c=>by
  rw [List.mem_range]
  by_cases h:a<16
  ·exact h
  ·rw [zzl (n:=16) (by omega) (by omega)] at c;cases c
 constructor
 ·rintro⟨a,b,_,_,h⟩;exact⟨a,b,h⟩
 ·rintro⟨a,b,h,c,e⟩;exact⟨a,b,d a c,d b e,h,c,e⟩
def zdk(m:Mach)(x:Int)(i:Nat)(q:Nat→Bool)(k t:Nat):Bool:=(List.range k).any fun s=>(tb x s&&q s)&&decide (tgt m s i=t)
def zgg(m:Mach)(x:Int)(i:Nat)(q:Nat→Bool):Int:=bmk (zdk m x i q m.rows.length) m.rows.length
theorem zm8{m:Mach}{x:Int}{i:Nat}{q:Nat→Bool}{k t:Nat}:zdk m x i q (k+1) t=(zdk m x i q k t||((tb x k&&q k)&&decide (tgt m k i=t))):=by
 unfold zdk;rw [List.range_succ,List.any_append];simp
theorem zy1{m:Mach}{x:Int}{i:Nat}{q:Nat→Bool}{k t:Nat}:zdk m x i q k t=true↔ ∃ s,s<k∧tb x s=true∧q s=true∧tgt m s i=t:=by
 unfold zdk
 rw [List.any_eq_true]
 constructor
 ·rintro⟨s,a,h⟩
  rw [Bool.and_eq_true,Bool.and_eq_true,decide_eq_true_iff] at h
  exact⟨s,List.mem_range.1 a,h.1.1,h.1.2,h.2⟩
 ·rintro⟨s,a,b,c,d⟩
  exact⟨s,List.mem_range.2 a,by rw [b,c,decide_eq_true d];rfl⟩
theorem zy9{m:Mach}(h:CM m){x:Int}{i:Nat}(hi:i<nIn m){q:Nat→Bool}{t:Nat}:tb (zgg m x i q) t=true↔ ∃ s,s<m.rows.length∧tb x s=true∧q s=true∧tgt m s i=t:=by
 unfold zgg
 rw [zb9,Bool.and_eq_true,decide_eq_true_iff,zy1]
 constructor
 ·rintro⟨_,h⟩;exact h
 ·rintro⟨s,a,b,c,rfl⟩;exact⟨(h.tgt a hi).1,s,a,b,c,rfl⟩
theorem q1n(m:Mach)(x:Int)(i:Nat)(q:Nat→Bool):0≤zgg m x i q∧zgg m x i q<((2^m.rows.length:Nat):Int):=z8z _ _
theorem zzw{m:Mach}{x:Int}{i k n:Nat}{q:Nat→Bool}(c:tgt m k i<n)(j:n≤16):(if(tb x k&&q k)=true then ior (bmk (zdk m x i q k) n) (l9 .u16 1 (tgt m k i:Int)) else bmk (zdk m x i q k) n)=bmk (zdk m x i q (k+1)) n:=by
 obtain⟨a,d⟩:=z8z (zdk m x i q k) n
 by_cases hb:(tb x k&&q k)=true
 ·rw [if_pos hb,zio (by omega)]
  obtain⟨f,g⟩:=zye a d c
  refine zsf f g fun s b=>?_
  rw [q2w a,zb9,decide_eq_true b,Bool.true_and,zm8,hb,Bool.true_and]
  congr 1
  by_cases e:s=tgt m k i
  ·rw [decide_eq_true e,decide_eq_true e.symm]
  ·rw [decide_eq_false e,decide_eq_false (fun h=>e h.symm)]
 ·rw [if_neg hb]
  refine zlr fun s b=>?_
  rw [zm8,show (tb x k&&q k)=false by simpa using hb,Bool.false_and,Bool.or_false]
end GV
end Go.Proofs.Ytnnobdkjgafdmaa

namespace Go.Proofs.Ytnnobdkjgafdmaa
namespace GV
set_option maxRecDepth 100000
structure PM (m:Mach):Prop extends CM m where
 prop:properM m=0
 r6:m.rows.length≤6
theorem q6d{m:Mach}(h:properM m=0)(c:m.rows.length≤6):PM m:=by
 obtain⟨a,b,_,_⟩:=zxl h
 exact⟨⟨a,fun s i d hi=>zv9 a b d hi⟩,h,c⟩
theorem PM.pos{m:Mach}(h:PM m):1≤m.rows.length:=h.ok.r1
theorem q4y{x:Sj}(d:CDOk x.fK): ∃ m,lq 5000 x=some m∧PM m∧m.rows.length≤5∧m.inputs≤3:=by
 have h:=d.st
 have hx':CDOk ⟨x.fK.fG%5,x.fK.fC,x.fK.fF,x.fK.fH,x.fK.fJ⟩:=⟨⟨by dsimp only;omega,by dsimp only;omega⟩,d.ins,d.outs,d.tr,d.ed⟩
 obtain⟨c,j,a,k⟩:=q0q (N:=5000) hx' (by decide)
 dsimp only at k
 have b:=a.ok
 have l:=q3x b
 have n:lq 5000 x=some (z9g c):=by
  unfold lq
  rw [zl ⟨by omega,by omega⟩,qg j,qg (q1m b (by decide) a.rows a.ins)]
 have f:=zrv b
 have o:properM (z9g c)=0:=by
  unfold properM
  have e:z6y (z9g c)=true:=zvl b fun s i g hi=>a.full s i g (by have:=b.row s g;omega)
  rw [if_neg (by rw [(z4a _).2 f];simp),e,if_neg (by decide),zxy b,if_neg (by decide),q04 f (q0i b),if_neg (by decide)]
 exact⟨z9g c,n,q6d o (by omega),by omega,a.ins⟩
noncomputable def readyI(m:Mach):Int:=if properM m≠0 then properM m else if 6<m.rows.length then 3 else 0
theorem ready_eq{m:Mach}(a:Small m):z1z 5000 m=some (readyI m):=by
 unfold z1z readyI
 rw [qg (zwm a (by decide))]
 by_cases h:properM m=0
 ·rw [xh (fun e=>e h),if_neg (fun e=>e h)]
  by_cases h6:6<m.rows.length
  ·rw [bq (by omega),if_pos h6]
  ·rw [xh (by omega),if_neg h6]
 ·rw [bq h,if_pos h]
theorem PM.ready{m:Mach}(h:PM m):readyI m=0:=by
 have:=h.r6
 unfold readyI
 rw [if_neg (fun e=>e h.prop),if_neg (by omega)]
theorem PM.ready_eq{m:Mach}(h:PM m):z1z 5000 m=some 0:=by rw [GV.ready_eq h.ok.small,h.ready]
end GV
end Go.Proofs.Ytnnobdkjgafdmaa
