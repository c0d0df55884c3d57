import Derived.Test.YtkkcidhcfkmbjaaGreatDoorPkt
set_option linter.unusedVariables false
set_option linter.unusedSimpArgs false
set_option linter.unusedSectionVars false
namespace Go.Proofs.YtkkcidhcfkmbjaaGreatDoor
namespace GV
set_option maxRecDepth 100000
/-! ### Signatures-/
def sgL(m:Mach)(p:Nat→Nat)(s:Nat):List (Int×Int):=z5d m p s++List.replicate (16-m.inputs.toNat) (0,0)
theorem z4s{m:Mach}{p:Nat→Nat}{s:Nat}:(z5d m p s).length=m.inputs.toNat:=by simp [z5d]
theorem zfx{m:Mach}(a:MOk m){p:Nat→Nat}{s:Nat}:(sgL m p s).length=16:=by
 have:=a.i2
 unfold sgL
 rw [List.length_append,z4s,List.length_replicate];omega
theorem zo4{m:Mach}{p:Nat→Nat}{s i:Nat}(hi:i<m.inputs.toNat):(z5d m p s).getD i default=(ou m s i,if ed m s i= -1 then-1 else(p (ed m s i).toNat:Int)):=by
 simp [z5d,List.getD_eq_getElem?_getD,hi]
structure PR (m:Mach) (p:List Int) (f:Nat→Nat):Prop where
 len:p.length=m.rows.length
 get: ∀ s,s<m.rows.length→p.getD s default=(f s:Int)
theorem ztl{m:Mach}(k:Nat):PR m (pL m k) (pkc m k):=⟨zft k,fun s a=>zj1 a⟩
theorem zgj{α:Type}{X:List α}{n k:Nat}{z y:α}(a:X.length=k)(b:k<n):(X++List.replicate (n-k) z).set k y=(X++[y])++List.replicate (n-(k+1)) z:=zpy a b
theorem zql{N:Nat}{m:Mach}(a:MOk m)(z:200≤N){p:List Int}{f:Nat→Nat}(j:PR m p f){s:Nat}(c:s<m.rows.length): ∃ X:Arr 16 (Int×Int),z1n N m p (s:Int)=some X∧X.1=sgL m f s:=by
 have n:=a.i1;have o:=a.i2;have q:=a.r2
 have hrow:=a.row s c
 obtain⟨X,r,e⟩: ∃ X:Arr 16 (Int×Int),yh N m p (s:Int) N 0 (z3w 16 (List.replicate 16 (((0:Int),(0:Int)):(Int×Int))))=some X∧X.1=sgL m f s:=by
  refine zc2 (σ:=Arr 16 (Int×Int)) (fun F k X=>yh N m p (s:Int) F (k:Int) X) m.inputs.toNat (fun k X=>X.1=(z5d m f s).take k++List.replicate (16-k) (0,0)) _ (fun F k X d hi=> .inr ?_) (fun F X hi=>?_) N 0 _ (Nat.zero_le _) (by omega) (by rw [z7r (by simp)];rfl)
  ·have g:X.1.length=16:=X.2
   have i:((z5d m f s).take k).length=k:=by rw [List.length_take,z4s];omega
   have hset: ∀ y,X.1.set k y=((z5d m f s).take k++[y])++List.replicate (16-(k+1)) (0,0):=fun y=>by rw [hi];exact zgj i (by omega)
   have hnext:(z5d m f s).take (k+1)=(z5d m f s).take k++[(ou m s k,if ed m s k= -1 then-1 else(f (ed m s k).toNat:Int))]:=by
    rw [zk7 _ k (by rw [z4s];exact d),zo4 d]
   have t: ∀ Y:Arr 16 (Int×Int),Y=(if ed m s k= -1 then fu X (k:Int) (ou m s k,-1) else fu (fu X (k:Int) (ou m s k,-1)) (k:Int) (((ix (fu X (k:Int) (ou m s k,-1)).1 (k:Int)).1,(ix p (ed m s k)))))→
    yh N m p (s:Int) (F+1) (k:Int) X=yh N m p (s:Int) F ((k+1:Nat):Int) Y:=fun Y l=>by
    simp only [yh]
    rw [bq (show (k:Int)<((ix m.rows (s:Int)).length:Int) by rw [mf];omega)]
    refine(q8 (x:=Y) ?_).trans (by rw [zg (qj (by omega))];rfl)
    rw [zg (show okI (ix m.rows (s:Int)) (k:Int) from j3 (show k<(m.rows.getD s default).length by omega)),zg (j3 (show k<X.1.length by omega))]
    show (bif decide (ed m s k≠ -1) then _ else _)=_
    by_cases hc:ed m s k= -1
    ·rw [yt (fun h=>h hc),l,if_pos hc];rfl
    ·have b:=(z1e a c d).resolve_left hc
     have A:=j.len
     rw [bq hc,l,if_neg hc]
     refine(zg (show okI p (ed m s k) from⟨b.1,by omega⟩)).trans ?_
     refine(zg (show okI (fu X (k:Int) (ou m s k,-1)).1 (k:Int) from j3 (by rw [(fu X (k:Int) (ou m s k,-1)).2];omega))).trans ?_
     rfl
   refine⟨_,?_,t _ rfl⟩
   by_cases hc:ed m s k= -1
   ·rw [if_pos hc,hnext,if_pos hc]
    exact hset _
   ·have b:=(z1e a c d).resolve_left hc
    rw [if_neg hc,hnext,if_neg hc]
    have u:(fu X (k:Int) (ou m s k,-1)).1=X.1.set k (ou m s k,-1):=rfl
    have v:(ix (fu X (k:Int) (ou m s k,-1)).1 (k:Int)).1=ou m s k:=by
     rw [u,mf]
     simp [List.getD_eq_getElem?_getD,g,show k<16 by omega]
    have w:ix p (ed m s k)=(f (ed m s k).toNat:Int):=j.get _ (by omega)
    rw [v,w]
    show ((X.1.set k (ou m s k,-1)).set k (ou m s k,(f (ed m s k).toNat:Int)))=_
    rw [List.set_set]
    exact hset _
  ·simp only [yh]
   rw [yt (show¬((m.inputs.toNat:Nat):Int)<((ix m.rows (s:Int)).length:Int) by rw [mf];omega)]
   refine⟨X,rfl,?_⟩
   rw [hi,List.take_of_length_le (by rw [z4s];exact Nat.le_refl _)];rfl
 refine⟨X,?_,e⟩
 unfold z1n
 rw [zg (j3 c),q8 r]
/-! ### A round-/
def z8q(m:Mach)(f:Nat→Nat)(s:Nat):Sb:=⟨(f s:Int),z3w 16 (sgL m f s)⟩
theorem zpn{m:Mach}(a:MOk m){f:Nat→Nat}{s t:Nat}:z8q m f s=z8q m f t↔zg2 m f s=zg2 m f t:=by
 unfold z8q zg2
 rw [Sb.mk.injEq,Prod.mk.injEq]
 refine and_congr (by omega) ?_
 constructor
 ·intro h
  have b:=congrArg Subtype.val h
  rw [z7r (zfx a),z7r (zfx a)] at b
  exact(List.append_inj b (by rw [z4s,z4s])).1
 ·intro h
  unfold sgL
  rw [h]
theorem zjm{N:Nat}{m:Mach}(d:MOk m)(o:200≤N){p:List Int}{f:Nat→Nat}(i:PR m p f):l7 N m p=some (zmj (zg2 m f) m.rows.length):=by
 have q:=d.r2;have r:=i.len
 have u:yf N m p N 0 ([]:List (Sb×Int)) (mk (p.length:Int) (0:Int))=some (zmj (z8q m f) m.rows.length):=by
  refine z0w (σ:=List (Sb×Int)×List Int) (fun F k st=>yf N m p F (k:Int) st.1 st.2) m.rows.length
   (fun k st=>st.1=nmM (z8q m f) k∧st.2=(List.range k).map (fun s=>(name (z8q m f) s:Int))++List.replicate (m.rows.length-k) 0) _ (fun F k st j hi=> .inr ?_) (fun F st hi=>?_) N 0 ([],mk (p.length:Int) (0:Int)) (Nat.zero_le _) (by omega) ⟨rfl,by rw [r,zfv];simp⟩
  ·obtain⟨M,X⟩:=st
   obtain⟨e,a⟩:=hi
   dsimp only at e a⊢
   subst e;subst a
   obtain⟨A,v,l⟩:=zql (N:=N) d o i j
   have n:A=z3w 16 (sgL m f k):=Subtype.ext (by rw [l,z7r (zfx d)])
   have hkey:(⟨ix p (k:Int),A⟩:Sb)=z8q m f k:=by unfold z8q;rw [n,mf,i.get k j]
   have c:((List.range k).map (fun s=>(name (z8q m f) s:Int))).length=k:=by simp
   refine⟨(nmM (z8q m f) (k+1),(List.range (k+1)).map (fun s=>(name (z8q m f) s:Int))++List.replicate (m.rows.length-(k+1)) 0),⟨rfl,rfl⟩,?_⟩
   simp only [yf]
   rw [bq (by omega),zg (j3 (by omega)),q8 v,hkey]
   refine(q8 (x:=nmM (z8q m f) (k+1)) ?_).trans ?_
   ·cases h:z1d (nmM (z8q m f) k) (z8q m f k)
    ·exact(ct (b:= !false) rfl).trans (by rw [zqm _ h])
    ·exact(cf (b:= !true) rfl).trans (by rw [zqu _ h])
   ·rw [zg (j3 (by rw [List.length_append,c,List.length_replicate];omega)),zg (qj (by omega)),zkz _ _ (Nat.lt_succ_self k),z1g,zgj c j,z8w]
    rfl
  ·obtain⟨M,X⟩:=st
   obtain⟨e,a⟩:=hi
   dsimp only at e a⊢
   subst a
   simp only [yf]
   rw [yt (by omega),Nat.sub_self,List.replicate_zero,List.append_nil];rfl
 unfold l7
 rw [zg ⟨by omega,by omega,by omega⟩,q8 u,zjt (f:=z8q m f) (g:=zg2 m f) fun s t _ _=>zpn d]
theorem zlk{N:Nat}{a b:List Int}(f:a.length<N)(g:a.length≤4611686018427387904):slices_Equal_int N a b=some (decide (a=b)):=by
 unfold slices_Equal_int
 by_cases h:(a.length:Int)≠b.length
 ·rw [bq h,decide_eq_false (fun e=>h (by rw [e]))]
 ·rw [yt h]
  have hl':a.length=b.length:=by omega
  have c:vg N a b N 0=some (if a=b then Ex.go () else Ex.rt false):=by
   refine z0w (σ:=Unit) (fun F k _=>vg N a b F (k:Int)) a.length (fun k _=> ∀ j,j<k→a.getD j default=b.getD j default) _ (fun F k _ d hi=>?_) (fun F _ hi=>?_) N 0 () (Nat.zero_le _) (by omega) (fun j i=>by omega)
   ·simp only [vg]
    rw [bq (by omega),zg (j3 d),zg (j3 (by omega)),mf,mf]
    by_cases he:a.getD k default=b.getD k default
    ·right
     refine⟨(),zpg hi he,Eq.trans (yt (fun h=>h he)) ?_⟩
     rw [zg (qj (by omega))];rfl
    ·left
     refine Eq.trans (bq he) ?_
     rw [if_neg (fun e=>he (by rw [e]))]
   ·simp only [vg]
    rw [yt (by omega),if_pos (z4p hl' hi)]
  rw [q8 c]
  by_cases he:a=b
  ·rw [if_pos he,decide_eq_true he];rfl
  ·rw [if_neg he,decide_eq_false he];rfl
theorem zb7{N:Nat}{m:Mach}(f:MOk m)(n:200≤N){a:Nat}(b:zac m a)(hmin: ∀ i,i<a→ ¬zac m i)(g:a<m.rows.length): ∀ (d j F:Nat) (l:List Int),j+d=a→d<F→
 xx N ((List Int)×Int) (fun k c=>gd (in64 (c.2+1))<|some (true,(k,c.2+1))) m F (l,(j:Int)-1) (pL m j)=some (pL m a,(a:Int))
 |d,j,0,l,_,p=>by omega
 |d,j,F+1,l,s,p=>by
  have q:=f.r2
  have r:(j:Int)-1+1=j:=by omega
  simp only [xx]
  rw [zg (qj (by omega)),znt,r,ct rfl,q8 (zjm f n (ztl j)),←zr7,q8 (zlk (by rw [zft];omega) (by rw [zft];omega))]
  by_cases h:zac m j
  ·have:j=a:=by
    rcases Nat.lt_or_ge j a with o|o
    ·exact absurd h (hmin j o)
    ·omega
   subst this
   rw [bq ((zi2 j).2 h).symm]
  ·have t:d≠0:=fun e=>by
    have:j=a:=by omega
    rw [this] at h;exact h b
   rw [yt (fun e=>h ((zi2 j).1 e.symm))]
   have:=zb7 f n b hmin g (d-1) (j+1) F (pL m j) (by omega) (by omega)
   rw [show (((j+1:Nat):Int)-1)=(j:Int) by omega] at this
   exact this
theorem zjf{N:Nat}{m:Mach}(a:MOk m)(c:200≤N): ∃ j:Nat,l9 N m=some (zp9 m,(j:Int),0):=by
 have e:=a.r1;have f:=a.r2
 obtain⟨b,g,d,h⟩:=zfd a
 refine⟨b,?_⟩
 have key:=zb7 (N:=N) a c d h g b 0 N [] (by omega) (by omega)
 have i:pL m 0=mk (m.rows.length:Int) (0:Int):=by
  unfold pL
  rw [zfv]
  show (List.range m.rows.length).map (fun _=>((0:Nat):Int))=_
  rw [List.map_const',List.length_range];rfl
 unfold l9
 rw [q8 (zax a c),yt (by simp),q8 (show z1l N m=some m from rfl)]
 refine(q8 (x:=(pL m b,(b:Int))) ?_).trans ?_
 ·unfold z0l
  rw [zg ⟨by omega,by omega,by omega⟩,←i]
  exact key
 ·rw [show zp9 m=pL m b from zr4 a d (by omega)]
/-! ### The reference-/
section ref
variable {N : Nat} {m : Mach}
end ref
end GV
end Go.Proofs.YtkkcidhcfkmbjaaGreatDoor
