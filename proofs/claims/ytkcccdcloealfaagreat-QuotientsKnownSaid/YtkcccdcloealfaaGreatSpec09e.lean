
import Derived.Test.YtkcccdcloealfaaGreatQuo09
import Derived.Test.YtkcccdcloealfaaGreatSpec06k
import Derived.Test.YtkcccdcloealfaaGreatSpec04b
import Derived.Test.YtkcccdcloealfaaGreatLaw04c
import Derived.Test.YtkcccdcloealfaaGreatSpec06l
set_option linter.unusedVariables false
set_option linter.unusedSimpArgs false
namespace Go.Proofs.YtkcccdcloealfaaGreat
namespace GV
set_option maxRecDepth 100000
/-! ### Signatures-/
def sgL(m:Mach)(p:Nat→Nat)(s:Nat):List (Int×Int):=zdh m p s++List.replicate (16-m.inputs.toNat) (0,0)
theorem zca{m:Mach}{p:Nat→Nat}{s:Nat}:(zdh m p s).length=m.inputs.toNat:=by simp [zdh]
theorem zob{m:Mach}(a:MOk m){p:Nat→Nat}{s:Nat}:(sgL m p s).length=16:=by
 have:=a.i2
 unfold sgL
 rw [List.length_append,zca,List.length_replicate];omega
theorem zzq{m:Mach}{p:Nat→Nat}{s i:Nat}(hi:i<m.inputs.toNat):(zdh m p s).getD i default=(ou m s i,if ed m s i= -1 then-1 else(p (ed m s i).toNat:Int)):=by
 simp [zdh,List.getD_eq_getElem?_getD,hi]
structure PR (m:Mach) (p:List Int) (f:Nat→Nat):Prop where
 len:p.length=m.rows.length
 get: ∀ s,s<m.rows.length→p.getD s default=(f s:Int)
theorem q77{m:Mach}(k:Nat):PR m (pL m k) (pkc m k):=⟨zoa k,fun s a=>ztd a⟩
theorem zh7{α:Type}{X:List α}{n k:Nat}{z y:α}(a:X.length=k)(b:k<n):(X++List.replicate (n-k) z).set k y=(X++[y])++List.replicate (n-(k+1)) z:=zor a b
theorem q3v{N:Nat}{m:Mach}(a:MOk m)(v:200≤N){p:List Int}{f:Nat→Nat}(j:PR m p f){s:Nat}(c:s<m.rows.length): ∃ X:Arr 16 (Int×Int),z7y N m p (s:Int)=some X∧X.1=sgL m f s:=by
 have hi1:=a.i1;have hi2:=a.i2;have n:=a.r2
 have hrow:=a.row s c
 obtain⟨X,o,e⟩: ∃ X:Arr 16 (Int×Int),lg N m p (s:Int) N 0 (zbs 16 (List.replicate 16 (((0:Int),(0:Int)):(Int×Int))))=some X∧X.1=sgL m f s:=by
  refine z3c (σ:=Arr 16 (Int×Int)) (fun F k X=>lg N m p (s:Int) F (k:Int) X) m.inputs.toNat (fun k X=>X.1=(zdh m f s).take k++List.replicate (16-k) (0,0)) _ (fun F k X d hi=> .inr ?_) (fun F X hi=>?_) N 0 _ (Nat.zero_le _) (by omega) (by rw [zfh (by simp)];rfl)
  ·have g:X.1.length=16:=X.2
   have i:((zdh m f s).take k).length=k:=by rw [List.length_take,zca];omega
   have hset: ∀ y,X.1.set k y=((zdh m f s).take k++[y])++List.replicate (16-(k+1)) (0,0):=fun y=>by rw [hi];exact zh7 i (by omega)
   have hnext:(zdh m f s).take (k+1)=(zdh m f s).take k++[(ou m s k,if ed m s k= -1 then-1 else(f (ed m s k).toNat:Int))]:=by
    rw [z7d _ k (by rw [zca];exact d),zzq d]
   have q: ∀ Y:Arr 16 (Int×Int),Y=(if ed m s k= -1 then z5h X (k:Int) (ou m s k,-1) else z5h (z5h X (k:Int) (ou m s k,-1)) (k:Int) (((ix (z5h X (k:Int) (ou m s k,-1)).1 (k:Int)).1,(ix p (ed m s k)))))→
    lg N m p (s:Int) (F+1) (k:Int) X=lg N m p (s:Int) F ((k+1:Nat):Int) Y:=fun Y l=>by
    simp only [lg]
    rw [yf (show (k:Int)<((ix m.rows (s:Int)).length:Int) by rw [z0a];omega)]
    refine(zx (x:=Y) ?_).trans (by rw [zk (qy (by omega))];rfl)
    rw [zk (show okI (ix m.rows (s:Int)) (k:Int) from qo (show k<(m.rows.getD s default).length by omega)),zk (qo (show k<X.1.length by omega))]
    show (bif decide (ed m s k≠ -1) then _ else _)=_
    by_cases hc:ed m s k= -1
    ·rw [uw (fun h=>h hc),l,if_pos hc];rfl
    ·have b:=(z4r a c d).resolve_left hc
     have w:=j.len
     rw [yf hc,l,if_neg hc]
     refine(zk (show okI p (ed m s k) from⟨b.1,by omega⟩)).trans ?_
     refine(zk (show okI (z5h X (k:Int) (ou m s k,-1)).1 (k:Int) from qo (by rw [(z5h X (k:Int) (ou m s k,-1)).2];omega))).trans ?_
     rfl
   refine⟨_,?_,q _ rfl⟩
   by_cases hc:ed m s k= -1
   ·rw [if_pos hc,hnext,if_pos hc]
    exact hset _
   ·have b:=(z4r a c d).resolve_left hc
    rw [if_neg hc,hnext,if_neg hc]
    have r:(z5h X (k:Int) (ou m s k,-1)).1=X.1.set k (ou m s k,-1):=rfl
    have t:(ix (z5h X (k:Int) (ou m s k,-1)).1 (k:Int)).1=ou m s k:=by
     rw [r,z0a]
     simp [List.getD_eq_getElem?_getD,g,show k<16 by omega]
    have u:ix p (ed m s k)=(f (ed m s k).toNat:Int):=j.get _ (by omega)
    rw [t,u]
    show ((X.1.set k (ou m s k,-1)).set k (ou m s k,(f (ed m s k).toNat:Int)))=_
    rw [List.set_set]
    exact hset _
  ·simp only [lg]
   rw [uw (show¬((m.inputs.toNat:Nat):Int)<((ix m.rows (s:Int)).length:Int) by rw [z0a];omega)]
   refine⟨X,rfl,?_⟩
   rw [hi,List.take_of_length_le (by rw [zca];exact Nat.le_refl _)];rfl
 refine⟨X,?_,e⟩
 unfold z7y
 rw [zk (qo c),zx o]
/-! ### A round-/
def zgo(m:Mach)(f:Nat→Nat)(s:Nat):Sb:=⟨(f s:Int),zbs 16 (sgL m f s)⟩
theorem q1e{m:Mach}(a:MOk m){f:Nat→Nat}{s t:Nat}:zgo m f s=zgo m f t↔zov m f s=zov m f t:=by
 unfold zgo zov
 rw [Sb.mk.injEq,Prod.mk.injEq]
 refine and_congr (by omega) ?_
 constructor
 ·intro h
  have b:=congrArg Subtype.val h
  rw [zfh (zob a),zfh (zob a)] at b
  exact(List.append_inj b (by rw [zca,zca])).1
 ·intro h
  unfold sgL
  rw [h]
theorem zu1{N:Nat}{m:Mach}(d:MOk m)(o:200≤N){p:List Int}{f:Nat→Nat}(i:PR m p f):z5n N m p=some (zw7 (zov m f) m.rows.length):=by
 have q:=d.r2;have r:=i.len
 have u:l6 N m p N 0 ([]:List (Sb×Int)) (mk (p.length:Int) (0:Int))=some (zw7 (zgo m f) m.rows.length):=by
  refine ui (σ:=List (Sb×Int)×List Int) (fun F k st=>l6 N m p F (k:Int) st.1 st.2) m.rows.length
   (fun k st=>st.1=nmM (zgo m f) k∧st.2=(List.range k).map (fun s=>(name (zgo m f) s:Int))++List.replicate (m.rows.length-k) 0) _ (fun F k st j hi=> .inr ?_) (fun F st hi=>?_) N 0 ([],mk (p.length:Int) (0:Int)) (Nat.zero_le _) (by omega) ⟨rfl,by rw [r,z8x];simp⟩
  ·obtain⟨M,X⟩:=st
   obtain⟨e,a⟩:=hi
   dsimp only at e a⊢
   subst e;subst a
   obtain⟨A,v,l⟩:=q3v (N:=N) d o i j
   have n:A=zbs 16 (sgL m f k):=Subtype.ext (by rw [l,zfh (zob d)])
   have hkey:(⟨ix p (k:Int),A⟩:Sb)=zgo m f k:=by unfold zgo;rw [n,z0a,i.get k j]
   have c:((List.range k).map (fun s=>(name (zgo m f) s:Int))).length=k:=by simp
   refine⟨(nmM (zgo m f) (k+1),(List.range (k+1)).map (fun s=>(name (zgo m f) s:Int))++List.replicate (m.rows.length-(k+1)) 0),⟨rfl,rfl⟩,?_⟩
   simp only [l6]
   rw [yf (by omega),zk (qo (by omega)),zx v,hkey]
   refine(zx (x:=nmM (zgo m f) (k+1)) ?_).trans ?_
   ·cases h:z6e (nmM (zgo m f) k) (zgo m f k)
    ·exact(ct (b:= !false) rfl).trans (by rw [zuv _ h])
    ·exact(cf (b:= !true) rfl).trans (by rw [zuj _ h])
   ·rw [zk (qo (by rw [List.length_append,c,List.length_replicate];omega)),zk (qy (by omega)),zp6 _ _ (Nat.lt_succ_self k),z7h,zh7 c j,z2w]
    rfl
  ·obtain⟨M,X⟩:=st
   obtain⟨e,a⟩:=hi
   dsimp only at e a⊢
   subst a
   simp only [l6]
   rw [uw (by omega),Nat.sub_self,List.replicate_zero,List.append_nil];rfl
 unfold z5n
 rw [zk ⟨by omega,by omega,by omega⟩,zx u,zs9 (f:=zgo m f) (g:=zov m f) fun s t _ _=>q1e d]
theorem zwf{N:Nat}{a b:List Int}(f:a.length<N)(g:a.length≤4611686018427387904):slices_Equal_int N a b=some (decide (a=b)):=by
 unfold slices_Equal_int
 by_cases h:(a.length:Int)≠b.length
 ·rw [yf h,decide_eq_false (fun e=>h (by rw [e]))]
 ·rw [uw h]
  have hl':a.length=b.length:=by omega
  have c:sj N a b N 0=some (if a=b then Ex.go () else Ex.rt false):=by
   refine ui (σ:=Unit) (fun F k _=>sj N a b F (k:Int)) a.length (fun k _=> ∀ j,j<k→a.getD j default=b.getD j default) _ (fun F k _ d hi=>?_) (fun F _ hi=>?_) N 0 () (Nat.zero_le _) (by omega) (fun j i=>by omega)
   ·simp only [sj]
    rw [yf (by omega),zk (qo d),zk (qo (by omega)),z0a,z0a]
    by_cases he:a.getD k default=b.getD k default
    ·right
     refine⟨(),zcj hi he,Eq.trans (uw (fun h=>h he)) ?_⟩
     rw [zk (qy (by omega))];rfl
    ·left
     refine Eq.trans (yf he) ?_
     rw [if_neg (fun e=>he (by rw [e]))]
   ·simp only [sj]
    rw [uw (by omega),if_pos (z0d hl' hi)]
  rw [zx c]
  by_cases he:a=b
  ·rw [if_pos he,decide_eq_true he];rfl
  ·rw [if_neg he,decide_eq_false he];rfl
theorem zje{N:Nat}{m:Mach}(f:MOk m)(n:200≤N){a:Nat}(b:ziu m a)(hmin: ∀ i,i<a→ ¬ziu m i)(g:a<m.rows.length): ∀ (d j F:Nat) (l:List Int),j+d=a→d<F→
 z0i N ((List Int)×Int) (fun k c=>gd (in64 (c.2+1))<|some (true,(k,c.2+1))) m F (l,(j:Int)-1) (pL m j)=some (pL m a,(a:Int))
 |d,j,0,l,_,p=>by omega
 |d,j,F+1,l,s,p=>by
  have q:=f.r2
  have r:(j:Int)-1+1=j:=by omega
  simp only [z0i]
  rw [zk (qy (by omega)),zml,r,ct rfl,zx (zu1 f n (q77 j)),←q2m,zx (zwf (by rw [zoa];omega) (by rw [zoa];omega))]
  by_cases h:ziu m j
  ·have:j=a:=by
    rcases Nat.lt_or_ge j a with o|o
    ·exact absurd h (hmin j o)
    ·omega
   subst this
   rw [yf ((zru j).2 h).symm]
  ·have t:d≠0:=fun e=>by
    have:j=a:=by omega
    rw [this] at h;exact h b
   rw [uw (fun e=>h ((zru j).1 e.symm))]
   have:=zje f n b hmin g (d-1) (j+1) F (pL m j) (by omega) (by omega)
   rw [show (((j+1:Nat):Int)-1)=(j:Int) by omega] at this
   exact this
theorem zka{N:Nat}{m:Mach}(a:MOk m)(c:200≤N): ∃ j:Nat,z4e N m=some (z1k m,(j:Int),0):=by
 have e:=a.r1;have f:=a.r2
 obtain⟨b,g,d,h⟩:=zvr a
 refine⟨b,?_⟩
 have key:=zje (N:=N) a c d h g b 0 N [] (by omega) (by omega)
 have i:pL m 0=mk (m.rows.length:Int) (0:Int):=by
  unfold pL
  rw [z8x]
  show (List.range m.rows.length).map (fun _=>((0:Nat):Int))=_
  rw [List.map_const',List.length_range];rfl
 unfold z4e
 rw [zx (zbw a c),uw (by simp),zx (show z8f N m=some m from rfl)]
 refine(zx (x:=(pL m b,(b:Int))) ?_).trans ?_
 ·unfold z6j
  rw [zk ⟨by omega,by omega,by omega⟩,←i]
  exact key
 ·rw [show z1k m=pL m b from q2r a d (by omega)]
/-! ### The reference-/
def apB(m:Mach)(k s t i:Nat):Bool:=decide (ou m s i≠ou m t i)||(((decide (0≤ed m s i))&&(decide (0≤ed m t i)))&&decide (pkc m k (ed m s i).toNat≠pkc m k (ed m t i).toNat))
def z95(m:Mach)(k s:Nat):List Bool:=(List.range m.rows.length).map fun t=>decide (pkc m k s≠pkc m k t)
def z5x(m:Mach)(k:Nat):List (List Bool):=(List.range m.rows.length).map (z95 m k)
section ref
variable {N : Nat} {m : Mach}
theorem zen(k:Nat):(z5x m k).length=m.rows.length:=by simp [z5x]
theorem zco(k s:Nat):(z95 m k s).length=m.rows.length:=by simp [z95]
theorem zgu{k s:Nat}(a:s<m.rows.length):(z5x m k).getD s default=z95 m k s:=by simp [z5x,List.getD_eq_getElem?_getD,a]
theorem zhz{k s t:Nat}(a:t<m.rows.length):(z95 m k s).getD t default=decide (pkc m k s≠pkc m k t):=by simp [z95,List.getD_eq_getElem?_getD,a]
theorem apart_eq(a:MOk m)(y:200≤N){k s t:Nat}(c:s<m.rows.length)(d:t<m.rows.length):z3d N m (z5x m k) (s:Int) (t:Int)=some (if((List.range m.inputs.toNat).any (apB m k s t))=true then 1 else 0):=by
 have hi1:=a.i1;have hi2:=a.i2
 have q:=a.row s c;have r:=a.row t d
 have u:ym N m (z5x m k) (s:Int) (t:Int) N 0=some (if((List.range m.inputs.toNat).any (apB m k s t))=true then Ex.rt 1 else Ex.go ()):=by
  refine ui (σ:=Unit) (fun F i _=>ym N m (z5x m k) (s:Int) (t:Int) F (i:Int)) m.inputs.toNat (fun i _=> ∀ j,j<i→apB m k s t j=false) _ (fun F i _ hi f=>?_) (fun F _ f=>?_) N 0 () (Nat.zero_le _) (by omega) (fun j g=>by omega)
  ·have v:=z4r a c hi
   have w:=z4r a d hi
   have hbody:(ym N m (z5x m k) (s:Int) (t:Int) (F+1) (i:Int))=bif apB m k s t i then some (Ex.rt 1) else ym N m (z5x m k) (s:Int) (t:Int) F ((i+1:Nat):Int):=by
    simp only [ym]
    rw [yf (by omega),zk (qo c),zk (show okI (ix m.rows (s:Int)) (i:Int) from qo (show i<(m.rows.getD s default).length by omega)),zk (qo d),zk (show okI (ix m.rows (t:Int)) (i:Int) from qo (show i<(m.rows.getD t default).length by omega))]
    have n: ∀ {p:Prop},(0≤ed m s i→0≤ed m t i→p)→(((true&&((decide (ou m s i≠ou m t i))==false))&&(((decide (0≤ed m s i))&&(decide (0≤ed m t i)))==true))=true→p):=fun h e=>by
     simp only [Bool.and_eq_true,beq_iff_eq,decide_eq_true_eq] at e
     exact h e.2.1 e.2.2
    refine(zk (n fun l o=>?_)).trans ?_
    ·exact⟨l,by show ed m s i<_;rw [zen];omega⟩
    refine(zk (n fun l o=>?_)).trans ?_
    ·have e:ix (z5x m k) (ed m s i)=z95 m k (ed m s i).toNat:=zgu (by omega)
     show okI (ix (z5x m k) (ed m s i)) (ed m t i)
     rw [e]
     exact⟨o,by rw [zco];omega⟩
    show (bif (decide (ou m s i≠ou m t i))||(((decide (0≤ed m s i))&&(decide (0≤ed m t i)))&&(ix (ix (z5x m k) (ed m s i)) (ed m t i))) then _ else _)=_
    have b:((decide (ou m s i≠ou m t i))||(((decide (0≤ed m s i))&&(decide (0≤ed m t i)))&&(ix (ix (z5x m k) (ed m s i)) (ed m t i))))=apB m k s t i:=by
     unfold apB
     by_cases l:0≤ed m s i∧0≤ed m t i
     ·have e:ix (z5x m k) (ed m s i)=z95 m k (ed m s i).toNat:=zgu (by omega)
      have x:ix (z95 m k (ed m s i).toNat) (ed m t i)=decide (pkc m k (ed m s i).toNat≠pkc m k (ed m t i).toNat):=zhz (by omega)
      rw [e,x]
     ·have:((decide (0≤ed m s i))&&(decide (0≤ed m t i)))=false:=by
       rw [Bool.and_eq_false_iff,decide_eq_false_iff_not,decide_eq_false_iff_not];omega
      rw [this,Bool.false_and,Bool.false_and]
    rw [b]
    cases apB m k s t i
    ·rw [cf rfl,cf rfl,zk (qy (by omega))];rfl
    ·rw [ct rfl,ct rfl]
   rw [hbody]
   cases b:apB m k s t i
   ·right
    refine⟨(),fun j g=>?_,rfl⟩
    by_cases e:j=i
    ·rw [e];exact b
    ·exact f j (by omega)
   ·left
    rw [ct rfl,if_pos (List.any_eq_true.2 ⟨i,List.mem_range.2 hi,b⟩)]
  ·simp only [ym]
   rw [uw (by omega),if_neg]
   rw [Bool.not_eq_true,List.any_eq_false]
   intro j g
   rw [f j (List.mem_range.1 g)];decide
 unfold z3d
 rw [zx u]
 split<;>rfl
theorem zsu(c:MOk m){k s t:Nat}(e:s<m.rows.length)(f:t<m.rows.length):(decide (pkc m k s≠pkc m k t)||(List.range m.inputs.toNat).any (apB m k s t))=decide (pkc m (k+1) s≠pkc m (k+1) t):=by
 rw [Bool.eq_iff_iff,Bool.or_eq_true,decide_eq_true_eq,decide_eq_true_eq,List.any_eq_true,ne_eq,ne_eq,zkh c e f]
 constructor
 ·rintro(h|⟨i,hi,h⟩) ⟨b,g⟩
  ·exact h b
  ·have hi':=List.mem_range.1 hi
   obtain⟨j,l⟩:=g i hi'
   unfold apB at h
   rw [Bool.or_eq_true,Bool.and_eq_true,Bool.and_eq_true,decide_eq_true_eq,decide_eq_true_eq,decide_eq_true_eq,decide_eq_true_eq] at h
   rcases h with h|⟨⟨n,o⟩,p⟩
   ·exact h j
   ·exact p (l (by omega) (by omega))
 ·intro h
  by_cases b:pkc m k s=pkc m k t
  ·right
   refine Classical.byContradiction fun q=>h ⟨b,fun i hi=>?_⟩
   have a:apB m k s t i≠true:=fun r=>q ⟨i,List.mem_range.2 hi,r⟩
   unfold apB at a
   rw [ne_eq,Bool.or_eq_true,Bool.and_eq_true,Bool.and_eq_true,decide_eq_true_eq,decide_eq_true_eq,decide_eq_true_eq,decide_eq_true_eq] at a
   have u:=z4r c e hi
   have v:=z4r c f hi
   refine⟨Classical.byContradiction fun d=>a (.inl d),fun n o=>Classical.byContradiction fun d=>a (.inr ⟨⟨by omega,by omega⟩,d⟩)⟩
  ·exact .inl b
theorem q05:z5x m 0=List.replicate m.rows.length (List.replicate m.rows.length false):=by
 unfold z5x z95
 show (List.range m.rows.length).map (fun s=>(List.range m.rows.length).map fun t=>decide ((0:Nat)≠0))=_
 rw [show decide ((0:Nat)≠0)=false from rfl,List.map_const',List.map_const',List.length_range]
theorem zt4(d:MOk m)(g:200≤N){k s:Nat}(c:s<m.rows.length){Y:List (List Bool)}(e:Y.length=s):pz N m (z5x m k) (s:Int) N 0 (Y++[mk (m.rows.length:Int) false])=some (Y++[z95 m (k+1) s]):=by
 have h:=d.r2
 refine ui (σ:=List (List Bool)) (fun F t st=>pz N m (z5x m k) (s:Int) F (t:Int) st) m.rows.length (fun t st=>st=Y++[(z95 m (k+1) s).take t++List.replicate (m.rows.length-t) false]) _ (fun F t st a hi=> .inr ?_) (fun F st hi=>?_) N 0 _ (Nat.zero_le _) (by omega) (by rw [z8x];rfl)
 ·subst hi
  have b:((z95 m (k+1) s).take t).length=t:=by rw [List.length_take,zco];omega
  have hget:(Y++[(z95 m (k+1) s).take t++List.replicate (m.rows.length-t) false]).getD s default=(z95 m (k+1) s).take t++List.replicate (m.rows.length-t) false:=by
   rw [List.getD_eq_getElem?_getD,←e,List.getElem?_concat_length];rfl
  have f:((z95 m (k+1) s).take t++List.replicate (m.rows.length-t) false).length=m.rows.length:=by rw [List.length_append,b,List.length_replicate];omega
  refine⟨_,rfl,?_⟩
  simp only [pz]
  rw [yf (by omega),zk (qo (by rw [List.length_append,e];simp)),zk (qo (by rw [zen];exact c))]
  have i:ix (z5x m k) (s:Int)=z95 m k s:=zgu c
  have j:ix (z95 m k s) (t:Int)=decide (pkc m k s≠pkc m k t):=zhz a
  rw [i,zk (qo (by rw [zco];exact a)),j]
  refine(zby (fun _=>apart_eq d g c a)).trans ?_
  have l:ix (Y++[(z95 m (k+1) s).take t++List.replicate (m.rows.length-t) false]) (s:Int)=_:=hget
  rw [l,zk (qo (by rw [f];exact a)),zk (qy (by omega))]
  have hval:(decide (pkc m k s≠pkc m k t)||(decide (((bif (true&&(decide (pkc m k s≠pkc m k t)==false)) then some (if((List.range m.inputs.toNat).any (apB m k s t))=true then(1:Int) else 0) else none).getD default)=1)))=decide (pkc m (k+1) s≠pkc m (k+1) t):=by
   rw [←zsu d c a]
   cases decide (pkc m k s≠pkc m k t)
   ·cases (List.range m.inputs.toNat).any (apB m k s t)<;>rfl
   ·rfl
  rw [hval,z7h,z7h,zh7 b a]
  have hnext:(z95 m (k+1) s).take (t+1)=(z95 m (k+1) s).take t++[decide (pkc m (k+1) s≠pkc m (k+1) t)]:=by
   rw [z7d _ t (by rw [zco];exact a),zhz a]
  rw [hnext]
  have hset: ∀ z,(Y++[(z95 m (k+1) s).take t++List.replicate (m.rows.length-t) false]).set s z=Y++[z]:=fun z=>by
   rw [List.set_append_right _ _ (by omega),e,Nat.sub_self];rfl
  rw [hset]
  rfl
 ·subst hi
  simp only [pz]
  rw [uw (by omega),Nat.sub_self,List.replicate_zero,List.append_nil,List.take_of_length_le (by rw [zco];exact Nat.le_refl _)]
theorem zw3(a:MOk m)(c:200≤N){k:Nat}(h:k≤100):z16 N m (k:Int)=some (z5x m k):=by
 have d:=a.r2
 have e:dw N m N ([]:List (List Bool)) 0=some (z5x m 0):=by
  refine ui (σ:=List (List Bool)) (fun F s st=>dw N m F st (s:Int)) m.rows.length (fun s st=>st=List.replicate s (List.replicate m.rows.length false)) _ (fun F s st b hi=> .inr ?_) (fun F st hi=>?_) N 0 [] (Nat.zero_le _) (by omega) rfl
  ·subst hi
   refine⟨_,rfl,?_⟩
   simp only [dw]
   rw [yf (by omega),zk ⟨by omega,by omega,by omega⟩,zk ⟨by simp;omega,by simp;omega⟩,zk (qy (by omega)),z8x,List.replicate_succ'];rfl
  ·subst hi
   simp only [dw]
   rw [uw (by omega),q05]
 have f:dz N m (k:Int) N (z5x m 0) 0=some (z5x m k):=by
  refine ui (σ:=List (List Bool)) (fun F j st=>dz N m (k:Int) F st (j:Int)) k (fun j st=>st=z5x m j) _ (fun F j st i hi=> .inr ?_) (fun F st hi=>?_) N 0 _ (Nat.zero_le _) (by omega) rfl
  ·subst hi
   refine⟨_,rfl,?_⟩
   have g:pu N m (z5x m j) N ([]:List (List Bool)) 0=some (z5x m (j+1)):=by
    refine ui (σ:=List (List Bool)) (fun F s st=>pu N m (z5x m j) F st (s:Int)) m.rows.length (fun s st=>st=(List.range s).map (z95 m (j+1))) _ (fun F s st b hi=> .inr ?_) (fun F st hi=>?_) N 0 [] (Nat.zero_le _) (by omega) rfl
    ·subst hi
     refine⟨_,rfl,?_⟩
     simp only [pu]
     rw [yf (by omega)]
     refine(zx (x:=(List.range s).map (z95 m (j+1))++[z95 m (j+1) s]) ?_).trans ?_
     ·rw [zk ⟨by omega,by omega,by omega⟩,zk ⟨by simp;omega,by simp;omega⟩]
      exact zt4 a c b (by simp)
     ·rw [zk (qy (by omega)),z2w];rfl
    ·subst hi
     simp only [pu]
     rw [uw (by omega)];rfl
   simp only [dz]
   rw [yf (by omega),zx g,zk (qy (by omega))];rfl
  ·subst hi
   simp only [dz]
   rw [uw (by omega)]
 unfold z16
 rw [zx e,zx f]
theorem zow(r:MOk m)(I:200≤N)(k:Nat):z06 N (z5x m k)=some (pL m k):=by
 have w:=r.r2
 have hname: ∀ s,name (pkc m k) s=pkc m k s:=fun s=>zho
 have o: ∀ s,s<m.rows.length→ ∃ v,wh N (z5x m k) ((List.range s).map fun u=>(pkc m k u:Int)) (s:Int) N (-1) 0=some v∧((v= -1∧z1v (pkc m k) s=true)∨(v=(pkc m k s:Int)∧z1v (pkc m k) s=false)):=fun s i=>by
  refine z3c (σ:=Int) (fun F t v=>wh N (z5x m k) ((List.range s).map fun u=>(pkc m k u:Int)) (s:Int) F v (t:Int)) s (fun t v=>(v= -1∧ ∀ u,u<t→pkc m k u≠pkc m k s)∨(v=(pkc m k s:Int)∧ ∃ u,u<t∧pkc m k u=pkc m k s)) _ (fun F t v z hi=> .inr ?_) (fun F v hi=>?_) N 0 (-1) (Nat.zero_le _) (by omega) (.inl ⟨rfl,fun u j=>by omega⟩)
  ·have A:ix (z5x m k) (s:Int)=z95 m k s:=zgu i
   have B:ix (z95 m k s) (t:Int)=decide (pkc m k s≠pkc m k t):=zhz (by omega)
   have C:ix ((List.range s).map fun u=>(pkc m k u:Int)) (t:Int)=(pkc m k t:Int):=by rw [z0a];simp [List.getD_eq_getElem?_getD,z]
   have D: ∀ y,y=(if pkc m k s=pkc m k t then(pkc m k t:Int) else v)→wh N (z5x m k) ((List.range s).map fun u=>(pkc m k u:Int)) (s:Int) (F+1) v (t:Int)=wh N (z5x m k) ((List.range s).map fun u=>(pkc m k u:Int)) (s:Int) F y ((t+1:Nat):Int):=fun y q=>by
    simp only [wh]
    rw [yf (by omega)]
    refine(zx (x:=y) ?_).trans (by rw [zk (qy (by omega))];rfl)
    rw [zk (qo (by rw [zen];exact i)),A,zk (qo (by rw [zco];omega)),B]
    by_cases a:pkc m k s=pkc m k t
    ·rw [decide_eq_false (fun h=>h a)]
     refine(ct (b:= !false) rfl).trans ?_
     rw [zk (qo (by simp;omega)),C,q,if_pos a]
    ·rw [decide_eq_true a]
     refine(cf (b:= !true) rfl).trans ?_
     rw [q,if_neg a]
   refine⟨_,?_,D _ rfl⟩
   by_cases a:pkc m k s=pkc m k t
   ·rw [if_pos a];exact .inr ⟨by rw [a],t,by omega,a.symm⟩
   ·rw [if_neg a]
    rcases hi with⟨d,f⟩|⟨d,u,j,f⟩
    ·refine .inl ⟨d,fun u j=>?_⟩
     by_cases e:u=t
     ·subst e;exact fun h=>a h.symm
     ·exact f u (by omega)
    ·exact .inr ⟨d,u,by omega,f⟩
  ·simp only [wh]
   rw [uw (by omega)]
   refine⟨v,rfl,?_⟩
   rcases hi with⟨d,f⟩|⟨d,u,j,f⟩
   ·exact .inl ⟨d,oo.2 f⟩
   ·refine .inr ⟨d,?_⟩
    rw [←Bool.not_eq_true,oo]
    exact fun h=>h u j f
 have E:yu N (z5x m k) N ([]:List Int) 0 0=some (pL m k):=by
  refine ui (σ:=List Int×Int) (fun F s st=>yu N (z5x m k) F st.1 st.2 (s:Int)) m.rows.length (fun s st=>st.1=((List.range s).map fun u=>(pkc m k u:Int))∧st.2=(cntF (pkc m k) s:Int)) _ (fun F s st i hi=> .inr ?_) (fun F st hi=>?_) N 0 ([],0) (Nat.zero_le _) (by omega) ⟨rfl,rfl⟩
  ·obtain⟨l,c⟩:=st
   obtain⟨g,a⟩:=hi
   dsimp only at g a⊢
   subst g;subst a
   obtain⟨v,G,p⟩:=o s i
   have H:=z9d (pkc m k) s
   have hstep:cntF (pkc m k) (s+1)=cntF (pkc m k) s+if z1v (pkc m k) s=true then 1 else 0:=rfl
   refine⟨((List.range (s+1)).map fun u=>(pkc m k u:Int),(cntF (pkc m k) (s+1):Int)),⟨rfl,rfl⟩,?_⟩
   simp only [yu]
   rw [yf (by rw [zen];omega),zx G]
   refine(zx (x:=((cntF (pkc m k) (s+1):Int),(pkc m k s:Int))) ?_).trans ?_
   ·rcases p with⟨rfl,n⟩|⟨rfl,n⟩
    ·rw [n,if_pos rfl] at hstep
     rw [yf (by decide),zk (qy (by omega)),hstep,←hname s,zae n];rfl
    ·rw [n,if_neg (by decide)] at hstep
     rw [uw (by omega),hstep];rfl
   ·rw [zk ⟨by simp;omega,by simp;omega⟩,zk (qy (by omega)),z2w];rfl
  ·obtain⟨l,c⟩:=st
   obtain⟨g,a⟩:=hi
   dsimp only at g a⊢
   subst g
   simp only [yu]
   rw [uw (by rw [zen];omega)];rfl
 unfold z06
 rw [zx E]
theorem zbg(a:MOk m)(c:200≤N):o8 N m=some (z1k m):=by
 have d:=a.r2
 unfold o8 z4j
 rw [zx (show (bd (z16 N m (m.rows.length:Int)) fun e=>bd (z06 N e) fun b=>some b)=some (z1k m) from by rw [zx (zw3 a c (by omega)),zx (zow a c _)];rfl)]
end ref
end GV
end Go.Proofs.YtkcccdcloealfaaGreat

namespace Go.Proofs.YtkcccdcloealfaaGreat
namespace GV
set_option maxRecDepth 100000
/-! ### First ones,merged-/
def fcI(m:Mach)(s:Nat):Int:=(cls m s:Int)
theorem zoh{m:Mach}(s t:Nat):fcI m s=fcI m t↔cls m s=cls m t:=by unfold fcI;omega
theorem zz4{m:Mach}{s:Nat}:name (fcI m) s=cls m s:=by
 rw [zb6 (g:=cls m) (n:=s+1) (fun a b _ _=>zoh a b) (Nat.lt_succ_self s),z9p]
theorem zrq{m:Mach}{s:Nat}:z1v (fcI m) s=z1v (cls m) s:=zg3 (n:=s+1) (fun a b _ _=>zoh a b) (Nat.lt_succ_self s)
theorem q3i{m:Mach}{s:Nat}:cntF (fcI m) s=cntF (cls m) s:=zg6 (n:=s) (fun a b _ _=>zoh a b) (Nat.le_refl s)
theorem z6v{m:Mach}:(z1k m).length=m.rows.length:=zoa _
theorem z6t{m:Mach}{s:Nat}(a:s<m.rows.length):(z1k m).getD s default=(cls m s:Int):=ztd a
section
variable {N : Nat} {m : Mach}
theorem zzt(n:MOk m)(u:200≤N):z3f N (z1k m)=some (z09 (z2f (cls m) m.rows.length),z1k m):=by
 have o:=n.r2;have p:=z6v (m:=m)
 have q:nz N (z1k m) N ([]:List Int) 0 ([]:List (Int×Int)) (mk ((z1k m).length:Int) (0:Int))=some (z09 (z2f (cls m) m.rows.length),z1k m):=by
  refine ui (σ:=List Int×List (Int×Int)×List Int) (fun F k st=>nz N (z1k m) F st.1 (k:Int) st.2.1 st.2.2) m.rows.length
   (fun k st=>st.1=z09 (z2f (cls m) k)∧st.2.1=nmM (fcI m) k∧st.2.2=(List.range k).map (fun s=>(cls m s:Int))++List.replicate (m.rows.length-k) 0) _ (fun F k st l hi=> .inr ?_) (fun F st hi=>?_) N 0 ([],[],mk ((z1k m).length:Int) (0:Int)) (Nat.zero_le _) (by omega) ⟨rfl,rfl,by rw [p,z8x];simp⟩
  ·obtain⟨A,M,X⟩:=st
   obtain⟨d,i,f⟩:=hi
   dsimp only at d i f⊢
   subst d;subst i;subst f
   have g:((List.range k).map (fun s=>(cls m s:Int))).length=k:=by simp
   have a:(z09 (z2f (cls m) k)).length=cntF (cls m) k:=by rw [z1y,z4l]
   have hcle:=z9d (cls m) k
   have hkey:ix (z1k m) (k:Int)=fcI m k:=z6t l
   refine⟨(z09 (z2f (cls m) (k+1)),nmM (fcI m) (k+1),(List.range (k+1)).map (fun s=>(cls m s:Int))++List.replicate (m.rows.length-(k+1)) 0),⟨rfl,rfl,rfl⟩,?_⟩
   simp only [nz]
   rw [yf (by omega),zk (qo (by omega)),hkey]
   refine(zx (x:=(z09 (z2f (cls m) (k+1)),nmM (fcI m) (k+1))) ?_).trans ?_
   ·cases h:z6e (nmM (fcI m) k) (fcI m k)
    ·refine(ct (b:= !false) rfl).trans ?_
     have c:z1v (cls m) k=true:=by
      rw [←zrq]
      exact oo.2 fun t j e=>by
       have:=(zd3 (fcI m) (fcI m k) k).2 ⟨t,j,e⟩
       rw [h] at this;cases this
     rw [zk ⟨by rw [a];simp only [List.length_singleton];omega,by rw [a];simp only [List.length_singleton];omega⟩]
     have r:((z09 (z2f (cls m) k)).length:Int)=((nmM (fcI m) k).length:Int):=by rw [a,zpi,q3i]
     rw [r,zuv _ h,zc5,if_pos c]
     unfold z09
     rw [List.map_append];rfl
    ·refine(cf (b:= !true) rfl).trans ?_
     have c: ¬z1v (cls m) k=true:=fun c=>by
      rw [←zrq] at c
      obtain⟨t,j,e⟩:=(zd3 (fcI m) (fcI m k) k).1 h
      exact oo.1 c t j e
     rw [zuj _ h,zc5,if_neg c,List.append_nil]
   ·have hget:z4x (0:Int) (nmM (fcI m) (k+1)) (fcI m k)=(cls m k:Int):=by rw [zp6 _ _ (Nat.lt_succ_self k),zz4]
    rw [zk (qo (by rw [List.length_append,g,List.length_replicate];omega)),zk (qy (by omega)),hget,z7h,zh7 g l,z2w]
    rfl
  ·obtain⟨A,M,X⟩:=st
   obtain⟨d,i,f⟩:=hi
   dsimp only at d i f⊢
   subst d;subst f
   simp only [nz]
   rw [uw (by omega),Nat.sub_self,List.replicate_zero,List.append_nil];rfl
 unfold z3f
 rw [zk ⟨by omega,by omega,by omega⟩,zx q]
def gE(m:Mach)(e:Edge):Edge:=⟨hI (cls m) e.to,e.out⟩
theorem q45(f:MOk m)(o:200≤N){u:Nat}(k:u<m.rows.length)(A:List Int):iw N (A,z1k m) (m.rows.getD u default) N 0 (m.rows.getD u default)=some ((m.rows.getD u default).map (gE m)):=by
 have hi2:=f.i2;have l:=f.r2
 have hrow:=f.row u k
 generalize hR:m.rows.getD u default=R at*
 refine ui (σ:=List Edge) (fun F i st=>iw N (A,z1k m) R F (i:Int) st) R.length (fun i st=>st=(R.take i).map (gE m)++R.drop i) _ (fun F i st hi g=> .inr ?_) (fun F st g=>?_) N 0 R (Nat.zero_le _) (by omega) (by simp)
 ·subst g
  have a:((R.take i).map (gE m)).length=i:=by rw [List.length_map,List.length_take];omega
  have hlen:((R.take i).map (gE m)++R.drop i).length=R.length:=by rw [List.length_append,a,List.length_drop];omega
  have hget:ix ((R.take i).map (gE m)++R.drop i) (i:Int)=R.getD i default:=by
   rw [z0a,z92 R i hi,List.getD_eq_getElem?_getD,List.getElem?_append_right (by omega),a,Nat.sub_self]
   rfl
  have c:=f.edge u i k (by rw [hR];exact hi)
  rw [hR] at c
  have hset: ∀ z,((R.take i).map (gE m)++R.drop i).set i z=((R.take i).map (gE m)++[z])++R.drop (i+1):=fun z=>by
   rw [z92 R i hi,List.set_append_right _ _ (by omega),a,Nat.sub_self];simp
  have hnext:(R.take (i+1)).map (gE m)=(R.take i).map (gE m)++[gE m (R.getD i default)]:=by
   rw [z7d R i hi,List.map_append];rfl
  refine⟨_,rfl,?_⟩
  simp only [iw]
  rw [yf (by omega),hnext]
  refine(zx (x:=((R.take i).map (gE m)++[gE m (R.getD i default)])++R.drop (i+1)) ?_).trans ?_
  ·rw [zk (qo (by rw [hlen];exact hi)),hget]
   rcases c with⟨b,n⟩|⟨b,n,_,_⟩
   ·rw [uw (fun h=>h b),←hset]
    have:gE m (R.getD i default)=R.getD i default:=by
     unfold gE;rw [b,zim]
     generalize R.getD i default=e at*
     cases e;simp only at b;rw [b]
    rw [this]
    refine congrArg some (z0d (by rw [List.length_set]) fun j p=>?_)
    simp only [List.getD_eq_getElem?_getD,List.getElem?_set]
    by_cases e:i=j
    ·subst e
     rw [if_pos rfl,if_pos (by rw [hlen];exact hi),←List.getD_eq_getElem?_getD]
     exact hget
    ·rw [if_neg e]
   ·have d: ¬(R.getD i default).to= -1:=by omega
    rw [yf d,zk ⟨b,by rw [z6v];omega⟩,zk (qo (by rw [hlen];exact hi)),z7h,hset]
    have:ix (z1k m) (R.getD i default).to=hI (cls m) (R.getD i default).to:=by
     unfold hI
     rw [if_neg d]
     exact z6t (by omega)
    rw [this];rfl
  ·rw [zk (qy (by omega))];rfl
 ·subst g
  simp only [iw]
  rw [uw (by omega),List.drop_length,List.take_length,List.append_nil]
theorem merged_eq(b:MOk m)(j:200≤N):z5c N m (z1k m)=some (z1q m,z1k m):=by
 have k:=b.r2;have hi2:=b.i2
 have l:=z9d (cls m) m.rows.length
 have a:(z09 (z2f (cls m) m.rows.length)).length=cntF (cls m) m.rows.length:=by rw [z1y,z4l]
 have n:il N m (z09 (z2f (cls m) m.rows.length),z1k m) N 0 ([]:List (List Edge))=some (z1q m).rows:=by
  refine ui (σ:=List (List Edge)) (fun F c st=>il N m (z09 (z2f (cls m) m.rows.length),z1k m) F (c:Int) st) (cntF (cls m) m.rows.length)
   (fun c st=>st=((z2f (cls m) m.rows.length).take c).map fun u=>(m.rows.getD u default).map (gE m)) _ (fun F c st f g=> .inr ?_) (fun F st g=>?_) N 0 [] (Nat.zero_le _) (by omega) rfl
  ·subst g
   obtain⟨h,p,q⟩:=z6f f
   have d:c<(z2f (cls m) m.rows.length).length:=by rw [z4l];exact f
   have o:ix (z09 (z2f (cls m) m.rows.length)) (c:Int)=(((z2f (cls m) m.rows.length).getD c 0:Nat):Int):=z7k d
   have hrow:=b.row _ h
   refine⟨_,rfl,?_⟩
   simp only [il]
   have i:ix m.rows (((z2f (cls m) m.rows.length).getD c 0:Nat):Int)=m.rows.getD ((z2f (cls m) m.rows.length).getD c 0) default:=rfl
   rw [yf (by rw [a];omega),zk (qo (by rw [a];exact f)),o,zk (qo h),i]
   refine(zx (x:=m.rows.getD ((z2f (cls m) m.rows.length).getD c 0) default) ?_).trans ?_
   ·unfold z2r
    rw [zk ⟨by simp only [List.length_nil];omega,by simp only [List.length_nil];omega⟩,List.nil_append]
   refine(zx (q45 b j h _)).trans ?_
   refine(zx (x:=(m.rows.getD ((z2f (cls m) m.rows.length).getD c 0) default).map (gE m)) ?_).trans ?_
   ·unfold z4h
    rw [zk (zog _),zoi]
   have e:(((z2f (cls m) m.rows.length).take c).map fun u=>(m.rows.getD u default).map (gE m)).length=c:=by rw [List.length_map,List.length_take];omega
   rw [zk ⟨by rw [e];simp only [List.length_singleton];omega,by rw [e];simp only [List.length_singleton];omega⟩,zk (qy (by omega))]
   have:(z2f (cls m) m.rows.length).take (c+1)=(z2f (cls m) m.rows.length).take c++[(z2f (cls m) m.rows.length).getD c 0]:=z7d _ c d
   rw [this,List.map_append];rfl
  ·subst g
   simp only [il]
   rw [uw (by rw [a];omega),List.take_of_length_le (by rw [z4l];exact Nat.le_refl _)];rfl
 unfold z5c
 rw [zx (zzt b j),zx n]
 rfl
/-! ### The map-/
def z0r(m:Mach):List Nat:=z3s (rch (z1q m) 0)
def z9x(m:Mach)(s:Nat):Int:=if occ (rch m 0) s=true then(((z0r m).idxOf (cls m s):Nat):Int) else-1
def z7t(m:Mach):List Int:=(List.range m.rows.length).map (z9x m)
theorem zc7:(z7t m).length=m.rows.length:=by simp [z7t]
theorem z8c{s:Nat}(a:s<m.rows.length):(z7t m).getD s default=z9x m s:=ae _ a
theorem q6x(a:MOk m):rch (z1q m) 0=zct (cls m) (rch m 0):=by
 have:=q52 (zf8 a) (s0:=0) (by have:=a.r1;omega)
 rwa [ze2] at this
theorem q3r(a:MOk m):Rch (z1q m) 0 (rch (z1q m) 0):=z7g (z8u a)
theorem zha(a:MOk m){s:Nat}(h:occ (rch m 0) s=true):cls m s∈z0r m:=by
 obtain⟨j,e,rfl⟩:=z1m.1 h
 unfold z0r
 rw [q6x a,zf0]
 obtain⟨f,b,g⟩:=z4q (z3g (cls m) (rch m 0)) j
 obtain⟨c,d⟩:=zk0 (h:=cls m) (P:=rch m 0) (u:=z7v (z3g (cls m) (rch m 0)) j) (by omega) (z7z _ _)
 exact⟨_,by rw [zr3];exact c,by rw [d];exact b⟩
theorem zys(b:MOk m){c:Nat}(d:c∈z0r m):q3g (rch (z1q m) 0) (rch (l7 m) 0) c=(((z0r m).idxOf c:Nat):Int):=by
 have f:=z8u b
 have e:=q3r b
 obtain⟨g,h⟩:=zep e
 have hren:=zpr f (z2v e) g
 rw [h] at hren
 have hmin:l7 m=z13 (z1q m) (z3s (rch (z1q m) 0)):=rfl
 have hocc:occ (rch (z1q m) 0) c=true:=z1m.2 (zf0.1 d)
 unfold q3g
 rw [if_pos hocc,hmin,hren]
 obtain⟨i,j⟩:=z88 d
 have a:(z0r m).idxOf c<(rch (z1q m) 0).length:=by rw [←z6x];exact i
 show ((((rch (z1q m) 0).map (ren (z3s (rch (z1q m) 0)))).getD ((z0r m).idxOf c) default).st:Int)=_
 rw [getD_map a]
 show (((z0r m).idxOf (((rch (z1q m) 0).getD ((z0r m).idxOf c) default).st):Nat):Int)=_
 rw [←z9s _ a]
 show (((z0r m).idxOf ((z0r m).getD ((z0r m).idxOf c) 0):Nat):Int)=_
 rw [j]
theorem q2h{n:Nat}{g:Nat→Int}{A:List Nat}{k:Nat}(c:k<A.length)(a:A.getD k 0<n):((List.range n).map fun s=>if s∈A.take k then g s else-1).set (A.getD k 0) (g (A.getD k 0))=(List.range n).map fun s=>if s∈A.take (k+1) then g s else-1:=by
 refine z0d (by simp) fun s b=>?_
 rw [List.length_set,List.length_map,List.length_range] at b
 have d:A.take (k+1)=A.take k++[A.getD k 0]:=z7d A k c
 rw [ae _ b,List.getD_eq_getElem?_getD,List.getElem?_set,d]
 by_cases e:A.getD k 0=s
 ·rw [if_pos e,if_pos (by simpa using a),if_pos (List.mem_append.2 (.inr (List.mem_singleton.2 e.symm))),e];rfl
 ·rw [if_neg e,←List.getD_eq_getElem?_getD,ae _ b]
  by_cases h:s∈A.take k
  ·rw [if_pos h,if_pos (List.mem_append.2 (.inl h))]
  ·rw [if_neg h,if_neg (fun h'=>by rcases List.mem_append.1 h' with h'|h';exact h h';exact e (List.mem_singleton.1 h').symm)]
theorem zph(a:MOk m)(c:200≤N):z3u N m=some (l7 m,z7t m,0):=by
 have l:=a.r1;have q:=a.r2
 have n:=z8u a
 obtain⟨j,r⟩:=zka (N:=N) a c
 have t:=z7g a
 have hreach:z7p N m=some (z09 ((List.range m.rows.length).filter fun s=>occ (rch m 0) s),0):=by
  rw [q10 a c,q17 t];rfl
 generalize hA:(List.range m.rows.length).filter (fun s=>occ (rch m 0) s)=A at hreach
 have o: ∀ k,k<A.length→A.getD k 0<m.rows.length∧occ (rch m 0) (A.getD k 0)=true:=fun k d=>by
  have hmem:A.getD k 0∈A:=by simp [List.getD_eq_getElem?_getD,d]
  have hmem':A.getD k 0∈(List.range m.rows.length).filter (fun s=>occ (rch m 0) s):=by rw [hA];exact hmem
  rw [List.mem_filter,List.mem_range] at hmem'
  exact hmem'
 have u:A.length≤m.rows.length:=by
  rw [←hA];exact Nat.le_trans (List.length_filter_le _ _) (by simp)
 have hiso:z3m N (z1q m) (l7 m)=some (zmd (z1q m).rows.length (rch (z1q m) 0) (rch (l7 m) 0),true,0):=by
  rw [q6a n (zav a) c,if_pos (show z8n (z1q m)=z8n (l7 m) from(zwk n).symm)]
 have v:z03 N (z1q m,z1k m) (zmd (z1q m).rows.length (rch (z1q m) 0) (rch (l7 m) 0),true,0) (z09 A,0) N 0 (List.replicate m.rows.length (-1))=some (z7t m):=by
  refine ui (σ:=List Int) (fun F k st=>z03 N (z1q m,z1k m) (zmd (z1q m).rows.length (rch (z1q m) 0) (rch (l7 m) 0),true,0) (z09 A,0) F (k:Int) st) A.length
   (fun k st=>st=(List.range m.rows.length).map fun s=>if s∈A.take k then(((z0r m).idxOf (cls m s):Nat):Int) else-1) _ (fun F k st d b=> .inr ?_) (fun F st b=>?_) N 0 _ (Nat.zero_le _) (by omega) ?_
  ·subst b
   obtain⟨f,w⟩:=o k d
   have p:=zha a w
   have i:=zcx (m:=m) f
   have x:ix (z09 A) (k:Int)=((A.getD k 0:Nat):Int):=z7k d
   have y:ix (z1k m) ((A.getD k 0:Nat):Int)=((cls m (A.getD k 0):Nat):Int):=z6t f
   have hi:ix (zmd (z1q m).rows.length (rch (z1q m) 0) (rch (l7 m) 0)) ((cls m (A.getD k 0):Nat):Int)=(((z0r m).idxOf (cls m (A.getD k 0)):Nat):Int):=by
    rw [z0a,q0q (by rw [zd2];exact i),zys a p]
   refine⟨_,rfl,?_⟩
   simp only [z03]
   rw [yf (by rw [z1y];omega),zk (qo (by rw [z1y];exact d)),x,zk (qo (by rw [z6v];exact f)),y,zk (qo (by rw [zzp,zd2];exact i)),hi,zk (qo (by simpa using f)),zk (qy (by omega)),z7h,q2h (g:=fun s=>(((z0r m).idxOf (cls m s):Nat):Int)) d f]
   rfl
  ·subst b
   simp only [z03]
   rw [uw (by rw [z1y];omega),List.take_length]
   refine congrArg some (List.map_congr_left fun s e=>?_)
   have hs':=List.mem_range.1 e
   unfold z9x
   by_cases h:occ (rch m 0) s=true
   ·rw [if_pos h,if_pos (by rw [←hA,List.mem_filter];exact⟨e,h⟩)]
   ·rw [if_neg h,if_neg (by rw [←hA,List.mem_filter];exact fun h'=>h h'.2)]
  ·refine z0d (by simp) fun s e=>?_
   rw [List.length_replicate] at e
   rw [ae _ e]
   simp [List.getD_eq_getElem?_getD,e]
 unfold z3u
 rw [zx r,uw (by simp),zx (merged_eq a c)]
 refine(zx (show z4g N (z1q m)=some (l7 m,0) from q0c n c)).trans ?_
 rw [uw (by simp)]
 refine(zx hiso).trans ?_
 rw [uw (by simp),zx (zn9 c l (by omega)),zx hreach]
 refine(zx v).trans ?_
 rw [zx zp8]
theorem zam(a:MOk m)(b:200≤N):wz N m=some (l7 m,0):=by
 unfold wz
 rw [zx (zph a b)]
theorem q2f(a:MOk m)(b:200≤N):z1a N m=some (z7t m,0):=by
 unfold z1a
 rw [zx (zph a b)]
end
end GV
end Go.Proofs.YtkcccdcloealfaaGreat

namespace Go.Proofs.YtkcccdcloealfaaGreat
namespace GV
set_option maxRecDepth 100000
theorem zik{m:Mach}(d:MOk m){t:Nat}:Reach m 0 t↔occ (rch m 0) t=true:=by
 have a:=z7g d
 constructor
 ·intro h
  induction h with
  |refl=>exact z1m.2 ⟨0,a.pos,by rw [a.root]⟩
  |step s o u v ih=>
   rename_i t i
   obtain⟨q,g,rfl⟩:=z1m.1 ih
   have k:=d.row _ o
   have e:ed m ((rch m 0).getD q default).st i≠ -1:=by show ((m.rows.getD ((rch m 0).getD q default).st default).getD i default).to≠ -1;omega
   obtain⟨j,c,p,_⟩:=a.cls q i g (by omega) e
   refine z1m.2 ⟨j,c,?_⟩
   have:ed m ((rch m 0).getD q default).st i=((m.rows.getD ((rch m 0).getD q default).st default).getD i default).to:=rfl
   omega
 ·intro h
  obtain⟨j,c,rfl⟩:=z1m.1 h
  clear h
  have key: ∀ n j,j≤n→j<(rch m 0).length→Reach m 0 ((rch m 0).getD j default).st:=by
   intro n
   induction n with
   |zero=>
    intro j c b
    obtain rfl:j=0:=by omega
    rw [a.root];exact .refl
   |succ n ih=>
    intro j c b
    by_cases h0:j=0
    ·exact ih j (by omega) b
    ·obtain⟨q,i,g,hi,_,_,_,f⟩:=a.par j (by omega) b
     have k:=ih q (by omega) (by omega)
     have r:=d.row _ (a.rng q (by omega))
     have l:((m.rows.getD ((rch m 0).getD q default).st default).getD i default).to=(((rch m 0).getD j default).st:Int):=f
     have:=Reach.step (i:=i) k (a.rng q (by omega)) (by omega) (by rw [l];omega)
     rw [l,Int.toNat_natCast] at this
     exact this
  exact key j j (Nat.le_refl _) c
theorem zt5{m:Mach}(b:MOk m):reachL m 0=z0l m.rows.length (rch m 0):=by
 refine z0d (by rw [z9a,z2o]) fun k a=>?_
 rw [z9a] at a
 rw [Bool.eq_iff_iff,z8y a,z7r a]
 exact zik b
/-! ### First ones-/
def fsS(m:Mach):List Nat:=(z2f (z3g (cls m) (rch m 0)) (rch m 0).length).map fun j=>((rch m 0).getD j default).st
section
variable {N : Nat} {m : Mach}
theorem zp9:(fsS m).length=cntF (z3g (cls m) (rch m 0)) (rch m 0).length:=by unfold fsS;rw [List.length_map,z4l]
theorem zp1(a:MOk m):z0r m=(fsS m).map (cls m):=by
 unfold z0r fsS z3s
 rw [q6x a,List.map_map]
 unfold zct
 rw [List.map_map]
 rfl
theorem z6u(a:MOk m):(z0r m).length=(fsS m).length:=by rw [zp1 a,List.length_map]
theorem ze8(a:MOk m){c:Nat}(b:c<(fsS m).length):(z0r m).getD c 0=cls m ((fsS m).getD c 0):=by
 rw [zp1 a]
 simp [List.getD_eq_getElem?_getD,b]
theorem zfa(b:MOk m){c:Nat}(d:c<(fsS m).length):(fsS m).getD c 0<m.rows.length∧occ (rch m 0) ((fsS m).getD c 0)=true:=by
 have e:=z7g b
 have hc':=d
 rw [zp9] at hc'
 obtain⟨a,_,_⟩:=z6f hc'
 have f:(fsS m).getD c 0=((rch m 0).getD ((z2f (z3g (cls m) (rch m 0)) (rch m 0).length).getD c 0) default).st:=by
  unfold fsS
  have g:c<(z2f (z3g (cls m) (rch m 0)) (rch m 0).length).length:=by rw [z4l];exact hc'
  simp [List.getD_eq_getElem?_getD,g]
 rw [f]
 exact⟨e.rng _ a,z1m.2 ⟨_,a,rfl⟩⟩
theorem zu0(a:MOk m):(fsS m).length≤m.rows.length:=by
 rw [zp9];exact Nat.le_trans (z9d _ _) (z7g a).le
theorem zbf(a:MOk m):(z0r m).Nodup:=zny (q3r a)
theorem zlv(d:MOk m)(q:400≤N)(r:m.rows.length≤6)(s:m.inputs≤3):z10 N m=some (z09 (fsS m)):=by
 have f:=z7g d
 have u:=d.r2
 have v:=f.le
 have g:(z1k m).length=m.rows.length:=z6v
 have w:=zed (rch m 0)
 have key: ∀ j,j<(rch m 0).length→ix (z1k m) (ix (z0m (rch m 0)) (j:Int))=(z3g (cls m) (rch m 0) j:Int):=fun j a=>by
  rw [zel a];exact z6t (f.rng j a)
 have c: ∀ j,j<(rch m 0).length→okI (z1k m) (ix (z0m (rch m 0)) (j:Int)):=fun j a=>by
  rw [zel a];exact qo (by rw [g];exact f.rng j a)
 have i: ∀ j,j<(rch m 0).length→di N (z1k m) (z0m (rch m 0)) (j:Int) N 0 0=some (if z1v (z3g (cls m) (rch m 0)) j=true then 0 else 1):=fun j a=>by
  refine ui (σ:=Int) (fun F k st=>di N (z1k m) (z0m (rch m 0)) (j:Int) F st (k:Int)) j
   (fun k st=>st=if ∀ t,t<k→z3g (cls m) (rch m 0) t≠z3g (cls m) (rch m 0) j then 0 else 1) _ (fun F k st l b=> .inr ?_) (fun F st b=>?_) N 0 0 (Nat.zero_le _) (by omega) ?_
  ·subst b
   refine⟨_,rfl,?_⟩
   simp only [di]
   rw [yf (by omega)]
   refine(zx (x:=if ∀ t,t<k+1→z3g (cls m) (rch m 0) t≠z3g (cls m) (rch m 0) j then(0:Int) else 1) ?_).trans ?_
   ·rw [zk (qo (by omega)),zk (c k (by omega)),zk (qo (by omega)),zk (c j a),key k (by omega),key j a]
    by_cases e:z3g (cls m) (rch m 0) k=z3g (cls m) (rch m 0) j
    ·rw [yf (by omega),if_neg (fun h=>h k (by omega) e)]
    ·rw [uw (by omega)]
     by_cases h: ∀ t,t<k→z3g (cls m) (rch m 0) t≠z3g (cls m) (rch m 0) j
     ·rw [if_pos h,if_pos]
      intro t p
      by_cases ht':t=k
      ·subst ht';exact e
      ·exact h t (by omega)
     ·rw [if_neg h,if_neg]
      exact fun h'=>h fun t p=>h' t (by omega)
   ·rw [zk (qy (by omega))];rfl
  ·subst b
   simp only [di]
   rw [uw (by omega)]
   by_cases h:z1v (z3g (cls m) (rch m 0)) j=true
   ·rw [if_pos h,if_pos (oo.1 h)]
   ·rw [if_neg h,if_neg fun h'=>h (oo.2 h')]
  ·rw [if_pos (fun t p=>by omega)]
 have n:pg N (z1k m) (z0m (rch m 0)) N [] 0=some (z09 (fsS m)):=by
  refine ui (σ:=List Int) (fun F k st=>pg N (z1k m) (z0m (rch m 0)) F st (k:Int)) (rch m 0).length
   (fun k st=>st=z09 ((z2f (z3g (cls m) (rch m 0)) k).map fun j=>((rch m 0).getD j default).st)) _ (fun F k st l b=> .inr ?_) (fun F st b=>?_) N 0 [] (Nat.zero_le _) (by omega) rfl
  ·subst b
   refine⟨_,rfl,?_⟩
   simp only [pg]
   rw [yf (by omega)]
   have o:=z9d (z3g (cls m) (rch m 0)) k
   refine(zx (x:=z09 ((z2f (z3g (cls m) (rch m 0)) (k+1)).map fun j=>((rch m 0).getD j default).st)) ?_).trans ?_
   ·rw [zx (i k l),zc5]
    by_cases h:z1v (z3g (cls m) (rch m 0)) k=true
    ·have y:(z09 ((z2f (z3g (cls m) (rch m 0)) k).map fun j=>((rch m 0).getD j default).st)).length≤k:=by
      rw [z1y,List.length_map,z4l];exact o
     rw [if_pos h,if_pos h,yf rfl,zk (qo (by omega)),zk ⟨by simp only [List.length_singleton];omega,by simp only [List.length_singleton];omega⟩,zel l]
     unfold z09
     rw [List.map_append,List.map_append];rfl
    ·rw [if_neg h,if_neg h,uw (by decide),List.append_nil]
   ·rw [zk (qy (by omega))];rfl
  ·subst b
   simp only [pg]
   rw [uw (by omega)];rfl
 unfold z10
 rw [zx (zbg d (by omega)),zx (zwp d q r s),zx n]
theorem zux(b:MOk m)(t:400≤N)(u:m.rows.length≤6)(v:m.inputs≤3):z1d N m=some (z7t m):=by
 have w:=b.r1
 have y:=zu0 b
 have c:(z1k m).length=m.rows.length:=z6v
 have z:(z09 (fsS m)).length=(fsS m).length:=z1y _
 have j: ∀ s,s<m.rows.length→ak N (z1k m) (z09 (fsS m)) (z0l m.rows.length (rch m 0)) (s:Int) N (-1) 0=some (z9x m s):=fun s i=>by
  refine ui (σ:=Int) (fun F k st=>ak N (z1k m) (z09 (fsS m)) (z0l m.rows.length (rch m 0)) (s:Int) F st (k:Int)) (fsS m).length
   (fun k st=>st=if occ (rch m 0) s=true∧cls m s∈(z0r m).take k then(((z0r m).idxOf (cls m s):Nat):Int) else-1) _ (fun F k st f d=> .inr ?_) (fun F st d=>?_) N 0 (-1) (Nat.zero_le _) (by omega) ?_
  ·subst d
   obtain⟨f1,C⟩:=zfa b f
   have g:k<(z0r m).length:=by rw [z6u b];exact f
   have hget:=ze8 b f
   have l:ix (z0l m.rows.length (rch m 0)) (s:Int)=occ (rch m 0) s:=z7r i
   have A:ix (z09 (fsS m)) (k:Int)=(((fsS m).getD k 0:Nat):Int):=z7k f
   have n:ix (z1k m) (((fsS m).getD k 0:Nat):Int)=((cls m ((fsS m).getD k 0):Nat):Int):=z6t f1
   have o:ix (z1k m) (s:Int)=((cls m s:Nat):Int):=z6t i
   have B:(z0r m).take (k+1)=(z0r m).take k++[cls m ((fsS m).getD k 0)]:=by rw [←hget];exact z7d _ k g
   refine⟨_,rfl,?_⟩
   simp only [ak]
   rw [yf (by omega)]
   refine(zx (x:=if occ (rch m 0) s=true∧cls m s∈(z0r m).take (k+1) then(((z0r m).idxOf (cls m s):Nat):Int) else-1) ?_).trans ?_
   ·rw [zk (qo (by rw [z2o];exact i)),zk (fun _=>qo (by omega)),A,zk (fun _=>qo (by rw [c];exact f1)),zk (fun _=>qo (by rw [c];exact i)),l,n,o,B]
    cases ho:occ (rch m 0) s
    ·rw [cf (by rw [Bool.false_and]),if_neg (fun h=>by cases h.1),if_neg (fun h=>by cases h.1)]
    ·by_cases e:cls m ((fsS m).getD k 0)=cls m s
     ·have hi:(z0r m).idxOf (cls m s)=k:=by rw [←e,←hget];exact z5f (zbf b) g
      rw [ct (by rw [e];simp),if_pos ⟨rfl,List.mem_append.2 (.inr (by rw [e];exact List.mem_singleton.2 rfl))⟩,hi]
     ·rw [cf (by rw [Bool.true_and];exact decide_eq_false (by omega))]
      by_cases h:cls m s∈(z0r m).take k
      ·rw [if_pos ⟨rfl,h⟩,if_pos ⟨rfl,List.mem_append.2 (.inl h)⟩]
      ·rw [if_neg (fun h'=>h h'.2),if_neg (fun h'=>by
        rcases List.mem_append.1 h'.2 with p|p
        ·exact h p
        ·exact e (List.mem_singleton.1 p).symm)]
   ·rw [zk (qy (by omega))];rfl
  ·subst d
   simp only [ak]
   rw [uw (by omega),←z6u b,List.take_length]
   unfold z9x
   by_cases h:occ (rch m 0) s=true
   ·rw [if_pos h,if_pos ⟨h,zha b h⟩]
   ·rw [if_neg h,if_neg (fun h'=>h h'.1)]
  ·rw [if_neg (fun h=>by simp at h)]
 have q:ah N (z1k m) (z09 (fsS m)) (z0l m.rows.length (rch m 0)) N [] 0=some (z7t m):=by
  refine ui (σ:=List Int) (fun F k st=>ah N (z1k m) (z09 (fsS m)) (z0l m.rows.length (rch m 0)) F st (k:Int)) m.rows.length
   (fun k st=>st=(List.range k).map (z9x m)) _ (fun F k st f d=> .inr ?_) (fun F st d=>?_) N 0 [] (Nat.zero_le _) (by omega) rfl
  ·subst d
   refine⟨_,rfl,?_⟩
   simp only [ah]
   have r:((List.range k).map (z9x m)).length=k:=by simp
   rw [yf (by rw [c];omega),zx (j k f),zk ⟨by rw [r];simp only [List.length_singleton];omega,by rw [r];simp only [List.length_singleton];omega⟩,zk (qy (by omega)),z2w]
   rfl
  ·subst d
   simp only [ah]
   rw [uw (by rw [c];omega)];rfl
 unfold z1d
 rw [zx (zbg b (by omega)),zx (zlv b t u v)]
 refine(zx (show ig N m 0=some (reachL m 0) from zkz b (by omega) (a:=0) (by omega))).trans ?_
 rw [zt5 b,zx q]
theorem q61(b:MOk m){s i:Nat}(h:occ (rch m 0) s=true)(hi:i<m.inputs.toNat)(a:ed m s i≠ -1):occ (rch m 0) (ed m s i).toNat=true:=by
 have c:=z7g b
 obtain⟨q,d,rfl⟩:=z1m.1 h
 obtain⟨j,e,f,_⟩:=c.cls q i d hi a
 exact z1m.2 ⟨j,e,by omega⟩
theorem zxh(a:MOk m):(l7 m).rows=(List.range (fsS m).length).map fun c=>(List.range m.inputs.toNat).map fun i=>(⟨if 0≤ed m ((fsS m).getD c 0) i then z9x m (ed m ((fsS m).getD c 0) i).toNat else ed m ((fsS m).getD c 0) i,ou m ((fsS m).getD c 0) i⟩:Edge):=by
 have k:=z8u a
 show (z0r m).map (rowP (z1q m) (z0r m))=_
 refine z0d (by simp [z6u a]) fun c e=>?_
 rw [List.length_map,z6u a] at e
 obtain⟨f1,l⟩:=zfa a e
 have g:=ze8 a e
 have b:=zcx (m:=m) f1
 obtain⟨n,o⟩:=zps a f1
 have f:(rowP (z1q m) (z0r m) (cls m ((fsS m).getD c 0))).length=m.inputs.toNat:=zb3 k (by rw [zd2];exact b)
 have p:((z0r m).map (rowP (z1q m) (z0r m))).getD c default=rowP (z1q m) (z0r m) (cls m ((fsS m).getD c 0)):=by
  rw [←g]
  have:c<(z0r m).length:=by rw [z6u a];exact e
  simp [List.getD_eq_getElem?_getD,this]
 rw [p,ae _ e]
 refine z0d (by rw [f];simp) fun i hi=>?_
 rw [f] at hi
 rw [ae _ hi,z9u k (by rw [zd2];exact b) hi]
 obtain⟨q,r⟩:=zom a b hi
 obtain⟨s,j,t⟩:=zkg a n f1 o hi
 have q2':(((z1q m).rows.getD (cls m ((fsS m).getD c 0)) default).getD i default).out=ou m ((fsS m).getD c 0) i:=r.trans s
 rw [q2',q]
 congr 1
 rcases z4r a f1 hi with h|⟨u,w⟩
 ·rw [j.2 h,zim,h,if_neg (by decide)];rfl
 ·have d:ed m ((fsS m).getD c 0) i≠ -1:=by omega
  have v:=q61 a l hi d
  rw [if_pos u]
  unfold z9x
  rw [if_pos v]
  unfold hI
  rw [if_neg (fun h=>d (j.1 h)),t (fun h=>d (j.1 h)),z6k]
theorem zpg(a:MOk m)(o:400≤N)(p:m.rows.length≤6)(q:m.inputs≤3):o9 N m=some (l7 m):=by
 have s:=a.r1;have hi1:=a.i1
 have t:=zu0 a
 have u:(z09 (fsS m)).length=(fsS m).length:=z1y _
 have d:=zc7 (m:=m)
 have e: ∀ c,c<(fsS m).length→gq N m (z09 (fsS m)) (z7t m) (c:Int) N [] 0=some ((List.range m.inputs.toNat).map fun i=>(⟨if 0≤ed m ((fsS m).getD c 0) i then z9x m (ed m ((fsS m).getD c 0) i).toNat else ed m ((fsS m).getD c 0) i,ou m ((fsS m).getD c 0) i⟩:Edge)):=fun c r=>by
  obtain⟨f1,y⟩:=zfa a r
  have hrow:=a.row _ f1
  have v:ix (z09 (fsS m)) (c:Int)=(((fsS m).getD c 0:Nat):Int):=z7k r
  refine ui (σ:=List Edge) (fun F k st=>gq N m (z09 (fsS m)) (z7t m) (c:Int) F st (k:Int)) m.inputs.toNat
   (fun k st=>st=(List.range k).map fun i=>(⟨if 0≤ed m ((fsS m).getD c 0) i then z9x m (ed m ((fsS m).getD c 0) i).toNat else ed m ((fsS m).getD c 0) i,ou m ((fsS m).getD c 0) i⟩:Edge)) _ (fun F k st f b=> .inr ?_) (fun F st b=>?_) N 0 [] (Nat.zero_le _) (by omega) rfl
  ·subst b
   refine⟨_,rfl,?_⟩
   simp only [gq]
   have g:ix m.rows (((fsS m).getD c 0:Nat):Int)=m.rows.getD ((fsS m).getD c 0) default:=rfl
   have j:ix (m.rows.getD ((fsS m).getD c 0) default) (k:Int)=⟨ed m ((fsS m).getD c 0) k,ou m ((fsS m).getD c 0) k⟩:=rfl
   rw [yf (by omega),zk (qo (by omega)),v,zk (qo f1),g,zk (qo (by omega)),j]
   refine(zx (x:=if 0≤ed m ((fsS m).getD c 0) k then z9x m (ed m ((fsS m).getD c 0) k).toNat else ed m ((fsS m).getD c 0) k) ?_).trans ?_
   ·rcases z4r a f1 f with h|⟨l,w⟩
    ·rw [uw (by dsimp only;omega),if_neg (by omega)]
    ·rw [yf l,zk ⟨l,by dsimp only;rw [d];exact w⟩,if_pos l]
     exact congrArg some (z8c (show (ed m ((fsS m).getD c 0) k).toNat<m.rows.length by omega))
   ·rw [zk ⟨by simp;omega,by simp;omega⟩,zk (qy (by omega)),z2w];rfl
  ·subst b
   simp only [gq]
   rw [uw (by omega)]
 have n:bf N m (z09 (fsS m)) (z7t m) N 0 []=some (l7 m).rows:=by
  rw [zxh a]
  refine ui (σ:=List (List Edge)) (fun F k st=>bf N m (z09 (fsS m)) (z7t m) F (k:Int) st) (fsS m).length
   (fun k st=>st=(List.range k).map fun c=>(List.range m.inputs.toNat).map fun i=>(⟨if 0≤ed m ((fsS m).getD c 0) i then z9x m (ed m ((fsS m).getD c 0) i).toNat else ed m ((fsS m).getD c 0) i,ou m ((fsS m).getD c 0) i⟩:Edge)) _ (fun F k st f b=> .inr ?_) (fun F st b=>?_) N 0 [] (Nat.zero_le _) (by omega) rfl
  ·subst b
   refine⟨_,rfl,?_⟩
   simp only [bf]
   rw [yf (by omega),zx (e k f),zk ⟨by simp;omega,by simp;omega⟩,zk (qy (by omega)),z2w];rfl
  ·subst b
   simp only [bf]
   rw [uw (by omega)]
 unfold o9
 rw [zx (zlv a o p q),zx (zux a o p q),zx n]
 rfl
end
end GV
end Go.Proofs.YtkcccdcloealfaaGreat

namespace Go.Proofs.YtkcccdcloealfaaGreat
namespace GV
set_option maxRecDepth 100000
theorem zyy{m:Mach}(a:MOk m):zoe m=z8z m:=by
 have b:z0z m=0:=(z2y m).2 a
 have hmul:=a.mul
 have c:=znk a m.rows.length (Nat.le_refl _)
 have d:(zo6 m).length=(z90 m (m.rows.length*m.inputs.toNat)).length:=rfl
 have e:zvy m=zcq m m.rows.length:=rfl
 unfold zoe z8z
 rw [if_neg (by rw [b];simp),hmul.2]
 by_cases h:(zo6 m).length=0
 ·rw [decide_eq_true (by omega),decide_eq_true (by omega)]
 ·rw [decide_eq_false (by omega),decide_eq_false (by omega)]
theorem ztq{m:Mach}(a:MOk m)(h: ∀ s i,s<m.rows.length→i<m.inputs.toNat→0≤ed m s i):z8z m=true:=by
 have b:=a.i1
 have e: ∀ k,k≤m.rows.length→zcq m k=k*m.inputs.toNat:=by
  intro k
  induction k with
  |zero=>intro _;simp [zcq]
  |succ k ih=>
   intro c
   have hrow:=a.row k (by omega)
   rw [zcs m k (by omega),ih (by omega),zle (fun i hi=>h k i (by omega) (by omega)) _ (Nat.le_refl _),Nat.succ_mul]
   omega
 unfold z8z zvy
 rw [e _ (Nat.le_refl _),a.mul.2]
 exact decide_eq_true rfl
theorem z8w{κ:Type}[DecidableEq κ]{f:Nat→κ}: ∀ {n:Nat},cntF f n=n↔ ∀ u,u<n→z1v f u=true
 |0=>⟨fun _ u b=>by omega,fun _=>rfl⟩
 |n+1=>by
  have ih:=z8w (f:=f) (n:=n)
  have c:=z9d f n
  have a:cntF f (n+1)=cntF f n+if z1v f n=true then 1 else 0:=rfl
  by_cases h:z1v f n=true
  ·rw [if_pos h] at a
   rw [a]
   constructor
   ·intro e u b
    by_cases e':u=n
    ·subst e';exact h
    ·exact ih.1 (by omega) u (by omega)
   ·intro e
    have:=ih.2 fun u b=>e u (by omega)
    omega
  ·rw [if_neg h] at a
   rw [a]
   exact⟨fun e=>by omega,fun e=>absurd (e n (by omega)) h⟩
theorem zuz{m:Mach}{k:Nat}(d:1≤k):max ((cntF (cls m) k:Int)-1) (cls m k:Int)=(cntF (cls m) (k+1):Int)-1:=by
 have b:cntF (cls m) (k+1)=cntF (cls m) k+if z1v (cls m) k=true then 1 else 0:=rfl
 have c:=z9p (m:=m) k
 by_cases h:z1v (cls m) k=true
 ·rw [if_pos h] at b
  rw [zae h] at c
  omega
 ·rw [if_neg h] at b
  have f:=z4q (cls m) k
  have a:=z7z (cls m) k
  have g:z7v (cls m) k≠k:=fun e=>h (by rw [e] at a;exact a)
  have i:=za9 (cls m) (show z7v (cls m) k<k by omega) a
  have j:cntF (cls m) (z7v (cls m) k)=cls m k:=c
  omega
def zhw(m:Mach):Bool:=decide (cntF (cls m) m.rows.length=m.rows.length)
noncomputable def minB(m:Mach):Bool:=connB m&&zhw m
noncomputable def properM(m:Mach):Int:=if z0z m≠0 then z0z m else if z8z m=false then 9 else if connB m=false then 11 else if zhw m=false then 12 else 0
section
variable {N : Nat} {m : Mach}
theorem zuu(f:Nat→Nat):cntF f 1=1:=by
 have:z1v f 0=true:=oo.2 fun t a=>by omega
 show 0+(if z1v f 0=true then 1 else 0)=1
 rw [if_pos this]
theorem q53(c:MOk m)(l:200≤N):slices_Max_int N (z1k m)=some ((cntF (cls m) m.rows.length:Int)-1):=by
 have e:(z1k m).length=m.rows.length:=z6v
 have a:=c.r1;have f:=c.r2
 have g:ix (z1k m) 0=(cntF (cls m) 1:Int)-1:=by
  have:ix (z1k m) 0=((cls m 0:Nat):Int):=z6t (s:=0) (by omega)
  rw [this,ze2,zuu];rfl
 have h:z04 N (z1k m) N ((cntF (cls m) 1:Int)-1) 1=some ((cntF (cls m) m.rows.length:Int)-1):=by
  refine ui (σ:=Int) (fun F k st=>z04 N (z1k m) F st (k:Int)) m.rows.length (fun k st=>1≤k∧st=(cntF (cls m) k:Int)-1) _ (fun F k st i b=> .inr ?_) (fun F st b=>?_) N 1 _ a (by omega) ⟨Nat.le_refl _,rfl⟩
  ·obtain⟨d,rfl⟩:=b
   refine⟨_,⟨by omega,rfl⟩,?_⟩
   simp only [z04]
   have j:ix (z1k m) (k:Int)=((cls m k:Nat):Int):=z6t i
   rw [yf (by omega),zk (qo (by omega)),zk (qy (by omega)),j,zuz d]
   rfl
  ·obtain⟨d,rfl⟩:=b
   simp only [z04]
   rw [uw (by omega)]
 unfold slices_Max_int
 rw [uw (by omega),zk ⟨by omega,by omega⟩,g,zx h]
theorem zmp(a:MOk m)(b:200≤N):z2s N m=some (zhw m):=by
 have c:(z1k m).length=m.rows.length:=z6v
 have d:=a.r2
 obtain⟨j,e⟩:=zka (N:=N) a b
 unfold z2s
 rw [zx e,zx (q53 a b),zk (qy (by dsimp only;omega))]
 unfold zhw
 by_cases h:cntF (cls m) m.rows.length=m.rows.length
 ·rw [decide_eq_true h,decide_eq_true (by dsimp only;omega)]
 ·rw [decide_eq_false h,decide_eq_false (by dsimp only;omega)]
theorem zns(a:MOk m)(b:200≤N):z2m N m=some (connB m):=by
 unfold z2m
 rw [zx (zpa a.small b),(z2y m).2 a];rfl
theorem zx3(a:MOk m)(b:200≤N):z4s N m=some (z8z m):=by
 unfold z4s
 rw [zx (zqz a.small b),zyy a]
theorem zlm(a:MOk m)(b:200≤N):xy N m=some (minB m,0):=by
 unfold xy
 rw [zx (zbw a b),uw (by simp)]
 refine(zml (x:=(m,m,m))).trans ?_
 refine(zx (zns a b)).trans ?_
 refine(zby (fun _=>zmp a b)).trans ?_
 unfold minB
 cases connB m<;>rfl
theorem zce(c:Small m)(a:200≤N):yx N m=some (properM m):=by
 unfold yx properM
 rw [zx (zcc c a)]
 by_cases h:z0z m≠0
 ·rw [yf h,if_pos h]
 ·rw [uw h,if_neg h]
  have b:=(z2y m).1 (by omega)
  refine(zml (x:=(m,m,m))).trans ?_
  refine(zx (zx3 b a)).trans ?_
  cases z8z m
  ·rfl
  refine(cf rfl).trans ?_
  refine(zx (zns b a)).trans ?_
  cases connB m
  ·rfl
  refine(cf rfl).trans ?_
  refine(zx (zmp b a)).trans ?_
  cases zhw m<;>rfl
theorem zgi(a:Small m)(b:200≤N):mg N m=some (properM m):=by
 unfold mg properM
 rw [zx (zy7 a b)]
 by_cases h:z0z m≠0
 ·rw [yf h,if_pos h]
 ·rw [uw h,if_neg h]
  have c:=(z2y m).1 (by omega)
  have j:=c.r2
  have k:(z1k m).length=m.rows.length:=z6v
  refine(zx (zpp c b)).trans ?_
  cases z8z m
  ·rfl
  refine(cf rfl).trans ?_
  refine(zx (zkj c b)).trans ?_
  cases connB m
  ·rfl
  refine(cf rfl).trans ?_
  refine(zx (zbg c b)).trans ?_
  have hget: ∀ s,s<m.rows.length→ix (z1k m) (s:Int)=((cls m s:Nat):Int):=fun s a=>z6t a
  have f: ∀ s,s<m.rows.length→p8 N (z1k m) (s:Int) N 0=some (if z1v (cls m) s=true then Ex.go () else Ex.rt (Ex.rt 12)):=fun s a=>by
   refine ui (σ:=Unit) (fun F t _=>p8 N (z1k m) (s:Int) F (t:Int)) s (fun t _=> ∀ u,u<t→cls m u≠cls m s) _ (fun F t _ d hi=>?_) (fun F _ hi=>?_) N 0 () (Nat.zero_le _) (by omega) (fun u g=>by omega)
   ·simp only [p8]
    rw [yf (by omega),zk (qo (by omega)),zk (qo (by omega)),hget s a,hget t (by omega)]
    by_cases e:cls m s=cls m t
    ·left
     rw [yf (by omega),if_neg (fun l=>oo.1 l t d e.symm)]
    ·right
     refine⟨(),fun u g=>?_,?_⟩
     ·by_cases e':u=t
      ·subst e';exact fun h=>e h.symm
      ·exact hi u (by omega)
     ·rw [uw (by omega),zk (qy (by omega))];rfl
   ·simp only [p8]
    rw [uw (by omega),if_pos (oo.2 hi)]
  have i:pq N (z1k m) N 0=some (if zhw m=true then Ex.go () else Ex.rt 12):=by
   refine ui (σ:=Unit) (fun F t _=>pq N (z1k m) F (t:Int)) m.rows.length (fun t _=> ∀ u,u<t→z1v (cls m) u=true) _ (fun F t _ d hi=>?_) (fun F _ hi=>?_) N 0 () (Nat.zero_le _) (by omega) (fun u g=>by omega)
   ·simp only [pq]
    rw [yf (by omega),zx (f t d)]
    by_cases e:z1v (cls m) t=true
    ·right
     refine⟨(),fun u g=>?_,?_⟩
     ·by_cases e':u=t
      ·subst e';exact e
      ·exact hi u (by omega)
     ·rw [if_pos e,zir,zk (qy (by omega))];rfl
    ·left
     have:zhw m=false:=decide_eq_false fun h=>e (z8w.1 h t d)
     rw [if_neg e,this];rfl
   ·simp only [pq]
    have:zhw m=true:=decide_eq_true (z8w.2 hi)
    rw [uw (by omega),if_pos this]
  refine(zx i).trans ?_
  cases zhw m<;>rfl
end
/-! ### Homomorphisms-/
def zsm(a b:Mach)(f:List Int)(s i:Nat):Bool:=decide ((if ed a s i= -1 then-1 else f.getD (ed a s i).toNat default)=ed b (f.getD s default).toNat i∧ou a s i=ou b (f.getD s default).toNat i)
def zm6(a b:Mach)(f:List Int)(s:Nat):Bool:=(List.range a.inputs.toNat).all (zsm a b f s)
def zhm(a b:Mach)(f:List Int):Bool:=decide (f.getD 0 default=0)&&(List.range a.rows.length).all (zm6 a b f)
theorem zgv(p:Nat→Bool)(k:Nat):(List.range (k+1)).all p=((List.range k).all p&&p k):=by
 rw [List.range_succ,List.all_append];simp
section
variable {N : Nat} {a b : Mach} {f : List Int}
structure HOk (a b:Mach) (f:List Int):Prop where
 ha:MOk a
 hb:MOk b
 hi:a.inputs=b.inputs
 hl:f.length=a.rows.length
 hr: ∀ k,k<f.length→0≤f.getD k default∧f.getD k default<b.rows.length
theorem q59(h:HOk a b f)(r:200≤N){s:Nat}(n:s<a.rows.length)(z:Bool):bi N a b f (s:Int) N z 0=some (z&&zm6 a b f s):=by
 have hrow:=h.ha.row s n
 have hi2:=h.ha.i2
 have t:=h.hl;have hi:=h.hi
 have c:=h.hr s (by omega)
 have o:=h.hb.row (f.getD s default).toNat (by omega)
 have d:ix a.rows (s:Int)=a.rows.getD s default:=rfl
 have g:ix f (s:Int)=f.getD s default:=rfl
 refine ui (σ:=Bool) (fun F k st=>bi N a b f (s:Int) F st (k:Int)) a.inputs.toNat (fun k st=>st=(z&&(List.range k).all (zsm a b f s))) _ (fun F k st p i=> .inr ?_) (fun F st i=>?_) N 0 z (Nat.zero_le _) (by omega) (by simp)
 ·subst i
  refine⟨_,rfl,?_⟩
  simp only [bi]
  have j:ix b.rows (f.getD s default)=b.rows.getD (f.getD s default).toNat default:=rfl
  have l:ix (a.rows.getD s default) (k:Int)=⟨ed a s k,ou a s k⟩:=rfl
  have m:ix (b.rows.getD (f.getD s default).toNat default) (k:Int)=⟨ed b (f.getD s default).toNat k,ou b (f.getD s default).toNat k⟩:=rfl
  rw [d,yf (by omega),zk (qo (by omega)),l]
  refine(zx (x:=if ed a s k= -1 then-1 else f.getD (ed a s k).toNat default) ?_).trans ?_
  ·rcases z4r h.ha n p with e|⟨q,u⟩
   ·rw [uw (fun h=>h e),if_pos e];exact congrArg some e
   ·rw [yf (show ed a s k≠ -1 by omega),zk ⟨q,by show ed a s k<(f.length:Int);omega⟩,if_neg (by omega)];rfl
  ·rw [zk (fun _=>qo (by omega)),g,zk (fun _=>⟨c.1,c.2⟩),j,zk (fun _=>qo (by omega)),m,zk (qy (by omega)),zgv,←Bool.and_assoc]
   rfl
 ·subst i
  simp only [bi]
  rw [d,uw (by omega)];rfl
theorem zsp(h:HOk a b f)(d:200≤N):uj N a b f=some (zhm a b f,0):=by
 have m:=h.hl
 have i:=h.ha.r1;have j:=h.ha.r2
 have l:gy N a b f N (decide (ix f 0=0)) 0=some (zhm a b f):=by
  refine ui (σ:=Bool) (fun F k st=>gy N a b f F st (k:Int)) a.rows.length (fun k st=>st=(decide (f.getD 0 default=0)&&(List.range k).all (zm6 a b f))) _ (fun F k st c g=> .inr ?_) (fun F st g=>?_) N 0 _ (Nat.zero_le _) (by omega) (by simp [ix])
  ·subst g
   refine⟨_,rfl,?_⟩
   simp only [gy]
   rw [yf (by omega)]
   refine(zx ((zk (qo c)).trans (q59 h d c _))).trans ?_
   rw [zk (qy (by omega)),zgv,←Bool.and_assoc];rfl
  ·subst g
   simp only [gy]
   rw [uw (by omega)];rfl
 have hany:f.any (fun t=>decide (t<0)||decide ((b.rows.length:Int)≤t))=false:=(ze0 _ _).2 fun k c=>by
  have:=h.hr k c
  rw [decide_eq_false (by omega),decide_eq_false (by omega)];rfl
 unfold uj
 rw [zx (zbw h.ha d),zx (zbw h.hb d),zx (zkd d 0),uw (by simp),uw (fun e=>e h.hi),uw (by omega),zx (znh (p:=fun t=>decide (t<0)||decide ((b.rows.length:Int)≤t)) (fun k c=>rfl) (by omega) (by omega)),cf hany,zk ⟨by omega,by omega⟩,zx l]
theorem zvo(d:MOk a)(g:MOk b)(c:200≤N)(j:f.length≤100){e:Int}(h:e=if a.inputs≠b.inputs then 5 else if f.length≠a.rows.length then 16 else if f.any (fun t=>decide (t<0)||decide ((b.rows.length:Int)≤t))=true then 1 else 0)(i:e≠0):uj N a b f=some (false,e):=by
 unfold uj
 rw [zx (zbw d c),zx (zbw g c),zx (zkd c 0),uw (by simp)]
 by_cases h1:a.inputs≠b.inputs
 ·rw [if_pos h1] at h;rw [yf h1,h]
 rw [if_neg h1] at h
 rw [uw h1]
 by_cases h2:f.length≠a.rows.length
 ·rw [if_pos h2] at h;rw [yf (by omega),h]
 rw [if_neg h2] at h
 rw [uw (by omega),zx (znh (p:=fun t=>decide (t<0)||decide ((b.rows.length:Int)≤t)) (fun k l=>rfl) (by omega) (by omega))]
 by_cases h3:f.any (fun t=>decide (t<0)||decide ((b.rows.length:Int)≤t))=true
 ·rw [if_pos h3] at h;rw [ct h3,h]
 ·rw [if_neg h3] at h;exact absurd h i
theorem zk8(h:HOk a b f){s i:Nat}(g:s<a.rows.length)(hi:i<a.inputs.toNat):zsm a b f s i=true↔ou a s i=ou b (f.getD s default).toNat i∧(0≤ed a s i→f.getD (ed a s i).toNat default=ed b (f.getD s default).toNat i):=by
 have o:=h.hl;have j:=h.hi
 have k:=h.hr s (by omega)
 have l:=(ze7 h.ha g hi).1
 have m:=(ze7 h.hb (s:=(f.getD s default).toNat) (i:=i) (by omega) (by omega)).1
 unfold zsm
 rw [decide_eq_true_iff]
 constructor
 ·rintro⟨c,d⟩
  refine⟨d,fun p=>?_⟩
  rw [if_neg (by omega)] at c;exact c
 ·rintro⟨c,d⟩
  refine⟨?_,c⟩
  rcases z4r h.ha g hi with e|⟨n,_⟩
  ·rw [if_pos e];exact(m.2 (by rw [←c];exact l.1 e)).symm
  ·rw [if_neg (by omega)];exact d n
theorem q06(h:HOk a b f){s i:Nat}(g:s<a.rows.length)(hi:i<a.inputs.toNat):(decide (ou a s i≠ou b (f.getD s default).toNat i)||(decide (0≤ed a s i)&&decide (f.getD (ed a s i).toNat default≠ed b (f.getD s default).toNat i)))= !zsm a b f s i:=by
 rw [Bool.eq_iff_iff,Bool.not_eq_true',←Bool.not_eq_true,zk8 h g hi,Bool.or_eq_true,Bool.and_eq_true,decide_eq_true_iff,decide_eq_true_iff,decide_eq_true_iff]
 constructor
 ·rintro(c|⟨c,d⟩) ⟨j,l⟩
  ·exact c j
  ·exact d (l c)
 ·intro k
  by_cases c:ou a s i=ou b (f.getD s default).toNat i
  ·right
   by_cases d:0≤ed a s i
   ·exact⟨d,fun e=>k ⟨c,fun _=>e⟩⟩
   ·exact absurd ⟨c,fun e=>absurd e d⟩ k
  ·exact .inl c
theorem q2n(h:HOk a b f)(C:200≤N):z0g N a b f=some (if zhm a b f=true then 1 else 0):=by
 have D:=h.hl;have x:=h.hi
 have y:=h.ha.r1;have z:=h.ha.r2;have hi2:=h.ha.i2
 have j: ∀ s,s<a.rows.length→vw N a b f (s:Int) N 0=some (if zm6 a b f s=true then Ex.go () else Ex.rt (Ex.rt 0)):=fun s i=>by
  have hrow:=h.ha.row s i
  have g:=h.hr s (by omega)
  have A:=h.hb.row (f.getD s default).toNat (by omega)
  have l:ix a.rows (s:Int)=a.rows.getD s default:=rfl
  have m:ix f (s:Int)=f.getD s default:=rfl
  have n:ix b.rows (f.getD s default)=b.rows.getD (f.getD s default).toNat default:=rfl
  refine ui (σ:=Unit) (fun F k _=>vw N a b f (s:Int) F (k:Int)) a.inputs.toNat (fun k _=>(List.range k).all (zsm a b f s)=true) _ (fun F k _ d c=>?_) (fun F _ c=>?_) N 0 () (Nat.zero_le _) (by omega) rfl
  ·simp only [vw]
   have o:ix (a.rows.getD s default) (k:Int)=⟨ed a s k,ou a s k⟩:=rfl
   have p:ix (b.rows.getD (f.getD s default).toNat default) (k:Int)=⟨ed b (f.getD s default).toNat k,ou b (f.getD s default).toNat k⟩:=rfl
   have hnot:=q06 h i d
   rw [yf (by omega),zk (qo i),l,zk (qo (by omega)),zk (qo (by omega)),m,zk ⟨g.1,g.2⟩,n,zk (qo (by omega)),o,p]
   have r: ∀ {q:Bool},((q&&(decide (0≤ed a s k)==true))=true→okI f (ed a s k)):=fun {q} c=>by
    have E:0≤ed a s k:=by
     rw [Bool.and_eq_true] at c
     exact of_decide_eq_true (by simpa using c.2)
    rcases z4r h.ha i d with e|⟨B,G⟩
    ·omega
    ·exact⟨B,by omega⟩
   rw [zk r]
   have t:ix f (ed a s k)=f.getD (ed a s k).toNat default:=rfl
   rw [t]
   cases hE:zsm a b f s k
   ·left
    rw [hE] at hnot
    rw [ct hnot,if_neg]
    intro u
    have:=List.all_eq_true.1 u k (List.mem_range.2 d)
    rw [hE] at this;cases this
   ·right
    refine⟨(),by rw [zgv,c,hE];rfl,?_⟩
    rw [hE] at hnot
    rw [cf hnot,zk (qy (by omega))];rfl
  ·simp only [vw]
   rw [uw (by omega),if_pos (show zm6 a b f s=true from c)]
 have v:yc N a b f N 0=some (if(List.range a.rows.length).all (zm6 a b f)=true then Ex.go () else Ex.rt 0):=by
  refine ui (σ:=Unit) (fun F k _=>yc N a b f F (k:Int)) a.rows.length (fun k _=>(List.range k).all (zm6 a b f)=true) _ (fun F k _ d c=>?_) (fun F _ c=>?_) N 0 () (Nat.zero_le _) (by omega) rfl
  ·simp only [yc]
   rw [yf (by omega),zx (j k d)]
   cases hE:zm6 a b f k
   ·left
    rw [if_neg (by decide),if_neg]
    ·rfl
    intro u
    have:=List.all_eq_true.1 u k (List.mem_range.2 d)
    rw [hE] at this;cases this
   ·right
    refine⟨(),by rw [zgv,c,hE];rfl,?_⟩
    rw [if_pos rfl,zir,zk (qy (by omega))];rfl
  ·simp only [yc]
   rw [uw (by omega),if_pos c]
 have w:ix f 0=f.getD 0 default:=rfl
 unfold z0g zhm
 rw [zk ⟨by omega,by omega⟩,w]
 by_cases e:f.getD 0 default=0
 ·rw [uw (fun h=>h e),decide_eq_true e,Bool.true_and,zx v]
  cases (List.range a.rows.length).all (zm6 a b f)<;>rfl
 ·rw [yf e,decide_eq_false e,Bool.false_and];rfl
end
end GV
end Go.Proofs.YtkcccdcloealfaaGreat

namespace Go.Proofs.YtkcccdcloealfaaGreat
namespace GV
set_option maxRecDepth 100000
section
variable {m : Mach}
theorem zqn(b:MOk m)(h:Red m):zhw m=true:=decide_eq_true (z8w.2 fun u a=>oo.2 fun t c e=>by
 have:=h t u (by omega) a ((zpd b (by omega) a).1 e)
 omega)
theorem zyv(h:zhw m=true){s t:Nat}(c:s<m.rows.length)(d:t<m.rows.length)(e:cls m s=cls m t):s=t:=by
 have b:=z8w.1 (of_decide_eq_true h)
 rcases Nat.lt_trichotomy s t with a|a|a
 ·exact absurd e (oo.1 (b t d) s a)
 ·exact a
 ·exact absurd e.symm (oo.1 (b s c) t a)
theorem zf6:(l7 m).rows.length=(z0r m).length:=ziw
theorem zet(a:MOk m):ClosedP (z1q m) (z0r m):=z2v (q3r a)
theorem zmt(a:MOk m):0∈z0r m∧(z0r m).idxOf 0=0:=zep (q3r a)
theorem zhk{c:Nat}(a:c<(z0r m).length):(z0r m).getD c 0∈z0r m:=by simp [List.getD_eq_getElem?_getD,a]
theorem zpv(a:MOk m){c:Nat}(b:c∈z0r m){w:List Int}(d:WOk m.inputs w):z2x (l7 m) (((z0r m).idxOf c:Nat):Int) w=z2x (z1q m) (c:Int) w:=by
 have:=(zhb (z8u a) (zet a) w (s:=(c:Int)) (.inr ⟨by omega,by rw [Int.toNat_natCast];exact b⟩) d).1
 rw [z6k] at this
 exact this
theorem zv8(a:MOk m):Red (l7 m):=by
 intro c d e f l
 rw [zf6] at e f
 have o:=z8u a
 have b:=zet a
 have g:=z5f (zbf a) e
 have i:=z5f (zbf a) f
 have h:=zoy a _ _ (b.rng _ (zhk e)) (b.rng _ (zhk f)) (fun w hw'=>by
  have n:=l w hw'
  have j:=zpv a (zhk e) (w:=w) hw'
  have k:=zpv a (zhk f) (w:=w) hw'
  rw [g] at j;rw [i] at k
  rw [←j,←k];exact n)
 rw [h,i] at g
 exact g.symm
theorem q2c(a:MOk m):rch (l7 m) 0=(rch (z1q m) 0).map (ren (z0r m)):=by
 obtain⟨b,c⟩:=zmt a
 have hren:=zpr (z8u a) (zet a) b
 rw [c] at hren
 exact hren
theorem zk1(h: ∀ t,t<m.rows.length→occ (rch m 0) t=true)(b:MOk m):connB m=true:=zv1 fun j a=>(z8y a).2 ((zik b).2 (h j a))
theorem zh0(b:MOk m)(h:connB m=true){t:Nat}(a:t<m.rows.length):occ (rch m 0) t=true:=by
 cases ho:occ (rch m 0) t
 ·have:(reachL m 0).getD t default=false:=by
   cases hr:(reachL m 0).getD t default
   ·rfl
   ·rw [(zik b).1 ((z8y a).1 hr)] at ho;cases ho
  rw [zul a this] at h;cases h
 ·rfl
theorem zz5(b:MOk m)(h:connB m=false): ∃ t,t<m.rows.length∧occ (rch m 0) t=false:=by
 cases hk:(List.range m.rows.length).all (occ (rch m 0))
 ·obtain⟨t,a,c⟩:=List.all_eq_false.1 hk
  exact⟨t,List.mem_range.1 a,by simpa using c⟩
 ·rw [zk1 (fun t a=>List.all_eq_true.1 hk t (List.mem_range.2 a)) b] at h;cases h
theorem zrw(a:MOk m):connB (l7 m)=true:=by
 refine zk1 (fun c b=>?_) (zav a)
 rw [zf6] at b
 rw [q2c a]
 have d:c<(rch (z1q m) 0).length:=by rw [←z6x];exact b
 refine z1m.2 ⟨c,by rw [List.length_map];exact d,?_⟩
 rw [getD_map d]
 show (z0r m).idxOf (((rch (z1q m) 0).getD c default).st)=c
 rw [←z9s _ d]
 exact z5f (zbf a) b
theorem zyh(a:MOk m):minB (l7 m)=true:=by
 unfold minB;rw [zrw a,zqn (zav a) (zv8 a)];rfl
theorem q1w(a:MOk m){s i:Nat}(b:s<m.rows.length)(e:occ (rch m 0) s=true)(hi:i<m.inputs.toNat):ed (l7 m) ((z0r m).idxOf (cls m s)) i=pos (z0r m) (hI (cls m) (ed m s i))∧ou (l7 m) ((z0r m).idxOf (cls m s)) i=ou m s i:=by
 have f:=z8u a
 have c:=zf8 a
 obtain⟨g,h⟩:=z88 (zha a e)
 have j:(l7 m).rows.getD ((z0r m).idxOf (cls m s)) default=rowP (z1q m) (z0r m) (cls m s):=by
  have:(l7 m).rows.getD ((z0r m).idxOf (cls m s)) default=rowP (z1q m) (z0r m) ((z0r m).getD ((z0r m).idxOf (cls m s)) 0):=zad g
  rw [this,h]
 have k:=z9u (L:=z0r m) f (c.rng s b) (show i<(z1q m).inputs.toNat from hi)
 have d:((l7 m).rows.getD ((z0r m).idxOf (cls m s)) default).getD i default=⟨pos (z0r m) (ed (z1q m) (cls m s) i),ou (z1q m) (cls m s) i⟩:=by rw [j];exact k
 constructor
 ·show (((l7 m).rows.getD ((z0r m).idxOf (cls m s)) default).getD i default).to=_
  rw [d,c.to s i b hi]
 ·show (((l7 m).rows.getD ((z0r m).idxOf (cls m s)) default).getD i default).out=_
  rw [d,c.out s i b hi]
theorem ze1{s:Nat}(a:occ (rch m 0) s=true):z9x m s=(((z0r m).idxOf (cls m s):Nat):Int):=if_pos a
theorem zvf{s:Nat}(a:occ (rch m 0) s=false):z9x m s= -1:=if_neg (by rw [a];decide)
theorem q07(a:MOk m){s:Nat}(d:s<m.rows.length)(b:occ (rch m 0) s=true){w:List Int}(c:WOk m.inputs w):z2x (l7 m) (z9x m s) w=z2x m (s:Int) w:=by
 rw [ze1 b,zpv a (zha a b) c]
 exact((zf8 a).run w d c).1
theorem zv2(b:MOk m){s:Nat}(a:occ (rch m 0) s=true):0≤z9x m s∧z9x m s<(l7 m).rows.length:=by
 rw [ze1 a,zf6]
 have:=(z88 (zha b a)).1
 omega
theorem zzu(a:MOk m):occ (rch m 0) 0=true:=z1m.2 ⟨0,(z7g a).pos,by rw [(z7g a).root]⟩
theorem zn3(a:MOk m):z9x m 0=0:=by
 rw [ze1 (zzu a),ze2,(zmt a).2];rfl
theorem zvm(a:MOk m)(h:connB m=true):HOk m (l7 m) (z7t m):=⟨a,zav a,rfl,zc7,fun k b=>by
 rw [zc7] at b
 rw [z8c b]
 exact zv2 a (zh0 a h b)⟩
theorem zui{a b:Mach}{f:List Int}(h:HOk a b f)(d:f.getD 0 default=0)(e: ∀ s i,s<a.rows.length→i<a.inputs.toNat→ou a s i=ou b (f.getD s default).toNat i∧(0≤ed a s i→f.getD (ed a s i).toNat default=ed b (f.getD s default).toNat i)):zhm a b f=true:=by
 unfold zhm zm6
 rw [decide_eq_true d,Bool.true_and]
 exact List.all_eq_true.2 fun s c=>List.all_eq_true.2 fun i hi=>(zk8 h (List.mem_range.1 c) (List.mem_range.1 hi)).2 (e s i (List.mem_range.1 c) (List.mem_range.1 hi))
theorem zy6{a b:Mach}{f:List Int}(h:HOk a b f)(c:zhm a b f=true):f.getD 0 default=0∧ ∀ s i,s<a.rows.length→i<a.inputs.toNat→ou a s i=ou b (f.getD s default).toNat i∧(0≤ed a s i→f.getD (ed a s i).toNat default=ed b (f.getD s default).toNat i):=by
 unfold zhm zm6 at c
 rw [Bool.and_eq_true] at c
 refine⟨of_decide_eq_true c.1,fun s i d hi=>?_⟩
 exact(zk8 h d hi).1 (List.all_eq_true.1 (List.all_eq_true.1 c.2 s (List.mem_range.2 d)) i (List.mem_range.2 hi))
theorem q3w(a:MOk m)(h:connB m=true):zhm m (l7 m) (z7t m)=true:=by
 have d:=a.r1
 refine zui (zvm a h) (by rw [z8c (by omega)];exact zn3 a) fun s i b hi=>?_
 have c:=zh0 a h b
 obtain⟨f,g⟩:=q1w a b c hi
 rw [z8c b,ze1 c,Int.toNat_natCast,f,g]
 refine⟨rfl,fun j=>?_⟩
 obtain⟨t,k⟩:=Int.eq_ofNat_of_zero_le j
 rcases z4r a b hi with e|⟨_,e⟩
 ·omega
 rw [k,Int.toNat_natCast,z8c (by omega),z81,z6k,ze1 (zh0 a h (by omega))]
theorem q23(a:MOk m)(h:(fsS m).length=m.rows.length): ∀ t,t<m.rows.length→t∈fsS m:=by
 intro t i
 have b:(fsS m).Nodup:=by
  have:=zbf a
  rw [zp1 a,List.nodup_iff_pairwise_ne,List.pairwise_map] at this
  rw [List.nodup_iff_pairwise_ne]
  exact this.imp fun h e=>h (congrArg _ e)
 refine Decidable.byContradiction fun d=>?_
 have j:(t::fsS m).Nodup:=List.nodup_cons.2 ⟨d,b⟩
 have k:(t::fsS m)⊆List.range m.rows.length:=by
  intro x f
  rcases List.mem_cons.1 f with rfl|f
  ·exact List.mem_range.2 i
  ·obtain⟨c,g,rfl⟩:=List.mem_iff_getElem.1 f
   have:=(zfa a g).1
   rw [List.getD_eq_getElem?_getD,List.getElem?_eq_getElem g] at this
   exact List.mem_range.2 this
 have:=List.Nodup.length_le_of_subset j k
 rw [List.length_range,List.length_cons] at this
 omega
theorem zpn(b:MOk m){t:Nat}(h:t∈fsS m): ∃ c,c<(fsS m).length∧(fsS m).getD c 0=t:=by
 obtain⟨c,a,e⟩:=List.mem_iff_getElem.1 h
 exact⟨c,a,by rw [List.getD_eq_getElem?_getD,List.getElem?_eq_getElem a];exact e⟩
theorem q02(a:MOk m):(l7 m).rows.length≤m.rows.length:=by
 rw [zf6,z6u a];exact zu0 a
theorem q2t(b:MOk m)(h:connB m=true):(rch m 0).length=m.rows.length:=by
 have c:=z7g b
 have f:=c.le
 have hsub:List.range m.rows.length⊆(rch m 0).map (·.st):=by
  intro t d
  obtain⟨j,e,a⟩:=z1m.1 (zh0 b h (List.mem_range.1 d))
  exact List.mem_map.2 ⟨_,z1t e,a⟩
 have:=List.Nodup.length_le_of_subset List.nodup_range hsub
 rw [List.length_range,List.length_map] at this
 omega
theorem zqm(a:MOk m):(l7 m).rows.length=m.rows.length↔minB m=true:=by
 rw [zf6,z6u a]
 have g:=z7g a
 constructor
 ·intro h
  have hall:=q23 a h
  have b:connB m=true:=zk1 (fun t i=>by
   obtain⟨c,b,rfl⟩:=zpn a (hall t i)
   exact(zfa a b).2) a
  have o:zhw m=true:=decide_eq_true (z8w.2 fun u f=>oo.2 fun t i e=>by
   obtain⟨c,b,p⟩:=zpn a (hall t (by omega))
   obtain⟨d,j,q⟩:=zpn a (hall u f)
   have k:=ze8 a b
   have l:=ze8 a j
   rw [p] at k;rw [q] at l
   have n:=z5f (zbf a) (show c<(z0r m).length by rw [z6u a];exact b)
   have r:=z5f (zbf a) (show d<(z0r m).length by rw [z6u a];exact j)
   rw [k,e,←l,r] at n
   subst n
   omega)
  unfold minB;rw [b,o];rfl
 ·intro h
  unfold minB at h
  rw [Bool.and_eq_true] at h
  rw [zp9]
  have e:cntF (z3g (cls m) (rch m 0)) (rch m 0).length=(rch m 0).length:=z8w.2 fun u f=>oo.2 fun t i e=>by
   have:=zyv h.2 (g.rng t (by omega)) (g.rng u f) e
   have:=g.dis t u (by omega) f this
   omega
  rw [e,q2t a h.1]
theorem zxk(a:MOk m)(h: ∀ s i,s<m.rows.length→i<m.inputs.toNat→0≤ed m s i):z8z (l7 m)=true:=by
 refine ztq (zav a) fun c i b hi=>?_
 rw [zf6] at b
 have hi':i<m.inputs.toNat:=hi
 have hc':c<(fsS m).length:=by rw [←z6u a];exact b
 obtain⟨f1,f⟩:=zfa a hc'
 have e:=z5f (zbf a) b
 rw [ze8 a hc'] at e
 have d:=(q1w a f1 f hi').1
 rw [e] at d
 rw [d]
 obtain⟨t,g⟩:=Int.eq_ofNat_of_zero_le (h _ i f1 hi')
 rw [g,z81,z6k];omega
end
end GV
end Go.Proofs.YtkcccdcloealfaaGreat
