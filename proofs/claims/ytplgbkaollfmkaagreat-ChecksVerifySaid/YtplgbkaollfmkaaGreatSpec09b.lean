
import Derived.Test.YtplgbkaollfmkaaGreatQuo09
import Derived.Test.YtplgbkaollfmkaaGreatSpec06k
set_option linter.unusedVariables false
set_option linter.unusedSimpArgs false
namespace Go.Proofs.YtplgbkaollfmkaaGreat
namespace GV
set_option maxRecDepth 100000
/-! ### Signatures-/
def sgL(m:Mach)(p:Nat→Nat)(s:Nat):List (Int×Int):=zdm m p s++List.replicate (16-m.inputs.toNat) (0,0)
theorem zcw{m:Mach}{p:Nat→Nat}{s:Nat}:(zdm m p s).length=m.inputs.toNat:=by simp [zdm]
theorem zpw{m:Mach}(a:MOk m){p:Nat→Nat}{s:Nat}:(sgL m p s).length=16:=by
 have:=a.i2
 unfold sgL
 rw [List.length_append,zcw,List.length_replicate];omega
theorem q2k{m:Mach}{p:Nat→Nat}{s i:Nat}(hi:i<m.inputs.toNat):(zdm m p s).getD i default=(ou m s i,if ed m s i= -1 then-1 else(p (ed m s i).toNat:Int)):=by
 simp [zdm,List.getD_eq_getElem?_getD,hi]
structure PR (m:Mach) (p:List Int) (f:Nat→Nat):Prop where
 len:p.length=m.rows.length
 get: ∀ s,s<m.rows.length→p.getD s default=(f s:Int)
theorem q91{m:Mach}(k:Nat):PR m (pL m k) (pkc m k):=⟨zqa k,fun s a=>zv1 a⟩
theorem zm4{α:Type}{X:List α}{n k:Nat}{z y:α}(a:X.length=k)(b:k<n):(X++List.replicate (n-k) z).set k y=(X++[y])++List.replicate (n-(k+1)) z:=q5e a b
theorem q4r{N:Nat}{m:Mach}(a:MOk m)(z:200≤N){p:List Int}{f:Nat→Nat}(j:PR m p f){s:Nat}(c:s<m.rows.length): ∃ X:Arr 16 (Int×Int),z8w N m p (s:Int)=some X∧X.1=sgL m f s:=by
 have n:=a.i1;have o:=a.i2;have q:=a.r2
 have hrow:=a.row s c
 obtain⟨X,r,e⟩: ∃ X:Arr 16 (Int×Int),rf N m p (s:Int) N 0 (zbu 16 (List.replicate 16 (((0:Int),(0:Int)):(Int×Int))))=some X∧X.1=sgL m f s:=by
  refine iy (σ:=Arr 16 (Int×Int)) (fun F k X=>rf N m p (s:Int) F (k:Int) X) m.inputs.toNat (fun k X=>X.1=(zdm m f s).take k++List.replicate (16-k) (0,0)) _ (fun F k X d hi=> .inr ?_) (fun F X hi=>?_) N 0 _ (Nat.zero_le _) (by omega) (by rw [zfr (by simp)];rfl)
  ·have g:X.1.length=16:=X.2
   have i:((zdm m f s).take k).length=k:=by rw [List.length_take,zcw];omega
   have hset: ∀ y,X.1.set k y=((zdm m f s).take k++[y])++List.replicate (16-(k+1)) (0,0):=fun y=>by rw [hi];exact zm4 i (by omega)
   have hnext:(zdm m f s).take (k+1)=(zdm m f s).take k++[(ou m s k,if ed m s k= -1 then-1 else(f (ed m s k).toNat:Int))]:=by
    rw [zda _ k (by rw [zcw];exact d),q2k d]
   have t: ∀ Y:Arr 16 (Int×Int),Y=(if ed m s k= -1 then z5o X (k:Int) (ou m s k,-1) else z5o (z5o X (k:Int) (ou m s k,-1)) (k:Int) (((ix (z5o X (k:Int) (ou m s k,-1)).1 (k:Int)).1,(ix p (ed m s k)))))→
    rf N m p (s:Int) (F+1) (k:Int) X=rf N m p (s:Int) F ((k+1:Nat):Int) Y:=fun Y l=>by
    simp only [rf]
    rw [ui (show (k:Int)<((ix m.rows (s:Int)).length:Int) by rw [dn];omega)]
    refine(q8 (x:=Y) ?_).trans (by rw [zh (qh (by omega))];rfl)
    rw [zh (show okI (ix m.rows (s:Int)) (k:Int) from ql (show k<(m.rows.getD s default).length by omega)),zh (ql (show k<X.1.length by omega))]
    show (bif decide (ed m s k≠ -1) then _ else _)=_
    by_cases hc:ed m s k= -1
    ·rw [uh (fun h=>h hc),l,if_pos hc];rfl
    ·have b:=(zcr a c d).resolve_left hc
     have A:=j.len
     rw [ui hc,l,if_neg hc]
     refine(zh (show okI p (ed m s k) from⟨b.1,by omega⟩)).trans ?_
     refine(zh (show okI (z5o X (k:Int) (ou m s k,-1)).1 (k:Int) from ql (by rw [(z5o X (k:Int) (ou m s k,-1)).2];omega))).trans ?_
     rfl
   refine⟨_,?_,t _ rfl⟩
   by_cases hc:ed m s k= -1
   ·rw [if_pos hc,hnext,if_pos hc]
    exact hset _
   ·have b:=(zcr a c d).resolve_left hc
    rw [if_neg hc,hnext,if_neg hc]
    have u:(z5o X (k:Int) (ou m s k,-1)).1=X.1.set k (ou m s k,-1):=rfl
    have v:(ix (z5o X (k:Int) (ou m s k,-1)).1 (k:Int)).1=ou m s k:=by
     rw [u,dn]
     simp [List.getD_eq_getElem?_getD,g,show k<16 by omega]
    have w:ix p (ed m s k)=(f (ed m s k).toNat:Int):=j.get _ (by omega)
    rw [v,w]
    show ((X.1.set k (ou m s k,-1)).set k (ou m s k,(f (ed m s k).toNat:Int)))=_
    rw [List.set_set]
    exact hset _
  ·simp only [rf]
   rw [uh (show¬((m.inputs.toNat:Nat):Int)<((ix m.rows (s:Int)).length:Int) by rw [dn];omega)]
   refine⟨X,rfl,?_⟩
   rw [hi,List.take_of_length_le (by rw [zcw];exact Nat.le_refl _)];rfl
 refine⟨X,?_,e⟩
 unfold z8w
 rw [zh (ql c),q8 r]
/-! ### A round-/
def zh4(m:Mach)(f:Nat→Nat)(s:Nat):Sb:=⟨(f s:Int),zbu 16 (sgL m f s)⟩
theorem q1q{m:Mach}(a:MOk m){f:Nat→Nat}{s t:Nat}:zh4 m f s=zh4 m f t↔zpm m f s=zpm m f t:=by
 unfold zh4 zpm
 rw [Sb.mk.injEq,Prod.mk.injEq]
 refine and_congr (by omega) ?_
 constructor
 ·intro h
  have b:=congrArg Subtype.val h
  rw [zfr (zpw a),zfr (zpw a)] at b
  exact(List.append_inj b (by rw [zcw,zcw])).1
 ·intro h
  unfold sgL
  rw [h]
theorem zvd{N:Nat}{m:Mach}(d:MOk m)(o:200≤N){p:List Int}{f:Nat→Nat}(i:PR m p f):z5x N m p=some (zzd (zpm m f) m.rows.length):=by
 have q:=d.r2;have r:=i.len
 have u:su N m p N 0 ([]:List (Sb×Int)) (mk (p.length:Int) (0:Int))=some (zzd (zh4 m f) m.rows.length):=by
  refine kz (σ:=List (Sb×Int)×List Int) (fun F k st=>su N m p F (k:Int) st.1 st.2) m.rows.length
   (fun k st=>st.1=nmM (zh4 m f) k∧st.2=(List.range k).map (fun s=>(name (zh4 m f) s:Int))++List.replicate (m.rows.length-k) 0) _ (fun F k st j hi=> .inr ?_) (fun F st hi=>?_) N 0 ([],mk (p.length:Int) (0:Int)) (Nat.zero_le _) (by omega) ⟨rfl,by rw [r,z6f];simp⟩
  ·obtain⟨M,X⟩:=st
   obtain⟨e,a⟩:=hi
   dsimp only at e a⊢
   subst e;subst a
   obtain⟨A,v,l⟩:=q4r (N:=N) d o i j
   have n:A=zbu 16 (sgL m f k):=Subtype.ext (by rw [l,zfr (zpw d)])
   have hkey:(⟨ix p (k:Int),A⟩:Sb)=zh4 m f k:=by unfold zh4;rw [n,dn,i.get k j]
   have c:((List.range k).map (fun s=>(name (zh4 m f) s:Int))).length=k:=by simp
   refine⟨(nmM (zh4 m f) (k+1),(List.range (k+1)).map (fun s=>(name (zh4 m f) s:Int))++List.replicate (m.rows.length-(k+1)) 0),⟨rfl,rfl⟩,?_⟩
   simp only [su]
   rw [ui (by omega),zh (ql (by omega)),q8 v,hkey]
   refine(q8 (x:=nmM (zh4 m f) (k+1)) ?_).trans ?_
   ·cases h:z8n (nmM (zh4 m f) k) (zh4 m f k)
    ·exact(ct (b:= !false) rfl).trans (by rw [q4f _ h])
    ·exact(cf (b:= !true) rfl).trans (by rw [q54 _ h])
   ·rw [zh (ql (by rw [List.length_append,c,List.length_replicate];omega)),zh (qh (by omega)),zwt _ _ (Nat.lt_succ_self k),z1n,zm4 c j,z95]
    rfl
  ·obtain⟨M,X⟩:=st
   obtain⟨e,a⟩:=hi
   dsimp only at e a⊢
   subst a
   simp only [su]
   rw [uh (by omega),Nat.sub_self,List.replicate_zero,List.append_nil];rfl
 unfold z5x
 rw [zh ⟨by omega,by omega,by omega⟩,q8 u,zv6 (f:=zh4 m f) (g:=zpm m f) fun s t _ _=>q1q d]
theorem zjc{N:Nat}{a b:List Int}(f:a.length<N)(g:a.length≤4611686018427387904):slices_Equal_int N a b=some (decide (a=b)):=by
 unfold slices_Equal_int
 by_cases h:(a.length:Int)≠b.length
 ·rw [ui h,decide_eq_false (fun e=>h (by rw [e]))]
 ·rw [uh h]
  have hl':a.length=b.length:=by omega
  have c:ax N a b N 0=some (if a=b then Ex.go () else Ex.rt false):=by
   refine kz (σ:=Unit) (fun F k _=>ax N a b F (k:Int)) a.length (fun k _=> ∀ j,j<k→a.getD j default=b.getD j default) _ (fun F k _ d hi=>?_) (fun F _ hi=>?_) N 0 () (Nat.zero_le _) (by omega) (fun j i=>by omega)
   ·simp only [ax]
    rw [ui (by omega),zh (ql d),zh (ql (by omega)),dn,dn]
    by_cases he:a.getD k default=b.getD k default
    ·right
     refine⟨(),zt2 hi he,Eq.trans (uh (fun h=>h he)) ?_⟩
     rw [zh (qh (by omega))];rfl
    ·left
     refine Eq.trans (ui he) ?_
     rw [if_neg (fun e=>he (by rw [e]))]
   ·simp only [ax]
    rw [uh (by omega),if_pos (z5e hl' hi)]
  rw [q8 c]
  by_cases he:a=b
  ·rw [if_pos he,decide_eq_true he];rfl
  ·rw [if_neg he,decide_eq_false he];rfl
theorem zke{N:Nat}{m:Mach}(f:MOk m)(n:200≤N){a:Nat}(b:zjx m a)(hmin: ∀ i,i<a→ ¬zjx m i)(g:a<m.rows.length): ∀ (d j F:Nat) (l:List Int),j+d=a→d<F→
 z0j N ((List Int)×Int) (fun k c=>gd (in64 (c.2+1))<|some (true,(k,c.2+1))) m F (l,(j:Int)-1) (pL m j)=some (pL m a,(a:Int))
 |d,j,0,l,_,p=>by omega
 |d,j,F+1,l,s,p=>by
  have q:=f.r2
  have r:(j:Int)-1+1=j:=by omega
  simp only [z0j]
  rw [zh (qh (by omega)),zpx,r,ct rfl,q8 (zvd f n (q91 j)),←q4w,q8 (zjc (by rw [zqa];omega) (by rw [zqa];omega))]
  by_cases h:zjx m j
  ·have:j=a:=by
    rcases Nat.lt_or_ge j a with o|o
    ·exact absurd h (hmin j o)
    ·omega
   subst this
   rw [ui ((zsx j).2 h).symm]
  ·have t:d≠0:=fun e=>by
    have:j=a:=by omega
    rw [this] at h;exact h b
   rw [uh (fun e=>h ((zsx j).1 e.symm))]
   have:=zke f n b hmin g (d-1) (j+1) F (pL m j) (by omega) (by omega)
   rw [show (((j+1:Nat):Int)-1)=(j:Int) by omega] at this
   exact this
theorem zum{N:Nat}{m:Mach}(a:MOk m)(c:200≤N): ∃ j:Nat,z6a N m=some (z7b m,(j:Int),0):=by
 have e:=a.r1;have f:=a.r2
 obtain⟨b,g,d,h⟩:=zw7 a
 refine⟨b,?_⟩
 have key:=zke (N:=N) a c d h g b 0 N [] (by omega) (by omega)
 have i:pL m 0=mk (m.rows.length:Int) (0:Int):=by
  unfold pL
  rw [z6f]
  show (List.range m.rows.length).map (fun _=>((0:Nat):Int))=_
  rw [List.map_const',List.length_range];rfl
 unfold z6a
 rw [q8 (q2a a c),uh (by simp),q8 (show z8u N m=some m from rfl)]
 refine(q8 (x:=(pL m b,(b:Int))) ?_).trans ?_
 ·unfold z7c
  rw [zh ⟨by omega,by omega,by omega⟩,←i]
  exact key
 ·rw [show z7b m=pL m b from q3l a d (by omega)]
/-! ### The reference-/
def apB(m:Mach)(k s t i:Nat):Bool:=decide (ou m s i≠ou m t i)||(((decide (0≤ed m s i))&&(decide (0≤ed m t i)))&&decide (pkc m k (ed m s i).toNat≠pkc m k (ed m t i).toNat))
def z9b(m:Mach)(k s:Nat):List Bool:=(List.range m.rows.length).map fun t=>decide (pkc m k s≠pkc m k t)
def z6m(m:Mach)(k:Nat):List (List Bool):=(List.range m.rows.length).map (z9b m k)
section ref
variable {N : Nat} {m : Mach}
theorem zfi(k:Nat):(z6m m k).length=m.rows.length:=by simp [z6m]
theorem zco(k s:Nat):(z9b m k s).length=m.rows.length:=by simp [z9b]
theorem zix{k s:Nat}(a:s<m.rows.length):(z6m m k).getD s default=z9b m k s:=by simp [z6m,List.getD_eq_getElem?_getD,a]
theorem zid{k s t:Nat}(a:t<m.rows.length):(z9b m k s).getD t default=decide (pkc m k s≠pkc m k t):=by simp [z9b,List.getD_eq_getElem?_getD,a]
theorem apart_eq(a:MOk m)(A:200≤N){k s t:Nat}(c:s<m.rows.length)(d:t<m.rows.length):z3d N m (z6m m k) (s:Int) (t:Int)=some (if((List.range m.inputs.toNat).any (apB m k s t))=true then 1 else 0):=by
 have q:=a.i1;have r:=a.i2
 have u:=a.row s c;have v:=a.row t d
 have w:yf N m (z6m m k) (s:Int) (t:Int) N 0=some (if((List.range m.inputs.toNat).any (apB m k s t))=true then Ex.rt 1 else Ex.go ()):=by
  refine kz (σ:=Unit) (fun F i _=>yf N m (z6m m k) (s:Int) (t:Int) F (i:Int)) m.inputs.toNat (fun i _=> ∀ j,j<i→apB m k s t j=false) _ (fun F i _ hi f=>?_) (fun F _ f=>?_) N 0 () (Nat.zero_le _) (by omega) (fun j g=>by omega)
  ·have x:=zcr a c hi
   have y:=zcr a d hi
   have hbody:(yf N m (z6m m k) (s:Int) (t:Int) (F+1) (i:Int))=bif apB m k s t i then some (Ex.rt 1) else yf N m (z6m m k) (s:Int) (t:Int) F ((i+1:Nat):Int):=by
    simp only [yf]
    rw [ui (by omega),zh (ql c),zh (show okI (ix m.rows (s:Int)) (i:Int) from ql (show i<(m.rows.getD s default).length by omega)),zh (ql d),zh (show okI (ix m.rows (t:Int)) (i:Int) from ql (show i<(m.rows.getD t default).length by omega))]
    have n: ∀ {p:Prop},(0≤ed m s i→0≤ed m t i→p)→(((true&&((decide (ou m s i≠ou m t i))==false))&&(((decide (0≤ed m s i))&&(decide (0≤ed m t i)))==true))=true→p):=fun h e=>by
     simp only [Bool.and_eq_true,beq_iff_eq,decide_eq_true_eq] at e
     exact h e.2.1 e.2.2
    refine(zh (n fun l o=>?_)).trans ?_
    ·exact⟨l,by show ed m s i<_;rw [zfi];omega⟩
    refine(zh (n fun l o=>?_)).trans ?_
    ·have e:ix (z6m m k) (ed m s i)=z9b m k (ed m s i).toNat:=zix (by omega)
     show okI (ix (z6m m k) (ed m s i)) (ed m t i)
     rw [e]
     exact⟨o,by rw [zco];omega⟩
    show (bif (decide (ou m s i≠ou m t i))||(((decide (0≤ed m s i))&&(decide (0≤ed m t i)))&&(ix (ix (z6m m k) (ed m s i)) (ed m t i))) then _ else _)=_
    have b:((decide (ou m s i≠ou m t i))||(((decide (0≤ed m s i))&&(decide (0≤ed m t i)))&&(ix (ix (z6m m k) (ed m s i)) (ed m t i))))=apB m k s t i:=by
     unfold apB
     by_cases l:0≤ed m s i∧0≤ed m t i
     ·have e:ix (z6m m k) (ed m s i)=z9b m k (ed m s i).toNat:=zix (by omega)
      have z:ix (z9b m k (ed m s i).toNat) (ed m t i)=decide (pkc m k (ed m s i).toNat≠pkc m k (ed m t i).toNat):=zid (by omega)
      rw [e,z]
     ·have:((decide (0≤ed m s i))&&(decide (0≤ed m t i)))=false:=by
       rw [Bool.and_eq_false_iff,decide_eq_false_iff_not,decide_eq_false_iff_not];omega
      rw [this,Bool.false_and,Bool.false_and]
    rw [b]
    cases apB m k s t i
    ·rw [cf rfl,cf rfl,zh (qh (by omega))];rfl
    ·rw [ct rfl,ct rfl]
   rw [hbody]
   cases b:apB m k s t i
   ·right
    refine⟨(),fun j g=>?_,rfl⟩
    by_cases e:j=i
    ·rw [e];exact b
    ·exact f j (by omega)
   ·left
    rw [ct rfl,if_pos (List.any_eq_true.2 ⟨i,List.mem_range.2 hi,b⟩)]
  ·simp only [yf]
   rw [uh (by omega),if_neg]
   rw [Bool.not_eq_true,List.any_eq_false]
   intro j g
   rw [f j (List.mem_range.1 g)];decide
 unfold z3d
 rw [q8 w]
 split<;>rfl
theorem zu6(c:MOk m){k s t:Nat}(e:s<m.rows.length)(f:t<m.rows.length):(decide (pkc m k s≠pkc m k t)||(List.range m.inputs.toNat).any (apB m k s t))=decide (pkc m (k+1) s≠pkc m (k+1) t):=by
 rw [Bool.eq_iff_iff,Bool.or_eq_true,decide_eq_true_eq,decide_eq_true_eq,List.any_eq_true,ne_eq,ne_eq,zta c e f]
 constructor
 ·rintro(h|⟨i,hi,h⟩) ⟨b,g⟩
  ·exact h b
  ·have hi':=List.mem_range.1 hi
   obtain⟨j,l⟩:=g i hi'
   unfold apB at h
   rw [Bool.or_eq_true,Bool.and_eq_true,Bool.and_eq_true,decide_eq_true_eq,decide_eq_true_eq,decide_eq_true_eq,decide_eq_true_eq] at h
   rcases h with h|⟨⟨n,o⟩,p⟩
   ·exact h j
   ·exact p (l (by omega) (by omega))
 ·intro h
  by_cases b:pkc m k s=pkc m k t
  ·right
   refine Classical.byContradiction fun q=>h ⟨b,fun i hi=>?_⟩
   have a:apB m k s t i≠true:=fun r=>q ⟨i,List.mem_range.2 hi,r⟩
   unfold apB at a
   rw [ne_eq,Bool.or_eq_true,Bool.and_eq_true,Bool.and_eq_true,decide_eq_true_eq,decide_eq_true_eq,decide_eq_true_eq,decide_eq_true_eq] at a
   have u:=zcr c e hi
   have v:=zcr c f hi
   refine⟨Classical.byContradiction fun d=>a (.inl d),fun n o=>Classical.byContradiction fun d=>a (.inr ⟨⟨by omega,by omega⟩,d⟩)⟩
  ·exact .inl b
theorem q2f:z6m m 0=List.replicate m.rows.length (List.replicate m.rows.length false):=by
 unfold z6m z9b
 show (List.range m.rows.length).map (fun s=>(List.range m.rows.length).map fun t=>decide ((0:Nat)≠0))=_
 rw [show decide ((0:Nat)≠0)=false from rfl,List.map_const',List.map_const',List.length_range]
theorem zu0(d:MOk m)(g:200≤N){k s:Nat}(c:s<m.rows.length){Y:List (List Bool)}(e:Y.length=s):gp N m (z6m m k) (s:Int) N 0 (Y++[mk (m.rows.length:Int) false])=some (Y++[z9b m (k+1) s]):=by
 have h:=d.r2
 refine kz (σ:=List (List Bool)) (fun F t st=>gp N m (z6m m k) (s:Int) F (t:Int) st) m.rows.length (fun t st=>st=Y++[(z9b m (k+1) s).take t++List.replicate (m.rows.length-t) false]) _ (fun F t st a hi=> .inr ?_) (fun F st hi=>?_) N 0 _ (Nat.zero_le _) (by omega) (by rw [z6f];rfl)
 ·subst hi
  have b:((z9b m (k+1) s).take t).length=t:=by rw [List.length_take,zco];omega
  have hget:(Y++[(z9b m (k+1) s).take t++List.replicate (m.rows.length-t) false]).getD s default=(z9b m (k+1) s).take t++List.replicate (m.rows.length-t) false:=by
   rw [List.getD_eq_getElem?_getD,←e,List.getElem?_concat_length];rfl
  have f:((z9b m (k+1) s).take t++List.replicate (m.rows.length-t) false).length=m.rows.length:=by rw [List.length_append,b,List.length_replicate];omega
  refine⟨_,rfl,?_⟩
  simp only [gp]
  rw [ui (by omega),zh (ql (by rw [List.length_append,e];simp)),zh (ql (by rw [zfi];exact c))]
  have i:ix (z6m m k) (s:Int)=z9b m k s:=zix c
  have j:ix (z9b m k s) (t:Int)=decide (pkc m k s≠pkc m k t):=zid a
  rw [i,zh (ql (by rw [zco];exact a)),j]
  refine(zek (fun _=>apart_eq d g c a)).trans ?_
  have l:ix (Y++[(z9b m (k+1) s).take t++List.replicate (m.rows.length-t) false]) (s:Int)=_:=hget
  rw [l,zh (ql (by rw [f];exact a)),zh (qh (by omega))]
  have hval:(decide (pkc m k s≠pkc m k t)||(decide (((bif (true&&(decide (pkc m k s≠pkc m k t)==false)) then some (if((List.range m.inputs.toNat).any (apB m k s t))=true then(1:Int) else 0) else none).getD default)=1)))=decide (pkc m (k+1) s≠pkc m (k+1) t):=by
   rw [←zu6 d c a]
   cases decide (pkc m k s≠pkc m k t)
   ·cases (List.range m.inputs.toNat).any (apB m k s t)<;>rfl
   ·rfl
  rw [hval,z1n,z1n,zm4 b a]
  have hnext:(z9b m (k+1) s).take (t+1)=(z9b m (k+1) s).take t++[decide (pkc m (k+1) s≠pkc m (k+1) t)]:=by
   rw [zda _ t (by rw [zco];exact a),zid a]
  rw [hnext]
  have hset: ∀ z,(Y++[(z9b m (k+1) s).take t++List.replicate (m.rows.length-t) false]).set s z=Y++[z]:=fun z=>by
   rw [List.set_append_right _ _ (by omega),e,Nat.sub_self];rfl
  rw [hset]
  rfl
 ·subst hi
  simp only [gp]
  rw [uh (by omega),Nat.sub_self,List.replicate_zero,List.append_nil,List.take_of_length_le (by rw [zco];exact Nat.le_refl _)]
theorem zy6(a:MOk m)(c:200≤N){k:Nat}(h:k≤100):z19 N m (k:Int)=some (z6m m k):=by
 have d:=a.r2
 have e:gm N m N ([]:List (List Bool)) 0=some (z6m m 0):=by
  refine kz (σ:=List (List Bool)) (fun F s st=>gm N m F st (s:Int)) m.rows.length (fun s st=>st=List.replicate s (List.replicate m.rows.length false)) _ (fun F s st b hi=> .inr ?_) (fun F st hi=>?_) N 0 [] (Nat.zero_le _) (by omega) rfl
  ·subst hi
   refine⟨_,rfl,?_⟩
   simp only [gm]
   rw [ui (by omega),zh ⟨by omega,by omega,by omega⟩,zh ⟨by simp;omega,by simp;omega⟩,zh (qh (by omega)),z6f,List.replicate_succ'];rfl
  ·subst hi
   simp only [gm]
   rw [uh (by omega),q2f]
 have f:gz N m (k:Int) N (z6m m 0) 0=some (z6m m k):=by
  refine kz (σ:=List (List Bool)) (fun F j st=>gz N m (k:Int) F st (j:Int)) k (fun j st=>st=z6m m j) _ (fun F j st i hi=> .inr ?_) (fun F st hi=>?_) N 0 _ (Nat.zero_le _) (by omega) rfl
  ·subst hi
   refine⟨_,rfl,?_⟩
   have g:gu N m (z6m m j) N ([]:List (List Bool)) 0=some (z6m m (j+1)):=by
    refine kz (σ:=List (List Bool)) (fun F s st=>gu N m (z6m m j) F st (s:Int)) m.rows.length (fun s st=>st=(List.range s).map (z9b m (j+1))) _ (fun F s st b hi=> .inr ?_) (fun F st hi=>?_) N 0 [] (Nat.zero_le _) (by omega) rfl
    ·subst hi
     refine⟨_,rfl,?_⟩
     simp only [gu]
     rw [ui (by omega)]
     refine(q8 (x:=(List.range s).map (z9b m (j+1))++[z9b m (j+1) s]) ?_).trans ?_
     ·rw [zh ⟨by omega,by omega,by omega⟩,zh ⟨by simp;omega,by simp;omega⟩]
      exact zu0 a c b (by simp)
     ·rw [zh (qh (by omega)),z95];rfl
    ·subst hi
     simp only [gu]
     rw [uh (by omega)];rfl
   simp only [gz]
   rw [ui (by omega),q8 g,zh (qh (by omega))];rfl
  ·subst hi
   simp only [gz]
   rw [uh (by omega)]
 unfold z19
 rw [q8 e,q8 f]
theorem zqz(r:MOk m)(I:200≤N)(k:Nat):lm N (z6m m k)=some (pL m k):=by
 have w:=r.r2
 have hname: ∀ s,name (pkc m k) s=pkc m k s:=fun s=>zi8
 have o: ∀ s,s<m.rows.length→ ∃ v,um N (z6m m k) ((List.range s).map fun u=>(pkc m k u:Int)) (s:Int) N (-1) 0=some v∧((v= -1∧z3e (pkc m k) s=true)∨(v=(pkc m k s:Int)∧z3e (pkc m k) s=false)):=fun s i=>by
  refine iy (σ:=Int) (fun F t v=>um N (z6m m k) ((List.range s).map fun u=>(pkc m k u:Int)) (s:Int) F v (t:Int)) s (fun t v=>(v= -1∧ ∀ u,u<t→pkc m k u≠pkc m k s)∨(v=(pkc m k s:Int)∧ ∃ u,u<t∧pkc m k u=pkc m k s)) _ (fun F t v z hi=> .inr ?_) (fun F v hi=>?_) N 0 (-1) (Nat.zero_le _) (by omega) (.inl ⟨rfl,fun u j=>by omega⟩)
  ·have A:ix (z6m m k) (s:Int)=z9b m k s:=zix i
   have B:ix (z9b m k s) (t:Int)=decide (pkc m k s≠pkc m k t):=zid (by omega)
   have C:ix ((List.range s).map fun u=>(pkc m k u:Int)) (t:Int)=(pkc m k t:Int):=by rw [dn];simp [List.getD_eq_getElem?_getD,z]
   have D: ∀ y,y=(if pkc m k s=pkc m k t then(pkc m k t:Int) else v)→um N (z6m m k) ((List.range s).map fun u=>(pkc m k u:Int)) (s:Int) (F+1) v (t:Int)=um N (z6m m k) ((List.range s).map fun u=>(pkc m k u:Int)) (s:Int) F y ((t+1:Nat):Int):=fun y q=>by
    simp only [um]
    rw [ui (by omega)]
    refine(q8 (x:=y) ?_).trans (by rw [zh (qh (by omega))];rfl)
    rw [zh (ql (by rw [zfi];exact i)),A,zh (ql (by rw [zco];omega)),B]
    by_cases a:pkc m k s=pkc m k t
    ·rw [decide_eq_false (fun h=>h a)]
     refine(ct (b:= !false) rfl).trans ?_
     rw [zh (ql (by simp;omega)),C,q,if_pos a]
    ·rw [decide_eq_true a]
     refine(cf (b:= !true) rfl).trans ?_
     rw [q,if_neg a]
   refine⟨_,?_,D _ rfl⟩
   by_cases a:pkc m k s=pkc m k t
   ·rw [if_pos a];exact .inr ⟨by rw [a],t,by omega,a.symm⟩
   ·rw [if_neg a]
    rcases hi with⟨d,f⟩|⟨d,u,j,f⟩
    ·refine .inl ⟨d,fun u j=>?_⟩
     by_cases e:u=t
     ·subst e;exact fun h=>a h.symm
     ·exact f u (by omega)
    ·exact .inr ⟨d,u,by omega,f⟩
  ·simp only [um]
   rw [uh (by omega)]
   refine⟨v,rfl,?_⟩
   rcases hi with⟨d,f⟩|⟨d,u,j,f⟩
   ·exact .inl ⟨d,z0g.2 f⟩
   ·refine .inr ⟨d,?_⟩
    rw [←Bool.not_eq_true,z0g]
    exact fun h=>h u j f
 have E:vz N (z6m m k) N ([]:List Int) 0 0=some (pL m k):=by
  refine kz (σ:=List Int×Int) (fun F s st=>vz N (z6m m k) F st.1 st.2 (s:Int)) m.rows.length (fun s st=>st.1=((List.range s).map fun u=>(pkc m k u:Int))∧st.2=(cntF (pkc m k) s:Int)) _ (fun F s st i hi=> .inr ?_) (fun F st hi=>?_) N 0 ([],0) (Nat.zero_le _) (by omega) ⟨rfl,rfl⟩
  ·obtain⟨l,c⟩:=st
   obtain⟨g,a⟩:=hi
   dsimp only at g a⊢
   subst g;subst a
   obtain⟨v,G,p⟩:=o s i
   have H:=zbz (pkc m k) s
   have hstep:cntF (pkc m k) (s+1)=cntF (pkc m k) s+if z3e (pkc m k) s=true then 1 else 0:=rfl
   refine⟨((List.range (s+1)).map fun u=>(pkc m k u:Int),(cntF (pkc m k) (s+1):Int)),⟨rfl,rfl⟩,?_⟩
   simp only [vz]
   rw [ui (by rw [zfi];omega),q8 G]
   refine(q8 (x:=((cntF (pkc m k) (s+1):Int),(pkc m k s:Int))) ?_).trans ?_
   ·rcases p with⟨rfl,n⟩|⟨rfl,n⟩
    ·rw [n,if_pos rfl] at hstep
     rw [ui (by decide),zh (qh (by omega)),hstep,←hname s,zfn n];rfl
    ·rw [n,if_neg (by decide)] at hstep
     rw [uh (by omega),hstep];rfl
   ·rw [zh ⟨by simp;omega,by simp;omega⟩,zh (qh (by omega)),z95];rfl
  ·obtain⟨l,c⟩:=st
   obtain⟨g,a⟩:=hi
   dsimp only at g a⊢
   subst g
   simp only [vz]
   rw [uh (by rw [zfi];omega)];rfl
 unfold lm
 rw [q8 E]
theorem zeo(a:MOk m)(c:200≤N):l6 N m=some (z7b m):=by
 have d:=a.r2
 unfold l6 z5a
 rw [q8 (show (bd (z19 N m (m.rows.length:Int)) fun e=>bd (lm N e) fun b=>some b)=some (z7b m) from by rw [q8 (zy6 a c (by omega)),q8 (zqz a c _)];rfl)]
end ref
end GV
end Go.Proofs.YtplgbkaollfmkaaGreat

namespace Go.Proofs.YtplgbkaollfmkaaGreat
namespace GV
set_option maxRecDepth 100000
/-! ### First ones,merged-/
theorem zev{m:Mach}:(z7b m).length=m.rows.length:=zqa _
theorem zcs{m:Mach}{s:Nat}(a:s<m.rows.length):(z7b m).getD s default=(cls m s:Int):=zv1 a
section
variable {N : Nat} {m : Mach}
/-! ### The map-/
def zam(m:Mach):List Nat:=zo2 (rch (zck m) 0)
def zl1(m:Mach)(s:Nat):Int:=if occ (rch m 0) s=true then(((zam m).idxOf (cls m s):Nat):Int) else-1
def zqv(m:Mach):List Int:=(List.range m.rows.length).map (zl1 m)
theorem q0m:(zqv m).length=m.rows.length:=by simp [zqv]
theorem q2l{s:Nat}(a:s<m.rows.length):(zqv m).getD s default=zl1 m s:=xw _ a
theorem q93(a:MOk m):rch (zck m) 0=zcl (cls m) (rch m 0):=by
 have:=q69 (q5f a) (s0:=0) (by have:=a.r1;omega)
 rwa [zs6] at this
theorem qa9(a:MOk m):Rch (zck m) 0 (rch (zck m) 0):=zql (zn2 a)
theorem q3y(a:MOk m){s:Nat}(h:occ (rch m 0) s=true):cls m s∈zam m:=by
 obtain⟨j,e,rfl⟩:=z4p.1 h
 unfold zam
 rw [q93 a,zl3]
 obtain⟨f,b,g⟩:=z4y (z3p (cls m) (rch m 0)) j
 obtain⟨c,d⟩:=zl4 (h:=cls m) (P:=rch m 0) (u:=z8h (z3p (cls m) (rch m 0)) j) (by omega) (z8r _ _)
 exact⟨_,by rw [zt8];exact c,by rw [d];exact b⟩
end
end GV
end Go.Proofs.YtplgbkaollfmkaaGreat
