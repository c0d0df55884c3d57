
import Derived.Test.YtplgbkaollfmkaaQuo09
import Derived.Test.YtplgbkaollfmkaaSpec06k
set_option linter.unusedVariables false
set_option linter.unusedSimpArgs false
namespace Go.Proofs.Ytplgbkaollfmkaa
namespace GV
set_option maxRecDepth 100000
/-! ### Signatures-/
def sgL(m:Mach)(p:Nat→Nat)(s:Nat):List (Int×Int):=zbx m p s++List.replicate (16-m.inputs.toNat) (0,0)
theorem zan{m:Mach}{p:Nat→Nat}{s:Nat}:(zbx m p s).length=m.inputs.toNat:=by simp [zbx]
theorem znz{m:Mach}(a:MOk m){p:Nat→Nat}{s:Nat}:(sgL m p s).length=16:=by
 have:=a.i2
 unfold sgL
 rw [List.length_append,zan,List.length_replicate];omega
theorem zyl{m:Mach}{p:Nat→Nat}{s i:Nat}(hi:i<m.inputs.toNat):(zbx m p s).getD i default=(ou m s i,if ed m s i= -1 then-1 else(p (ed m s i).toNat:Int)):=by
 simp [zbx,List.getD_eq_getElem?_getD,hi]
structure PR (m:Mach) (p:List Int) (f:Nat→Nat):Prop where
 len:p.length=m.rows.length
 get: ∀ s,s<m.rows.length→p.getD s default=(f s:Int)
theorem q5i{m:Mach}(k:Nat):PR m (pL m k) (pkc m k):=⟨zni k,fun s a=>zrr a⟩
theorem zk3{α:Type}{X:List α}{n k:Nat}{z y:α}(a:X.length=k)(b:k<n):(X++List.replicate (n-k) z).set k y=(X++[y])++List.replicate (n-(k+1)) z:=q0v a b
theorem zzm{N:Nat}{m:Mach}(a:MOk m)(z:200≤N){p:List Int}{f:Nat→Nat}(j:PR m p f){s:Nat}(c:s<m.rows.length): ∃ X:Arr 16 (Int×Int),z7d N m p (s:Int)=some X∧X.1=sgL m f s:=by
 have n:=a.i1;have o:=a.i2;have q:=a.r2
 have hrow:=a.row s c
 obtain⟨X,r,e⟩: ∃ X:Arr 16 (Int×Int),oz N m p (s:Int) N 0 (z9y 16 (List.replicate 16 (((0:Int),(0:Int)):(Int×Int))))=some X∧X.1=sgL m f s:=by
  refine rf (σ:=Arr 16 (Int×Int)) (fun F k X=>oz N m p (s:Int) F (k:Int) X) m.inputs.toNat (fun k X=>X.1=(zbx m f s).take k++List.replicate (16-k) (0,0)) _ (fun F k X d hi=> .inr ?_) (fun F X hi=>?_) N 0 _ (Nat.zero_le _) (by omega) (by rw [ze6 (by simp)];rfl)
  ·have g:X.1.length=16:=X.2
   have i:((zbx m f s).take k).length=k:=by rw [List.length_take,zan];omega
   have hset: ∀ y,X.1.set k y=((zbx m f s).take k++[y])++List.replicate (16-(k+1)) (0,0):=fun y=>by rw [hi];exact zk3 i (by omega)
   have hnext:(zbx m f s).take (k+1)=(zbx m f s).take k++[(ou m s k,if ed m s k= -1 then-1 else(f (ed m s k).toNat:Int))]:=by
    rw [zff _ k (by rw [zan];exact d),zyl d]
   have t: ∀ Y:Arr 16 (Int×Int),Y=(if ed m s k= -1 then z4f X (k:Int) (ou m s k,-1) else z4f (z4f X (k:Int) (ou m s k,-1)) (k:Int) (((ix (z4f X (k:Int) (ou m s k,-1)).1 (k:Int)).1,(ix p (ed m s k)))))→
    oz N m p (s:Int) (F+1) (k:Int) X=oz N m p (s:Int) F ((k+1:Nat):Int) Y:=fun Y l=>by
    simp only [oz]
    rw [uy (show (k:Int)<((ix m.rows (s:Int)).length:Int) by rw [om];omega)]
    refine(qc (x:=Y) ?_).trans (by rw [zm (qo (by omega))];rfl)
    rw [zm (show okI (ix m.rows (s:Int)) (k:Int) from qx (show k<(m.rows.getD s default).length by omega)),zm (qx (show k<X.1.length by omega))]
    show (bif decide (ed m s k≠ -1) then _ else _)=_
    by_cases hc:ed m s k= -1
    ·rw [ul (fun h=>h hc),l,if_pos hc];rfl
    ·have b:=(zcb a c d).resolve_left hc
     have A:=j.len
     rw [uy hc,l,if_neg hc]
     refine(zm (show okI p (ed m s k) from⟨b.1,by omega⟩)).trans ?_
     refine(zm (show okI (z4f X (k:Int) (ou m s k,-1)).1 (k:Int) from qx (by rw [(z4f X (k:Int) (ou m s k,-1)).2];omega))).trans ?_
     rfl
   refine⟨_,?_,t _ rfl⟩
   by_cases hc:ed m s k= -1
   ·rw [if_pos hc,hnext,if_pos hc]
    exact hset _
   ·have b:=(zcb a c d).resolve_left hc
    rw [if_neg hc,hnext,if_neg hc]
    have u:(z4f X (k:Int) (ou m s k,-1)).1=X.1.set k (ou m s k,-1):=rfl
    have v:(ix (z4f X (k:Int) (ou m s k,-1)).1 (k:Int)).1=ou m s k:=by
     rw [u,om]
     simp [List.getD_eq_getElem?_getD,g,show k<16 by omega]
    have w:ix p (ed m s k)=(f (ed m s k).toNat:Int):=j.get _ (by omega)
    rw [v,w]
    show ((X.1.set k (ou m s k,-1)).set k (ou m s k,(f (ed m s k).toNat:Int)))=_
    rw [List.set_set]
    exact hset _
  ·simp only [oz]
   rw [ul (show¬((m.inputs.toNat:Nat):Int)<((ix m.rows (s:Int)).length:Int) by rw [om];omega)]
   refine⟨X,rfl,?_⟩
   rw [hi,List.take_of_length_le (by rw [zan];exact Nat.le_refl _)];rfl
 refine⟨X,?_,e⟩
 unfold z7d
 rw [zm (qx c),qc r]
/-! ### A round-/
def zf6(m:Mach)(f:Nat→Nat)(s:Nat):Sa:=⟨(f s:Int),z9y 16 (sgL m f s)⟩
theorem zwh{m:Mach}(a:MOk m){f:Nat→Nat}{s t:Nat}:zf6 m f s=zf6 m f t↔znu m f s=znu m f t:=by
 unfold zf6 znu
 rw [Sa.mk.injEq,Prod.mk.injEq]
 refine and_congr (by omega) ?_
 constructor
 ·intro h
  have b:=congrArg Subtype.val h
  rw [ze6 (znz a),ze6 (znz a)] at b
  exact(List.append_inj b (by rw [zan,zan])).1
 ·intro h
  unfold sgL
  rw [h]
theorem zqp{N:Nat}{m:Mach}(d:MOk m)(o:200≤N){p:List Int}{f:Nat→Nat}(i:PR m p f):z4q N m p=some (zus (znu m f) m.rows.length):=by
 have q:=d.r2;have r:=i.len
 have u:ow N m p N 0 ([]:List (Sa×Int)) (mk (p.length:Int) (0:Int))=some (zus (zf6 m f) m.rows.length):=by
  refine ug (σ:=List (Sa×Int)×List Int) (fun F k st=>ow N m p F (k:Int) st.1 st.2) m.rows.length
   (fun k st=>st.1=nmM (zf6 m f) k∧st.2=(List.range k).map (fun s=>(name (zf6 m f) s:Int))++List.replicate (m.rows.length-k) 0) _ (fun F k st j hi=> .inr ?_) (fun F st hi=>?_) N 0 ([],mk (p.length:Int) (0:Int)) (Nat.zero_le _) (by omega) ⟨rfl,by rw [r,z6g];simp⟩
  ·obtain⟨M,X⟩:=st
   obtain⟨e,a⟩:=hi
   dsimp only at e a⊢
   subst e;subst a
   obtain⟨A,v,l⟩:=zzm (N:=N) d o i j
   have n:A=z9y 16 (sgL m f k):=Subtype.ext (by rw [l,ze6 (znz d)])
   have hkey:(⟨ix p (k:Int),A⟩:Sa)=zf6 m f k:=by unfold zf6;rw [n,om,i.get k j]
   have c:((List.range k).map (fun s=>(name (zf6 m f) s:Int))).length=k:=by simp
   refine⟨(nmM (zf6 m f) (k+1),(List.range (k+1)).map (fun s=>(name (zf6 m f) s:Int))++List.replicate (m.rows.length-(k+1)) 0),⟨rfl,rfl⟩,?_⟩
   simp only [ow]
   rw [uy (by omega),zm (qx (by omega)),qc v,hkey]
   refine(qc (x:=nmM (zf6 m f) (k+1)) ?_).trans ?_
   ·cases h:z6z (nmM (zf6 m f) k) (zf6 m f k)
    ·exact(ct (b:= !false) rfl).trans (by rw [q0o _ h])
    ·exact(cf (b:= !true) rfl).trans (by rw [zzp _ h])
   ·rw [zm (qx (by rw [List.length_append,c,List.length_replicate];omega)),zm (qo (by omega)),zsr _ _ (Nat.lt_succ_self k),z4i,zk3 c j,z7v]
    rfl
  ·obtain⟨M,X⟩:=st
   obtain⟨e,a⟩:=hi
   dsimp only at e a⊢
   subst a
   simp only [ow]
   rw [ul (by omega),Nat.sub_self,List.replicate_zero,List.append_nil];rfl
 unfold z4q
 rw [zm ⟨by omega,by omega,by omega⟩,qc u,zsg (f:=zf6 m f) (g:=znu m f) fun s t _ _=>zwh d]
theorem zhg{N:Nat}{a b:List Int}(f:a.length<N)(g:a.length≤4611686018427387904):slices_Equal_int N a b=some (decide (a=b)):=by
 unfold slices_Equal_int
 by_cases h:(a.length:Int)≠b.length
 ·rw [uy h,decide_eq_false (fun e=>h (by rw [e]))]
 ·rw [ul h]
  have hl':a.length=b.length:=by omega
  have c:mr N a b N 0=some (if a=b then Ex.go () else Ex.rt false):=by
   refine ug (σ:=Unit) (fun F k _=>mr N a b F (k:Int)) a.length (fun k _=> ∀ j,j<k→a.getD j default=b.getD j default) _ (fun F k _ d hi=>?_) (fun F _ hi=>?_) N 0 () (Nat.zero_le _) (by omega) (fun j i=>by omega)
   ·simp only [mr]
    rw [uy (by omega),zm (qx d),zm (qx (by omega)),om,om]
    by_cases he:a.getD k default=b.getD k default
    ·right
     refine⟨(),zoz hi he,Eq.trans (ul (fun h=>h he)) ?_⟩
     rw [zm (qo (by omega))];rfl
    ·left
     refine Eq.trans (uy he) ?_
     rw [if_neg (fun e=>he (by rw [e]))]
   ·simp only [mr]
    rw [ul (by omega),if_pos (z4t hl' hi)]
  rw [qc c]
  by_cases he:a=b
  ·rw [if_pos he,decide_eq_true he];rfl
  ·rw [if_neg he,decide_eq_false he];rfl
theorem zhy{N:Nat}{m:Mach}(f:MOk m)(n:200≤N){a:Nat}(b:zhn m a)(hmin: ∀ i,i<a→ ¬zhn m i)(g:a<m.rows.length): ∀ (d j F:Nat) (l:List Int),j+d=a→d<F→
 rz N ((List Int)×Int) (fun k c=>gd (in64 (c.2+1))<|some (true,(k,c.2+1))) m F (l,(j:Int)-1) (pL m j)=some (pL m a,(a:Int))
 |d,j,0,l,_,p=>by omega
 |d,j,F+1,l,s,p=>by
  have q:=f.r2
  have r:(j:Int)-1+1=j:=by omega
  simp only [rz]
  rw [zm (qo (by omega)),zn1,r,ct rfl,qc (zqp f n (q5i j)),←zzk,qc (zhg (by rw [zni];omega) (by rw [zni];omega))]
  by_cases h:zhn m j
  ·have:j=a:=by
    rcases Nat.lt_or_ge j a with o|o
    ·exact absurd h (hmin j o)
    ·omega
   subst this
   rw [uy ((zqk j).2 h).symm]
  ·have t:d≠0:=fun e=>by
    have:j=a:=by omega
    rw [this] at h;exact h b
   rw [ul (fun e=>h ((zqk j).1 e.symm))]
   have:=zhy f n b hmin g (d-1) (j+1) F (pL m j) (by omega) (by omega)
   rw [show (((j+1:Nat):Int)-1)=(j:Int) by omega] at this
   exact this
theorem zqz{N:Nat}{m:Mach}(a:MOk m)(c:200≤N): ∃ j:Nat,z4v N m=some (z5q m,(j:Int),0):=by
 have e:=a.r1;have f:=a.r2
 obtain⟨b,g,d,h⟩:=zsn a
 refine⟨b,?_⟩
 have key:=zhy (N:=N) a c d h g b 0 N [] (by omega) (by omega)
 have i:pL m 0=mk (m.rows.length:Int) (0:Int):=by
  unfold pL
  rw [z6g]
  show (List.range m.rows.length).map (fun _=>((0:Nat):Int))=_
  rw [List.map_const',List.length_range];rfl
 unfold z4v
 rw [qc (zz9 a c),ul (by simp),qc (show z6w N m=some m from rfl)]
 refine(qc (x:=(pL m b,(b:Int))) ?_).trans ?_
 ·unfold z5o
  rw [zm ⟨by omega,by omega,by omega⟩,←i]
  exact key
 ·rw [show z5q m=pL m b from zzy a d (by omega)]
/-! ### The reference-/
def apB(m:Mach)(k s t i:Nat):Bool:=decide (ou m s i≠ou m t i)||(((decide (0≤ed m s i))&&(decide (0≤ed m t i)))&&decide (pkc m k (ed m s i).toNat≠pkc m k (ed m t i).toNat))
def z7y(m:Mach)(k s:Nat):List Bool:=(List.range m.rows.length).map fun t=>decide (pkc m k s≠pkc m k t)
def z5h(m:Mach)(k:Nat):List (List Bool):=(List.range m.rows.length).map (z7y m k)
section ref
variable {N : Nat} {m : Mach}
theorem zd2(k:Nat):(z5h m k).length=m.rows.length:=by simp [z5h]
theorem zaz(k s:Nat):(z7y m k s).length=m.rows.length:=by simp [z7y]
theorem zfz{k s:Nat}(a:s<m.rows.length):(z5h m k).getD s default=z7y m k s:=by simp [z5h,List.getD_eq_getElem?_getD,a]
theorem zfj{k s t:Nat}(a:t<m.rows.length):(z7y m k s).getD t default=decide (pkc m k s≠pkc m k t):=by simp [z7y,List.getD_eq_getElem?_getD,a]
theorem apart_eq(a:MOk m)(A:200≤N){k s t:Nat}(c:s<m.rows.length)(d:t<m.rows.length):z1k N m (z5h m k) (s:Int) (t:Int)=some (if((List.range m.inputs.toNat).any (apB m k s t))=true then 1 else 0):=by
 have q:=a.i1;have r:=a.i2
 have u:=a.row s c;have v:=a.row t d
 have w:ww N m (z5h m k) (s:Int) (t:Int) N 0=some (if((List.range m.inputs.toNat).any (apB m k s t))=true then Ex.rt 1 else Ex.go ()):=by
  refine ug (σ:=Unit) (fun F i _=>ww N m (z5h m k) (s:Int) (t:Int) F (i:Int)) m.inputs.toNat (fun i _=> ∀ j,j<i→apB m k s t j=false) _ (fun F i _ hi f=>?_) (fun F _ f=>?_) N 0 () (Nat.zero_le _) (by omega) (fun j g=>by omega)
  ·have x:=zcb a c hi
   have y:=zcb a d hi
   have hbody:(ww N m (z5h m k) (s:Int) (t:Int) (F+1) (i:Int))=bif apB m k s t i then some (Ex.rt 1) else ww N m (z5h m k) (s:Int) (t:Int) F ((i+1:Nat):Int):=by
    simp only [ww]
    rw [uy (by omega),zm (qx c),zm (show okI (ix m.rows (s:Int)) (i:Int) from qx (show i<(m.rows.getD s default).length by omega)),zm (qx d),zm (show okI (ix m.rows (t:Int)) (i:Int) from qx (show i<(m.rows.getD t default).length by omega))]
    have n: ∀ {p:Prop},(0≤ed m s i→0≤ed m t i→p)→(((true&&((decide (ou m s i≠ou m t i))==false))&&(((decide (0≤ed m s i))&&(decide (0≤ed m t i)))==true))=true→p):=fun h e=>by
     simp only [Bool.and_eq_true,beq_iff_eq,decide_eq_true_eq] at e
     exact h e.2.1 e.2.2
    refine(zm (n fun l o=>?_)).trans ?_
    ·exact⟨l,by show ed m s i<_;rw [zd2];omega⟩
    refine(zm (n fun l o=>?_)).trans ?_
    ·have e:ix (z5h m k) (ed m s i)=z7y m k (ed m s i).toNat:=zfz (by omega)
     show okI (ix (z5h m k) (ed m s i)) (ed m t i)
     rw [e]
     exact⟨o,by rw [zaz];omega⟩
    show (bif (decide (ou m s i≠ou m t i))||(((decide (0≤ed m s i))&&(decide (0≤ed m t i)))&&(ix (ix (z5h m k) (ed m s i)) (ed m t i))) then _ else _)=_
    have b:((decide (ou m s i≠ou m t i))||(((decide (0≤ed m s i))&&(decide (0≤ed m t i)))&&(ix (ix (z5h m k) (ed m s i)) (ed m t i))))=apB m k s t i:=by
     unfold apB
     by_cases l:0≤ed m s i∧0≤ed m t i
     ·have e:ix (z5h m k) (ed m s i)=z7y m k (ed m s i).toNat:=zfz (by omega)
      have z:ix (z7y m k (ed m s i).toNat) (ed m t i)=decide (pkc m k (ed m s i).toNat≠pkc m k (ed m t i).toNat):=zfj (by omega)
      rw [e,z]
     ·have:((decide (0≤ed m s i))&&(decide (0≤ed m t i)))=false:=by
       rw [Bool.and_eq_false_iff,decide_eq_false_iff_not,decide_eq_false_iff_not];omega
      rw [this,Bool.false_and,Bool.false_and]
    rw [b]
    cases apB m k s t i
    ·rw [cf rfl,cf rfl,zm (qo (by omega))];rfl
    ·rw [ct rfl,ct rfl]
   rw [hbody]
   cases b:apB m k s t i
   ·right
    refine⟨(),fun j g=>?_,rfl⟩
    by_cases e:j=i
    ·rw [e];exact b
    ·exact f j (by omega)
   ·left
    rw [ct rfl,if_pos (List.any_eq_true.2 ⟨i,List.mem_range.2 hi,b⟩)]
  ·simp only [ww]
   rw [ul (by omega),if_neg]
   rw [Bool.not_eq_true,List.any_eq_false]
   intro j g
   rw [f j (List.mem_range.1 g)];decide
 unfold z1k
 rw [qc w]
 split<;>rfl
theorem zr8(c:MOk m){k s t:Nat}(e:s<m.rows.length)(f:t<m.rows.length):(decide (pkc m k s≠pkc m k t)||(List.range m.inputs.toNat).any (apB m k s t))=decide (pkc m (k+1) s≠pkc m (k+1) t):=by
 rw [Bool.eq_iff_iff,Bool.or_eq_true,decide_eq_true_eq,decide_eq_true_eq,List.any_eq_true,ne_eq,ne_eq,zp3 c e f]
 constructor
 ·rintro(h|⟨i,hi,h⟩) ⟨b,g⟩
  ·exact h b
  ·have hi':=List.mem_range.1 hi
   obtain⟨j,l⟩:=g i hi'
   unfold apB at h
   rw [Bool.or_eq_true,Bool.and_eq_true,Bool.and_eq_true,decide_eq_true_eq,decide_eq_true_eq,decide_eq_true_eq,decide_eq_true_eq] at h
   rcases h with h|⟨⟨n,o⟩,p⟩
   ·exact h j
   ·exact p (l (by omega) (by omega))
 ·intro h
  by_cases b:pkc m k s=pkc m k t
  ·right
   refine Classical.byContradiction fun q=>h ⟨b,fun i hi=>?_⟩
   have a:apB m k s t i≠true:=fun r=>q ⟨i,List.mem_range.2 hi,r⟩
   unfold apB at a
   rw [ne_eq,Bool.or_eq_true,Bool.and_eq_true,Bool.and_eq_true,decide_eq_true_eq,decide_eq_true_eq,decide_eq_true_eq,decide_eq_true_eq] at a
   have u:=zcb c e hi
   have v:=zcb c f hi
   refine⟨Classical.byContradiction fun d=>a (.inl d),fun n o=>Classical.byContradiction fun d=>a (.inr ⟨⟨by omega,by omega⟩,d⟩)⟩
  ·exact .inl b
theorem zxh:z5h m 0=List.replicate m.rows.length (List.replicate m.rows.length false):=by
 unfold z5h z7y
 show (List.range m.rows.length).map (fun s=>(List.range m.rows.length).map fun t=>decide ((0:Nat)≠0))=_
 rw [show decide ((0:Nat)≠0)=false from rfl,List.map_const',List.map_const',List.length_range]
theorem zru(d:MOk m)(g:200≤N){k s:Nat}(c:s<m.rows.length){Y:List (List Bool)}(e:Y.length=s):xg N m (z5h m k) (s:Int) N 0 (Y++[mk (m.rows.length:Int) false])=some (Y++[z7y m (k+1) s]):=by
 have h:=d.r2
 refine ug (σ:=List (List Bool)) (fun F t st=>xg N m (z5h m k) (s:Int) F (t:Int) st) m.rows.length (fun t st=>st=Y++[(z7y m (k+1) s).take t++List.replicate (m.rows.length-t) false]) _ (fun F t st a hi=> .inr ?_) (fun F st hi=>?_) N 0 _ (Nat.zero_le _) (by omega) (by rw [z6g];rfl)
 ·subst hi
  have b:((z7y m (k+1) s).take t).length=t:=by rw [List.length_take,zaz];omega
  have hget:(Y++[(z7y m (k+1) s).take t++List.replicate (m.rows.length-t) false]).getD s default=(z7y m (k+1) s).take t++List.replicate (m.rows.length-t) false:=by
   rw [List.getD_eq_getElem?_getD,←e,List.getElem?_concat_length];rfl
  have f:((z7y m (k+1) s).take t++List.replicate (m.rows.length-t) false).length=m.rows.length:=by rw [List.length_append,b,List.length_replicate];omega
  refine⟨_,rfl,?_⟩
  simp only [xg]
  rw [uy (by omega),zm (qx (by rw [List.length_append,e];simp)),zm (qx (by rw [zd2];exact c))]
  have i:ix (z5h m k) (s:Int)=z7y m k s:=zfz c
  have j:ix (z7y m k s) (t:Int)=decide (pkc m k s≠pkc m k t):=zfj a
  rw [i,zm (qx (by rw [zaz];exact a)),j]
  refine(zgv (fun _=>apart_eq d g c a)).trans ?_
  have l:ix (Y++[(z7y m (k+1) s).take t++List.replicate (m.rows.length-t) false]) (s:Int)=_:=hget
  rw [l,zm (qx (by rw [f];exact a)),zm (qo (by omega))]
  have hval:(decide (pkc m k s≠pkc m k t)||(decide (((bif (true&&(decide (pkc m k s≠pkc m k t)==false)) then some (if((List.range m.inputs.toNat).any (apB m k s t))=true then(1:Int) else 0) else none).getD default)=1)))=decide (pkc m (k+1) s≠pkc m (k+1) t):=by
   rw [←zr8 d c a]
   cases decide (pkc m k s≠pkc m k t)
   ·cases (List.range m.inputs.toNat).any (apB m k s t)<;>rfl
   ·rfl
  rw [hval,z4i,z4i,zk3 b a]
  have hnext:(z7y m (k+1) s).take (t+1)=(z7y m (k+1) s).take t++[decide (pkc m (k+1) s≠pkc m (k+1) t)]:=by
   rw [zff _ t (by rw [zaz];exact a),zfj a]
  rw [hnext]
  have hset: ∀ z,(Y++[(z7y m (k+1) s).take t++List.replicate (m.rows.length-t) false]).set s z=Y++[z]:=fun z=>by
   rw [List.set_append_right _ _ (by omega),e,Nat.sub_self];rfl
  rw [hset]
  rfl
 ·subst hi
  simp only [xg]
  rw [ul (by omega),Nat.sub_self,List.replicate_zero,List.append_nil,List.take_of_length_le (by rw [zaz];exact Nat.le_refl _)]
theorem zu8(a:MOk m)(c:200≤N){k:Nat}(h:k≤100):lu N m (k:Int)=some (z5h m k):=by
 have d:=a.r2
 have e:xh N m N ([]:List (List Bool)) 0=some (z5h m 0):=by
  refine ug (σ:=List (List Bool)) (fun F s st=>xh N m F st (s:Int)) m.rows.length (fun s st=>st=List.replicate s (List.replicate m.rows.length false)) _ (fun F s st b hi=> .inr ?_) (fun F st hi=>?_) N 0 [] (Nat.zero_le _) (by omega) rfl
  ·subst hi
   refine⟨_,rfl,?_⟩
   simp only [xh]
   rw [uy (by omega),zm ⟨by omega,by omega,by omega⟩,zm ⟨by simp;omega,by simp;omega⟩,zm (qo (by omega)),z6g,List.replicate_succ'];rfl
  ·subst hi
   simp only [xh]
   rw [ul (by omega),zxh]
 have f:xx N m (k:Int) N (z5h m 0) 0=some (z5h m k):=by
  refine ug (σ:=List (List Bool)) (fun F j st=>xx N m (k:Int) F st (j:Int)) k (fun j st=>st=z5h m j) _ (fun F j st i hi=> .inr ?_) (fun F st hi=>?_) N 0 _ (Nat.zero_le _) (by omega) rfl
  ·subst hi
   refine⟨_,rfl,?_⟩
   have g:xy N m (z5h m j) N ([]:List (List Bool)) 0=some (z5h m (j+1)):=by
    refine ug (σ:=List (List Bool)) (fun F s st=>xy N m (z5h m j) F st (s:Int)) m.rows.length (fun s st=>st=(List.range s).map (z7y m (j+1))) _ (fun F s st b hi=> .inr ?_) (fun F st hi=>?_) N 0 [] (Nat.zero_le _) (by omega) rfl
    ·subst hi
     refine⟨_,rfl,?_⟩
     simp only [xy]
     rw [uy (by omega)]
     refine(qc (x:=(List.range s).map (z7y m (j+1))++[z7y m (j+1) s]) ?_).trans ?_
     ·rw [zm ⟨by omega,by omega,by omega⟩,zm ⟨by simp;omega,by simp;omega⟩]
      exact zru a c b (by simp)
     ·rw [zm (qo (by omega)),z7v];rfl
    ·subst hi
     simp only [xy]
     rw [ul (by omega)];rfl
   simp only [xx]
   rw [uy (by omega),qc g,zm (qo (by omega))];rfl
  ·subst hi
   simp only [xx]
   rw [ul (by omega)]
 unfold lu
 rw [qc e,qc f]
theorem zn0(r:MOk m)(I:200≤N)(k:Nat):il N (z5h m k)=some (pL m k):=by
 have w:=r.r2
 have hname: ∀ s,name (pkc m k) s=pkc m k s:=fun s=>zfo
 have o: ∀ s,s<m.rows.length→ ∃ v,uf N (z5h m k) ((List.range s).map fun u=>(pkc m k u:Int)) (s:Int) N (-1) 0=some v∧((v= -1∧z1h (pkc m k) s=true)∨(v=(pkc m k s:Int)∧z1h (pkc m k) s=false)):=fun s i=>by
  refine rf (σ:=Int) (fun F t v=>uf N (z5h m k) ((List.range s).map fun u=>(pkc m k u:Int)) (s:Int) F v (t:Int)) s (fun t v=>(v= -1∧ ∀ u,u<t→pkc m k u≠pkc m k s)∨(v=(pkc m k s:Int)∧ ∃ u,u<t∧pkc m k u=pkc m k s)) _ (fun F t v z hi=> .inr ?_) (fun F v hi=>?_) N 0 (-1) (Nat.zero_le _) (by omega) (.inl ⟨rfl,fun u j=>by omega⟩)
  ·have A:ix (z5h m k) (s:Int)=z7y m k s:=zfz i
   have B:ix (z7y m k s) (t:Int)=decide (pkc m k s≠pkc m k t):=zfj (by omega)
   have C:ix ((List.range s).map fun u=>(pkc m k u:Int)) (t:Int)=(pkc m k t:Int):=by rw [om];simp [List.getD_eq_getElem?_getD,z]
   have D: ∀ y,y=(if pkc m k s=pkc m k t then(pkc m k t:Int) else v)→uf N (z5h m k) ((List.range s).map fun u=>(pkc m k u:Int)) (s:Int) (F+1) v (t:Int)=uf N (z5h m k) ((List.range s).map fun u=>(pkc m k u:Int)) (s:Int) F y ((t+1:Nat):Int):=fun y q=>by
    simp only [uf]
    rw [uy (by omega)]
    refine(qc (x:=y) ?_).trans (by rw [zm (qo (by omega))];rfl)
    rw [zm (qx (by rw [zd2];exact i)),A,zm (qx (by rw [zaz];omega)),B]
    by_cases a:pkc m k s=pkc m k t
    ·rw [decide_eq_false (fun h=>h a)]
     refine(ct (b:= !false) rfl).trans ?_
     rw [zm (qx (by simp;omega)),C,q,if_pos a]
    ·rw [decide_eq_true a]
     refine(cf (b:= !true) rfl).trans ?_
     rw [q,if_neg a]
   refine⟨_,?_,D _ rfl⟩
   by_cases a:pkc m k s=pkc m k t
   ·rw [if_pos a];exact .inr ⟨by rw [a],t,by omega,a.symm⟩
   ·rw [if_neg a]
    rcases hi with⟨d,f⟩|⟨d,u,j,f⟩
    ·refine .inl ⟨d,fun u j=>?_⟩
     by_cases e:u=t
     ·subst e;exact fun h=>a h.symm
     ·exact f u (by omega)
    ·exact .inr ⟨d,u,by omega,f⟩
  ·simp only [uf]
   rw [ul (by omega)]
   refine⟨v,rfl,?_⟩
   rcases hi with⟨d,f⟩|⟨d,u,j,f⟩
   ·exact .inl ⟨d,ru.2 f⟩
   ·refine .inr ⟨d,?_⟩
    rw [←Bool.not_eq_true,ru]
    exact fun h=>h u j f
 have E:w9 N (z5h m k) N ([]:List Int) 0 0=some (pL m k):=by
  refine ug (σ:=List Int×Int) (fun F s st=>w9 N (z5h m k) F st.1 st.2 (s:Int)) m.rows.length (fun s st=>st.1=((List.range s).map fun u=>(pkc m k u:Int))∧st.2=(cntF (pkc m k) s:Int)) _ (fun F s st i hi=> .inr ?_) (fun F st hi=>?_) N 0 ([],0) (Nat.zero_le _) (by omega) ⟨rfl,rfl⟩
  ·obtain⟨l,c⟩:=st
   obtain⟨g,a⟩:=hi
   dsimp only at g a⊢
   subst g;subst a
   obtain⟨v,G,p⟩:=o s i
   have H:=zc4 (pkc m k) s
   have hstep:cntF (pkc m k) (s+1)=cntF (pkc m k) s+if z1h (pkc m k) s=true then 1 else 0:=rfl
   refine⟨((List.range (s+1)).map fun u=>(pkc m k u:Int),(cntF (pkc m k) (s+1):Int)),⟨rfl,rfl⟩,?_⟩
   simp only [w9]
   rw [uy (by rw [zd2];omega),qc G]
   refine(qc (x:=((cntF (pkc m k) (s+1):Int),(pkc m k s:Int))) ?_).trans ?_
   ·rcases p with⟨rfl,n⟩|⟨rfl,n⟩
    ·rw [n,if_pos rfl] at hstep
     rw [uy (by decide),zm (qo (by omega)),hstep,←hname s,ze7 n];rfl
    ·rw [n,if_neg (by decide)] at hstep
     rw [ul (by omega),hstep];rfl
   ·rw [zm ⟨by simp;omega,by simp;omega⟩,zm (qo (by omega)),z7v];rfl
  ·obtain⟨l,c⟩:=st
   obtain⟨g,a⟩:=hi
   dsimp only at g a⊢
   subst g
   simp only [w9]
   rw [ul (by rw [zd2];omega)];rfl
 unfold il
 rw [qc E]
theorem zd0(a:MOk m)(c:200≤N):ak N m=some (z5q m):=by
 have d:=a.r2
 unfold ak z3l
 rw [qc (show (bd (lu N m (m.rows.length:Int)) fun e=>bd (il N e) fun b=>some b)=some (z5q m) from by rw [qc (zu8 a c (by omega)),qc (zn0 a c _)];rfl)]
end ref
end GV
end Go.Proofs.Ytplgbkaollfmkaa

namespace Go.Proofs.Ytplgbkaollfmkaa
namespace GV
set_option maxRecDepth 100000
/-! ### First ones,merged-/
theorem zdc{m:Mach}:(z5q m).length=m.rows.length:=zni _
theorem zao{m:Mach}{s:Nat}(a:s<m.rows.length):(z5q m).getD s default=(cls m s:Int):=zrr a
section
variable {N : Nat} {m : Mach}
/-! ### The map-/
def z95(m:Mach):List Nat:=zlj (rch (zbd m) 0)
def zik(m:Mach)(s:Nat):Int:=if occ (rch m 0) s=true then(((z95 m).idxOf (cls m s):Nat):Int) else-1
def zo8(m:Mach):List Int:=(List.range m.rows.length).map (zik m)
theorem zy9:(zo8 m).length=m.rows.length:=by simp [zo8]
theorem zyu{s:Nat}(a:s<m.rows.length):(zo8 m).getD s default=zik m s:=xc _ a
theorem q4x(a:MOk m):rch (zbd m) 0=zav (cls m) (rch m 0):=by
 have:=q2v (q0c a) (s0:=0) (by have:=a.r1;omega)
 rwa [zob] at this
theorem q6w(a:MOk m):Rch (zbd m) 0 (rch (zbd m) 0):=zpo (zn4 a)
theorem q0j(a:MOk m){s:Nat}(h:occ (rch m 0) s=true):cls m s∈z95 m:=by
 obtain⟨j,e,rfl⟩:=z3q.1 h
 unfold z95
 rw [q4x a,zj1]
 obtain⟨f,b,g⟩:=z3a (z1s (cls m) (rch m 0)) j
 obtain⟨c,d⟩:=zir (h:=cls m) (P:=rch m 0) (u:=z6t (z1s (cls m) (rch m 0)) j) (by omega) (z7g _ _)
 exact⟨_,by rw [zpq];exact c,by rw [d];exact b⟩
end
end GV
end Go.Proofs.Ytplgbkaollfmkaa
