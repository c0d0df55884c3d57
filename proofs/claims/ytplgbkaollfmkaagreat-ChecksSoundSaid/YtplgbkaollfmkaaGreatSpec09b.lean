
import Derived.Test.YtplgbkaollfmkaaGreatQuo09
import Derived.Test.YtplgbkaollfmkaaGreatSpec06k
set_option linter.unusedVariables false
set_option linter.unusedSimpArgs false
namespace Go.Proofs.YtplgbkaollfmkaaGreat
namespace GV
set_option maxRecDepth 100000
/-! ### Signatures-/
def sgL(m:Mach)(p:Nat→Nat)(s:Nat):List (Int×Int):=zdt m p s++List.replicate (16-m.inputs.toNat) (0,0)
theorem zcy{m:Mach}{p:Nat→Nat}{s:Nat}:(zdt m p s).length=m.inputs.toNat:=by simp [zdt]
theorem zqi{m:Mach}(a:MOk m){p:Nat→Nat}{s:Nat}:(sgL m p s).length=16:=by
 have:=a.i2
 unfold sgL
 rw [List.length_append,zcy,List.length_replicate];omega
theorem q0g{m:Mach}{p:Nat→Nat}{s i:Nat}(hi:i<m.inputs.toNat):(zdt m p s).getD i default=(ou m s i,if ed m s i= -1 then-1 else(p (ed m s i).toNat:Int)):=by
 simp [zdt,List.getD_eq_getElem?_getD,hi]
structure PR (m:Mach) (p:List Int) (f:Nat→Nat):Prop where
 len:p.length=m.rows.length
 get: ∀ s,s<m.rows.length→p.getD s default=(f s:Int)
theorem q8q{m:Mach}(k:Nat):PR m (pL m k) (pkc m k):=⟨zqp k,fun s a=>zu6 a⟩
theorem zmy{α:Type}{X:List α}{n k:Nat}{z y:α}(a:X.length=k)(b:k<n):(X++List.replicate (n-k) z).set k y=(X++[y])++List.replicate (n-(k+1)) z:=q4n a b
theorem q3d{N:Nat}{m:Mach}(a:MOk m)(z:200≤N){p:List Int}{f:Nat→Nat}(j:PR m p f){s:Nat}(c:s<m.rows.length): ∃ X:Arr 16 (Int×Int),z97 N m p (s:Int)=some X∧X.1=sgL m f s:=by
 have n:=a.i1;have o:=a.i2;have q:=a.r2
 have hrow:=a.row s c
 obtain⟨X,r,e⟩: ∃ X:Arr 16 (Int×Int),rq N m p (s:Int) N 0 (zc1 16 (List.replicate 16 (((0:Int),(0:Int)):(Int×Int))))=some X∧X.1=sgL m f s:=by
  refine fo (σ:=Arr 16 (Int×Int)) (fun F k X=>rq N m p (s:Int) F (k:Int) X) m.inputs.toNat (fun k X=>X.1=(zdt m f s).take k++List.replicate (16-k) (0,0)) _ (fun F k X d hi=> .inr ?_) (fun F X hi=>?_) N 0 _ (Nat.zero_le _) (by omega) (by rw [zfu (by simp)];rfl)
  ·have g:X.1.length=16:=X.2
   have i:((zdt m f s).take k).length=k:=by rw [List.length_take,zcy];omega
   have hset: ∀ y,X.1.set k y=((zdt m f s).take k++[y])++List.replicate (16-(k+1)) (0,0):=fun y=>by rw [hi];exact zmy i (by omega)
   have hnext:(zdt m f s).take (k+1)=(zdt m f s).take k++[(ou m s k,if ed m s k= -1 then-1 else(f (ed m s k).toNat:Int))]:=by
    rw [z7x _ k (by rw [zcy];exact d),q0g d]
   have t: ∀ Y:Arr 16 (Int×Int),Y=(if ed m s k= -1 then z5h X (k:Int) (ou m s k,-1) else z5h (z5h X (k:Int) (ou m s k,-1)) (k:Int) (((ix (z5h X (k:Int) (ou m s k,-1)).1 (k:Int)).1,(ix p (ed m s k)))))→
    rq N m p (s:Int) (F+1) (k:Int) X=rq N m p (s:Int) F ((k+1:Nat):Int) Y:=fun Y l=>by
    simp only [rq]
    rw [uy (show (k:Int)<((ix m.rows (s:Int)).length:Int) by rw [ak];omega)]
    refine(qc (x:=Y) ?_).trans (by rw [zk (qm (by omega))];rfl)
    rw [zk (show okI (ix m.rows (s:Int)) (k:Int) from qo (show k<(m.rows.getD s default).length by omega)),zk (qo (show k<X.1.length by omega))]
    show (bif decide (ed m s k≠ -1) then _ else _)=_
    by_cases hc:ed m s k= -1
    ·rw [uo (fun h=>h hc),l,if_pos hc];rfl
    ·have b:=(z94 a c d).resolve_left hc
     have A:=j.len
     rw [uy hc,l,if_neg hc]
     refine(zk (show okI p (ed m s k) from⟨b.1,by omega⟩)).trans ?_
     refine(zk (show okI (z5h X (k:Int) (ou m s k,-1)).1 (k:Int) from qo (by rw [(z5h X (k:Int) (ou m s k,-1)).2];omega))).trans ?_
     rfl
   refine⟨_,?_,t _ rfl⟩
   by_cases hc:ed m s k= -1
   ·rw [if_pos hc,hnext,if_pos hc]
    exact hset _
   ·have b:=(z94 a c d).resolve_left hc
    rw [if_neg hc,hnext,if_neg hc]
    have u:(z5h X (k:Int) (ou m s k,-1)).1=X.1.set k (ou m s k,-1):=rfl
    have v:(ix (z5h X (k:Int) (ou m s k,-1)).1 (k:Int)).1=ou m s k:=by
     rw [u,ak]
     simp [List.getD_eq_getElem?_getD,g,show k<16 by omega]
    have w:ix p (ed m s k)=(f (ed m s k).toNat:Int):=j.get _ (by omega)
    rw [v,w]
    show ((X.1.set k (ou m s k,-1)).set k (ou m s k,(f (ed m s k).toNat:Int)))=_
    rw [List.set_set]
    exact hset _
  ·simp only [rq]
   rw [uo (show¬((m.inputs.toNat:Nat):Int)<((ix m.rows (s:Int)).length:Int) by rw [ak];omega)]
   refine⟨X,rfl,?_⟩
   rw [hi,List.take_of_length_le (by rw [zcy];exact Nat.le_refl _)];rfl
 refine⟨X,?_,e⟩
 unfold z97
 rw [zk (qo c),qc r]
/-! ### A round-/
def zgj(m:Mach)(f:Nat→Nat)(s:Nat):Sb:=⟨(f s:Int),zc1 16 (sgL m f s)⟩
theorem q00{m:Mach}(a:MOk m){f:Nat→Nat}{s t:Nat}:zgj m f s=zgj m f t↔zpx m f s=zpx m f t:=by
 unfold zgj zpx
 rw [Sb.mk.injEq,Prod.mk.injEq]
 refine and_congr (by omega) ?_
 constructor
 ·intro h
  have b:=congrArg Subtype.val h
  rw [zfu (zqi a),zfu (zqi a)] at b
  exact(List.append_inj b (by rw [zcy,zcy])).1
 ·intro h
  unfold sgL
  rw [h]
theorem zv3{N:Nat}{m:Mach}(d:MOk m)(o:200≤N){p:List Int}{f:Nat→Nat}(i:PR m p f):z5r N m p=some (zy6 (zpx m f) m.rows.length):=by
 have q:=d.r2;have r:=i.len
 have u:r9 N m p N 0 ([]:List (Sb×Int)) (mk (p.length:Int) (0:Int))=some (zy6 (zgj m f) m.rows.length):=by
  refine uk (σ:=List (Sb×Int)×List Int) (fun F k st=>r9 N m p F (k:Int) st.1 st.2) m.rows.length
   (fun k st=>st.1=nmM (zgj m f) k∧st.2=(List.range k).map (fun s=>(name (zgj m f) s:Int))++List.replicate (m.rows.length-k) 0) _ (fun F k st j hi=> .inr ?_) (fun F st hi=>?_) N 0 ([],mk (p.length:Int) (0:Int)) (Nat.zero_le _) (by omega) ⟨rfl,by rw [r,z7v];simp⟩
  ·obtain⟨M,X⟩:=st
   obtain⟨e,a⟩:=hi
   dsimp only at e a⊢
   subst e;subst a
   obtain⟨A,v,l⟩:=q3d (N:=N) d o i j
   have n:A=zc1 16 (sgL m f k):=Subtype.ext (by rw [l,zfu (zqi d)])
   have hkey:(⟨ix p (k:Int),A⟩:Sb)=zgj m f k:=by unfold zgj;rw [n,ak,i.get k j]
   have c:((List.range k).map (fun s=>(name (zgj m f) s:Int))).length=k:=by simp
   refine⟨(nmM (zgj m f) (k+1),(List.range (k+1)).map (fun s=>(name (zgj m f) s:Int))++List.replicate (m.rows.length-(k+1)) 0),⟨rfl,rfl⟩,?_⟩
   simp only [r9]
   rw [uy (by omega),zk (qo (by omega)),qc v,hkey]
   refine(qc (x:=nmM (zgj m f) (k+1)) ?_).trans ?_
   ·cases h:z95 (nmM (zgj m f) k) (zgj m f k)
    ·exact(ct (b:= !false) rfl).trans (by rw [q47 _ h])
    ·exact(cf (b:= !true) rfl).trans (by rw [q3v _ h])
   ·rw [zk (qo (by rw [List.length_append,c,List.length_replicate];omega)),zk (qm (by omega)),zwg _ _ (Nat.lt_succ_self k),z4g,zmy c j,z9g]
    rfl
  ·obtain⟨M,X⟩:=st
   obtain⟨e,a⟩:=hi
   dsimp only at e a⊢
   subst a
   simp only [r9]
   rw [uo (by omega),Nat.sub_self,List.replicate_zero,List.append_nil];rfl
 unfold z5r
 rw [zk ⟨by omega,by omega,by omega⟩,qc u,zul (f:=zgj m f) (g:=zpx m f) fun s t _ _=>q00 d]
theorem zjj{N:Nat}{a b:List Int}(f:a.length<N)(g:a.length≤4611686018427387904):slices_Equal_int N a b=some (decide (a=b)):=by
 unfold slices_Equal_int
 by_cases h:(a.length:Int)≠b.length
 ·rw [uy h,decide_eq_false (fun e=>h (by rw [e]))]
 ·rw [uo h]
  have hl':a.length=b.length:=by omega
  have c:ik N a b N 0=some (if a=b then Ex.go () else Ex.rt false):=by
   refine uk (σ:=Unit) (fun F k _=>ik N a b F (k:Int)) a.length (fun k _=> ∀ j,j<k→a.getD j default=b.getD j default) _ (fun F k _ d hi=>?_) (fun F _ hi=>?_) N 0 () (Nat.zero_le _) (by omega) (fun j i=>by omega)
   ·simp only [ik]
    rw [uy (by omega),zk (qo d),zk (qo (by omega)),ak,ak]
    by_cases he:a.getD k default=b.getD k default
    ·right
     refine⟨(),zt0 hi he,Eq.trans (uo (fun h=>h he)) ?_⟩
     rw [zk (qm (by omega))];rfl
    ·left
     refine Eq.trans (uy he) ?_
     rw [if_neg (fun e=>he (by rw [e]))]
   ·simp only [ik]
    rw [uo (by omega),if_pos (z5s hl' hi)]
  rw [qc c]
  by_cases he:a=b
  ·rw [if_pos he,decide_eq_true he];rfl
  ·rw [if_neg he,decide_eq_false he];rfl
theorem zk8{N:Nat}{m:Mach}(f:MOk m)(n:200≤N){a:Nat}(b:zj9 m a)(hmin: ∀ i,i<a→ ¬zj9 m i)(g:a<m.rows.length): ∀ (d j F:Nat) (l:List Int),j+d=a→d<F→
 z0e N ((List Int)×Int) (fun k c=>gd (in64 (c.2+1))<|some (true,(k,c.2+1))) m F (l,(j:Int)-1) (pL m j)=some (pL m a,(a:Int))
 |d,j,0,l,_,p=>by omega
 |d,j,F+1,l,s,p=>by
  have q:=f.r2
  have r:(j:Int)-1+1=j:=by omega
  simp only [z0e]
  rw [zk (qm (by omega)),zpn,r,ct rfl,qc (zv3 f n (q8q j)),←q3k,qc (zjj (by rw [zqp];omega) (by rw [zqp];omega))]
  by_cases h:zj9 m j
  ·have:j=a:=by
    rcases Nat.lt_or_ge j a with o|o
    ·exact absurd h (hmin j o)
    ·omega
   subst this
   rw [uy ((zro j).2 h).symm]
  ·have t:d≠0:=fun e=>by
    have:j=a:=by omega
    rw [this] at h;exact h b
   rw [uo (fun e=>h ((zro j).1 e.symm))]
   have:=zk8 f n b hmin g (d-1) (j+1) F (pL m j) (by omega) (by omega)
   rw [show (((j+1:Nat):Int)-1)=(j:Int) by omega] at this
   exact this
theorem ztr{N:Nat}{m:Mach}(a:MOk m)(c:200≤N): ∃ j:Nat,z5y N m=some (z7d m,(j:Int),0):=by
 have e:=a.r1;have f:=a.r2
 obtain⟨b,g,d,h⟩:=zqc a
 refine⟨b,?_⟩
 have key:=zk8 (N:=N) a c d h g b 0 N [] (by omega) (by omega)
 have i:pL m 0=mk (m.rows.length:Int) (0:Int):=by
  unfold pL
  rw [z7v]
  show (List.range m.rows.length).map (fun _=>((0:Nat):Int))=_
  rw [List.map_const',List.length_range];rfl
 unfold z5y
 rw [qc (q1v a c),uo (by simp),qc (show z90 N m=some m from rfl)]
 refine(qc (x:=(pL m b,(b:Int))) ?_).trans ?_
 ·unfold z6w
  rw [zk ⟨by omega,by omega,by omega⟩,←i]
  exact key
 ·rw [show z7d m=pL m b from q46 a d (by omega)]
/-! ### The reference-/
def apB(m:Mach)(k s t i:Nat):Bool:=decide (ou m s i≠ou m t i)||(((decide (0≤ed m s i))&&(decide (0≤ed m t i)))&&decide (pkc m k (ed m s i).toNat≠pkc m k (ed m t i).toNat))
def z8o(m:Mach)(k s:Nat):List Bool:=(List.range m.rows.length).map fun t=>decide (pkc m k s≠pkc m k t)
def z4f(m:Mach)(k:Nat):List (List Bool):=(List.range m.rows.length).map (z8o m k)
section ref
variable {N : Nat} {m : Mach}
theorem zcp(k:Nat):(z4f m k).length=m.rows.length:=by simp [z4f]
theorem zbh(k s:Nat):(z8o m k s).length=m.rows.length:=by simp [z8o]
theorem zet{k s:Nat}(a:s<m.rows.length):(z4f m k).getD s default=z8o m k s:=by simp [z4f,List.getD_eq_getElem?_getD,a]
theorem zio{k s t:Nat}(a:t<m.rows.length):(z8o m k s).getD t default=decide (pkc m k s≠pkc m k t):=by simp [z8o,List.getD_eq_getElem?_getD,a]
theorem apart_eq(a:MOk m)(A:200≤N){k s t:Nat}(c:s<m.rows.length)(d:t<m.rows.length):z2u N m (z4f m k) (s:Int) (t:Int)=some (if((List.range m.inputs.toNat).any (apB m k s t))=true then 1 else 0):=by
 have q:=a.i1;have r:=a.i2
 have u:=a.row s c;have v:=a.row t d
 have w:vz N m (z4f m k) (s:Int) (t:Int) N 0=some (if((List.range m.inputs.toNat).any (apB m k s t))=true then Ex.rt 1 else Ex.go ()):=by
  refine uk (σ:=Unit) (fun F i _=>vz N m (z4f m k) (s:Int) (t:Int) F (i:Int)) m.inputs.toNat (fun i _=> ∀ j,j<i→apB m k s t j=false) _ (fun F i _ hi f=>?_) (fun F _ f=>?_) N 0 () (Nat.zero_le _) (by omega) (fun j g=>by omega)
  ·have x:=z94 a c hi
   have y:=z94 a d hi
   have hbody:(vz N m (z4f m k) (s:Int) (t:Int) (F+1) (i:Int))=bif apB m k s t i then some (Ex.rt 1) else vz N m (z4f m k) (s:Int) (t:Int) F ((i+1:Nat):Int):=by
    simp only [vz]
    rw [uy (by omega),zk (qo c),zk (show okI (ix m.rows (s:Int)) (i:Int) from qo (show i<(m.rows.getD s default).length by omega)),zk (qo d),zk (show okI (ix m.rows (t:Int)) (i:Int) from qo (show i<(m.rows.getD t default).length by omega))]
    have n: ∀ {p:Prop},(0≤ed m s i→0≤ed m t i→p)→(((true&&((decide (ou m s i≠ou m t i))==false))&&(((decide (0≤ed m s i))&&(decide (0≤ed m t i)))==true))=true→p):=fun h e=>by
     simp only [Bool.and_eq_true,beq_iff_eq,decide_eq_true_eq] at e
     exact h e.2.1 e.2.2
    refine(zk (n fun l o=>?_)).trans ?_
    ·exact⟨l,by show ed m s i<_;rw [zcp];omega⟩
    refine(zk (n fun l o=>?_)).trans ?_
    ·have e:ix (z4f m k) (ed m s i)=z8o m k (ed m s i).toNat:=zet (by omega)
     show okI (ix (z4f m k) (ed m s i)) (ed m t i)
     rw [e]
     exact⟨o,by rw [zbh];omega⟩
    show (bif (decide (ou m s i≠ou m t i))||(((decide (0≤ed m s i))&&(decide (0≤ed m t i)))&&(ix (ix (z4f m k) (ed m s i)) (ed m t i))) then _ else _)=_
    have b:((decide (ou m s i≠ou m t i))||(((decide (0≤ed m s i))&&(decide (0≤ed m t i)))&&(ix (ix (z4f m k) (ed m s i)) (ed m t i))))=apB m k s t i:=by
     unfold apB
     by_cases l:0≤ed m s i∧0≤ed m t i
     ·have e:ix (z4f m k) (ed m s i)=z8o m k (ed m s i).toNat:=zet (by omega)
      have z:ix (z8o m k (ed m s i).toNat) (ed m t i)=decide (pkc m k (ed m s i).toNat≠pkc m k (ed m t i).toNat):=zio (by omega)
      rw [e,z]
     ·have:((decide (0≤ed m s i))&&(decide (0≤ed m t i)))=false:=by
       rw [Bool.and_eq_false_iff,decide_eq_false_iff_not,decide_eq_false_iff_not];omega
      rw [this,Bool.false_and,Bool.false_and]
    rw [b]
    cases apB m k s t i
    ·rw [cf rfl,cf rfl,zk (qm (by omega))];rfl
    ·rw [ct rfl,ct rfl]
   rw [hbody]
   cases b:apB m k s t i
   ·right
    refine⟨(),fun j g=>?_,rfl⟩
    by_cases e:j=i
    ·rw [e];exact b
    ·exact f j (by omega)
   ·left
    rw [ct rfl,if_pos (List.any_eq_true.2 ⟨i,List.mem_range.2 hi,b⟩)]
  ·simp only [vz]
   rw [uo (by omega),if_neg]
   rw [Bool.not_eq_true,List.any_eq_false]
   intro j g
   rw [f j (List.mem_range.1 g)];decide
 unfold z2u
 rw [qc w]
 split<;>rfl
theorem ztk(c:MOk m){k s t:Nat}(e:s<m.rows.length)(f:t<m.rows.length):(decide (pkc m k s≠pkc m k t)||(List.range m.inputs.toNat).any (apB m k s t))=decide (pkc m (k+1) s≠pkc m (k+1) t):=by
 rw [Bool.eq_iff_iff,Bool.or_eq_true,decide_eq_true_eq,decide_eq_true_eq,List.any_eq_true,ne_eq,ne_eq,znb c e f]
 constructor
 ·rintro(h|⟨i,hi,h⟩) ⟨b,g⟩
  ·exact h b
  ·have hi':=List.mem_range.1 hi
   obtain⟨j,l⟩:=g i hi'
   unfold apB at h
   rw [Bool.or_eq_true,Bool.and_eq_true,Bool.and_eq_true,decide_eq_true_eq,decide_eq_true_eq,decide_eq_true_eq,decide_eq_true_eq] at h
   rcases h with h|⟨⟨n,o⟩,p⟩
   ·exact h j
   ·exact p (l (by omega) (by omega))
 ·intro h
  by_cases b:pkc m k s=pkc m k t
  ·right
   refine Classical.byContradiction fun q=>h ⟨b,fun i hi=>?_⟩
   have a:apB m k s t i≠true:=fun r=>q ⟨i,List.mem_range.2 hi,r⟩
   unfold apB at a
   rw [ne_eq,Bool.or_eq_true,Bool.and_eq_true,Bool.and_eq_true,decide_eq_true_eq,decide_eq_true_eq,decide_eq_true_eq,decide_eq_true_eq] at a
   have u:=z94 c e hi
   have v:=z94 c f hi
   refine⟨Classical.byContradiction fun d=>a (.inl d),fun n o=>Classical.byContradiction fun d=>a (.inr ⟨⟨by omega,by omega⟩,d⟩)⟩
  ·exact .inl b
theorem q0m:z4f m 0=List.replicate m.rows.length (List.replicate m.rows.length false):=by
 unfold z4f z8o
 show (List.range m.rows.length).map (fun s=>(List.range m.rows.length).map fun t=>decide ((0:Nat)≠0))=_
 rw [show decide ((0:Nat)≠0)=false from rfl,List.map_const',List.map_const',List.length_range]
theorem zuv(d:MOk m)(g:200≤N){k s:Nat}(c:s<m.rows.length){Y:List (List Bool)}(e:Y.length=s):bf N m (z4f m k) (s:Int) N 0 (Y++[mk (m.rows.length:Int) false])=some (Y++[z8o m (k+1) s]):=by
 have h:=d.r2
 refine uk (σ:=List (List Bool)) (fun F t st=>bf N m (z4f m k) (s:Int) F (t:Int) st) m.rows.length (fun t st=>st=Y++[(z8o m (k+1) s).take t++List.replicate (m.rows.length-t) false]) _ (fun F t st a hi=> .inr ?_) (fun F st hi=>?_) N 0 _ (Nat.zero_le _) (by omega) (by rw [z7v];rfl)
 ·subst hi
  have b:((z8o m (k+1) s).take t).length=t:=by rw [List.length_take,zbh];omega
  have hget:(Y++[(z8o m (k+1) s).take t++List.replicate (m.rows.length-t) false]).getD s default=(z8o m (k+1) s).take t++List.replicate (m.rows.length-t) false:=by
   rw [List.getD_eq_getElem?_getD,←e,List.getElem?_concat_length];rfl
  have f:((z8o m (k+1) s).take t++List.replicate (m.rows.length-t) false).length=m.rows.length:=by rw [List.length_append,b,List.length_replicate];omega
  refine⟨_,rfl,?_⟩
  simp only [bf]
  rw [uy (by omega),zk (qo (by rw [List.length_append,e];simp)),zk (qo (by rw [zcp];exact c))]
  have i:ix (z4f m k) (s:Int)=z8o m k s:=zet c
  have j:ix (z8o m k s) (t:Int)=decide (pkc m k s≠pkc m k t):=zio a
  rw [i,zk (qo (by rw [zbh];exact a)),j]
  refine(zef (fun _=>apart_eq d g c a)).trans ?_
  have l:ix (Y++[(z8o m (k+1) s).take t++List.replicate (m.rows.length-t) false]) (s:Int)=_:=hget
  rw [l,zk (qo (by rw [f];exact a)),zk (qm (by omega))]
  have hval:(decide (pkc m k s≠pkc m k t)||(decide (((bif (true&&(decide (pkc m k s≠pkc m k t)==false)) then some (if((List.range m.inputs.toNat).any (apB m k s t))=true then(1:Int) else 0) else none).getD default)=1)))=decide (pkc m (k+1) s≠pkc m (k+1) t):=by
   rw [←ztk d c a]
   cases decide (pkc m k s≠pkc m k t)
   ·cases (List.range m.inputs.toNat).any (apB m k s t)<;>rfl
   ·rfl
  rw [hval,z4g,z4g,zmy b a]
  have hnext:(z8o m (k+1) s).take (t+1)=(z8o m (k+1) s).take t++[decide (pkc m (k+1) s≠pkc m (k+1) t)]:=by
   rw [z7x _ t (by rw [zbh];exact a),zio a]
  rw [hnext]
  have hset: ∀ z,(Y++[(z8o m (k+1) s).take t++List.replicate (m.rows.length-t) false]).set s z=Y++[z]:=fun z=>by
   rw [List.set_append_right _ _ (by omega),e,Nat.sub_self];rfl
  rw [hset]
  rfl
 ·subst hi
  simp only [bf]
  rw [uo (by omega),Nat.sub_self,List.replicate_zero,List.append_nil,List.take_of_length_le (by rw [zbh];exact Nat.le_refl _)]
theorem zjw(a:MOk m)(c:200≤N){k:Nat}(h:k≤100):ni N m (k:Int)=some (z4f m k):=by
 have d:=a.r2
 have e:gq N m N ([]:List (List Bool)) 0=some (z4f m 0):=by
  refine uk (σ:=List (List Bool)) (fun F s st=>gq N m F st (s:Int)) m.rows.length (fun s st=>st=List.replicate s (List.replicate m.rows.length false)) _ (fun F s st b hi=> .inr ?_) (fun F st hi=>?_) N 0 [] (Nat.zero_le _) (by omega) rfl
  ·subst hi
   refine⟨_,rfl,?_⟩
   simp only [gq]
   rw [uy (by omega),zk ⟨by omega,by omega,by omega⟩,zk ⟨by simp;omega,by simp;omega⟩,zk (qm (by omega)),z7v,List.replicate_succ'];rfl
  ·subst hi
   simp only [gq]
   rw [uo (by omega),q0m]
 have f:bq N m (k:Int) N (z4f m 0) 0=some (z4f m k):=by
  refine uk (σ:=List (List Bool)) (fun F j st=>bq N m (k:Int) F st (j:Int)) k (fun j st=>st=z4f m j) _ (fun F j st i hi=> .inr ?_) (fun F st hi=>?_) N 0 _ (Nat.zero_le _) (by omega) rfl
  ·subst hi
   refine⟨_,rfl,?_⟩
   have g:bv N m (z4f m j) N ([]:List (List Bool)) 0=some (z4f m (j+1)):=by
    refine uk (σ:=List (List Bool)) (fun F s st=>bv N m (z4f m j) F st (s:Int)) m.rows.length (fun s st=>st=(List.range s).map (z8o m (j+1))) _ (fun F s st b hi=> .inr ?_) (fun F st hi=>?_) N 0 [] (Nat.zero_le _) (by omega) rfl
    ·subst hi
     refine⟨_,rfl,?_⟩
     simp only [bv]
     rw [uy (by omega)]
     refine(qc (x:=(List.range s).map (z8o m (j+1))++[z8o m (j+1) s]) ?_).trans ?_
     ·rw [zk ⟨by omega,by omega,by omega⟩,zk ⟨by simp;omega,by simp;omega⟩]
      exact zuv a c b (by simp)
     ·rw [zk (qm (by omega)),z9g];rfl
    ·subst hi
     simp only [bv]
     rw [uo (by omega)];rfl
   simp only [bq]
   rw [uy (by omega),qc g,zk (qm (by omega))];rfl
  ·subst hi
   simp only [bq]
   rw [uo (by omega)]
 unfold ni
 rw [qc e,qc f]
theorem zq4(r:MOk m)(I:200≤N)(k:Nat):lh N (z4f m k)=some (pL m k):=by
 have w:=r.r2
 have hname: ∀ s,name (pkc m k) s=pkc m k s:=fun s=>zhl
 have o: ∀ s,s<m.rows.length→ ∃ v,uq N (z4f m k) ((List.range s).map fun u=>(pkc m k u:Int)) (s:Int) N (-1) 0=some v∧((v= -1∧z2x (pkc m k) s=true)∨(v=(pkc m k s:Int)∧z2x (pkc m k) s=false)):=fun s i=>by
  refine fo (σ:=Int) (fun F t v=>uq N (z4f m k) ((List.range s).map fun u=>(pkc m k u:Int)) (s:Int) F v (t:Int)) s (fun t v=>(v= -1∧ ∀ u,u<t→pkc m k u≠pkc m k s)∨(v=(pkc m k s:Int)∧ ∃ u,u<t∧pkc m k u=pkc m k s)) _ (fun F t v z hi=> .inr ?_) (fun F v hi=>?_) N 0 (-1) (Nat.zero_le _) (by omega) (.inl ⟨rfl,fun u j=>by omega⟩)
  ·have A:ix (z4f m k) (s:Int)=z8o m k s:=zet i
   have B:ix (z8o m k s) (t:Int)=decide (pkc m k s≠pkc m k t):=zio (by omega)
   have C:ix ((List.range s).map fun u=>(pkc m k u:Int)) (t:Int)=(pkc m k t:Int):=by rw [ak];simp [List.getD_eq_getElem?_getD,z]
   have D: ∀ y,y=(if pkc m k s=pkc m k t then(pkc m k t:Int) else v)→uq N (z4f m k) ((List.range s).map fun u=>(pkc m k u:Int)) (s:Int) (F+1) v (t:Int)=uq N (z4f m k) ((List.range s).map fun u=>(pkc m k u:Int)) (s:Int) F y ((t+1:Nat):Int):=fun y q=>by
    simp only [uq]
    rw [uy (by omega)]
    refine(qc (x:=y) ?_).trans (by rw [zk (qm (by omega))];rfl)
    rw [zk (qo (by rw [zcp];exact i)),A,zk (qo (by rw [zbh];omega)),B]
    by_cases a:pkc m k s=pkc m k t
    ·rw [decide_eq_false (fun h=>h a)]
     refine(ct (b:= !false) rfl).trans ?_
     rw [zk (qo (by simp;omega)),C,q,if_pos a]
    ·rw [decide_eq_true a]
     refine(cf (b:= !true) rfl).trans ?_
     rw [q,if_neg a]
   refine⟨_,?_,D _ rfl⟩
   by_cases a:pkc m k s=pkc m k t
   ·rw [if_pos a];exact .inr ⟨by rw [a],t,by omega,a.symm⟩
   ·rw [if_neg a]
    rcases hi with⟨d,f⟩|⟨d,u,j,f⟩
    ·refine .inl ⟨d,fun u j=>?_⟩
     by_cases e:u=t
     ·subst e;exact fun h=>a h.symm
     ·exact f u (by omega)
    ·exact .inr ⟨d,u,by omega,f⟩
  ·simp only [uq]
   rw [uo (by omega)]
   refine⟨v,rfl,?_⟩
   rcases hi with⟨d,f⟩|⟨d,u,j,f⟩
   ·exact .inl ⟨d,z08.2 f⟩
   ·refine .inr ⟨d,?_⟩
    rw [←Bool.not_eq_true,z08]
    exact fun h=>h u j f
 have E:yh N (z4f m k) N ([]:List Int) 0 0=some (pL m k):=by
  refine uk (σ:=List Int×Int) (fun F s st=>yh N (z4f m k) F st.1 st.2 (s:Int)) m.rows.length (fun s st=>st.1=((List.range s).map fun u=>(pkc m k u:Int))∧st.2=(cntF (pkc m k) s:Int)) _ (fun F s st i hi=> .inr ?_) (fun F st hi=>?_) N 0 ([],0) (Nat.zero_le _) (by omega) ⟨rfl,rfl⟩
  ·obtain⟨l,c⟩:=st
   obtain⟨g,a⟩:=hi
   dsimp only at g a⊢
   subst g;subst a
   obtain⟨v,G,p⟩:=o s i
   have H:=zc7 (pkc m k) s
   have hstep:cntF (pkc m k) (s+1)=cntF (pkc m k) s+if z2x (pkc m k) s=true then 1 else 0:=rfl
   refine⟨((List.range (s+1)).map fun u=>(pkc m k u:Int),(cntF (pkc m k) (s+1):Int)),⟨rfl,rfl⟩,?_⟩
   simp only [yh]
   rw [uy (by rw [zcp];omega),qc G]
   refine(qc (x:=((cntF (pkc m k) (s+1):Int),(pkc m k s:Int))) ?_).trans ?_
   ·rcases p with⟨rfl,n⟩|⟨rfl,n⟩
    ·rw [n,if_pos rfl] at hstep
     rw [uy (by decide),zk (qm (by omega)),hstep,←hname s,zfn n];rfl
    ·rw [n,if_neg (by decide)] at hstep
     rw [uo (by omega),hstep];rfl
   ·rw [zk ⟨by simp;omega,by simp;omega⟩,zk (qm (by omega)),z9g];rfl
  ·obtain⟨l,c⟩:=st
   obtain⟨g,a⟩:=hi
   dsimp only at g a⊢
   subst g
   simp only [yh]
   rw [uo (by rw [zcp];omega)];rfl
 unfold lh
 rw [qc E]
theorem zeh(a:MOk m)(c:200≤N):l7 N m=some (z7d m):=by
 have d:=a.r2
 unfold l7 z4j
 rw [qc (show (bd (ni N m (m.rows.length:Int)) fun e=>bd (lh N e) fun b=>some b)=some (z7d m) from by rw [qc (zjw a c (by omega)),qc (zq4 a c _)];rfl)]
end ref
end GV
end Go.Proofs.YtplgbkaollfmkaaGreat

namespace Go.Proofs.YtplgbkaollfmkaaGreat
namespace GV
set_option maxRecDepth 100000
/-! ### First ones,merged-/
theorem zf2{m:Mach}:(z7d m).length=m.rows.length:=zqp _
theorem zct{m:Mach}{s:Nat}(a:s<m.rows.length):(z7d m).getD s default=(cls m s:Int):=zu6 a
section
variable {N : Nat} {m : Mach}
/-! ### The map-/
def zay(m:Mach):List Nat:=znq (rch (zcv m) 0)
def zks(m:Mach)(s:Nat):Int:=if occ (rch m 0) s=true then(((zay m).idxOf (cls m s):Nat):Int) else-1
def zql(m:Mach):List Int:=(List.range m.rows.length).map (zks m)
theorem q2m:(zql m).length=m.rows.length:=by simp [zql]
theorem q1g{s:Nat}(a:s<m.rows.length):(zql m).getD s default=zks m s:=z0i _ a
theorem q8i(a:MOk m):rch (zcv m) 0=zcr (cls m) (rch m 0):=by
 have:=q7c (q3u a) (s0:=0) (by have:=a.r1;omega)
 rwa [zr8] at this
theorem qbw(a:MOk m):Rch (zcv m) 0 (rch (zcv m) 0):=zpo (zme a)
theorem q4x(a:MOk m){s:Nat}(h:occ (rch m 0) s=true):cls m s∈zay m:=by
 obtain⟨j,e,rfl⟩:=z4z.1 h
 unfold zay
 rw [q8i a,zl2]
 obtain⟨f,b,g⟩:=z4i (z3e (cls m) (rch m 0)) j
 obtain⟨c,d⟩:=zl5 (h:=cls m) (P:=rch m 0) (u:=z8m (z3e (cls m) (rch m 0)) j) (by omega) (z98 _ _)
 exact⟨_,by rw [zso];exact c,by rw [d];exact b⟩
end
end GV
end Go.Proofs.YtplgbkaollfmkaaGreat
