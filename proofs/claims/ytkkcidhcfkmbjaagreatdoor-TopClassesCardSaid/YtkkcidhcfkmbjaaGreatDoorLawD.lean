import Derived.Test.YtkkcidhcfkmbjaaGreatDoorLawC
set_option linter.unusedVariables false
set_option linter.unusedSimpArgs false
set_option linter.unusedSectionVars false
namespace Go.Proofs.YtkkcidhcfkmbjaaGreatDoor
namespace GV
set_option maxRecDepth 100000
section
variable {N : Nat} {m : Mach}
theorem zjn(c:MOk m){a b:Nat}(d:a<m.rows.length)(f:b<m.rows.length):WOk m.inputs (sw m (iq m) a b)∧(sw m (iq m) a b).length≤100:=by
 refine⟨?_,zg0 c (by have:=c.r2;unfold iq;omega) d f⟩
 by_cases e:sw m (iq m) a b=[]
 ·rw [e];exact fun k g=>by simp at g
 ·exact((zcb c (k:=iq m) (by unfold iq;omega) d f).1 e).1.1
theorem zk1(a:MOk m){s t:Nat}(b:s<m.rows.length)(c:t<m.rows.length)(h: ∀ w,LSep m s t w→sw m (iq m) s t=w→False):cls m s=cls m t:=by
 have d:=zcb a (k:=iq m) (by unfold iq;omega) b c
 by_cases e:sw m (iq m) s t=[]
 ·exact(z8w a b c).2 fun w f=>Classical.byContradiction fun g=>d.2 e w ⟨f,g⟩
 ·exact(h _ (d.1 e) rfl).elim
theorem z5t(m:Mach): ∀ (w v:List Int) (s:Int),(vw m s (w++v)).take w.length=vw m s w
 | [],v,s=>by simp [vw]
 |c::w,v,s=>by
  show List.take (w.length+1) (_::vw m _ (w++v))=_::vw m _ w
  rw [List.take_succ_cons,z5t m w v]
theorem z9u:z4i m=yt (cls m) m.rows.length:=by
 unfold z4i pL yt
 refine List.map_congr_left fun s _=>?_
 show ((pkc m m.rows.length s:Nat):Int)=(name (fun s=>pkc m m.rows.length s) s:Int)
 rw [show name (fun s=>pkc m m.rows.length s) s=pkc m m.rows.length s from za1]
theorem zem{κ:Type}[DecidableEq κ](c:κ)(n:Nat):mk (n:Int) (0:Int)=yt (fun _:Nat=>c) n:=by
 rw [z15]
 unfold yt
 have: ∀ s,name (fun _:Nat=>c) s=0:=fun s=>by
  rw [show name (fun _:Nat=>c) s=name (fun _:Nat=>c) 0 from ae.2 rfl,zb3]
 simp only [this]
 rw [List.map_const',List.length_range];rfl
def rsp(m:Mach)(wd:Nat→List Int)(j:Nat)(s:Nat):List (List Int):=(List.range j).map fun i=>vw m (s:Int) (wd i)
theorem z8r{wd:Nat→List Int}{j s t:Nat}:rsp m wd j s=rsp m wd j t↔ ∀ i,i<j→vw m (s:Int) (wd i)=vw m (t:Int) (wd i):=by
 unfold rsp
 rw [List.map_inj_left]
 exact⟨fun h i hi=>h i (List.mem_range.2 hi),fun h i hi=>h i (List.mem_range.1 hi)⟩
theorem ze8{wd:Nat→List Int}{j n:Nat}:yt (fun s=>(rsp m wd j s,vw m (s:Int) (wd j))) n=yt (rsp m wd (j+1)) n:=by
 refine z0e fun s t _ _=>?_
 rw [Prod.mk.injEq,z8r,z8r]
 constructor
 ·rintro⟨a,b⟩ i hi
  by_cases e:i=j
  ·rw [e];exact b
  ·exact a i (by omega)
 ·intro h;exact⟨fun i hi=>h i (by omega),h j (by omega)⟩
theorem zdv{x:MDat}(Q:5000≤N)(C:MDOk x):yw N x=some true:=by
 have c:=zn4 C
 have hi:=C.ins;have S:=C.st
 have T:=zne (N:=N) C (by omega)
 have U:(mOf x).rows.length≤6:=by
  have:(mOf x).rows.length=x.n.toNat:=by simp [mOf]
  rw [this];unfold MDat.n;omega
 obtain⟨k,D,G,l⟩: ∃ k:Nat,(mOf x).inputs=(k:Int)∧1≤k∧k≤3:=by
  refine⟨x.inp.toNat,?_,?_,?_⟩
  ·show x.inp=_;unfold MDat.inp;omega
  ·unfold MDat.inp;omega
  ·unfold MDat.inp;omega
 generalize mOf x=m at*
 have o:m.inputs.toNat=k:=by omega
 have A:1≤m.inputs:=by omega
 have V:=c.r1
 obtain⟨h,eh,W,X,H⟩:=zhl (N:=N) c Q
 obtain⟨L,eL,Y,hmem,hall⟩:=zdq (N:=N) c Q
 obtain⟨jj,ec⟩:=zg2 (N:=N) c (by omega)
 have hp:k^h≤729:=Nat.le_trans (Nat.pow_le_pow_left l h) (Nat.le_trans (Nat.pow_le_pow_right (by decide) (show h≤6 by omega)) (by decide))
 have Z:qy N m ((h:Int),0) N (mk (m.rows.length:Int) (0:Int)) 0=some (Ex.go (z4i m)):=by
  refine x9 (σ:=List Int) (fun F j st=>qy N m ((h:Int),0) F st (j:Int)) (k^h) (fun j st=>st=yt (rsp m (fun i=>dg k i h) j) m.rows.length) _ (fun F j st E hi=> .inr ?_) (fun F st hi=>?_) N 0 _ (Nat.zero_le _) (by omega) (zem ([]:List (List Int)) m.rows.length)
  ·subst hi
   refine⟨yt (rsp m (fun i=>dg k i h) (j+1)) m.rows.length,rfl,?_⟩
   have aa:=zkw k h j
   have ea:di N (⟨m.inputs,m.outputs,m.rows⟩:Mach) (dg k j h)=some (yt (fun s=>vw m (s:Int) (dg k j h)) m.rows.length,0):=zd7 (m:=m) c (by omega) (zjt o A h j) (by omega)
   simp only [qy]
   rw [D,q8 (zda l (by omega) (by omega)),xw (by omega),q8 (zia D G rfl (by omega) (by omega) (by omega))]
   rw [←D,q8 ea,q8 (zgr (by omega) (by omega))]
   refine(cf rfl).trans ?_
   rw [zi (qi (by omega))]
   show qy N m ((h:Int),0) F (yt (fun s=>(rsp m (fun i=>dg k i h) j s,vw m (s:Int) (dg k j h))) m.rows.length) _=_
   rw [show yt (fun s=>(rsp m (fun i=>dg k i h) j s,vw m (s:Int) (dg k j h))) m.rows.length=yt (rsp m (fun i=>dg k i h) (j+1)) m.rows.length from ze8 (wd:=fun i=>dg k i h)]
   rfl
  ·subst hi
   simp only [qy]
   rw [D,q8 (zda l (by omega) (by omega)),yj (by omega),z9u]
   rw [z0e (f:=rsp m (fun i=>dg k i h) (k^h)) (g:=cls m) fun s t u y=>?_]
   rw [z8r]
   constructor
   ·intro hall'
    refine zk1 c u y fun w d e=>d.1.2 ?_
    have I:=H s t u y
    rw [e] at I
    have hz:WOk m.inputs (w++List.replicate (h-w.length) 0):=fun j E=>by
     rw [List.getD_eq_getElem?_getD]
     by_cases hjw:j<w.length
     ·rw [List.getElem?_append_left hjw,←List.getD_eq_getElem?_getD];exact d.1.1 j hjw
     ·rw [List.getElem?_append_right (by omega),List.getElem?_replicate]
      split
      ·exact⟨Int.le_refl _,by show (0:Int)<m.inputs;omega⟩
      ·exact⟨Int.le_refl _,by show (0:Int)<m.inputs;omega⟩
    obtain⟨v,R,ev⟩:=zit o _ hz
    have hlen:(w++List.replicate (h-w.length) (0:Int)).length=h:=by rw [List.length_append,List.length_replicate];omega
    rw [hlen] at R ev
    have:=hall' v R
    rw [ev] at this
    rw [←z5t m w (List.replicate (h-w.length) 0) (s:Int),this,z5t]
   ·intro J i hi
    exact(z8w c u y).1 J _ (zjt o A h i)
 have l3:qx N m (L,0) N (mk (m.rows.length:Int) (0:Int)) 0=some (Ex.go (z4i m)):=by
  refine x9 (σ:=List Int) (fun F j st=>qx N m (L,0) F st (j:Int)) L.length (fun j st=>st=yt (rsp m (fun i=>(L.getD i default).fA) j) m.rows.length) _ (fun F j st E hi=> .inr ?_) (fun F st hi=>?_) N 0 _ (Nat.zero_le _) (by omega) (zem ([]:List (List Int)) m.rows.length)
  ·subst hi
   refine⟨yt (rsp m (fun i=>(L.getD i default).fA) (j+1)) m.rows.length,rfl,?_⟩
   obtain⟨a,b,q,z,d⟩:=hmem _ (lg E)
   have r:=zjn c (show a<m.rows.length by omega) z
   rw [←d] at r
   have ea:di N (⟨m.inputs,m.outputs,m.rows⟩:Mach) (L.getD j default).fA=some (yt (fun s=>vw m (s:Int) (L.getD j default).fA) m.rows.length,0):=zd7 (m:=m) c (by omega) r.1 r.2
   simp only [qx]
   rw [xw (by omega),zi (j5 E),dx,q8 ea,q8 (zgr (by omega) (by omega))]
   refine(cf rfl).trans ?_
   rw [zi (qi (by omega))]
   show qx N m (L,0) F (yt (fun s=>(rsp m (fun i=>(L.getD i default).fA) j s,vw m (s:Int) (L.getD j default).fA)) m.rows.length) _=_
   rw [show yt (fun s=>(rsp m (fun i=>(L.getD i default).fA) j s,vw m (s:Int) (L.getD j default).fA)) m.rows.length=yt (rsp m (fun i=>(L.getD i default).fA) (j+1)) m.rows.length from ze8 (wd:=fun i=>(L.getD i default).fA)]
   rfl
  ·subst hi
   simp only [qx]
   rw [yj (by omega),z9u]
   rw [z0e (f:=rsp m (fun i=>(L.getD i default).fA) L.length) (g:=cls m) fun s t u y=>?_]
   rw [z8r]
   have hpair: ∀ a b,a<b→b<m.rows.length→(∀ i,i<L.length→vw m (a:Int) (L.getD i default).fA=vw m (b:Int) (L.getD i default).fA)→cls m a=cls m b:=fun a b q z hall'=>by
    refine zk1 c (by omega) z fun w d e=>d.1.2 ?_
    obtain⟨p,K,M⟩:=hall a b q z
    obtain⟨i,B,O⟩:=List.mem_iff_getElem.1 K
    have:=hall' i B
    rw [List.getD_eq_getElem?_getD,List.getElem?_eq_getElem B,O] at this
    rw [←e,←M];exact this
   constructor
   ·intro hall'
    rcases Nat.lt_trichotomy s t with e|e|e
    ·exact hpair s t e y hall'
    ·rw [e]
    ·exact(hpair t s e u fun i hi=>(hall' i hi).symm).symm
   ·intro J i hi
    obtain⟨a,b,q,z,d⟩:=hmem _ (lg hi)
    exact(z8w c u y).1 J _ (by rw [d];exact(zjn c (show a<m.rows.length by omega) z).1)
 have ad:(z4i m).length=m.rows.length:=zcy _
 have es:yl N (z4i m) (z4i m)=some (decide (z4i m=z4i m)):=zkl (by omega) (by omega)
 have P:xe N (z4i m)=some 0:=by rw [z9u];exact zec (by omega) (by omega)
 unfold yw
 rw [q8 T,q8 (show oh N (⟨m.inputs,m.outputs,m.rows⟩:Mach)=some ((h:Int),0) from eh),q8 (show tq N (⟨m.inputs,m.outputs,m.rows⟩:Mach)=some (L,0) from eL),
  q8 (show pq N (⟨m.inputs,m.outputs,m.rows⟩:Mach)=some (z4i m,(jj:Int),0) from ec)]
 refine(cf ?_).trans ?_
 ·dsimp only
  rw [decide_eq_false (show¬(h:Int)<0 by omega),decide_eq_false (show¬max (m.rows.length:Int) 2≤(h:Int) by omega)]
  rfl
 rw [zi ⟨by omega,by omega,by omega⟩,zi ⟨by omega,by omega,by omega⟩,q8 Z,zln,q8 l3,zln,q8 es,decide_eq_true (rfl:z4i m=z4i m)]
 rw [z9c (fun _=>es),z9c (fun _=>P),z9c (fun _=>show mo N=some true from rfl),decide_eq_true (rfl:z4i m=z4i m)]
 rfl
end
end GV
end Go.Proofs.YtkkcidhcfkmbjaaGreatDoor
