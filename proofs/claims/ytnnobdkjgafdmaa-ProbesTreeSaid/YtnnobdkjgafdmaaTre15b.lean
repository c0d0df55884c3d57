import Derived.Test.YtnnobdkjgafdmaaTre15a
import Derived.Test.YtnnobdkjgafdmaaWds15
set_option linter.unusedVariables false
set_option linter.unusedSimpArgs false
set_option linter.unusedSectionVars false
namespace Go.Proofs.Ytnnobdkjgafdmaa
namespace GV
set_option maxRecDepth 100000
def hF(R:Int→Int):List Int→Int→Int
 | [],a=>a
 |e::es,a=>hF R es (if e= -1 then a else max a (R e+1))
theorem zug{R:Int→Int}: ∀ {es:List Int} {a:Int},a≤hF R es a
 | [],a=>Int.le_refl _
 |e::es,a=>by
  unfold hF
  refine Int.le_trans ?_ (zug (R:=R) (es:=es))
  split<;>omega
theorem zsf{R:Int→Int}{B:Int}: ∀ {es:List Int} {a:Int},a≤B→(∀ e∈es,e≠ -1→R e+1≤B)→hF R es a≤B
 | [],a,h,_=>h
 |e::es,a,h,b=>by
  unfold hF
  refine zsf ?_ fun x c=>b x (List.mem_cons_of_mem _ c)
  have:=b e (List.mem_cons_self ..)
  split
  ·exact h
  ·rename_i he
   have:=this he
   omega
theorem q47{R:Int→Int}: ∀ {es:List Int} {a e:Int},e∈es→e≠ -1→R e+1≤hF R es a
 | [],a,e,h,_=>absurd h List.not_mem_nil
 |x::es,a,e,h,b=>by
  unfold hF
  rcases List.mem_cons.1 h with rfl|h
  ·rw [if_neg b]
   have:=zug (R:=R) (es:=es) (a:=max a (R e+1))
   omega
  ·exact q47 h b
theorem zxb{R:Int→Int}: ∀ {es:List Int} {a e:Int},hF R (es++[e]) a=if e= -1 then hF R es a else max (hF R es a) (R e+1)
 | [],a,e=>rfl
 |x::es,a,e=>by
  show hF R (es++[e]) _=if e= -1 then hF R es _ else max (hF R es _) (R e+1)
  exact zxb
def hts:List Sa→Nat→List Int
 | [],_=>[]
 |n::l,k=>hF (fun e=>(hts l (k+1)).getD (e.toNat-(k+1)) 0) n.fC 0::hts l (k+1)
theorem zl6: ∀ {l:List Sa} {k:Nat},(hts l k).length=l.length
 | [],_=>rfl
 |n::l,k=>by unfold hts;rw [List.length_cons,List.length_cons,zl6]
theorem zv7: ∀ {l:List Sa} {k j:Nat},0≤(hts l k).getD j 0∧(hts l k).getD j 0≤l.length
 | [],k,j=>by simp [hts]
 |n::l,k,j=>by
  unfold hts
  cases j with
  |zero=>
   show 0≤hF _ _ _∧hF _ _ _≤_
   refine⟨zug,zsf (by omega) fun e a h=>?_⟩
   have:=(zv7 (l:=l) (k:=k+1) (j:=e.toNat-(k+1))).2
   show (hts l (k+1)).getD (e.toNat-(k+1)) 0+1≤((l.length+1:Nat):Int)
   omega
  |succ j=>
   have:=zv7 (l:=l) (k:=k+1) (j:=j)
   rw [List.getD_cons_succ]
   show _∧_≤((l.length+1:Nat):Int)
   omega
theorem zyp: ∀ {P Y:List Sa} {k j:Nat},(hts (P++Y) k).getD (P.length+j) 0=(hts Y (k+P.length)).getD j 0
 | [],Y,k,j=>by simp
 |n::P,Y,k,j=>by
  have:=zyp (P:=P) (Y:=Y) (k:=k+1) (j:=j)
  rw [show (n::P).length+j=(P.length+j)+1 by rw [List.length_cons];omega]
  show (hF _ _ _::hts (P++Y) (k+1)).getD (P.length+j+1) 0=_
  rw [List.getD_cons_succ,this,show k+(n::P).length=k+1+P.length by rw [List.length_cons];omega]
section
variable {m : Mach} (hm : PM m)
include hm
theorem zxz{k x:Nat}: ∀ j,0≤LV m (k+j) x→LV m (k+j) x≤k→0≤LV m k x
 |0,h,_=>h
 |j+1,h,a=>by
  refine zxz j ?_ ?_
  all_goals
   by_cases hc:LV m (k+j) x<0∧zfz m (fun z=>decide (0≤LV m (k+j) z)) x=true
   ·have e:LV m (k+j+1) x=((k+j:Nat):Int)+1:=if_pos hc
    rw [show k+(j+1)=k+j+1 by omega,e] at a
    omega
   ·have e:LV m (k+j+1) x=LV m (k+j) x:=if_neg hc
    rw [show k+(j+1)=k+j+1 by omega,e] at h a
    first|exact h|exact a
theorem q87{x i:Nat}(hi:i<nIn m)(t:1≤FT m x)(q:x<2^m.rows.length)(d:zh2 m x i=true): ∃ o,o<16∧FT m (prN m x i o)=FT m x-1:=by
 unfold zh2 at d
 rw [Bool.and_eq_true] at d
 have b:=(zej hm q).2
 have hall: ∀ o,o<16→0≤FT m (prN m x i o)∧FT m (prN m x i o)<FT m x:=fun o a=>by
  have l:=List.all_eq_true.1 d.2 o (List.mem_range.2 a)
  rw [Bool.and_eq_true,decide_eq_true_iff,decide_eq_true_iff] at l
  exact l
 refine Classical.byContradiction fun f=>?_
 have c: ∀ o,o<16→FT m (prN m x i o)≤FT m x-2:=fun o a=>by
  have:=hall o a
  by_cases e:FT m (prN m x i o)=FT m x-1
  ·exact absurd ⟨o,a,e⟩ f
  ·omega
 have u:=c 0 (by omega)
 have r:=hall 0 (by omega)
 obtain⟨j,n⟩: ∃ j:Nat,FT m x=(j:Int)+2:=⟨(FT m x-2).toNat,by omega⟩
 have hcan:zfz m (fun z=>decide (0≤LV m j z)) x=true:=by
  refine List.any_eq_true.2 ⟨i,List.mem_range.2 hi,?_⟩
  rw [d.1,Bool.true_and,List.all_eq_true]
  intro o a
  have a:=List.mem_range.1 a
  have p:=hall o a
  have s:=c o a
  unfold FT at p s n
  have g:=zxz hm (m:=m) (k:=j) (x:=prN m x i o) (64-j) (by rw [show j+(64-j)=64 by unfold FT at b;omega];exact p.1) (by rw [show j+(64-j)=64 by unfold FT at b;omega];omega)
  exact decide_eq_true g
 have g:0≤LV m (j+1) x∧LV m (j+1) x≤(j:Int)+1:=by
  have:=zk7 (m:=m) (k:=j+1) (x:=x)
  refine⟨?_,by omega⟩
  by_cases h:LV m j x<0
  ·rw [show LV m (j+1) x=(j:Int)+1 from if_pos ⟨h,hcan⟩];omega
  ·rw [zl1 (by omega)];omega
 have h:=zuf g.1 (64-(j+1))
 rw [show j+1+(64-(j+1))=64 by omega] at h
 unfold FT at n
 omega
theorem q9x(g:Nat): ∀ (now fr:List Nat) (n0:Nat),Gro m now fr→FT m (num m.rows.length now)<g→ ∀ X,(hts (gT m g now fr n0++X) n0).getD 0 0=FT m (num m.rows.length now):=by
 induction g with
 |zero=>intro now fr n0 h F;have:=h.ft;omega
 |succ g ih=>
  intro now fr n0 h F X
  have W:=z9h hm h
  have H:=hm.ok.o1
  have I:=hm.ok.o2
  unfold gT
  by_cases h1:now.length=1
  ·rw [if_pos h1,(zdt hm h).1 h1]
   show hF (fun e=>(hts X (n0+1)).getD (e.toNat-(n0+1)) 0) (List.replicate m.outputs.toNat (-1)) 0=0
   refine Int.le_antisymm (zsf (Int.le_refl _) fun e w d=>?_) zug
   exact absurd (List.eq_of_mem_replicate w) d
  ·rw [if_neg h1]
   have l:=(zdt hm h).2 h1
   have x:=zi0 hm z2w l
   obtain⟨a,b,c⟩:=zao hm h h1
   generalize hfi:z7g m (num m.rows.length now)=i at*
   show hF (fun e=>(hts ((chN m (gT m g) now fr i n0 m.outputs.toNat).1++X) (n0+1)).getD (e.toNat-(n0+1)) 0) (chN m (gT m g) now fr i n0 m.outputs.toNat).2 0=_
   have y:=zaz (m:=m) (G:=gT m g) (now:=now) (fr:=fr) (i:=i) (n0:=n0) m.outputs.toNat
   have n: ∀ o,o<m.outputs.toNat→(ptN m now i now.length o=[]→(chN m (gT m g) now fr i n0 m.outputs.toNat).2.getD o default= -1)∧(ptN m now i now.length o≠[]→(chN m (gT m g) now fr i n0 m.outputs.toNat).2.getD o default≠ -1∧(hts ((chN m (gT m g) now fr i n0 m.outputs.toNat).1++X) (n0+1)).getD (((chN m (gT m g) now fr i n0 m.outputs.toNat).2.getD o default).toNat-(n0+1)) 0=FT m (prN m (num m.rows.length now) i o)):=fun o f=>by
    obtain⟨p,q⟩:=zpy (m:=m) (G:=gT m g) (now:=now) (fr:=fr) (i:=i) (n0:=n0) m.outputs.toNat (Nat.le_refl _) o f
    refine⟨p,fun d=>?_⟩
    obtain⟨P,S,z,A⟩:=q d
    obtain⟨J,Z⟩:=c o (by omega)
    have B:=J d
    rw [A,Int.toNat_natCast,z]
    refine⟨by omega,?_⟩
    have r:=zyp (P:=P) (Y:=gT m g (ptN m now i now.length o) (z6z m now fr i now.length o) (n0+1+P.length)++(S++X)) (k:=n0+1) (j:=0)
    rw [ih _ _ _ B (by omega),zae hm a h.b] at r
    rw [←r]
    congr 1
    ·simp
    ·omega
   have hnone: ∀ o,m.outputs.toNat≤o→ptN m now i now.length o=[]:=fun o f=>by
    refine List.eq_nil_iff_forall_not_mem.2 fun t K=>?_
    obtain⟨s,u,M,_⟩:=(zfl hm a).1 K
    obtain⟨_,_,N⟩:=zas hm a (h.b.lt s u)
    omega
   refine Int.le_antisymm (zsf (by omega) fun e w d=>?_) ?_
   ·obtain⟨o,f,rfl⟩:=List.mem_iff_getElem.1 w
    have ho':o<m.outputs.toNat:=by omega
    have eg:(chN m (gT m g) now fr i n0 m.outputs.toNat).2.getD o default=(chN m (gT m g) now fr i n0 m.outputs.toNat).2[o]:=by rw [List.getD_eq_getElem?_getD,List.getElem?_eq_getElem f];rfl
    obtain⟨p,q⟩:=n o ho'
    rw [eg] at p q
    by_cases e:ptN m now i now.length o=[]
    ·exact absurd (p e) d
    ·have r:=(q e).2
     have v:=(c o (by omega)).2
     rw [zae hm a h.b] at v
     show (hts _ _).getD _ 0+1≤_
     rw [r];omega
   ·have C: ∃ o,o<m.outputs.toNat∧ptN m now i now.length o≠[]∧FT m (prN m (num m.rows.length now) i o)=FT m (num m.rows.length now)-1:=by
     obtain⟨o,f,D⟩:=q87 hm a l z2w x.2.1
     by_cases e:ptN m now i now.length o=[]
     ·have hz:FT m (prN m (num m.rows.length now) i o)=0:=by
       rw [←zae hm a h.b,e]
       refine zc5 ?_ 64
       have:num m.rows.length []=0:=by
        have:(num m.rows.length []:Int)=0:=by
         rw [z96]
         refine(zar (Int.le_refl 0) (by have:(0:Nat)<2^m.rows.length:=Nat.two_pow_pos _;omega) fun s u=>?_).symm
         rw [zcx];rfl
        omega
       rw [this];decide
      have u:=h.b.lt _ (su (L:=now) (i:=0) (by omega))
      obtain⟨o1,O,N⟩:=zas hm a u
      have d:ptN m now i now.length (rz m (now.getD 0 default) i)≠[]:=fun Q=>by
       have:tgt m (now.getD 0 default) i∈ptN m now i now.length (rz m (now.getD 0 default) i):=(zfl hm a).2 ⟨_,su (by omega),rfl,rfl⟩
       rw [Q] at this;cases this
      refine⟨rz m (now.getD 0 default) i,by omega,d,?_⟩
      have v:=c _ O
      rw [zae hm a h.b] at v
      have T:=(v.1 d).ft
      rw [zae hm a h.b] at T
      omega
     ·refine⟨o,?_,e,D⟩
      refine Nat.lt_of_not_le fun U=>e (hnone o U)
    obtain⟨o,f,d,E⟩:=C
    obtain⟨z,A⟩:=(n o f).2 d
    have:=q47 (R:=fun e=>(hts ((chN m (gT m g) now fr i n0 m.outputs.toNat).1++X) (n0+1)).getD (e.toNat-(n0+1)) 0) (es:=(chN m (gT m g) now fr i n0 m.outputs.toNat).2) (a:=0) (su (i:=o) (by rw [y];exact f)) z
    have V:(hts ((chN m (gT m g) now fr i n0 m.outputs.toNat).1++X) (n0+1)).getD (((chN m (gT m g) now fr i n0 m.outputs.toNat).2.getD o default).toNat-(n0+1)) 0+1≤hF (fun e=>(hts ((chN m (gT m g) now fr i n0 m.outputs.toNat).1++X) (n0+1)).getD (e.toNat-(n0+1)) 0) (chN m (gT m g) now fr i n0 m.outputs.toNat).2 0:=this
    rw [A,E] at V
    omega
/-! ### the program's height-/
theorem zy0{α:Type}[Inhabited α]{l:List α}{j:Nat}(h:j<l.length):l.drop j=l.getD j default::l.drop (j+1):=by
 rw [List.drop_eq_getElem_cons h,List.getD_eq_getElem?_getD,List.getElem?_eq_getElem h];rfl
theorem zzm{t:Sb}(b:TF m t){j:Nat}(c:j<t.fA.length){R:List Int}(u:R.length=t.fA.length-(j+1))(h: ∀ k,0≤R.getD k 0∧R.getD k 0≤1024):
 mg 5000 t (j:Int) 5000 0 (List.replicate (j+1) 0++R)=some (Ex.go (List.replicate j 0++hF (fun e=>R.getD (e.toNat-(j+1)) 0) (t.fA.getD j default).fC 0::R)):=by
 have l:=b.le
 have n:=hm.ok.o2
 have o:=zdf (b.ok j c)
 have a:(ix t.fA (j:Int)).fC=(t.fA.getD j default).fC:=by rw [yn]
 have:=z2k (fun F k z=>mg 5000 t (j:Int) F (k:Int) z) (t.fA.getD j default).fC.length (fun k=>List.replicate j 0++hF (fun e=>R.getD (e.toNat-(j+1)) 0) ((t.fA.getD j default).fC.take k) 0::R) (Ex.go (List.replicate j 0++hF (fun e=>R.getD (e.toNat-(j+1)) 0) (t.fA.getD j default).fC 0::R)) (fun F k d=>?_) (fun F=>?_) (F:=5000) (by omega)
 ·rw [show (List.replicate (j+1) (0:Int)++R)=List.replicate j 0++hF (fun e=>R.getD (e.toNat-(j+1)) 0) ((t.fA.getD j default).fC.take 0) 0::R by rw [List.replicate_succ',List.append_assoc];rfl]
  exact this
 ·show mg 5000 t (j:Int) (F+1) (k:Int) _=mg 5000 t (j:Int) F ((k+1:Nat):Int) _
  have f:(t.fA.getD j default).fC.take (k+1)=(t.fA.getD j default).fC.take k++[(t.fA.getD j default).fC.getD k default]:=zxm d
  have hkid:=b.kid j c ((t.fA.getD j default).fC.getD k default)
  have hmem:(t.fA.getD j default).fC.getD k default∈(t.fA.getD j default).fC:=su d
  rw [mg,a,wu (by omega),f,zxb]
  have p:hF (fun e=>R.getD (e.toNat-(j+1)) 0) ((t.fA.getD j default).fC.take k) 0≤1025:=zsf (by omega) fun e _ _=>by
   have:=(h (e.toNat-(j+1))).2
   show R.getD (e.toNat-(j+1)) 0+1≤_
   omega
  have r:0≤hF (fun e=>R.getD (e.toNat-(j+1)) 0) ((t.fA.getD j default).fC.take k) 0:=zug
  generalize hF (fun e=>R.getD (e.toNat-(j+1)) 0) ((t.fA.getD j default).fC.take k) 0=z at*
  have hokk:okI (t.fA.getD j default).fC (k:Int):=qy d
  by_cases e:(t.fA.getD j default).fC.getD k default= -1
  ·rw [if_pos e]
   refine(qc (x:=Ex.go (List.replicate j 0++z::R)) ?_).trans ?_
   ·rw [ze hokk,yn,wu e]
   ·rw [zgl,ze (qm (by omega)),kz]
  ·rw [if_neg e]
   have g:=hkid (List.mem_filter.2 ⟨hmem,decide_eq_true e⟩)
   obtain⟨q,i⟩: ∃ q:Nat,(t.fA.getD j default).fC.getD k default=(q:Int):=⟨((t.fA.getD j default).fC.getD k default).toNat,by omega⟩
   rw [i] at g⊢
   have hlenA:(List.replicate j (0:Int)++z::R).length=t.fA.length:=by simp;omega
   have hokj:okI (List.replicate j (0:Int)++z::R) (j:Int):=qy (by rw [hlenA];exact c)
   have hokq:okI (List.replicate j (0:Int)++z::R) (q:Int):=qy (by rw [hlenA];omega)
   have hixj:ix (List.replicate j (0:Int)++z::R) (j:Int)=z:=by
    rw [yn,List.getD_eq_getElem?_getD,List.getElem?_append_right (by simp),List.length_replicate,Nat.sub_self];rfl
   have hixq:ix (List.replicate j (0:Int)++z::R) (q:Int)=R.getD (q-(j+1)) 0:=by
    rw [yn,List.getD_eq_getElem?_getD,List.getElem?_append_right (by simp;omega),List.length_replicate,show q-j=(q-(j+1))+1 by omega,List.getElem?_cons_succ,List.getD_eq_getElem?_getD];rfl
   have s:=h (q-(j+1))
   refine(qc (x:=Ex.go (List.replicate j 0++(max z (R.getD (q-(j+1)) 0+1))::R)) ?_).trans ?_
   ·rw [ze hokk,yn,i,um (by omega),decide_eq_false (show¬(q:Int)≤(j:Int) by omega),decide_eq_false (show¬(t.fA.length:Int)≤(q:Int) by omega)]
    refine(cf rfl).trans ?_
    rw [ze hokj,ze hokq,hixq,ze (qm (by omega)),ze hokj,hixj,z5o,List.set_append_right _ _ (by simp),List.length_replicate,Nat.sub_self,List.set_cons_zero]
   ·rw [zgl,ze (qm (by omega)),kz];rfl
 ·show mg 5000 t (j:Int) (F+1) ((t.fA.getD j default).fC.length:Int) _=_
  rw [mg,a,um (by omega),List.take_length]
theorem zyx{t:Sb}(a:TF m t): ∀ F j,j≤t.fA.length→j<F→z1h 5000 t F ((j:Int)-1) (List.replicate j 0++hts (t.fA.drop j) j)=some (Ex.go (hts t.fA 0)):=by
 have b:=a.le
 intro F
 induction F with
 |zero=>intro j _ h;omega
 |succ F ih=>
  intro j d hF
  unfold z1h
  cases j with
  |zero=>rw [um (by omega)];rfl
  |succ j=>
   rw [show ((j+1:Nat):Int)-1=(j:Int) by omega,wu (by omega)]
   refine(qc ((ze (qy (by omega))).trans (zzm hm a (by omega) (by rw [zl6,List.length_drop]) fun k=>?_))).trans ?_
   ·have c:=zv7 (l:=t.fA.drop (j+1)) (k:=j+1) (j:=k)
    rw [List.length_drop] at c
    omega
   ·rw [zgl,ze (qm (by omega))]
    have:=ih j (by omega) (by omega)
    rw [zy0 hm (show j<t.fA.length by omega)] at this
    exact this
theorem q0p{t:Sb}(a:TF m t):z1m 5000 t=some ((hts t.fA 0).getD 0 0):=by
 have c:=a.le
 have d:=a.pos
 have b:=zyx hm a 5000 t.fA.length (Nat.le_refl _) (by omega)
 rw [List.drop_length,show hts [] t.fA.length=[] from rfl,List.append_nil] at b
 unfold z1m
 rw [ze ⟨by omega,by omega,by omega⟩]
 refine(qc ((ze (qm (by omega))).trans b)).trans ?_
 rw [zgl,um (by rw [zl6];omega),ze (show okI (hts t.fA 0) 0 from qy (k:=0) (by rw [zl6];exact d))];rfl
/-! ### words that separate-/
def qec(m:Mach)(L:List Nat)(w:List Int):Prop:= ∀ s∈L,∀ t∈L,z1p m (s:Int) w=z1p m (t:Int) w→s=t
theorem q4r: ∀ (w:List Int) (L:List Nat),Blk m.rows.length L→WIn (nIn m) w→qec m L w→0≤LV m w.length (num m.rows.length L)
 | [],L,d,_,c=>by
  have u:=hm.r6
  have y:=z4z hm
  have A:=z2w (n:=m.rows.length) (L:=L)
  rw [zc5]
  ·exact Int.le_refl _
  ·refine Nat.lt_of_not_le fun v=>?_
   obtain⟨a,b,e,k,f⟩:=(zfv (by omega)).1 (show 1<pcB (num m.rows.length L:Int) by omega)
   exact e (c a ((zf5 d).1 k) b ((zf5 d).1 f) rfl)
 |i::w,L,d,B,c=>by
  obtain⟨hi,l⟩:=List.forall_mem_cons.1 B
  obtain⟨i,rfl⟩: ∃ i':Nat,i=(i':Int):=⟨i.toNat,by omega⟩
  have hi:i<nIn m:=by omega
  have hrun: ∀ s,s∈L→z1p m (s:Int) ((i:Int)::w)=(rz m s i:Int)::z1p m (tgt m s i:Int) w:=fun s c=>by
   have c:=d.lt s c
   obtain⟨C,F,G⟩:=zas hm hi c
   obtain⟨H,D⟩:=hm.toCM.tgt c hi
   show (edI m (s:Int) (i:Int)).out::z1p m (edI m (s:Int) (i:Int)).to w=_
   rw [C]
   congr 1
   have:(edI m (s:Int) (i:Int)).to=(tgt m s i:Int):=D
   rw [this]
  have hinj:q08 m L i:=fun s g t x E v=>c s g t x (by rw [hrun s g,hrun t x,E,v])
  have p:z2d m (num m.rows.length L) i=true:=(zl4 hm hi d).symm.trans ((zl2 hm hi d).2 hinj)
  have hcan:zfz m (fun z=>decide (0≤LV m w.length z)) (num m.rows.length L)=true:=by
   refine List.any_eq_true.2 ⟨i,List.mem_range.2 hi,?_⟩
   rw [p,Bool.true_and,List.all_eq_true]
   intro o _
   rw [←zae hm hi d]
   refine decide_eq_true (q4r w _ (zr3 hm hi d hinj o) l fun a k b f e=>?_)
   obtain⟨s,h,q,rfl⟩:=(zfl hm hi).1 k
   obtain⟨t,j,r,rfl⟩:=(zfl hm hi).1 f
   rw [c s h t j (by rw [hrun s h,hrun t j,q,r,e])]
  by_cases u:LV m w.length (num m.rows.length L)<0
  ·rw [show LV m ((i:Int)::w).length (num m.rows.length L)=(w.length:Int)+1 from if_pos ⟨u,hcan⟩];omega
  ·rw [show ((i:Int)::w).length=w.length+1 from rfl,zl1 (by omega)];omega
theorem q3i{w:List Int}(d:WIn (nIn m) w)(i:w.length≤64)(f: ∀ s,s<m.rows.length→q8s m s w):0≤FT m (num m.rows.length (z1t m))∧FT m (num m.rows.length (z1t m))≤w.length:=by
 have h:=q4r hm w (z1t m) (zx1 hm) d fun s g t a c=>Classical.byContradiction fun b=>f s (List.mem_range.1 g) t (List.mem_range.1 a) (fun e=>b e.symm) c.symm
 have a:=zuf h (64-w.length)
 rw [show w.length+(64-w.length)=64 by omega] at a
 have c:=zk7 (m:=m) (k:=w.length) (x:=num m.rows.length (z1t m))
 unfold FT
 omega
end
end GV
end Go.Proofs.Ytnnobdkjgafdmaa
