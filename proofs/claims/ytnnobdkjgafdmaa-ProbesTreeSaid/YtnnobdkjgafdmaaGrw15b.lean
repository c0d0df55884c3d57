import Derived.Test.YtnnobdkjgafdmaaBld15
import Derived.Test.YtnnobdkjgafdmaaHgt15c
set_option linter.unusedVariables false
set_option linter.unusedSimpArgs false
set_option linter.unusedSectionVars false
namespace Go.Proofs.Ytnnobdkjgafdmaa
namespace GV
set_option maxRecDepth 100000
section
variable {m : Mach} (hm : PM m)
include hm
theorem qa5:yc 5000 m 5000 0 []=some (List.replicate m.outputs.toNat (-1)):=by
 have a:=hm.ok.o1
 have b:=hm.ok.o2
 have:=z2k (fun F k z=>yc 5000 m F (k:Int) z) m.outputs.toNat (fun k=>List.replicate k (-1:Int)) (List.replicate m.outputs.toNat (-1)) (fun F k c=>?_) (fun F=>?_) (F:=5000) (by omega)
 ·exact this
 ·show yc 5000 m (F+1) (k:Int) _=yc 5000 m F ((k+1:Nat):Int) _
  rw [yc,wu (by omega),ze ⟨by simp;omega,by simp;omega⟩,ze (qm (by omega)),kz,List.replicate_succ']
 ·show yc 5000 m (F+1) (m.outputs.toNat:Int) _=_
  rw [yc,um (by omega)]
theorem q2n{now:List Nat}{i:Nat}(b:Blk m.rows.length now)(hi:i<nIn m)(g:1≤FT m (num m.rows.length now)):iy 5000 m (mpR (2^m.rows.length) (FT m)) (cI now) (i:Int) (FT m (num m.rows.length now))=some (zh2 m (num m.rows.length now) i):=by
 refine(zpd hm hi b (H:=FT m) (lv:=FT m (num m.rows.length now))).trans ?_
 unfold zh2
 congr 2
 have c:=hm.ok.o1
 have d:=hm.ok.o2
 rw [Bool.eq_iff_iff,List.all_eq_true,List.all_eq_true]
 constructor
 ·intro h o a
  by_cases e:o<m.outputs.toNat
  ·exact h o (List.mem_range.2 e)
  ·have f:FT m 0=0:=zxk hm
   rw [zu3 hm hi (by omega),f,decide_eq_true (by omega),decide_eq_true (by omega)];rfl
 ·intro h o a
  have a:=List.mem_range.1 a
  exact h o (List.mem_range.2 (by omega))
theorem qa3{now:List Nat}(d:Blk m.rows.length now)(f:1≤FT m (num m.rows.length now)):oq 5000 m (mpR (2^m.rows.length) (FT m)) (cI now) 5000 0=some (z7g m (num m.rows.length now):Int):=by
 have g:=hm.ok.i2
 have j:=hm.toCM.nin
 obtain⟨a,b,c⟩:=zi0 hm z2w f
 have key: ∀ F i,i≤z7g m (num m.rows.length now)→z7g m (num m.rows.length now)-i<F→oq 5000 m (mpR (2^m.rows.length) (FT m)) (cI now) F (i:Int)=some (z7g m (num m.rows.length now):Int):=by
  intro F
  induction F with
  |zero=>intro i _ h;omega
  |succ F ih=>
   intro i hi hF
   unfold oq
   rw [qc (zxi hm.r6 d),ze (zdo z2w),zpp z2w,qc (q2n hm d (by omega) f)]
   by_cases e:i=z7g m (num m.rows.length now)
   ·rw [e,b];rfl
   ·rw [c i (by omega)]
    refine(ct rfl).trans ?_
    rw [ze (qm (by omega)),kz]
    exact ih (i+1) (by omega) (by omega)
 exact key 5000 0 (Nat.zero_le _) (by omega)
theorem q9z{now fr:List Nat}(h:Gro m now fr){i o:Nat}(hi:i<nIn m):wh 5000 m (cI now) (cI fr) (i:Int) (o:Int) 5000 [] [] 0=some (cI (ptN m now i now.length o),cI (z6z m now fr i now.length o)):=by
 have p:=z9h hm h
 have q:=hm.r6
 have r:=hm.toCM.nin
 have:=z2k (fun F k (z:List Int×List Int)=>wh 5000 m (cI now) (cI fr) (i:Int) (o:Int) F z.1 z.2 (k:Int)) now.length (fun k=>(cI (ptN m now i k o),cI (z6z m now fr i k o))) (cI (ptN m now i now.length o),cI (z6z m now fr i now.length o)) (fun F k a=>?_) (fun F=>?_) (F:=5000) (by omega)
 ·exact this
 ·show wh 5000 m (cI now) (cI fr) (i:Int) (o:Int) (F+1) (cI (ptN m now i k o)) (cI (z6z m now fr i k o)) (k:Int)=_
  have c:=h.b.lt _ (su a)
  obtain⟨f,t,u⟩:=zas hm hi c
  obtain⟨v,g⟩:=hm.toCM.tgt c hi
  have j:(ix (ix m.rows ((now.getD k default:Nat):Int)) (i:Int)).out=(rz m (now.getD k default) i:Int):=f
  have l:(ix (ix m.rows ((now.getD k default:Nat):Int)) (i:Int)).to=(tgt m (now.getD k default) i:Int):=g
  have d:=hm.toCM.okr (s:=((now.getD k default:Nat):Int)) (i:=(i:Int)) ⟨by omega,by omega⟩ (by omega) (by omega)
  have w:=zq7 hm hi (L:=now) (k:=k) (o:=o)
  have n:=zle hm (i:=i) (k:=k) (o:=o) h.fl
  rw [wh,wu (by rw [av];omega),ze (z9x a),zdx a,ze (qy c),ze d,j,l]
  by_cases e:o=rz m (now.getD k default) i
  ·rw [wu (show ((rz m (now.getD k default) i:Nat):Int)=(o:Int) by omega),ze (z9x a),ze (qy c),ze d,ze ⟨by rw [av,List.length_singleton];omega,by rw [av,List.length_singleton];omega⟩,ze (z9x (by rw [h.fl];exact a)),ze ⟨by rw [av,List.length_singleton];omega,by rw [av,List.length_singleton];omega⟩,zg4,ze (qm (by omega)),kz,zdx (by rw [h.fl];exact a)]
   show _=wh 5000 m (cI now) (cI fr) (i:Int) (o:Int) F (cI (ptN m now i (k+1) o)) (cI (z6z m now fr i (k+1) o)) ((k+1:Nat):Int)
   rw [zey hm hi a,zfq hm a h.fl,if_pos e,if_pos e]
   unfold cI
   rw [List.map_append,List.map_append];rfl
  ·rw [um (show¬((rz m (now.getD k default) i:Nat):Int)=(o:Int) by omega),zg4,ze (qm (by omega)),kz]
   show _=wh 5000 m (cI now) (cI fr) (i:Int) (o:Int) F (cI (ptN m now i (k+1) o)) (cI (z6z m now fr i (k+1) o)) ((k+1:Nat):Int)
   rw [zey hm hi a,zfq hm a h.fl,if_neg e,if_neg e,List.append_nil,List.append_nil]
 ·show wh 5000 m (cI now) (cI fr) (i:Int) (o:Int) (F+1) _ _ (now.length:Int)=_
  rw [wh,um (by rw [av];omega)]
theorem q93(g:Nat): ∀ (now fr:List Nat) (n0:Nat),Gro m now fr→FT m (num m.rows.length now)<g→n0+384*(FT m (num m.rows.length now)).toNat≤100000→
 vg 5000 g m (mpR (2^m.rows.length) (FT m)) (cI now) (cI fr) (n0:Int)=some (gT m g now fr n0):=by
 induction g with
 |zero=>intro now fr n0 h y _;have:=h.ft;omega
 |succ g ih=>
  intro now fr n0 h y J
  have K:=z9h hm h
  have A:=hm.ok.o1
  have C:=hm.ok.o2
  unfold vg
  rw [qc (qa5 hm)]
  by_cases h1:now.length=1
  ·rw [wu (by rw [av];omega),ze (show okI (cI fr) 0 from z9x (k:=0) (by rw [h.fl];omega))]
   have r:ix (cI fr) 0=((fr.getD 0 default:Nat):Int):=zdx (k:=0) (by rw [h.fl];omega)
   rw [r]
   unfold gT
   rw [if_pos h1];rfl
  ·have s:=(zdt hm h).2 h1
   obtain⟨a,b,c⟩:=zao hm h h1
   rw [um (by rw [av];omega),qc (qa3 hm h.b s)]
   unfold gT
   rw [if_neg h1]
   generalize hfi:z7g m (num m.rows.length now)=i at*
   have t:=fun o (j:o≤16)=>zpn hm (g:=g) (now:=now) (fr:=fr) (i:=i) (n0:=n0) (B:=(FT m (num m.rows.length now)).toNat) (fun o j d D=>by
    obtain⟨q,E⟩:=c o j
    have x:=zw5 hm (g:=g) (n0:=D) (q d) (by omega)
    refine Nat.le_trans x (Nat.mul_le_mul_right _ ?_)
    have:=(q d).ft
    omega) o j
   have l: ∀ o,o≤16→(chN m (gT m g) now fr i n0 o).1.length≤383:=fun o j=>by
    have M:=t o j
    have x:=zq6 hm (now:=now) (i:=i) (o:=o)
    have N:=(zej hm (z2w (n:=m.rows.length) (L:=now))).2
    have O:(FT m (num m.rows.length now)).toNat*zvv m now i o≤63*6:=Nat.mul_le_mul (by omega) (by omega)
    omega
   have u:y5 5000 (vg 5000 g) m (mpR (2^m.rows.length) (FT m)) (cI now) (cI fr) (n0:Int) (i:Int) 5000 [] 0 (List.replicate m.outputs.toNat (-1))=some ((chN m (gT m g) now fr i n0 m.outputs.toNat).1,(chN m (gT m g) now fr i n0 m.outputs.toNat).2):=by
    have:=z2k (fun F k (z:List Sa×List Int)=>y5 5000 (vg 5000 g) m (mpR (2^m.rows.length) (FT m)) (cI now) (cI fr) (n0:Int) (i:Int) F z.1 (k:Int) z.2) m.outputs.toNat (fun k=>chN m (gT m g) now fr i n0 k) ((chN m (gT m g) now fr i n0 m.outputs.toNat).1,(chN m (gT m g) now fr i n0 m.outputs.toNat).2) (fun F k v=>?_) (fun F=>?_) (F:=5000) (by omega)
    ·exact this
    ·show y5 5000 (vg 5000 g) m (mpR (2^m.rows.length) (FT m)) (cI now) (cI fr) (n0:Int) (i:Int) (F+1) _ (k:Int) _=y5 5000 (vg 5000 g) m (mpR (2^m.rows.length) (FT m)) (cI now) (cI fr) (n0:Int) (i:Int) F (chN m (gT m g) now fr i n0 (k+1)).1 ((k+1:Nat):Int) (chN m (gT m g) now fr i n0 (k+1)).2
     rw [y5,wu (by omega),qc (q9z hm h a)]
     have hsucc:chN m (gT m g) now fr i n0 (k+1)=if ptN m now i now.length k=[] then chN m (gT m g) now fr i n0 k else((chN m (gT m g) now fr i n0 k).1++gT m g (ptN m now i now.length k) (z6z m now fr i now.length k) (n0+1+(chN m (gT m g) now fr i n0 k).1.length),(chN m (gT m g) now fr i n0 k).2.set k ((n0+1+(chN m (gT m g) now fr i n0 k).1.length:Nat):Int)):=rfl
     have e:=zaz (m:=m) (G:=gT m g) (now:=now) (fr:=fr) (i:=i) (n0:=n0) k
     have H:=l k (by omega)
     rw [hsucc]
     generalize chN m (gT m g) now fr i n0 k=c0 at*
     by_cases d:ptN m now i now.length k=[]
     ·rw [if_pos d,um (by rw [av,d];simp),zg4,ze (qm (by omega)),kz]
     ·obtain⟨q,E⟩:=c k (by omega)
      have f:=q d
      have hrec:=ih _ _ (n0+1+c0.1.length) f (by omega) (by have:=f.ft;omega)
      have I:=q1s hm (g:=g) (n0:=n0+1+c0.1.length) f (by omega)
      have hnum:(n0:Int)+1+(c0.1.length:Int)=((n0+1+c0.1.length:Nat):Int):=by omega
      have w:okI c0.2 (k:Int):=qy (by rw [e];exact v)
      have p:okI (up c0.2 (k:Int) ((n0+1+c0.1.length:Nat):Int)) (k:Int):=qy (by rw [z5o,List.length_set,e];exact v)
      have hixs:ix (up c0.2 (k:Int) ((n0+1+c0.1.length:Nat):Int)) (k:Int)=((n0+1+c0.1.length:Nat):Int):=by rw [z5o,yn,z0a (by rw [e];exact v),if_pos rfl]
      rw [if_neg d,wu (by rw [av];have:=List.length_pos_iff.2 d;omega),ze (qm (by omega)),ze (qm (by omega)),ze w,hnum,ze p,hixs,qc hrec,ze ⟨by omega,by omega⟩,zg4,ze (qm (by omega)),kz,z5o]
    ·show y5 5000 (vg 5000 g) m (mpR (2^m.rows.length) (FT m)) (cI now) (cI fr) (n0:Int) (i:Int) (F+1) _ (m.outputs.toNat:Int) _=_
     rw [y5,um (by omega)]
   have hfin:=l m.outputs.toNat (by omega)
   refine(qc u).trans ?_
   rw [ze ⟨by simp;omega,by simp;omega⟩];rfl
theorem q2j:num m.rows.length (z1t m)=2^m.rows.length-1:=by
 have h:(num m.rows.length (z1t m):Int)=((2^m.rows.length-1:Nat):Int):=by
  rw [z96]
  refine(zar (Int.natCast_nonneg _) (by have:=Nat.two_pow_pos m.rows.length;omega) fun s a=>?_).symm
  unfold tb z1t
  rw [Int.toNat_natCast,Nat.testBit_two_pow_sub_one,decide_eq_true (List.mem_range.2 a),decide_eq_true a]
 omega
theorem zsp:ww 5000 m 5000 [] 0=some (cI (z1t m)):=by
 have a:=hm.r6
 have:=z2k (fun F k z=>ww 5000 m F z (k:Int)) m.rows.length (fun k=>(List.range k).map fun(s:Nat)=>(s:Int)) (cI (z1t m)) (fun F k b=>?_) (fun F=>?_) (F:=5000) (by omega)
 ·exact this
 ·show ww 5000 m (F+1) _ (k:Int)=ww 5000 m F _ ((k+1:Nat):Int)
  rw [ww,wu (by omega),ze ⟨by rw [List.length_map,List.length_range,List.length_singleton];omega,by rw [List.length_map,List.length_range,List.length_singleton];omega⟩,ze (qm (by omega)),kz]
  congr 1
  rw [List.range_succ,List.map_append];rfl
 ·show ww 5000 m (F+1) _ (m.rows.length:Int)=_
  rw [ww,um (by omega)];rfl
theorem zyd:okI (mpR (2^m.rows.length) (FT m)) (((mpR (2^m.rows.length) (FT m)).length:Int)-1)∧ix (mpR (2^m.rows.length) (FT m)) (((mpR (2^m.rows.length) (FT m)).length:Int)-1)=FT m (num m.rows.length (z1t m)):=by
 have a:=Nat.two_pow_pos m.rows.length
 have e:(((mpR (2^m.rows.length) (FT m)).length:Int)-1)=((2^m.rows.length-1:Nat):Int):=by rw [z5r];omega
 rw [e]
 refine⟨zdo (by omega),?_⟩
 rw [zpp (by omega),q2j hm]
theorem zt5:z14 5000 m=some (if 0≤FT m (num m.rows.length (z1t m)) then((⟨z4o m⟩:Sb),true) else((⟨[]⟩:Sb),false)):=by
 have b:=z4z hm
 have d:=zej hm (z2w (n:=m.rows.length) (L:=z1t m))
 have a:=zyd hm
 have c:in64 (((mpR (2^m.rows.length) (FT m)).length:Int)-1):=by
  have e:(mpR (2^m.rows.length) (FT m)).length≤64:=by rw [z5r];exact b
  exact qm (by omega)
 unfold z14
 rw [qc (zk2 hm),ze c,ze a.1,a.2]
 by_cases h:0≤FT m (num m.rows.length (z1t m))
 ·rw [um (by omega),if_pos h,qc (zsp hm),qc (show vg 5000 5000 m (mpR (2^m.rows.length) (FT m)) (cI (z1t m)) (cI (z1t m)) 0=some (z4o m) from q93 hm 5000 _ _ 0 (zh9 hm h) (by omega) (by omega))]
 ·rw [wu (by omega),if_neg h]
end
end GV
end Go.Proofs.Ytnnobdkjgafdmaa
