import Derived.Test.YtnnobdkjgafdmaaHgt15b
set_option linter.unusedVariables false
set_option linter.unusedSimpArgs false
set_option linter.unusedSectionVars false
namespace Go.Proofs.Ytnnobdkjgafdmaa
namespace GV
set_option maxRecDepth 100000
def zh2(m:Mach)(x i:Nat):Bool:=z2d m x i&&(List.range 16).all fun o=>decide (0≤FT m (prN m x i o))&&decide (FT m (prN m x i o)<FT m x)
def z7g(m:Mach)(x:Nat):Nat:=((List.range (nIn m)).find? (zh2 m x)).getD 0
def z6z(m:Mach)(now fr:List Nat)(i k o:Nat):List Nat:=(((now.zip fr).take k).filter fun p=>qO m i o p.1).map Prod.snd
def chN(m:Mach)(G:List Nat→List Nat→Nat→List Sa)(now fr:List Nat)(i n0:Nat):Nat→List Sa×List Int
 |0=>([],List.replicate m.outputs.toNat (-1))
 |o+1=>if ptN m now i now.length o=[] then chN m G now fr i n0 o else
  ((chN m G now fr i n0 o).1++G (ptN m now i now.length o) (z6z m now fr i now.length o) (n0+1+(chN m G now fr i n0 o).1.length),(chN m G now fr i n0 o).2.set o ((n0+1+(chN m G now fr i n0 o).1.length:Nat):Int))
def gT(m:Mach):Nat→List Nat→List Nat→Nat→List Sa
 |0,_,_,_=>[]
 |g+1,now,fr,n0=>if now.length=1 then [⟨-1,((fr.getD 0 0:Nat):Int),List.replicate m.outputs.toNat (-1)⟩] else
  ⟨(z7g m (num m.rows.length now):Int),-1,(chN m (gT m g) now fr (z7g m (num m.rows.length now)) n0 m.outputs.toNat).2⟩::(chN m (gT m g) now fr (z7g m (num m.rows.length now)) n0 m.outputs.toNat).1
theorem zaz{m:Mach}{G:List Nat→List Nat→Nat→List Sa}{now fr:List Nat}{i n0:Nat}: ∀ o,(chN m G now fr i n0 o).2.length=m.outputs.toNat
 |0=>by simp [chN]
 |o+1=>by
  have:=zaz (m:=m) (G:=G) (now:=now) (fr:=fr) (i:=i) (n0:=n0) o
  unfold chN
  split
  ·exact this
  ·show (List.set _ _ _).length=_
   rw [List.length_set];exact this
section
variable {m : Mach} (hm : PM m)
include hm
theorem q1g: ∀ {k x j:Nat},LV m k x=(j:Int)+1→j<k∧ ∃ i,i<nIn m∧z2d m x i=true∧ ∀ o,o<16→0≤LV m j (prN m x i o)
 |0,x,j,h=>by unfold LV at h;split at h<;>omega
 |k+1,x,j,h=>by
  by_cases hc:LV m k x<0∧zfz m (fun z=>decide (0≤LV m k z)) x=true
  ·have e:LV m (k+1) x=(k:Int)+1:=if_pos hc
   obtain rfl:j=k:=by omega
   obtain⟨i,hi,c⟩:=List.any_eq_true.1 hc.2
   rw [Bool.and_eq_true] at c
   exact⟨by omega,i,List.mem_range.1 hi,c.1,fun o d=>of_decide_eq_true (List.all_eq_true.1 c.2 o (List.mem_range.2 d))⟩
  ·have e:LV m (k+1) x=LV m k x:=if_neg hc
   obtain⟨a,b⟩:=q1g (k:=k) (x:=x) (j:=j) (by omega)
   exact⟨by omega,b⟩
theorem zi0{x:Nat}(t:x<2^m.rows.length)(c:1≤FT m x):z7g m x<nIn m∧zh2 m x (z7g m x)=true∧ ∀ j,j<z7g m x→zh2 m x j=false:=by
 obtain⟨j,b⟩: ∃ j:Nat,LV m 64 x=(j:Int)+1:=⟨(LV m 64 x-1).toNat,by unfold FT at c;omega⟩
 obtain⟨n,i,hi,d,p⟩:=q1g hm b
 have hlow:zh2 m x i=true:=by
  unfold zh2
  rw [d,Bool.true_and,List.all_eq_true]
  intro o q
  have f:=p o (List.mem_range.1 q)
  have g:=zuf f (64-j)
  rw [show j+(64-j)=64 by omega] at g
  have u:=zk7 (m:=m) (k:=j) (x:=prN m x i o)
  unfold FT
  rw [g,b,decide_eq_true f,decide_eq_true (by omega)];rfl
 unfold z7g
 cases hf:(List.range (nIn m)).find? (zh2 m x) with
 |none=>
  have:=List.find?_eq_none.1 hf i (List.mem_range.2 hi)
  exact absurd hlow this
 |some k=>
  have r:=List.find?_some hf
  have hmem:=List.mem_range.1 (List.mem_of_find?_eq_some hf)
  refine⟨hmem,r,fun j b=>?_⟩
  show zh2 m x j=false
  have b:j<k:=b
  cases hlj:zh2 m x j with
  |false=>rfl
  |true=>
   rw [List.find?_eq_some_iff_append] at hf
   obtain⟨_,as,bs,c,d⟩:=hf
   have s:as.length=k:=by
    have h:=congrArg (fun l=>l[as.length]?) c
    simp only [List.getElem?_append_right (Nat.le_refl _),Nat.sub_self,List.getElem?_cons_zero] at h
    by_cases hl:as.length<nIn m
    ·rw [List.getElem?_range hl] at h;exact Option.some.inj h
    ·rw [List.getElem?_eq_none (by rw [List.length_range];omega)] at h;cases h
   have e:j∈as:=by
    have h:=congrArg (fun l=>l[j]?) c
    have a:j<as.length:=by omega
    simp only [List.getElem?_append_left a] at h
    rw [List.getElem?_range (by omega),List.getElem?_eq_getElem a] at h
    rw [Option.some.inj h];exact List.getElem_mem a
   have:=d j e
   rw [hlj] at this;cases this
theorem q4p{x i:Nat}(a:x<2^m.rows.length)(b:1≤FT m x):q35 m (FW m) (FT m x) x i=zh2 m x i:=by
 unfold q35 zh2
 congr 1
 congr 1
 funext o
 exact q2s hm zgc.1 (by omega)
structure Gro (m:Mach) (now fr:List Nat):Prop where
 b:Blk m.rows.length now
 ne:now≠[]
 fl:fr.length=now.length
 ft:0≤FT m (num m.rows.length now)
theorem z9h{now fr:List Nat}(h:Gro m now fr):1≤now.length∧now.length≤6:=by
 have:=h.b.len
 have:=hm.r6
 have:=List.length_pos_iff.2 h.ne
 omega
theorem zdt{now fr:List Nat}(h:Gro m now fr):(now.length=1→FT m (num m.rows.length now)=0)∧(now.length≠1→1≤FT m (num m.rows.length now)):=by
 have o:=z9h hm h
 have j:=z4z hm
 have l:=z2w (n:=m.rows.length) (L:=now)
 constructor
 ·intro d
  refine zc5 ?_ 64
  obtain⟨s,rfl⟩:=List.length_eq_one_iff.1 d
  refine Nat.lt_of_not_le fun f=>?_
  obtain⟨a,b,c,g,i⟩:=(zfv (by omega)).1 (show 1<pcB (num m.rows.length [s]:Int) by omega)
  rw [zf5 h.b,List.mem_singleton] at g i
  exact c (g.trans i.symm)
 ·intro d
  have f: ¬pcB (num m.rows.length now:Int)<2:=by
   have:1<pcB (num m.rows.length now:Int):=(zfv (by omega)).2 ⟨now.getD 0 default,now.getD 1 default,?_,(zf5 h.b).2 (su (by omega)),(zf5 h.b).2 (su (by omega))⟩
   ·omega
   ·intro e
    have:=(zlb h.b (k:=1) (by omega)).2
    rw [←e] at this
    refine this ?_
    rw [takeN (k:=0) (by omega)]
    simp
  have:=zqv (m:=m) f 64
  have:=h.ft
  unfold FT at*
  omega
theorem zle{now fr:List Nat}{i k o:Nat}(c:fr.length=now.length):(z6z m now fr i k o).length=(ptN m now i k o).length:=by
 unfold z6z ptN
 rw [List.length_map,List.length_map]
 induction now generalizing fr k with
 |nil=>simp
 |cons a now ih=>
  cases fr with
  |nil=>simp at c
  |cons b fr=>
   cases k with
   |zero=>rfl
   |succ k=>
    rw [List.zip_cons_cons,List.take_succ_cons,List.take_succ_cons,List.filter_cons,List.filter_cons]
    have:=ih (fr:=fr) (k:=k) (by simpa using c)
    show (if qO m i o a=true then _ else _:List (Nat×Nat)).length=(if qO m i o a=true then _ else _:List Nat).length
    split
    ·rw [List.length_cons,List.length_cons,this]
    ·exact this
theorem zao{now fr:List Nat}(h:Gro m now fr)(e:now.length≠1):z7g m (num m.rows.length now)<nIn m∧q08 m now (z7g m (num m.rows.length now))∧ ∀ o,o<16→
 (ptN m now (z7g m (num m.rows.length now)) now.length o≠[]→Gro m (ptN m now (z7g m (num m.rows.length now)) now.length o) (z6z m now fr (z7g m (num m.rows.length now)) now.length o))∧FT m (num m.rows.length (ptN m now (z7g m (num m.rows.length now)) now.length o))<FT m (num m.rows.length now):=by
 obtain⟨a,b,_⟩:=zi0 hm z2w ((zdt hm h).2 e)
 generalize z7g m (num m.rows.length now)=i at*
 unfold zh2 at b
 rw [Bool.and_eq_true] at b
 have hinj:=(zl2 hm a h.b).1 ((zl4 hm a h.b).trans b.1)
 refine⟨a,hinj,fun o f=>?_⟩
 have c:=List.all_eq_true.1 b.2 o (List.mem_range.2 f)
 rw [Bool.and_eq_true,decide_eq_true_iff,decide_eq_true_iff] at c
 rw [zae hm a h.b]
 refine⟨fun d=>⟨zr3 hm a h.b hinj o,d,zle hm h.fl,?_⟩,c.2⟩
 rw [zae hm a h.b];exact c.1
/-! ### how many nodes-/
def zvv(m:Mach)(now:List Nat)(i o:Nat):Nat:=now.countP fun s=>decide (rz m s i<o)
theorem zz5{now:List Nat}{i o:Nat}:zvv m now i (o+1)=zvv m now i o+(ptN m now i now.length o).length:=by
 unfold zvv ptN
 rw [List.take_length,List.length_map,←List.countP_eq_length_filter]
 induction now with
 |nil=>rfl
 |cons a now ih=>
  rw [List.countP_cons,List.countP_cons,List.countP_cons,ih]
  unfold qO
  by_cases e:rz m a i<o
  ·rw [if_pos (decide_eq_true (show rz m a i<o+1 by omega)),if_pos (decide_eq_true e),if_neg (show¬decide (rz m a i=o)=true from fun h=>by have:=of_decide_eq_true h;omega)];omega
  ·by_cases e2:rz m a i=o
   ·rw [if_pos (decide_eq_true (show rz m a i<o+1 by omega)),if_neg (show¬decide (rz m a i<o)=true from fun h=>e (of_decide_eq_true h)),if_pos (decide_eq_true e2)];omega
   ·rw [if_neg (show¬decide (rz m a i<o+1)=true from fun h=>by have:=of_decide_eq_true h;omega),if_neg (show¬decide (rz m a i<o)=true from fun h=>e (of_decide_eq_true h)),if_neg (show¬decide (rz m a i=o)=true from fun h=>e2 (of_decide_eq_true h))];omega
theorem zq6{now:List Nat}{i o:Nat}:zvv m now i o≤now.length:=List.countP_le_length
theorem zpn{g:Nat}{now fr:List Nat}{i n0:Nat}{B:Nat}(a: ∀ o,o<16→ptN m now i now.length o≠[]→ ∀ b,(gT m g (ptN m now i now.length o) (z6z m now fr i now.length o) b).length≤B*(ptN m now i now.length o).length): ∀ o,o≤16→(chN m (gT m g) now fr i n0 o).1.length≤B*zvv m now i o
 |0,_=>by simp [chN]
 |o+1,c=>by
  have d:=zpn (n0:=n0) a o (by omega)
  rw [zz5 hm,Nat.mul_add]
  unfold chN
  split
  ·omega
  ·rename_i hne
   have:=a o (by omega) hne (n0+1+(chN m (gT m g) now fr i n0 o).1.length)
   show (List.append _ _).length≤_
   rw [List.append_eq,List.length_append];omega
theorem zw5{g:Nat}: ∀ {now fr:List Nat} {n0:Nat},Gro m now fr→FT m (num m.rows.length now)<g→(gT m g now fr n0).length≤((FT m (num m.rows.length now)).toNat+1)*now.length:=by
 induction g with
 |zero=>intro now fr n0 h j;have:=h.ft;omega
 |succ g ih=>
  intro now fr n0 h j
  have q:=z9h hm h
  have k:=hm.ok.o2
  unfold gT
  by_cases h1:now.length=1
  ·rw [if_pos h1,h1];simp
  ·rw [if_neg h1,List.length_cons]
   obtain⟨a,b,c⟩:=zao hm h h1
   have l:=(zdt hm h).2 h1
   have r:=zpn hm (g:=g) (now:=now) (fr:=fr) (i:=z7g m (num m.rows.length now)) (n0:=n0) (B:=(FT m (num m.rows.length now)).toNat) (fun o n d p=>by
    obtain⟨f,s⟩:=c o n
    have e:=ih (n0:=p) (f d) (by omega)
    refine Nat.le_trans e (Nat.mul_le_mul_right _ ?_)
    have:=(f d).ft
    omega) m.outputs.toNat (by omega)
   have e:=zq6 hm (now:=now) (i:=z7g m (num m.rows.length now)) (o:=m.outputs.toNat)
   have t:=Nat.mul_le_mul_left (FT m (num m.rows.length now)).toNat e
   rw [Nat.add_mul,Nat.one_mul]
   omega
theorem q1s{g:Nat}{now fr:List Nat}{n0:Nat}(h:Gro m now fr)(a:FT m (num m.rows.length now)<g):(gT m g now fr n0).length≤384:=by
 have b:=zw5 hm (n0:=n0) h a
 have c:=z9h hm h
 have:=(zej hm (z2w (n:=m.rows.length) (L:=now))).2
 refine Nat.le_trans b (Nat.le_trans (Nat.mul_le_mul (show (FT m (num m.rows.length now)).toNat+1≤64 by omega) c.2) (by decide))
/-! ### the program-/
theorem q9g:dh 5000 m 5000 0 (mk m.outputs (0:Int))=some (List.replicate m.outputs.toNat (-1)):=by
 have a:=hm.ok.o1
 have b:=hm.ok.o2
 have hlen:(mk m.outputs (0:Int)).length=m.outputs.toNat:=by unfold mk;simp
 have:=z2k (fun F k z=>dh 5000 m F (k:Int) z) m.outputs.toNat (fun k=>List.replicate k (-1:Int)++List.replicate (m.outputs.toNat-k) 0) (List.replicate m.outputs.toNat (-1)) (fun F k d=>?_) (fun F=>?_) (F:=5000) (by omega)
 ·rw [show (List.replicate 0 (-1:Int)++List.replicate (m.outputs.toNat-0) 0)=mk m.outputs (0:Int) from rfl] at this
  exact this
 ·show dh 5000 m (F+1) (k:Int) _=dh 5000 m F ((k+1:Nat):Int) _
  rw [dh,wu (by rw [hlen];omega),ze (qy (by simp;omega)),ze (qm (by omega)),kz,z5o]
  congr 1
  rw [List.set_append_right _ _ (by simp),List.length_replicate,Nat.sub_self,List.replicate_succ',List.append_assoc]
  congr 1
  obtain⟨q,c⟩: ∃ q,m.outputs.toNat-k=q+1:=⟨m.outputs.toNat-k-1,by omega⟩
  rw [c,List.replicate_succ,List.set_cons_zero,show m.outputs.toNat-(k+1)=q by omega];rfl
 ·show dh 5000 m (F+1) (m.outputs.toNat:Int) _=_
  rw [dh,um (by rw [hlen];omega),Nat.sub_self,List.replicate_zero,List.append_nil]
theorem q9r{now:List Nat}(d:Blk m.rows.length now):pz 5000 (cI now) 5000 0 0=some (num m.rows.length now:Int):=by
 have j:=hm.r6
 have f:=z4z hm
 have l:=d.len
 have g:((num m.rows.length (now.take 0):Nat):Int)=0:=by
  rw [List.take_zero,z96]
  refine(zar (Int.le_refl 0) (by have:(0:Nat)<2^m.rows.length:=Nat.two_pow_pos _;omega) fun s o=>?_).symm
  rw [zcx];rfl
 have:=z2k (fun F k z=>pz 5000 (cI now) F z (k:Int)) now.length (fun k=>((num m.rows.length (now.take k):Nat):Int)) (num m.rows.length now:Int) (fun F k c=>?_) (fun F=>?_) (F:=5000) (by omega)
 ·rw [g] at this;exact this
 ·show pz 5000 (cI now) (F+1) _ (k:Int)=pz 5000 (cI now) F _ ((k+1:Nat):Int)
  obtain⟨a,b⟩:=zlb d c
  have e:=zs8 a b (zmz d k).lt
  rw [←takeN c] at e
  have i:=z2w (n:=m.rows.length) (L:=now.take k)
  have p:=zij (t:=now.getD k default) (by omega)
  rw [pz,wu (by rw [av];omega),ze (z9x c),zdx c,ze ⟨by omega,by show ((now.getD k default:Nat):Int)≤16;omega⟩,zcq (by omega),ze ⟨⟨by omega,by show _≤(65535:Int);omega⟩,by omega,by show _≤(65535:Int);omega⟩,ze (qm (by omega)),kz]
  congr 1
  have hbit:(num m.rows.length (now.take k)).testBit (now.getD k default)=false:=by
   have h:=z8h (fun s=>decide (s∈now.take k)) m.rows.length (now.getD k default)
   rw [←z96,decide_eq_false b,Bool.and_false] at h
   exact h
  unfold ior
  rw [Int.toNat_natCast,Int.toNat_natCast,zyf hbit,e]
 ·show pz 5000 (cI now) (F+1) _ (now.length:Int)=_
  rw [pz,um (by rw [av];omega),List.take_length]
theorem q8t{x:Nat}(d:x<2^m.rows.length)(f:1≤FT m x):z02 5000 m (mkA 64 (FW m)) (x:Int) 5000 0=some (z7g m x:Int):=by
 have g:=z4z hm
 have j:=hm.ok.i2
 have l:=hm.toCM.nin
 obtain⟨a,b,c⟩:=zi0 hm d f
 have k:FW m x=FT m x:=by unfold FW;rw [if_pos d,if_neg (by omega)]
 have key: ∀ F i,i≤z7g m x→z7g m x-i<F→z02 5000 m (mkA 64 (FW m)) (x:Int) F (i:Int)=some (z7g m x:Int):=by
  intro F
  induction F with
  |zero=>intro i _ h;omega
  |succ F ih=>
   intro i hi hF
   unfold z02
   rw [ze (z4x (by omega)),zew (by omega),k,qc (lower_eq hm (by omega) d),q4p hm d f]
   by_cases e:i=z7g m x
   ·rw [e,b];rfl
   ·rw [c i (by omega)]
    refine(ct rfl).trans ?_
    rw [ze (qm (by omega)),kz]
    exact ih (i+1) (by omega) (by omega)
 exact key 5000 0 (Nat.zero_le _) (by omega)
theorem zfq{now fr:List Nat}{i k o:Nat}(a:k<now.length)(c:fr.length=now.length):z6z m now fr i (k+1) o=z6z m now fr i k o++if o=rz m (now.getD k default) i then [fr.getD k default] else []:=by
 unfold z6z
 have b:(now.zip fr).take (k+1)=(now.zip fr).take k++[(now.getD k default,fr.getD k default)]:=by
  rw [List.take_add_one]
  congr 1
  rw [List.getElem?_eq_getElem (by rw [List.length_zip];omega),List.getElem_zip,List.getD_eq_getElem?_getD,List.getD_eq_getElem?_getD,List.getElem?_eq_getElem a,List.getElem?_eq_getElem (by omega)];rfl
 rw [b,List.filter_append,List.map_append,List.filter_cons]
 by_cases e:o=rz m (now.getD k default) i
 ·rw [if_pos e,if_pos (show qO m i o (now.getD k default)=true from decide_eq_true e.symm)];rfl
 ·rw [if_neg e,if_neg (show¬qO m i o (now.getD k default)=true from fun h=>e (of_decide_eq_true h).symm)];rfl
theorem q86{now fr:List Nat}(h:Gro m now fr){i o:Nat}(hi:i<nIn m):xw 5000 (cI now) (cI fr) m (i:Int) (o:Int) 5000 [] [] 0=some (cI (ptN m now i now.length o),cI (z6z m now fr i now.length o)):=by
 have p:=z9h hm h
 have q:=hm.r6
 have r:=hm.toCM.nin
 have:=z2k (fun F k (z:List Int×List Int)=>xw 5000 (cI now) (cI fr) m (i:Int) (o:Int) F z.1 z.2 (k:Int)) now.length (fun k=>(cI (ptN m now i k o),cI (z6z m now fr i k o))) (cI (ptN m now i now.length o),cI (z6z m now fr i now.length o)) (fun F k a=>?_) (fun F=>?_) (F:=5000) (by omega)
 ·exact this
 ·show xw 5000 (cI now) (cI fr) m (i:Int) (o:Int) (F+1) (cI (ptN m now i k o)) (cI (z6z m now fr i k o)) (k:Int)=_
  have c:=h.b.lt _ (su a)
  obtain⟨f,t,u⟩:=zas hm hi c
  obtain⟨v,g⟩:=hm.toCM.tgt c hi
  have j:(ix (ix m.rows ((now.getD k default:Nat):Int)) (i:Int)).out=(rz m (now.getD k default) i:Int):=f
  have l:(ix (ix m.rows ((now.getD k default:Nat):Int)) (i:Int)).to=(tgt m (now.getD k default) i:Int):=g
  have d:=hm.toCM.okr (s:=((now.getD k default:Nat):Int)) (i:=(i:Int)) ⟨by omega,by omega⟩ (by omega) (by omega)
  have w:=zq7 hm hi (L:=now) (k:=k) (o:=o)
  have n:=zle hm (i:=i) (k:=k) (o:=o) h.fl
  rw [xw,wu (by rw [av];omega),ze (z9x a),zdx a,ze (qy c),ze d,j,l]
  by_cases e:o=rz m (now.getD k default) i
  ·rw [wu (show ((rz m (now.getD k default) i:Nat):Int)=(o:Int) by omega),ze (qy c),ze d,ze ⟨by rw [av,List.length_singleton];omega,by rw [av,List.length_singleton];omega⟩,ze (z9x (by rw [h.fl];exact a)),ze ⟨by rw [av,List.length_singleton];omega,by rw [av,List.length_singleton];omega⟩,zg4,ze (qm (by omega)),kz,zdx (by rw [h.fl];exact a)]
   show _=xw 5000 (cI now) (cI fr) m (i:Int) (o:Int) F (cI (ptN m now i (k+1) o)) (cI (z6z m now fr i (k+1) o)) ((k+1:Nat):Int)
   rw [zey hm hi a,zfq hm a h.fl,if_pos e,if_pos e]
   unfold cI
   rw [List.map_append,List.map_append];rfl
  ·rw [um (show¬((rz m (now.getD k default) i:Nat):Int)=(o:Int) by omega),zg4,ze (qm (by omega)),kz]
   show _=xw 5000 (cI now) (cI fr) m (i:Int) (o:Int) F (cI (ptN m now i (k+1) o)) (cI (z6z m now fr i (k+1) o)) ((k+1:Nat):Int)
   rw [zey hm hi a,zfq hm a h.fl,if_neg e,if_neg e,List.append_nil,List.append_nil]
 ·show xw 5000 (cI now) (cI fr) m (i:Int) (o:Int) (F+1) _ _ (now.length:Int)=_
  rw [xw,um (by rw [av];omega)]
theorem at_len{X:List Sa}{y:Sa}{Z:List Sa}:(X++y::Z).getD X.length default=y:=by
 simp [List.getD_eq_getElem?_getD]
theorem zhc{X:List Sa}{y z:Sa}{Z:List Sa}:(X++y::Z).set X.length z=X++z::Z:=by
 rw [List.set_append_right _ _ (Nat.le_refl _),Nat.sub_self,List.set_cons_zero]
theorem qa1(g:Nat): ∀ (now fr:List Nat) (d:List Sa),Gro m now fr→FT m (num m.rows.length now)<g→d.length+384*(FT m (num m.rows.length now)).toNat≤100000→
 mi 5000 g (cI now) (cI fr) d m (mkA 64 (FW m))=some ((d.length:Int),d++gT m g now fr d.length):=by
 induction g with
 |zero=>intro now fr d h x _;have:=h.ft;omega
 |succ g ih=>
  intro now fr d h x J
  have K:=z9h hm h
  have A:=hm.ok.o1
  have C:=hm.ok.o2
  unfold mi
  rw [ze ⟨by omega,by omega,by omega⟩,qc (q9g hm),ze ⟨by rw [List.length_singleton];omega,by rw [List.length_singleton];omega⟩]
  have f: ∀ y:Sa,ix (d++[y]) (d.length:Int)=y:=fun y=>by rw [yn];exact at_len hm
  have hokp: ∀ y:Sa,okI (d++[y]) (d.length:Int):=fun y=>qy (by simp)
  by_cases h1:now.length=1
  ·rw [wu (by rw [av];omega),ze (show okI (cI fr) 0 from z9x (k:=0) (by rw [h.fl];omega)),ze (hokp _),f,z5o,zhc hm]
   have q:ix (cI fr) 0=((fr.getD 0 default:Nat):Int):=zdx (k:=0) (by rw [h.fl];omega)
   rw [q]
   unfold gT
   rw [if_pos h1];rfl
  ·have r:=(zdt hm h).2 h1
   obtain⟨a,b,c⟩:=zao hm h h1
   rw [um (by rw [av];omega),qc (q9r hm h.b),qc (q8t hm z2w r),ze (hokp _),f,z5o,zhc hm]
   unfold gT
   rw [if_neg h1]
   generalize hfi:z7g m (num m.rows.length now)=i at*
   have s:=fun o (j:o≤16)=>zpn hm (g:=g) (now:=now) (fr:=fr) (i:=i) (n0:=d.length) (B:=(FT m (num m.rows.length now)).toNat) (fun o j e D=>by
    obtain⟨p,E⟩:=c o j
    have w:=zw5 hm (g:=g) (n0:=D) (p e) (by omega)
    refine Nat.le_trans w (Nat.mul_le_mul_right _ ?_)
    have:=(p e).ft
    omega) o j
   have t: ∀ o,o≤16→(chN m (gT m g) now fr i d.length o).1.length≤383:=fun o j=>by
    have M:=s o j
    have w:=zq6 hm (now:=now) (i:=i) (o:=o)
    have N:=(zej hm (z2w (n:=m.rows.length) (L:=now))).2
    have O:(FT m (num m.rows.length now)).toNat*zvv m now i o≤63*6:=Nat.mul_le_mul (by omega) (by omega)
    omega
   have u:df 5000 (mi 5000 g) (cI now) (cI fr) d m (mkA 64 (FW m)) (List.replicate m.outputs.toNat (-1)) (i:Int) 5000 0 (d++[(⟨(i:Int),-1,List.replicate m.outputs.toNat (-1)⟩:Sa)])=some (d++⟨(i:Int),-1,(chN m (gT m g) now fr i d.length m.outputs.toNat).2⟩::(chN m (gT m g) now fr i d.length m.outputs.toNat).1):=by
    have:=z2k (fun F k z=>df 5000 (mi 5000 g) (cI now) (cI fr) d m (mkA 64 (FW m)) (List.replicate m.outputs.toNat (-1)) (i:Int) F (k:Int) z) m.outputs.toNat (fun k=>d++(⟨(i:Int),-1,(chN m (gT m g) now fr i d.length k).2⟩:Sa)::(chN m (gT m g) now fr i d.length k).1) (d++⟨(i:Int),-1,(chN m (gT m g) now fr i d.length m.outputs.toNat).2⟩::(chN m (gT m g) now fr i d.length m.outputs.toNat).1) (fun F k H=>?_) (fun F=>?_) (F:=5000) (by omega)
    ·exact this
    ·show df 5000 (mi 5000 g) (cI now) (cI fr) d m (mkA 64 (FW m)) (List.replicate m.outputs.toNat (-1)) (i:Int) (F+1) (k:Int) _=df 5000 (mi 5000 g) (cI now) (cI fr) d m (mkA 64 (FW m)) (List.replicate m.outputs.toNat (-1)) (i:Int) F ((k+1:Nat):Int) _
     rw [df,f,z5o,zhc hm,at_len hm]
     dsimp only
     rw [wu (by rw [List.length_replicate];omega),qc (q86 hm h a)]
     have hsucc:chN m (gT m g) now fr i d.length (k+1)=if ptN m now i now.length k=[] then chN m (gT m g) now fr i d.length k else((chN m (gT m g) now fr i d.length k).1++gT m g (ptN m now i now.length k) (z6z m now fr i now.length k) (d.length+1+(chN m (gT m g) now fr i d.length k).1.length),(chN m (gT m g) now fr i d.length k).2.set k ((d.length+1+(chN m (gT m g) now fr i d.length k).1.length:Nat):Int)):=rfl
     have v:=zaz (m:=m) (G:=gT m g) (now:=now) (fr:=fr) (i:=i) (n0:=d.length) k
     have I:=t k (by omega)
     rw [hsucc]
     generalize chN m (gT m g) now fr i d.length k=c0 at*
     by_cases e:ptN m now i now.length k=[]
     ·rw [if_pos e,um (by rw [av,e];simp),zg4,ze (qm (by omega)),kz]
     ·obtain⟨p,E⟩:=c k (by omega)
      have l:=p e
      have hlen:(d++(⟨(i:Int),-1,c0.2⟩:Sa)::c0.1).length=d.length+1+c0.1.length:=by simp;omega
      have hrec:=ih _ _ (d++(⟨(i:Int),-1,c0.2⟩:Sa)::c0.1) l (by omega) (by rw [hlen];have:=l.ft;omega)
      rw [if_neg e,wu (by rw [av];have:=List.length_pos_iff.2 e;omega)]
      rw [hlen] at hrec
      rw [qc hrec]
      dsimp only
      rw [List.append_assoc,List.cons_append,at_len hm,zhc hm]
      dsimp only
      refine(qc (ze (qy (by rw [v];exact H)))).trans ?_
      rw [ze (qm (by omega)),kz];rfl
    ·show df 5000 (mi 5000 g) (cI now) (cI fr) d m (mkA 64 (FW m)) (List.replicate m.outputs.toNat (-1)) (i:Int) (F+1) (m.outputs.toNat:Int) _=_
     rw [df,f,z5o,zhc hm,at_len hm]
     dsimp only
     rw [um (by rw [List.length_replicate];omega)]
   exact qc u
end
end GV
end Go.Proofs.Ytnnobdkjgafdmaa
