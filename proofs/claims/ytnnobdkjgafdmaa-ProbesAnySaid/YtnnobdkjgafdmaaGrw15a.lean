import Derived.Test.YtnnobdkjgafdmaaHgt15b
set_option linter.unusedVariables false
set_option linter.unusedSimpArgs false
set_option linter.unusedSectionVars false
namespace Go.Proofs.Ytnnobdkjgafdmaa
namespace GV
set_option maxRecDepth 100000
def zgi(m:Mach)(x i:Nat):Bool:=z1n m x i&&(List.range 16).all fun o=>decide (0≤FT m (prN m x i o))&&decide (FT m (prN m x i o)<FT m x)
def z7p(m:Mach)(x:Nat):Nat:=((List.range (nIn m)).find? (zgi m x)).getD 0
def zcd(m:Mach)(now fr:List Nat)(i k o:Nat):List Nat:=(((now.zip fr).take k).filter fun p=>qO m i o p.1).map Prod.snd
def chN(m:Mach)(G:List Nat→List Nat→Nat→List Sa)(now fr:List Nat)(i n0:Nat):Nat→List Sa×List Int
 |0=>([],List.replicate m.outputs.toNat (-1))
 |o+1=>if ptN m now i now.length o=[] then chN m G now fr i n0 o else
  ((chN m G now fr i n0 o).1++G (ptN m now i now.length o) (zcd m now fr i now.length o) (n0+1+(chN m G now fr i n0 o).1.length),(chN m G now fr i n0 o).2.set o ((n0+1+(chN m G now fr i n0 o).1.length:Nat):Int))
def gT(m:Mach):Nat→List Nat→List Nat→Nat→List Sa
 |0,_,_,_=>[]
 |g+1,now,fr,n0=>if now.length=1 then [⟨-1,((fr.getD 0 0:Nat):Int),List.replicate m.outputs.toNat (-1)⟩] else
  ⟨(z7p m (num m.rows.length now):Int),-1,(chN m (gT m g) now fr (z7p m (num m.rows.length now)) n0 m.outputs.toNat).2⟩::(chN m (gT m g) now fr (z7p m (num m.rows.length now)) n0 m.outputs.toNat).1
theorem zmn{m:Mach}{G:List Nat→List Nat→Nat→List Sa}{now fr:List Nat}{i n0:Nat}: ∀ o,(chN m G now fr i n0 o).2.length=m.outputs.toNat
 |0=>by simp [chN]
 |o+1=>by
  have:=zmn (m:=m) (G:=G) (now:=now) (fr:=fr) (i:=i) (n0:=n0) o
  unfold chN
  split
  ·exact this
  ·show (List.set _ _ _).length=_
   rw [List.length_set];exact this
section
variable {m : Mach} (hm : PM m)
include hm
theorem ztr: ∀ {k x j:Nat},LV m k x=(j:Int)+1→j<k∧ ∃ i,i<nIn m∧z1n m x i=true∧ ∀ o,o<16→0≤LV m j (prN m x i o)
 |0,x,j,h=>by unfold LV at h;split at h<;>omega
 |k+1,x,j,h=>by
  by_cases hc:LV m k x<0∧zio m (fun z=>decide (0≤LV m k z)) x=true
  ·have e:LV m (k+1) x=(k:Int)+1:=if_pos hc
   obtain rfl:j=k:=by omega
   obtain⟨i,hi,c⟩:=List.any_eq_true.1 hc.2
   rw [Bool.and_eq_true] at c
   exact⟨by omega,i,List.mem_range.1 hi,c.1,fun o d=>of_decide_eq_true (List.all_eq_true.1 c.2 o (List.mem_range.2 d))⟩
  ·have e:LV m (k+1) x=LV m k x:=if_neg hc
   obtain⟨a,b⟩:=ztr (k:=k) (x:=x) (j:=j) (by omega)
   exact⟨by omega,b⟩
theorem zmi{x:Nat}(t:x<2^m.rows.length)(c:1≤FT m x):z7p m x<nIn m∧zgi m x (z7p m x)=true∧ ∀ j,j<z7p m x→zgi m x j=false:=by
 obtain⟨j,b⟩: ∃ j:Nat,LV m 64 x=(j:Int)+1:=⟨(LV m 64 x-1).toNat,by unfold FT at c;omega⟩
 obtain⟨n,i,hi,d,p⟩:=ztr hm b
 have hlow:zgi m x i=true:=by
  unfold zgi
  rw [d,Bool.true_and,List.all_eq_true]
  intro o q
  have f:=p o (List.mem_range.1 q)
  have g:=ztp f (64-j)
  rw [show j+(64-j)=64 by omega] at g
  have u:=zml (m:=m) (k:=j) (x:=prN m x i o)
  unfold FT
  rw [g,b,decide_eq_true f,decide_eq_true (by omega)];rfl
 unfold z7p
 cases hf:(List.range (nIn m)).find? (zgi m x) with
 |none=>
  have:=List.find?_eq_none.1 hf i (List.mem_range.2 hi)
  exact absurd hlow this
 |some k=>
  have r:=List.find?_some hf
  have hmem:=List.mem_range.1 (List.mem_of_find?_eq_some hf)
  refine⟨hmem,r,fun j b=>?_⟩
  show zgi m x j=false
  have b:j<k:=b
  cases hlj:zgi m x j with
  |false=>rfl
  |true=>
   rw [List.find?_eq_some_iff_append] at hf
   obtain⟨_,as,bs,c,d⟩:=hf
   have s:as.length=k:=by
    have h:=congrArg (fun l=>l[as.length]?) c
    simp only [List.getElem?_append_right (Nat.le_refl _),Nat.sub_self,List.getElem?_cons_zero] at h
    by_cases hl:as.length<nIn m
    ·rw [List.getElem?_range hl] at h;exact Option.some.inj h
    ·rw [List.getElem?_eq_none (by rw [List.length_range];omega)] at h;cases h
   have e:j∈as:=by
    have h:=congrArg (fun l=>l[j]?) c
    have a:j<as.length:=by omega
    simp only [List.getElem?_append_left a] at h
    rw [List.getElem?_range (by omega),List.getElem?_eq_getElem a] at h
    rw [Option.some.inj h];exact List.getElem_mem a
   have:=d j e
   rw [hlj] at this;cases this
theorem zvh{x i:Nat}(a:x<2^m.rows.length)(b:1≤FT m x):zu4 m (FW m) (FT m x) x i=zgi m x i:=by
 unfold zu4 zgi
 congr 1
 congr 1
 funext o
 exact zup hm zez.1 (by omega)
structure Gro (m:Mach) (now fr:List Nat):Prop where
 b:Blk m.rows.length now
 ne:now≠[]
 fl:fr.length=now.length
 ft:0≤FT m (num m.rows.length now)
theorem zgb{now fr:List Nat}(h:Gro m now fr):1≤now.length∧now.length≤6:=by
 have:=h.b.len
 have:=hm.r6
 have:=List.length_pos_iff.2 h.ne
 omega
theorem zls{now fr:List Nat}(h:Gro m now fr):(now.length=1→FT m (num m.rows.length now)=0)∧(now.length≠1→1≤FT m (num m.rows.length now)):=by
 have o:=zgb hm h
 have j:=z8j hm
 have l:=zaq (n:=m.rows.length) (L:=now)
 constructor
 ·intro d
  refine zi7 ?_ 64
  obtain⟨s,rfl⟩:=List.length_eq_one_iff.1 d
  refine Nat.lt_of_not_le fun f=>?_
  obtain⟨a,b,c,g,i⟩:=(zg6 (by omega)).1 (show 1<pcB (num m.rows.length [s]:Int) by omega)
  rw [zen h.b,List.mem_singleton] at g i
  exact c (g.trans i.symm)
 ·intro d
  have f: ¬pcB (num m.rows.length now:Int)<2:=by
   have:1<pcB (num m.rows.length now:Int):=(zg6 (by omega)).2 ⟨now.getD 0 default,now.getD 1 default,?_,(zen h.b).2 (z5o (by omega)),(zen h.b).2 (z5o (by omega))⟩
   ·omega
   ·intro e
    have:=(zq3 h.b (k:=1) (by omega)).2
    rw [←e] at this
    refine this ?_
    rw [takeN (k:=0) (by omega)]
    simp
  have:=zlf (m:=m) f 64
  have:=h.ft
  unfold FT at*
  omega
theorem zm0{now fr:List Nat}{i k o:Nat}(c:fr.length=now.length):(zcd m now fr i k o).length=(ptN m now i k o).length:=by
 unfold zcd ptN
 rw [List.length_map,List.length_map]
 induction now generalizing fr k with
 |nil=>simp
 |cons a now ih=>
  cases fr with
  |nil=>simp at c
  |cons b fr=>
   cases k with
   |zero=>rfl
   |succ k=>
    rw [List.zip_cons_cons,List.take_succ_cons,List.take_succ_cons,List.filter_cons,List.filter_cons]
    have:=ih (fr:=fr) (k:=k) (by simpa using c)
    show (if qO m i o a=true then _ else _:List (Nat×Nat)).length=(if qO m i o a=true then _ else _:List Nat).length
    split
    ·rw [List.length_cons,List.length_cons,this]
    ·exact this
theorem zka{now fr:List Nat}(h:Gro m now fr)(e:now.length≠1):z7p m (num m.rows.length now)<nIn m∧zuo m now (z7p m (num m.rows.length now))∧ ∀ o,o<16→
 (ptN m now (z7p m (num m.rows.length now)) now.length o≠[]→Gro m (ptN m now (z7p m (num m.rows.length now)) now.length o) (zcd m now fr (z7p m (num m.rows.length now)) now.length o))∧FT m (num m.rows.length (ptN m now (z7p m (num m.rows.length now)) now.length o))<FT m (num m.rows.length now):=by
 obtain⟨a,b,_⟩:=zmi hm zaq ((zls hm h).2 e)
 generalize z7p m (num m.rows.length now)=i at*
 unfold zgi at b
 rw [Bool.and_eq_true] at b
 have hinj:=(zql hm a h.b).1 ((zxg hm a h.b).trans b.1)
 refine⟨a,hinj,fun o f=>?_⟩
 have c:=List.all_eq_true.1 b.2 o (List.mem_range.2 f)
 rw [Bool.and_eq_true,decide_eq_true_iff,decide_eq_true_iff] at c
 rw [zqo hm a h.b]
 refine⟨fun d=>⟨zx8 hm a h.b hinj o,d,zm0 hm h.fl,?_⟩,c.2⟩
 rw [zqo hm a h.b];exact c.1
/-! ### how many nodes-/
def zrt(m:Mach)(now:List Nat)(i o:Nat):Nat:=now.countP fun s=>decide (z1t m s i<o)
theorem zsm{now:List Nat}{i o:Nat}:zrt m now i (o+1)=zrt m now i o+(ptN m now i now.length o).length:=by
 unfold zrt ptN
 rw [List.take_length,List.length_map,←List.countP_eq_length_filter]
 induction now with
 |nil=>rfl
 |cons a now ih=>
  rw [List.countP_cons,List.countP_cons,List.countP_cons,ih]
  unfold qO
  by_cases e:z1t m a i<o
  ·rw [if_pos (decide_eq_true (show z1t m a i<o+1 by omega)),if_pos (decide_eq_true e),if_neg (show¬decide (z1t m a i=o)=true from fun h=>by have:=of_decide_eq_true h;omega)];omega
  ·by_cases e2:z1t m a i=o
   ·rw [if_pos (decide_eq_true (show z1t m a i<o+1 by omega)),if_neg (show¬decide (z1t m a i<o)=true from fun h=>e (of_decide_eq_true h)),if_pos (decide_eq_true e2)];omega
   ·rw [if_neg (show¬decide (z1t m a i<o+1)=true from fun h=>by have:=of_decide_eq_true h;omega),if_neg (show¬decide (z1t m a i<o)=true from fun h=>e (of_decide_eq_true h)),if_neg (show¬decide (z1t m a i=o)=true from fun h=>e2 (of_decide_eq_true h))];omega
theorem zqh{now:List Nat}{i o:Nat}:zrt m now i o≤now.length:=List.countP_le_length
theorem zq2{g:Nat}{now fr:List Nat}{i n0:Nat}{B:Nat}(a: ∀ o,o<16→ptN m now i now.length o≠[]→ ∀ b,(gT m g (ptN m now i now.length o) (zcd m now fr i now.length o) b).length≤B*(ptN m now i now.length o).length): ∀ o,o≤16→(chN m (gT m g) now fr i n0 o).1.length≤B*zrt m now i o
 |0,_=>by simp [chN]
 |o+1,c=>by
  have d:=zq2 (n0:=n0) a o (by omega)
  rw [zsm hm,Nat.mul_add]
  unfold chN
  split
  ·omega
  ·rename_i hne
   have:=a o (by omega) hne (n0+1+(chN m (gT m g) now fr i n0 o).1.length)
   show (List.append _ _).length≤_
   rw [List.append_eq,List.length_append];omega
theorem zzg{g:Nat}: ∀ {now fr:List Nat} {n0:Nat},Gro m now fr→FT m (num m.rows.length now)<g→(gT m g now fr n0).length≤((FT m (num m.rows.length now)).toNat+1)*now.length:=by
 induction g with
 |zero=>intro now fr n0 h j;have:=h.ft;omega
 |succ g ih=>
  intro now fr n0 h j
  have q:=zgb hm h
  have k:=hm.ok.o2
  unfold gT
  by_cases h1:now.length=1
  ·rw [if_pos h1,h1];simp
  ·rw [if_neg h1,List.length_cons]
   obtain⟨a,b,c⟩:=zka hm h h1
   have l:=(zls hm h).2 h1
   have r:=zq2 hm (g:=g) (now:=now) (fr:=fr) (i:=z7p m (num m.rows.length now)) (n0:=n0) (B:=(FT m (num m.rows.length now)).toNat) (fun o n d p=>by
    obtain⟨f,s⟩:=c o n
    have e:=ih (n0:=p) (f d) (by omega)
    refine Nat.le_trans e (Nat.mul_le_mul_right _ ?_)
    have:=(f d).ft
    omega) m.outputs.toNat (by omega)
   have e:=zqh hm (now:=now) (i:=z7p m (num m.rows.length now)) (o:=m.outputs.toNat)
   have t:=Nat.mul_le_mul_left (FT m (num m.rows.length now)).toNat e
   rw [Nat.add_mul,Nat.one_mul]
   omega
/-! ### the program-/
theorem q04:xn 5000 m 5000 0 (mk m.outputs (0:Int))=some (List.replicate m.outputs.toNat (-1)):=by
 have a:=hm.ok.o1
 have b:=hm.ok.o2
 have hlen:(mk m.outputs (0:Int)).length=m.outputs.toNat:=by unfold mk;simp
 have:=z6s (fun F k z=>xn 5000 m F (k:Int) z) m.outputs.toNat (fun k=>List.replicate k (-1:Int)++List.replicate (m.outputs.toNat-k) 0) (List.replicate m.outputs.toNat (-1)) (fun F k d=>?_) (fun F=>?_) (F:=5000) (by omega)
 ·rw [show (List.replicate 0 (-1:Int)++List.replicate (m.outputs.toNat-0) 0)=mk m.outputs (0:Int) from rfl] at this
  exact this
 ·show xn 5000 m (F+1) (k:Int) _=xn 5000 m F ((k+1:Nat):Int) _
  rw [xn,xu (by rw [hlen];omega),zl (jk (by simp;omega)),zl (jb (by omega)),yt,z9n]
  congr 1
  rw [List.set_append_right _ _ (by simp),List.length_replicate,Nat.sub_self,List.replicate_succ',List.append_assoc]
  congr 1
  obtain⟨q,c⟩: ∃ q,m.outputs.toNat-k=q+1:=⟨m.outputs.toNat-k-1,by omega⟩
  rw [c,List.replicate_succ,List.set_cons_zero,show m.outputs.toNat-(k+1)=q by omega];rfl
 ·show xn 5000 m (F+1) (m.outputs.toNat:Int) _=_
  rw [xn,yo (by rw [hlen];omega),Nat.sub_self,List.replicate_zero,List.append_nil]
theorem q0u{now:List Nat}(d:Blk m.rows.length now):xq 5000 (cI now) 5000 0 0=some (num m.rows.length now:Int):=by
 have j:=hm.r6
 have f:=z8j hm
 have l:=d.len
 have g:((num m.rows.length (now.take 0):Nat):Int)=0:=by
  rw [List.take_zero,z9u]
  refine(zet (Int.le_refl 0) (by have:(0:Nat)<2^m.rows.length:=Nat.two_pow_pos _;omega) fun s o=>?_).symm
  rw [zg9];rfl
 have:=z6s (fun F k z=>xq 5000 (cI now) F z (k:Int)) now.length (fun k=>((num m.rows.length (now.take k):Nat):Int)) (num m.rows.length now:Int) (fun F k c=>?_) (fun F=>?_) (F:=5000) (by omega)
 ·rw [g] at this;exact this
 ·show xq 5000 (cI now) (F+1) _ (k:Int)=xq 5000 (cI now) F _ ((k+1:Nat):Int)
  obtain⟨a,b⟩:=zq3 d c
  have e:=ztz a b (zlw d k).lt
  rw [←takeN c] at e
  have i:=zaq (n:=m.rows.length) (L:=now.take k)
  have p:=zd7 (t:=now.getD k default) (by omega)
  rw [xq,xu (by rw [z5k];omega),zl (zkk c),zq5 c,zl ⟨by omega,by show ((now.getD k default:Nat):Int)≤16;omega⟩,z6y (by omega),zl ⟨⟨by omega,by show _≤(65535:Int);omega⟩,by omega,by show _≤(65535:Int);omega⟩,zl (jb (by omega)),yt]
  congr 1
  have hbit:(num m.rows.length (now.take k)).testBit (now.getD k default)=false:=by
   have h:=z4s (fun s=>decide (s∈now.take k)) m.rows.length (now.getD k default)
   rw [←z9u,decide_eq_false b,Bool.and_false] at h
   exact h
  unfold ior
  rw [Int.toNat_natCast,Int.toNat_natCast,zra hbit,e]
 ·show xq 5000 (cI now) (F+1) _ (now.length:Int)=_
  rw [xq,yo (by rw [z5k];omega),List.take_length]
theorem zzy{x:Nat}(d:x<2^m.rows.length)(f:1≤FT m x):og 5000 m (mkA 64 (FW m)) (x:Int) 5000 0=some (z7p m x:Int):=by
 have g:=z8j hm
 have j:=hm.ok.i2
 have l:=hm.toCM.nin
 obtain⟨a,b,c⟩:=zmi hm d f
 have k:FW m x=FT m x:=by unfold FW;rw [if_pos d,if_neg (by omega)]
 have key: ∀ F i,i≤z7p m x→z7p m x-i<F→og 5000 m (mkA 64 (FW m)) (x:Int) F (i:Int)=some (z7p m x:Int):=by
  intro F
  induction F with
  |zero=>intro i _ h;omega
  |succ F ih=>
   intro i hi n
   unfold og
   rw [zl (z1v (by omega)),zam (by omega),k,qc (lower_eq hm (by omega) d),zvh hm d f]
   by_cases e:i=z7p m x
   ·rw [e,b];rfl
   ·rw [c i (by omega)]
    refine(ct rfl).trans ?_
    rw [zl (jb (by omega)),yt]
    exact ih (i+1) (by omega) (by omega)
 exact key 5000 0 (Nat.zero_le _) (by omega)
theorem zk3{now fr:List Nat}{i k o:Nat}(a:k<now.length)(c:fr.length=now.length):zcd m now fr i (k+1) o=zcd m now fr i k o++if o=z1t m (now.getD k default) i then [fr.getD k default] else []:=by
 unfold zcd
 have b:(now.zip fr).take (k+1)=(now.zip fr).take k++[(now.getD k default,fr.getD k default)]:=by
  rw [List.take_add_one]
  congr 1
  rw [List.getElem?_eq_getElem (by rw [List.length_zip];omega),List.getElem_zip,List.getD_eq_getElem?_getD,List.getD_eq_getElem?_getD,List.getElem?_eq_getElem a,List.getElem?_eq_getElem (by omega)];rfl
 rw [b,List.filter_append,List.map_append,List.filter_cons]
 by_cases e:o=z1t m (now.getD k default) i
 ·rw [if_pos e,if_pos (show qO m i o (now.getD k default)=true from decide_eq_true e.symm)];rfl
 ·rw [if_neg e,if_neg (show¬qO m i o (now.getD k default)=true from fun h=>e (of_decide_eq_true h).symm)];rfl
theorem q07{now fr:List Nat}(h:Gro m now fr){i o:Nat}(hi:i<nIn m):vz 5000 (cI now) (cI fr) m (i:Int) (o:Int) 5000 [] [] 0=some (cI (ptN m now i now.length o),cI (zcd m now fr i now.length o)):=by
 have p:=zgb hm h
 have q:=hm.r6
 have r:=hm.toCM.nin
 have:=z6s (fun F k (z:List Int×List Int)=>vz 5000 (cI now) (cI fr) m (i:Int) (o:Int) F z.1 z.2 (k:Int)) now.length (fun k=>(cI (ptN m now i k o),cI (zcd m now fr i k o))) (cI (ptN m now i now.length o),cI (zcd m now fr i now.length o)) (fun F k a=>?_) (fun F=>?_) (F:=5000) (by omega)
 ·exact this
 ·show vz 5000 (cI now) (cI fr) m (i:Int) (o:Int) (F+1) (cI (ptN m now i k o)) (cI (zcd m now fr i k o)) (k:Int)=_
  have c:=h.b.lt _ (z5o a)
  obtain⟨f,t,u⟩:=zw5 hm hi c
  obtain⟨v,g⟩:=hm.toCM.tgt c hi
  have j:(ix (ix m.rows ((now.getD k default:Nat):Int)) (i:Int)).out=(z1t m (now.getD k default) i:Int):=f
  have l:(ix (ix m.rows ((now.getD k default:Nat):Int)) (i:Int)).to=(tgt m (now.getD k default) i:Int):=g
  have d:=hm.toCM.okr (s:=((now.getD k default:Nat):Int)) (i:=(i:Int)) ⟨by omega,by omega⟩ (by omega) (by omega)
  have w:=zyi hm hi (L:=now) (k:=k) (o:=o)
  have n:=zm0 hm (i:=i) (k:=k) (o:=o) h.fl
  rw [vz,xu (by rw [z5k];omega),zl (zkk a),zq5 a,zl (jk c),zl d,j,l]
  by_cases e:o=z1t m (now.getD k default) i
  ·rw [xu (show ((z1t m (now.getD k default) i:Nat):Int)=(o:Int) by omega),zl (jk c),zl d,zl ⟨by rw [z5k,List.length_singleton];omega,by rw [z5k,List.length_singleton];omega⟩,zl (zkk (by rw [h.fl];exact a)),zl ⟨by rw [z5k,List.length_singleton];omega,by rw [z5k,List.length_singleton];omega⟩,zcb,zl (jb (by omega)),yt,zq5 (by rw [h.fl];exact a)]
   show _=vz 5000 (cI now) (cI fr) m (i:Int) (o:Int) F (cI (ptN m now i (k+1) o)) (cI (zcd m now fr i (k+1) o)) ((k+1:Nat):Int)
   rw [zo1 hm hi a,zk3 hm a h.fl,if_pos e,if_pos e]
   unfold cI
   rw [List.map_append,List.map_append];rfl
  ·rw [yo (show¬((z1t m (now.getD k default) i:Nat):Int)=(o:Int) by omega),zcb,zl (jb (by omega)),yt]
   show _=vz 5000 (cI now) (cI fr) m (i:Int) (o:Int) F (cI (ptN m now i (k+1) o)) (cI (zcd m now fr i (k+1) o)) ((k+1:Nat):Int)
   rw [zo1 hm hi a,zk3 hm a h.fl,if_neg e,if_neg e,List.append_nil,List.append_nil]
 ·show vz 5000 (cI now) (cI fr) m (i:Int) (o:Int) (F+1) _ _ (now.length:Int)=_
  rw [vz,yo (by rw [z5k];omega)]
theorem at_len{X:List Sa}{y:Sa}{Z:List Sa}:(X++y::Z).getD X.length default=y:=by
 simp [List.getD_eq_getElem?_getD]
theorem zdr{X:List Sa}{y z:Sa}{Z:List Sa}:(X++y::Z).set X.length z=X++z::Z:=by
 rw [List.set_append_right _ _ (Nat.le_refl _),Nat.sub_self,List.set_cons_zero]
theorem q09(g:Nat): ∀ (now fr:List Nat) (d:List Sa),Gro m now fr→FT m (num m.rows.length now)<g→d.length+384*(FT m (num m.rows.length now)).toNat≤100000→
 gu 5000 g (cI now) (cI fr) d m (mkA 64 (FW m))=some ((d.length:Int),d++gT m g now fr d.length):=by
 induction g with
 |zero=>intro now fr d h x _;have:=h.ft;omega
 |succ g ih=>
  intro now fr d h x J
  have K:=zgb hm h
  have A:=hm.ok.o1
  have C:=hm.ok.o2
  unfold gu
  rw [zl ⟨by omega,by omega,by omega⟩,qc (q04 hm),zl ⟨by rw [List.length_singleton];omega,by rw [List.length_singleton];omega⟩]
  have f: ∀ y:Sa,ix (d++[y]) (d.length:Int)=y:=fun y=>by rw [z0g];exact at_len hm
  have hokp: ∀ y:Sa,okI (d++[y]) (d.length:Int):=fun y=>jk (by simp)
  by_cases h1:now.length=1
  ·rw [xu (by rw [z5k];omega),zl (show okI (cI fr) 0 from zkk (k:=0) (by rw [h.fl];omega)),zl (hokp _),f,z9n,zdr hm]
   have q:ix (cI fr) 0=((fr.getD 0 default:Nat):Int):=zq5 (k:=0) (by rw [h.fl];omega)
   rw [q]
   unfold gT
   rw [if_pos h1];rfl
  ·have r:=(zls hm h).2 h1
   obtain⟨a,b,c⟩:=zka hm h h1
   rw [yo (by rw [z5k];omega),qc (q0u hm h.b),qc (zzy hm zaq r),zl (hokp _),f,z9n,zdr hm]
   unfold gT
   rw [if_neg h1]
   generalize hfi:z7p m (num m.rows.length now)=i at*
   have s:=fun o (j:o≤16)=>zq2 hm (g:=g) (now:=now) (fr:=fr) (i:=i) (n0:=d.length) (B:=(FT m (num m.rows.length now)).toNat) (fun o j e D=>by
    obtain⟨p,E⟩:=c o j
    have w:=zzg hm (g:=g) (n0:=D) (p e) (by omega)
    refine Nat.le_trans w (Nat.mul_le_mul_right _ ?_)
    have:=(p e).ft
    omega) o j
   have t: ∀ o,o≤16→(chN m (gT m g) now fr i d.length o).1.length≤383:=fun o j=>by
    have M:=s o j
    have w:=zqh hm (now:=now) (i:=i) (o:=o)
    have N:=(zu7 hm (zaq (n:=m.rows.length) (L:=now))).2
    have O:(FT m (num m.rows.length now)).toNat*zrt m now i o≤63*6:=Nat.mul_le_mul (by omega) (by omega)
    omega
   have u:xm 5000 (gu 5000 g) (cI now) (cI fr) d m (mkA 64 (FW m)) (List.replicate m.outputs.toNat (-1)) (i:Int) 5000 0 (d++[(⟨(i:Int),-1,List.replicate m.outputs.toNat (-1)⟩:Sa)])=some (d++⟨(i:Int),-1,(chN m (gT m g) now fr i d.length m.outputs.toNat).2⟩::(chN m (gT m g) now fr i d.length m.outputs.toNat).1):=by
    have:=z6s (fun F k z=>xm 5000 (gu 5000 g) (cI now) (cI fr) d m (mkA 64 (FW m)) (List.replicate m.outputs.toNat (-1)) (i:Int) F (k:Int) z) m.outputs.toNat (fun k=>d++(⟨(i:Int),-1,(chN m (gT m g) now fr i d.length k).2⟩:Sa)::(chN m (gT m g) now fr i d.length k).1) (d++⟨(i:Int),-1,(chN m (gT m g) now fr i d.length m.outputs.toNat).2⟩::(chN m (gT m g) now fr i d.length m.outputs.toNat).1) (fun F k H=>?_) (fun F=>?_) (F:=5000) (by omega)
    ·exact this
    ·show xm 5000 (gu 5000 g) (cI now) (cI fr) d m (mkA 64 (FW m)) (List.replicate m.outputs.toNat (-1)) (i:Int) (F+1) (k:Int) _=xm 5000 (gu 5000 g) (cI now) (cI fr) d m (mkA 64 (FW m)) (List.replicate m.outputs.toNat (-1)) (i:Int) F ((k+1:Nat):Int) _
     rw [xm,f,z9n,zdr hm,at_len hm]
     dsimp only
     rw [xu (by rw [List.length_replicate];omega),qc (q07 hm h a)]
     have hsucc:chN m (gT m g) now fr i d.length (k+1)=if ptN m now i now.length k=[] then chN m (gT m g) now fr i d.length k else((chN m (gT m g) now fr i d.length k).1++gT m g (ptN m now i now.length k) (zcd m now fr i now.length k) (d.length+1+(chN m (gT m g) now fr i d.length k).1.length),(chN m (gT m g) now fr i d.length k).2.set k ((d.length+1+(chN m (gT m g) now fr i d.length k).1.length:Nat):Int)):=rfl
     have v:=zmn (m:=m) (G:=gT m g) (now:=now) (fr:=fr) (i:=i) (n0:=d.length) k
     have I:=t k (by omega)
     rw [hsucc]
     generalize chN m (gT m g) now fr i d.length k=c0 at*
     by_cases e:ptN m now i now.length k=[]
     ·rw [if_pos e,yo (by rw [z5k,e];simp),zcb,zl (jb (by omega)),yt]
     ·obtain⟨p,E⟩:=c k (by omega)
      have l:=p e
      have hlen:(d++(⟨(i:Int),-1,c0.2⟩:Sa)::c0.1).length=d.length+1+c0.1.length:=by simp;omega
      have hrec:=ih _ _ (d++(⟨(i:Int),-1,c0.2⟩:Sa)::c0.1) l (by omega) (by rw [hlen];have:=l.ft;omega)
      rw [if_neg e,xu (by rw [z5k];have:=List.length_pos_iff.2 e;omega)]
      rw [hlen] at hrec
      rw [qc hrec]
      dsimp only
      rw [List.append_assoc,List.cons_append,at_len hm,zdr hm]
      dsimp only
      refine(qc (zl (jk (by rw [v];exact H)))).trans ?_
      rw [zl (jb (by omega)),yt];rfl
    ·show xm 5000 (gu 5000 g) (cI now) (cI fr) d m (mkA 64 (FW m)) (List.replicate m.outputs.toNat (-1)) (i:Int) (F+1) (m.outputs.toNat:Int) _=_
     rw [xm,f,z9n,zdr hm,at_len hm]
     dsimp only
     rw [yo (by rw [List.length_replicate];omega)]
   exact qc u
end
end GV
end Go.Proofs.Ytnnobdkjgafdmaa
