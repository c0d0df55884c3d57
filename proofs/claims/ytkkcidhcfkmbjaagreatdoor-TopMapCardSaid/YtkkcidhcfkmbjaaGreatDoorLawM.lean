import Derived.Test.YtkkcidhcfkmbjaaGreatDoorMapt
import Derived.Test.YtkkcidhcfkmbjaaGreatDoorSrtf
import Derived.Test.YtkkcidhcfkmbjaaGreatDoorDof
set_option linter.unusedVariables false
set_option linter.unusedSimpArgs false
set_option linter.unusedSectionVars false
namespace Go.Proofs.YtkkcidhcfkmbjaaGreatDoor
namespace GV
set_option maxRecDepth 100000
theorem zlc{p:Nat→Bool}: ∀ {n s:Nat},s<n→p s=true→((List.range n).filter p).getD ((List.range s).filter p).length 0=s∧((List.range s).filter p).length<((List.range n).filter p).length
 |0,s,h,_=>by omega
 |n+1,s,h,a=>by
  rw [List.range_succ,List.filter_append]
  by_cases e:s=n
  ·subst e
   rw [List.filter_cons_of_pos a,List.filter_nil,List.getD_eq_getElem?_getD,List.getElem?_concat_length]
   exact⟨rfl,by rw [List.length_append,List.length_singleton];omega⟩
  ·obtain⟨b,c⟩:=zlc (p:=p) (n:=n) (s:=s) (by omega) a
   refine⟨?_,by rw [List.length_append];omega⟩
   rw [List.getD_eq_getElem?_getD,List.getElem?_append_left c,←List.getD_eq_getElem?_getD];exact b
theorem zr0{p:Nat→Bool}(s:Nat):((List.range (s+1)).filter p).length=((List.range s).filter p).length+if p s=true then 1 else 0:=by
 rw [List.range_succ,List.filter_append,List.length_append]
 by_cases h:p s=true
 ·rw [List.filter_cons_of_pos h,if_pos h];rfl
 ·rw [List.filter_cons_of_neg h,if_neg h];rfl
section
variable {N : Nat} {m a b : Mach}
theorem znt:z11 N a b=rf N a b:=rfl
def z4r(m:Mach):List (Int×Int):=((List.range m.rows.length).filter fun s=>occ (rch m 0) s).map fun(s:Nat)=>((s:Int),z8p m s)
theorem zlg:(z4r m).Pairwise ltP:=by
 unfold z4r
 rw [List.pairwise_map]
 refine List.Pairwise.filter _ (List.pairwise_lt_range.imp fun h=> .inl ?_)
 show ((_:Nat):Int)<_
 omega
theorem zm3{q:Int×Int}:q∈z4r m↔ ∃ s,s<m.rows.length∧occ (rch m 0) s=true∧q=((s:Int),z8p m s):=by
 unfold z4r
 rw [List.mem_map]
 constructor
 ·rintro⟨s,a,rfl⟩
  have:=List.mem_filter.1 a
  exact⟨s,List.mem_range.1 this.1,this.2,rfl⟩
 ·rintro⟨s,b,c,rfl⟩
  exact⟨s,List.mem_filter.2 ⟨List.mem_range.2 b,c⟩,rfl⟩
theorem zpc(a:MOk m){w:List Int}(d:WOk m.inputs w){s:Nat}(h:aftL m 0 w=(s:Int)):s<m.rows.length∧occ (rch m 0) s=true:=by
 have b:=z8i a (s0:=0) a.r1
 obtain⟨j,c,e,_⟩:=b.least a _ w rfl d (by show aftL m (0:Int) w≠ -1;rw [h];omega)
 have f:(((rch m 0).getD j default).st:Int)=(s:Int):=e.trans h
 have g:=b.rng j c
 exact⟨by omega,z4f.2 ⟨j,c,by omega⟩⟩
theorem zom(a:MOk m){w:List Int}(d:WOk m.inputs w){s:Nat}(h:aftL m 0 w=(s:Int)):aftL (uq m) 0 w=z8p m s:=by
 obtain⟨k,e⟩:=zpc a d h
 have c:=zb2 a
 have hsame:=zcf a
 have b:(uq m).inputs=m.inputs:=hsame.1
 have hw':WOk (uq m).inputs w:=by rw [b];exact d
 have hneg:=z5w c a hsame hw'
 have hsok:SOk (uq m) (aftL (uq m) 0 w):=z3d (uq m) c 0 w (zj6 c) hw'
 rcases hsok with f|⟨f,o⟩
 ·have:=hneg.1 f;rw [h] at this;exact absurd this (by omega)
 ·obtain⟨t,g⟩: ∃ t:Nat,aftL (uq m) 0 w=(t:Int):=⟨(aftL (uq m) 0 w).toNat,by omega⟩
  obtain⟨l,p⟩:=zjb a e
  have hred:=zwh a t (z8p m s).toNat (by omega) (by omega) (fun v i=>by
   have hv':WOk m.inputs v:=by rw [←b];exact i
   have j:=hsame.2.2 (w++v) (z5t hw' i)
   rw [r9,r9,g,h] at j
   have n:=(List.append_inj j (by rw [z00,z00])).2
   rw [n,Int.toNat_of_nonneg l,zta a k e hv'])
  rw [g,hred];omega
theorem zrb(b:MOk m)(T:m.rows.length≤6)(A:(uq m).rows.length≤6)(L:200≤N):z1a N m (uq m)=some (z4r m,true,0):=by
 have f:=zb2 b
 have hsame:=zcf b
 have hi:m.inputs=(uq m).inputs:=hsame.1.symm
 have o:m.rows.length*(uq m).rows.length≤64:=Nat.le_trans (Nat.mul_le_mul T A) (by decide)
 have M:=zbr b f hi o
 have B:=b.r1;have C:=f.r1
 have r:=z8i M (s0:=0) (by rw [z10];exact Nat.mul_pos B C)
 have U:z11 N m (uq m)=some ([],z5o (uq m).rows.length (rch (jg m (uq m)) 0)):=by
  rw [znt]
  rcases zhz (N:=N) b f hi o L with⟨w,_,d⟩|⟨h,_⟩
  ·exact absurd (hsame.2.2 w (by rw [hsame.1];exact d.1.1)).symm d.1.2
  ·exact h
 have hprI: ∀ w,WOk m.inputs w→aftL (jg m (uq m)) 0 w=prI (uq m) (aftL m 0 w) (aftL (uq m) 0 w):=fun w d=>by
  have:=zci b f hi w (x:=0) (y:=0) (zj6 b) (zj6 f) d
  rwa [zc4] at this
 have g: ∀ j,j<(rch (jg m (uq m)) 0).length→((((rch (jg m (uq m)) 0).getD j default).st/(uq m).rows.length:Nat),(((rch (jg m (uq m)) 0).getD j default).st%(uq m).rows.length:Nat))=((((rch (jg m (uq m)) 0).getD j default).st/(uq m).rows.length:Nat),(z8p m (((rch (jg m (uq m)) 0).getD j default).st/(uq m).rows.length)).toNat)∧
  (((((rch (jg m (uq m)) 0).getD j default).st/(uq m).rows.length:Nat):Int),((((rch (jg m (uq m)) 0).getD j default).st%(uq m).rows.length:Nat):Int))∈z4r m:=fun j c=>by
  have d:=(r.wok j c).1
  have hw':WOk m.inputs ((rch (jg m (uq m)) 0).getD j default).wd:=d
  have v:=r.aft j c
  have ha':aftL (jg m (uq m)) 0 ((rch (jg m (uq m)) 0).getD j default).wd=(((rch (jg m (uq m)) 0).getD j default).st:Int):=v
  rw [hprI _ hw'] at ha'
  obtain⟨z,D,V⟩:=zcm (z3d m b 0 _ (zj6 b) hw') (z3d (uq m) f 0 _ (zj6 f) (by rw [←hi];exact hw')) ha'
  obtain⟨W,X⟩:=zpc b hw' z
  have Z:=zom b hw' z
  have O:z8p m (((rch (jg m (uq m)) 0).getD j default).st/(uq m).rows.length)=((((rch (jg m (uq m)) 0).getD j default).st%(uq m).rows.length:Nat):Int):=Z.symm.trans D
  refine⟨by rw [O,Int.toNat_natCast],zm3.2 ⟨_,W,X,by rw [O]⟩⟩
 have hsub: ∀ q,q∈z5o (uq m).rows.length (rch (jg m (uq m)) 0)→q∈z4r m:=fun q l=>by
  unfold z5o at l
  obtain⟨e,he,rfl⟩:=List.mem_map.1 l
  obtain⟨j,c,rfl⟩:=List.mem_iff_getElem.1 he
  have:=(g j c).2
  rwa [List.getD_eq_getElem?_getD,List.getElem?_eq_getElem c] at this
 have hsup: ∀ q,q∈z4r m→q∈z5o (uq m).rows.length (rch (jg m (uq m)) 0):=fun q l=>by
  obtain⟨s,P,Q,rfl⟩:=zm3.1 l
  have t:=z8i b (s0:=0) b.r1
  obtain⟨j,c,E⟩:=z4f.1 Q
  have d:=(t.wok j c).1
  have v:aftL m 0 ((rch m 0).getD j default).wd=(s:Int):=by rw [←E];exact t.aft j c
  have G:=zom b d v
  obtain⟨k1,k2⟩:=zjb b Q
  have n:=hprI _ d
  rw [v,G] at n
  have H:prI (uq m) (s:Int) (z8p m s)=(s:Int)*((uq m).rows.length:Int)+z8p m s:=by unfold prI;rw [if_neg (by omega)]
  have R:0≤(s:Int)*((uq m).rows.length:Int):=Int.mul_nonneg (by omega) (by omega)
  obtain⟨i,hi1,hi2,_⟩:=r.least M _ _ rfl (show WOk (jg m (uq m)).inputs ((rch m 0).getD j default).wd from d) (by show aftL (jg m (uq m)) (0:Int) _≠ -1;rw [n,H];omega)
  have I:(((rch (jg m (uq m)) 0).getD i default).st:Int)=prI (uq m) (s:Int) (z8p m s):=hi2.trans n
  obtain⟨z,D,V⟩:=zcm (a:=m) (.inr ⟨by omega,by omega⟩) (.inr ⟨k1,by omega⟩) I.symm
  unfold z5o
  refine List.mem_map.2 ⟨(rch (jg m (uq m)) 0).getD i default,z0i hi1,?_⟩
  rw [←z,←D]
 have u:(z5o (uq m).rows.length (rch (jg m (uq m)) 0)).Nodup:=by
  unfold z5o
  refine List.pairwise_iff_getElem.2 fun i j hi c ac e=>?_
  rw [List.length_map] at hi c
  rw [List.getElem_map,List.getElem_map,Prod.mk.injEq] at e
  have J: ∀ k (S:k<(rch (jg m (uq m)) 0).length),(rch (jg m (uq m)) 0)[k]=(rch (jg m (uq m)) 0).getD k default:=fun k S=>by rw [List.getD_eq_getElem?_getD,List.getElem?_eq_getElem S];rfl
  rw [J i hi,J j c] at e
  have e1:((rch (jg m (uq m)) 0).getD i default).st/(uq m).rows.length=((rch (jg m (uq m)) 0).getD j default).st/(uq m).rows.length:=by omega
  have e2:((rch (jg m (uq m)) 0).getD i default).st%(uq m).rows.length=((rch (jg m (uq m)) 0).getD j default).st%(uq m).rows.length:=by omega
  have e3:((rch (jg m (uq m)) 0).getD i default).st=((rch (jg m (uq m)) 0).getD j default).st:=by
   rw [←Nat.div_add_mod ((rch (jg m (uq m)) 0).getD i default).st (uq m).rows.length,e1,e2,Nat.div_add_mod]
  have:=r.dis i j hi c e3
  omega
 have hlen:(z5o (uq m).rows.length (rch (jg m (uq m)) 0)).length≤6:=by
  have J:=List.Nodup.length_le_of_subset u (l₂:=z4r m) (fun q l=>hsub q l)
  have h2:(z4r m).length≤m.rows.length:=by
   unfold z4r
   rw [List.length_map]
   exact Nat.le_trans (List.length_filter_le _ _) (by simp)
  omega
 have hpos:1≤(z5o (uq m).rows.length (rch (jg m (uq m)) 0)).length:=by
  have:=r.pos
  unfold z5o;rw [List.length_map];omega
 obtain⟨Y,hY,n,P⟩:=zul (N:=N) (F:=fun z0 z1=>ll N z0 z1) (fun p q=>zv4 (by omega) p q) hpos (by omega) u (by omega)
 have K:Y=z4r m:=z8a znl zr4 P zlg fun q=>⟨fun h=>hsub q (n.mem_iff.1 h),fun h=>n.mem_iff.2 (hsup q h)⟩
 subst K
 unfold z1a
 rw [zu (zpl (N:=N) b f hi L),yz (fun h=>h rfl),zu U,zu hY]
 rw [zu (show l6 N (z4r m)=some (z4r m) by unfold l6;rw [zi (zf2 _),zew])]
 rfl
theorem zy3(f:MOk m)(l:m.rows.length≤6)(n:200≤N):wz N (zhe m,0) (z4r m,true,0) N 0 0=some (Ex.go ((z4r m).length:Int)):=by
 have g:=zu7 (m:=m)
 have b:(z4r m).length=((List.range m.rows.length).filter fun s=>occ (rch m 0) s).length:=by unfold z4r;rw [List.length_map]
 refine mq (σ:=Int) (fun F s k=>wz N (zhe m,0) (z4r m,true,0) F k (s:Int)) m.rows.length (fun s k=>k=((((List.range s).filter fun s=>occ (rch m 0) s).length:Nat):Int)) _ (fun F s k d hi=> .inr ?_) (fun F k hi=>?_) N 0 0 (Nat.zero_le _) (by omega) rfl
 ·subst hi
  have a:=zr0 (p:=fun s=>occ (rch m 0) s) s
  have i:((List.range s).filter fun s=>occ (rch m 0) s).length≤s:=Nat.le_trans (List.length_filter_le _ _) (by simp)
  refine⟨_,rfl,?_⟩
  simp only [wz]
  rw [bq (by omega)]
  have j:ix (zhe m) (s:Int)=z8p m s:=zt6 d
  refine(zu (x:=Ex.go ((((List.range (s+1)).filter fun s=>occ (rch m 0) s).length:Nat):Int)) ?_).trans (by rw [zh0,zi (ja (by omega))];rfl)
  rw [zi (j3 (by omega)),j]
  cases ho:occ (rch m 0) s with
  |false=>
   rw [zvs ho,bq (by decide),a,ho];rfl
  |true=>
   obtain⟨o,q⟩:=zjb f ho
   obtain⟨f1,e⟩:=zlc (p:=fun s=>occ (rch m 0) s) d ho
   have c:ix (z4r m) ((((List.range s).filter fun s=>occ (rch m 0) s).length:Nat):Int)=((s:Int),z8p m s):=by
    rw [pg]
    unfold z4r
    rw [List.getD_eq_getElem?_getD,List.getElem?_map,List.getElem?_eq_getElem e]
    rw [List.getD_eq_getElem?_getD,List.getElem?_eq_getElem e] at f1
    have f1':((List.range m.rows.length).filter fun s=>occ (rch m 0) s)[((List.range s).filter fun s=>occ (rch m 0) s).length]=s:=f1
    rw [f1'];rfl
   rw [yz (by omega),zi (fun _=>j3 (by omega)),zi (fun _=>j3 (by omega)),c]
   refine(cf ?_).trans ?_
   ·rw [decide_eq_false (show¬((((List.range s).filter fun s=>occ (rch m 0) s).length:Nat):Int)=((z4r m).length:Int) by omega),decide_eq_false (fun h=>h ⟨rfl,rfl⟩)];rfl
   ·rw [zi (ja (by omega)),a,ho,if_pos rfl];rfl
 ·subst hi
  simp only [wz]
  rw [yz (by omega),b]
theorem zsg(a:MOk m){o:Int}(b:m.outputs≤o)(c:o≤16):MOk ⟨m.inputs,o,m.rows⟩:=
 ⟨a.i1,a.i2,by have:=a.o1;show 1≤o;omega,c,a.r1,a.r2,a.row,fun s i d hi=>by
  rcases a.edge s i d hi with h|h
  ·exact .inl h
  ·exact .inr ⟨h.1,h.2.1,h.2.2.1,Int.lt_of_lt_of_le h.2.2.2 b⟩⟩
theorem zrz(a:MOk m):(uq m).rows.length≤m.rows.length:=by
 rw [zj8]
 have b:=(z9i a).len
 have c:(z0e m).rows.length≤m.rows.length:=by rw [zad];exact zah _ _
 omega
theorem zvi{x:Sd}(O:5000≤N)(u:DOk x):fe N x=some true:=by
 obtain⟨a,b,v,c,n,hi,d,i⟩:=zxq (N:=N) u (by omega)
 have y:=zb2 c
 have z:=zrz c
 have A:=c.o2;have B:=n.o2
 have ha':=zsg c (o:=max a.outputs b.outputs) (by omega) (by omega)
 have hb':=zsg n (o:=max a.outputs b.outputs) (by omega) (by omega)
 have j:a.rows.length*b.rows.length≤64:=Nat.le_trans (Nat.mul_le_mul d i) (by decide)
 have C:dm N (⟨a.inputs,a.outputs,a.rows⟩:Mach)=some (uq a,0):=zbl c (by omega)
 have D:z1c N (⟨a.inputs,a.outputs,a.rows⟩:Mach)=some (zhe a,0):=zvz c (by omega)
 have E:z1a N (⟨a.inputs,a.outputs,a.rows⟩:Mach) (⟨(uq a).inputs,(uq a).outputs,(uq a).rows⟩:Mach)=some (z4r a,true,0):=by
  have h:=zrb (N:=N) (m:=a) c d (by omega) (by omega)
  exact h
 have F:=zbl (N:=N) ha' (by omega)
 have G:=zbl (N:=N) hb' (by omega)
 have k: ∀ p q:Mach,MOk p→MOk q→z07 N p q=some (zeg p q):=fun p q H I=>zmb H.small I.small (by omega)
 have hlive:z0v N=some true:=rfl
 have key: ∃ t:Bool,z3j N (⟨a.inputs,max a.outputs b.outputs,a.rows⟩:Mach) (⟨b.inputs,max a.outputs b.outputs,b.rows⟩:Mach)=some (t,0)∧zeg (uq ⟨a.inputs,max a.outputs b.outputs,a.rows⟩) (uq ⟨b.inputs,max a.outputs b.outputs,b.rows⟩)=t:=by
  unfold z3j
  rcases zrg (N:=N) ha' hb' hi j (by omega) with⟨w,f,r⟩|⟨f,l⟩
  ·refine⟨false,by rw [zu f];rfl,?_⟩
   cases hs:zeg (uq ⟨a.inputs,max a.outputs b.outputs,a.rows⟩) (uq ⟨b.inputs,max a.outputs b.outputs,b.rows⟩) with
   |false=>rfl
   |true=>
    have J:=((zdt _ _).1 hs).2
    have g:=zcf ha'
    rw [J] at g
    have e:=g.symm.trans (zcf hb')
    exact absurd (e.2.2 w r.1.1) r.1.2
  ·refine⟨true,by rw [zu f];rfl,?_⟩
   have e:SameR (⟨a.inputs,max a.outputs b.outputs,a.rows⟩:Mach) (⟨b.inputs,max a.outputs b.outputs,b.rows⟩:Mach):=⟨hi,rfl,fun w K=>Classical.byContradiction fun f=>l w ⟨K,f⟩⟩
   exact(zdt _ _).2 ⟨zb2 ha',zu1 ha' hb' e⟩
 obtain⟨t,L,M⟩:=key
 have s:=k _ _ (zb2 ha') (zb2 hb')
 rw [M] at s
 unfold fe
 rw [zu v]
 dsimp only
 rw [zu C,zu D]
 dsimp only
 rw [zu E]
 refine(cf rfl).trans ?_
 rw [zu (zy3 c d (by omega)),zh0]
 rw [zu F,zu G,zu L]
 rw [z9n (fun _=>s),z9n (fun _=>hlive)]
 dsimp only
 rw [decide_eq_true (rfl:((z4r a).length:Int)=((z4r a).length:Int))]
 cases t<;>rfl
end
end GV
end Go.Proofs.YtkkcidhcfkmbjaaGreatDoor
