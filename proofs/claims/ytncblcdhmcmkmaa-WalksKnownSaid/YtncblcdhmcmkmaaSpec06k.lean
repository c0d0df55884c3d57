
import Derived.Test.YtncblcdhmcmkmaaPart06
set_option linter.unusedVariables false
set_option linter.unusedSimpArgs false
namespace Go.Proofs.Ytncblcdhmcmkmaa
namespace GV
set_option maxRecDepth 100000
theorem zc4{N:Nat}{m:Mach}{L:List Nat}(c:MOk m)(f:ClosedP m L)(D:200≤N):ng N m (ow L)=some (cz m L):=by
 have hlen:=f.len
 have y:=c.r2
 have hi1:=c.i1
 have hi2:=c.i2
 have hmem: ∀ k,k<L.length→L.getD k 0∈L:=fun k b=>by simp [List.getD_eq_getElem?_getD,b]
 unfold ng
 have o: ∀ k i,k<L.length→i<m.inputs.toNat→p9 N m (ow L) (k:Int) (i:Int) N (-1) 0=some (pos L (ed m (L.getD k 0) i)):=fun k i b hi=>by
  have g:=f.rng _ (hmem k b)
  have d:ix m.rows ((L.getD k 0:Nat):Int)=m.rows.getD (L.getD k 0) default:=gu _ _
  have p:(ix (m.rows.getD (L.getD k 0) default) (i:Int)).to=ed m (L.getD k 0) i:=by rw [gu];rfl
  have hpos:=zqk c f (hmem k b) hi
  generalize ed m (L.getD k 0) i=t at*
  refine xw (σ:=Int) (fun F j st=>p9 N m (ow L) (k:Int) (i:Int) F st (j:Int)) L.length (fun j st=>st=if t≠ -1∧pos L t<(j:Int) then pos L t else-1) _ (fun F j st q a=>?_) (fun F st a=>?_) N 0 _ (Nat.zero_le _) (by omega) (by
   rw [if_neg];rintro⟨n,l⟩;rcases hpos with⟨_,r⟩|⟨r,_⟩<;>omega)
  ·subst a
   right
   refine⟨_,rfl,?_⟩
   simp only [p9,z3b b,z3b q,d,p]
   rw [mo (by rw [iw];omega)]
   refine(q9 (x:=if t≠ -1∧pos L t<((j+1:Nat):Int) then pos L t else-1) ?_).trans (zh (qm (by omega)))
   rw [zh (qo (by rw [iw];exact q))]
   by_cases he:((L.getD j 0:Nat):Int)=t
   ·rw [mo he]
    have z:pos L t=(j:Int):=by
     rw [←he];unfold pos
     rw [if_neg (by omega),Int.toNat_natCast,z6e f.nd q]
    rw [z,if_pos ⟨by omega,by omega⟩]
   ·rw [bu he]
    congr 1
    by_cases ht:t= -1
    ·rw [if_neg (fun h=>h.1 ht),if_neg (fun h=>h.1 ht)]
    ·rcases hpos with⟨_,h⟩|⟨n,l,r,A⟩
     ·exact absurd h ht
     ·have B:pos L t≠(j:Int):=fun e=>he (by rw [e,Int.toNat_natCast] at A;omega)
      by_cases hlt:pos L t<(j:Int)
      ·rw [if_pos ⟨ht,hlt⟩,if_pos ⟨ht,by omega⟩]
      ·rw [if_neg (fun h=>hlt h.2),if_neg (fun h=>by have:=h.2;omega)]
  ·subst a
   simp only [p9]
   rw [bu (by rw [iw];omega)]
   congr 1
   rcases hpos with⟨n,l⟩|⟨n,l,r,_⟩
   ·rw [if_neg (fun h=>h.1 l),n]
   ·rw [if_pos ⟨by omega,l⟩]
 have s: ∀ k,k<L.length→df N m (ow L) (k:Int) N [] 0=some (rowP m L (L.getD k 0)):=fun k b=>by
  have g:=f.rng _ (hmem k b)
  have C:=c.row _ g
  have u:=z9f (L:=L) c g
  have d:ix m.rows ((L.getD k 0:Nat):Int)=m.rows.getD (L.getD k 0) default:=gu _ _
  refine xw (σ:=List Edge) (fun F i st=>df N m (ow L) (k:Int) F st (i:Int)) m.inputs.toNat (fun i st=>st=(rowP m L (L.getD k 0)).take i) _ (fun F i st hi a=>?_) (fun F st a=>?_) N 0 _ (Nat.zero_le _) (by omega) (by simp)
  ·subst a
   right
   refine⟨_,rfl,?_⟩
   simp only [df,z3b b,d]
   rw [mo (by omega),zh (qo (by rw [iw];exact b)),zh (qo g),zh (qo (by omega)),q9 (o k i b hi)]
   have hfit:fits 16 ((rowP m L (L.getD k 0)).take i) ([(⟨pos L (ed m (L.getD k 0) i),(ix (m.rows.getD (L.getD k 0) default) (i:Int)).out⟩:Edge)]:List Edge):=by
    have:((rowP m L (L.getD k 0)).take i).length≤16:=by rw [List.length_take];omega
    exact⟨by simp only [List.length_singleton];omega,by simp only [List.length_singleton];omega⟩
   rw [zh hfit,zh (qm (by omega)),zaz _ _ (show i<(rowP m L (L.getD k 0)).length by omega),z7w c g hi,gu];rfl
  ·subst a
   simp only [df]
   rw [bu (by omega),←u,List.take_length]
 have v:pu N m (ow L) N 0 []=some (L.map (rowP m L)):=by
  have w:(L.map (rowP m L)).length=L.length:=by simp
  refine xw (σ:=List (List Edge)) (fun F k st=>pu N m (ow L) F (k:Int) st) L.length (fun k st=>st=(L.map (rowP m L)).take k) _ (fun F k st b a=>?_) (fun F st a=>?_) N 0 _ (Nat.zero_le _) (by omega) (by simp)
  ·subst a
   right
   refine⟨_,rfl,?_⟩
   simp only [pu]
   rw [mo (by rw [iw];omega),q9 (s k b)]
   have hfit:fits 24 ((L.map (rowP m L)).take k) ([rowP m L (L.getD k 0)]:List (List Edge)):=by
    have:((L.map (rowP m L)).take k).length≤64:=by rw [List.length_take];omega
    exact⟨by simp only [List.length_singleton];omega,by simp only [List.length_singleton];omega⟩
   rw [zh hfit,zh (qm (by omega)),zaz _ _ (show k<(L.map (rowP m L)).length by omega)]
   have:(L.map (rowP m L)).getD k default=rowP m L (L.getD k 0):=by simp [List.getD_eq_getElem?_getD,b]
   rw [this];rfl
  ·subst a
   simp only [pu]
   rw [bu (by rw [iw];omega),←w,List.take_length]
 rw [q9 v];rfl
theorem zf5{N:Nat}{m:Mach}(a:Small m)(c:200≤N):yt N m 0 m=some true:=by
 have e:=a.r
 unfold yt
 rw [z4u (fun _=>zes a c)]
 have d:yz N m N 0=some (.go ()):=by
  refine xw (σ:=Unit) (fun F k _=>yz N m F (k:Int)) m.rows.length (fun _ _=>True) _ (fun F k _ b _=>?_) (fun F _ _=>?_) N 0 () (Nat.zero_le _) (by omega) trivial
  ·right
   refine⟨(),trivial,?_⟩
   simp only [yz]
   rw [mo (by omega),zh (qo b),zh (qo b),bu (by simp)]
   exact zh (qm (by omega))
  ·simp only [yz]
   rw [bu (by omega)]
 refine(cf (by simp)).trans ?_
 rw [q9 d];rfl
def z2h(n:Nat)(P:List BE):List Nat:=(List.range n).filter fun s=>occ P s
theorem z6l{n:Nat}{P:List BE}{s:Nat}:s∈z2h n P↔s<n∧occ P s=true:=by
 unfold z2h;rw [List.mem_filter,List.mem_range]
theorem z9e{m:Mach}(f:MOk m){P:List BE}(a:Rch m 0 P):ClosedP m (z2h m.rows.length P):=by
 refine⟨fun s b=>(z6l.1 b).1,List.Pairwise.filter _ List.nodup_range,fun s b i hi c=>?_,fun e=>?_⟩
 ·obtain⟨l,g⟩:=z6l.1 b
  obtain⟨q,h,rfl⟩:=z13.1 g
  obtain⟨j,d,k,_⟩:=a.cls q i h hi c
  exact z6l.2 ⟨by have:=a.rng j d;omega,z13.2 ⟨j,d,by omega⟩⟩
 ·have:0∈z2h m.rows.length P:=z6l.2 ⟨by have:=f.r1;omega,z13.2 ⟨0,a.pos,by rw [a.root]⟩⟩
  rw [e] at this;cases this
theorem zg1{m:Mach}(b:MOk m){P:List BE}(a:Rch m 0 P):pos (z2h m.rows.length P) 0=0:=by
 have c:occ P 0=true:=z13.2 ⟨0,a.pos,by rw [a.root]⟩
 obtain⟨n,d⟩: ∃ n,m.rows.length=n+1:=⟨m.rows.length-1,by have:=b.r1;omega⟩
 unfold pos z2h
 rw [d,List.range_succ_eq_map,List.filter_cons,if_pos c]
 simp
theorem zr2{N:Nat}{m:Mach}(a:MOk m)(b:200≤N):z4v N m=some (cz m (z2h m.rows.length (rch m 0)),ow (z2h m.rows.length (rch m 0)),0):=by
 have c:=z5o a (s0:=0) (by have:=a.r1;omega)
 unfold z4v
 rw [q9 (zem a b),bu (by simp),zhy c]
 rw [q9 (show z0p N m (z3z m.rows.length (rch m 0))=_ from zds a (z9e a c) b)]
 rfl
theorem zo2{m:Mach}(c:MOk m){P:List BE}(a:Rch m 0 P):connB (cz m (z2h m.rows.length P))=true:=by
 have u:=z9e c a
 have g:(cz m (z2h m.rows.length P)).rows.length=(z2h m.rows.length P).length:=by simp [cz]
 refine zm1 fun k f=>?_
 rw [g] at f
 rw [z8v (by rw [g];exact f)]
 have v:=c.r1
 have key: ∀ n j,j≤n→j<P.length→Reach (cz m (z2h m.rows.length P)) 0 ((z2h m.rows.length P).idxOf (P.getD j default).st):=by
  intro n
  induction n with
  |zero=>
   intro j h b
   obtain rfl:j=0:=by omega
   rw [a.root]
   have:=zg1 c a
   unfold pos at this
   rw [if_neg (by decide)] at this
   have t:(z2h m.rows.length P).idxOf 0=0:=by
    have:((z2h m.rows.length P).idxOf (Int.toNat 0):Int)=0:=this
    exact_mod_cast this
   rw [t]
   exact .refl
  |succ n ih=>
   intro j h b
   by_cases t:j=0
   ·exact ih j (by omega) b
   ·obtain⟨q,i,x,hi,_,_,_,l⟩:=a.par j (by omega) b
    have w:=ih q (by omega) (by omega)
    have o:(P.getD q default).st∈z2h m.rows.length P:=z6l.2 ⟨a.rng q (by omega),z13.2 ⟨q,by omega,rfl⟩⟩
    obtain⟨p,r⟩:=z5r o
    have hrow:(cz m (z2h m.rows.length P)).rows.getD ((z2h m.rows.length P).idxOf (P.getD q default).st) default=rowP m (z2h m.rows.length P) (P.getD q default).st:=by rw [z5z p,r]
    have hget:=z7w (L:=z2h m.rows.length P) c (a.rng q (by omega)) hi
    have d:pos (z2h m.rows.length P) (ed m (P.getD q default).st i)=((z2h m.rows.length P).idxOf (P.getD j default).st:Int):=by
     unfold pos
     rw [l,if_neg (by omega),Int.toNat_natCast]
    have:=Reach.step (m:=cz m (z2h m.rows.length P)) (i:=i) w (by rw [g];exact p) (by rw [hrow,z9f c (a.rng q (by omega))];exact hi) (by rw [hrow,hget];show 0≤pos _ _;rw [d];omega)
    rw [hrow,hget] at this
    have e:(pos (z2h m.rows.length P) (ed m (P.getD q default).st i)).toNat=(z2h m.rows.length P).idxOf (P.getD j default).st:=by rw [d,Int.toNat_natCast]
    rw [←e]
    exact this
 have hmem:(z2h m.rows.length P).getD k 0∈z2h m.rows.length P:=by simp [List.getD_eq_getElem?_getD,f]
 obtain⟨p,r⟩:=z6l.1 hmem
 obtain⟨j,h,s⟩:=z13.1 r
 have:=key j j (Nat.le_refl _) h
 rwa [s,z6e u.nd f] at this
theorem zr5{m:Mach}(b:MOk m){P:List BE}(g:Rch m 0 P)(W:List (List Int)):yc 2000 (W,xm m.rows.length P) 2000 [] 0=some (z3z m.rows.length P):=by
 have c:=b.r2
 have d:=ou m.rows.length P
 refine xw (σ:=List Int) (fun F k st=>yc 2000 (W,xm m.rows.length P) F st (k:Int)) m.rows.length (fun k st=>st=z3z k P) _ (fun F k st e a=>?_) (fun F st a=>?_) 2000 0 _ (Nat.zero_le _) (by omega) rfl
 ·subst a
  right
  refine⟨_,rfl,?_⟩
  have hixs:ix (xm m.rows.length P) (k:Int)=occ P k:=by rw [gu,z0n e]
  simp only [yc,hixs]
  rw [mo (by omega)]
  refine(q9 (x:=z3z (k+1) P) ?_).trans (zh (qm (by omega)))
  rw [zh (qo (by omega)),zgo]
  cases ho:occ P k
  ·rw [cf rfl,if_neg (by decide),List.append_nil]
  ·have f:(z3z k P).length≤k:=by unfold z3z;rw [List.length_map];exact Nat.le_trans (List.length_filter_le _ _) (by simp)
   have hfit:fits 8 (z3z k P) ([(k:Int)]:List Int):=⟨by simp only [List.length_singleton];omega,by simp only [List.length_singleton];omega⟩
   rw [ct rfl,if_pos rfl,zh hfit]
 ·subst a
  simp only [yc]
  rw [bu (by omega)]
theorem zq2{x:MDat}{y:WDat}(j:MDOk x)(o:WDOk y):l5 2000 x y=some true:=by
 have a:=zci j
 obtain⟨p,q⟩:=zfv j
 have r:=zqc (x:=y) (n:=(mOf x).inputs) a.i1
 have t:=a.r1
 unfold l5
 rw [q9 (zcs j (by decide)),q9 (zpr o a.i1 (by decide))]
 simp only [z5e]
 generalize wOf y (mOf x).inputs=w at*
 generalize mOf x=m at*
 obtain⟨c,u⟩:=r
 have h:=z5o a (s0:=0) (by omega)
 rw [q9 (zr2 (N:=2000) a (by decide)),q9 (z8k a (by decide) p q)]
 have i:=z9e a h
 have z:=zg1 a h
 have l:=zo2 a h
 generalize rch m 0=P at*
 have d:=z9i a i
 have f:ow (z2h m.rows.length P)=z3z m.rows.length P:=rfl
 have hlen:=i.len
 have A:(z3z m.rows.length P).length≤6:=by rw [←f,iw];omega
 rw [q9 (zr5 a h _)]
 have B:(0:Nat)∈z2h m.rows.length P:=z6l.2 ⟨by omega,z13.2 ⟨0,h.pos,by rw [h.root]⟩⟩
 have hrun:=(zbh a i w (s:=0) (.inr ⟨by decide,B⟩) c).1
 rw [z] at hrun
 have C:0<(cz m (z2h m.rows.length P)).rows.length:=by
  have:(cz m (z2h m.rows.length P)).rows.length=(z2h m.rows.length P).length:=by simp [cz]
  rw [this];exact List.length_pos_iff.2 i.ne
 have D:jm 2000 (ow (z2h m.rows.length P)) 0 (z3z m.rows.length P) 0=some true:=by
  rw [f,zdr (N:=2000) (by omega) (by omega)];simp
 have E:ng 2000 m (z3z m.rows.length P)=some (cz m (z2h m.rows.length P)):=by rw [←f];exact zc4 a i (by decide)
 have F:yt 2000 (cz m (z2h m.rows.length P)) 0 (cz m (z2h m.rows.length P))=some true:=zf5 d.small (by decide)
 have G:ai 2000 (cz m (z2h m.rows.length P))=some true:=by rw [zq9 d (by decide),l]
 have H:bq 2000 (cz m (z2h m.rows.length P)) 0 w=some (z4l m 0 w):=by
  rw [zdu (N:=2000) d (.inr ⟨by omega,by omega⟩) c (by omega) (by omega),hrun]
 have I:bq 2000 m 0 w=some (z4l m 0 w):=zdu (N:=2000) a (.inr ⟨by omega,by omega⟩) c (by omega) (by omega)
 have J:=z7g m 0 w
 have K:bv 2000 (z4l m 0 w) (z4l m 0 w)=some true:=by rw [zcc (N:=2000) (by omega) (by omega)];simp
 have g: ∀ {α:Type} {b:Bool} {e:Option α} {v:α} [Inhabited α] {k:Option α→Option Bool},b=true→e=some v→bd (gop b e) k=k (some v):=fun L M=>by
  rw [z4u (fun _=>M),L];rfl
 refine(q9 D).trans ?_
 refine(g rfl E).trans ?_
 refine(g rfl F).trans ?_
 refine(g rfl G).trans ?_
 refine(g rfl H).trans ?_
 refine(g rfl I).trans ?_
 refine(g rfl K).trans ?_
 refine(g rfl z5i).trans ?_
 rfl
end GV
end Go.Proofs.Ytncblcdhmcmkmaa

namespace Go.Proofs.Ytncblcdhmcmkmaa
namespace GV
set_option maxRecDepth 100000
theorem zhu{m:Mach}(a:MOk m){s0:Nat}: ∀ (g h p:Nat) (All:List BE),Inv m s0 p 0 All→m.rows.length≤p+g→m.rows.length≤p+h→bfs m g p All=bfs m h p All
 |0,h,p,All,hi,b,_=>by
  have:=zaa hi
  rw [z9k (g:=0) (by omega),z9k (g:=h) (by omega)]
 |g+1,0,p,All,hi,_,c=>by
  have:=zaa hi
  rw [z9k (g:=g+1) (by omega),z9k (g:=0) (by omega)]
 |g+1,h+1,p,All,hi,b,c=>by
  show (if p<All.length then _ else _)=(if p<All.length then _ else _)
  by_cases hp:p<All.length
  ·rw [if_pos hp,if_pos hp]
   have hpre:=(z2y m (All.getD p default) All m.inputs.toNat).length_le
   exact zhu a g h (p+1) _ (zei (zbw a hi hp _ (Nat.le_refl _)) (by omega)) (by omega) (by omega)
  ·rw [if_neg hp,if_neg hp]
def ren(L:List Nat)(e:BE):BE:=⟨L.idxOf e.st,pos L e.par,e.inp,e.wd⟩
theorem zlj{L:List Nat}{a b:Nat}(c:a∈L)(d:b∈L)(h:L.idxOf a=L.idxOf b):a=b:=by
 have e:=(z5r c).2
 have f:=(z5r d).2
 rw [←e,h,f]
theorem z8l(L:List Nat)(t:Nat):pos L (t:Int)=(L.idxOf t:Int):=by
 unfold pos;rw [if_neg (by omega),Int.toNat_natCast]
theorem zda{f:Nat→Nat}: ∀ {K:List Nat} {a:Nat},(∀ b∈K,f b=f a→b=a)→(K.map f).idxOf (f a)=K.idxOf a
 | [],a,_=>rfl
 |b::K,a,h=>by
  rw [List.map_cons,List.idxOf_cons,List.idxOf_cons]
  by_cases e:b=a
  ·subst e;simp
  ·have:f b≠f a:=fun d=>e (h b (by simp) d)
   rw [beq_false_of_ne this,beq_false_of_ne e,zda (K:=K) (a:=a) (fun c g=>h c (by simp [g]))]
section
variable {m : Mach} {L : List Nat}
theorem zrz(b:MOk m)(c:ClosedP m L){s i:Nat}(a:s∈L)(hi:i<m.inputs.toNat):ed (cz m L) (L.idxOf s) i=pos L (ed m s i):=by
 obtain⟨d,e⟩:=z5r a
 show (((cz m L).rows.getD (L.idxOf s) default).getD i default).to=_
 rw [z5z d,e,z7w b (c.rng s a) hi]
theorem zqz{All:List BE}(c: ∀ e∈All,e.st∈L){t:Nat}(d:t∈L):occ (All.map (ren L)) (L.idxOf t)=occ All t:=by
 unfold occ
 rw [Bool.eq_iff_iff,List.any_eq_true,List.any_eq_true]
 constructor
 ·rintro⟨e,a,h⟩
  obtain⟨x,b,rfl⟩:=List.mem_map.1 a
  exact⟨x,b,decide_eq_true (zlj (c x b) d (of_decide_eq_true h))⟩
 ·rintro⟨e,a,h⟩
  exact⟨ren L e,List.mem_map.2 ⟨e,a,rfl⟩,decide_eq_true (congrArg L.idxOf (of_decide_eq_true h))⟩
theorem zp2(j:MOk m)(f:ClosedP m L){x:BE}{All:List BE}(d: ∀ e∈All,e.st∈L)(g:x.st∈L){i:Nat}(hi:i<m.inputs.toNat):
 push (cz m L) (ren L x) (All.map (ren L)) i=(push m x All i).map (ren L)∧ ∀ e∈push m x All i,e.st∈L:=by
 have a:ed (cz m L) (ren L x).st i=pos L (ed m x.st i):=zrz j f g hi
 unfold push
 rw [a]
 rcases zbn j (f.rng _ g) hi with h|⟨l,n⟩
 ·rw [h,if_pos (show pos L (-1)= -1 from rfl),if_pos (show (-1:Int)= -1 from rfl)]
  exact⟨rfl,d⟩
 ·have b:ed m x.st i≠ -1:=by omega
  have c:=f.cl _ g i hi b
  have k:pos L (ed m x.st i)=((L.idxOf (ed m x.st i).toNat:Nat):Int):=by unfold pos;rw [if_neg b]
  rw [k,if_neg (show¬((L.idxOf (ed m x.st i).toNat:Nat):Int)= -1 by omega),if_neg b,Int.toNat_natCast,zqz d c]
  by_cases ho:occ All (ed m x.st i).toNat=true
  ·rw [if_pos ho,if_pos ho];exact⟨rfl,d⟩
  ·rw [if_neg ho,if_neg ho]
   refine⟨?_,fun e a=>?_⟩
   ·rw [List.map_append]
    congr 1
   ·rcases List.mem_append.1 a with a|a
    ·exact d e a
    ·rw [List.mem_singleton.1 a];exact c
theorem zdi(a:MOk m)(b:ClosedP m L){x:BE}{All:List BE}(c: ∀ e∈All,e.st∈L)(d:x.st∈L): ∀ k,k≤m.inputs.toNat→
 oq (cz m L) (ren L x) (All.map (ren L)) k=(oq m x All k).map (ren L)∧ ∀ e∈oq m x All k,e.st∈L
 |0,_=>⟨rfl,c⟩
 |k+1,h=>by
  obtain⟨f,g⟩:=zdi a b c d k (by omega)
  show push (cz m L) (ren L x) (oq (cz m L) (ren L x) (All.map (ren L)) k) k=(push m x (oq m x All k) k).map (ren L)∧ ∀ e∈push m x (oq m x All k) k,e.st∈L
  rw [f]
  exact zp2 a b g d (by omega)
theorem zlg(a:MOk m)(b:ClosedP m L): ∀ (g p:Nat) (All:List BE),(∀ e∈All,e.st∈L)→bfs (cz m L) g p (All.map (ren L))=(bfs m g p All).map (ren L)
 |0,p,All,_=>rfl
 |g+1,p,All,c=>by
  show (if p<(All.map (ren L)).length then bfs (cz m L) g (p+1) (oq (cz m L) ((All.map (ren L)).getD p default) (All.map (ren L)) (cz m L).inputs.toNat) else All.map (ren L))=(if p<All.length then bfs m g (p+1) (oq m (All.getD p default) All m.inputs.toNat) else All).map (ren L)
  rw [List.length_map]
  by_cases hp:p<All.length
  ·rw [if_pos hp,if_pos hp]
   have e:(All.map (ren L)).getD p default=ren L (All.getD p default):=by simp [List.getD_eq_getElem?_getD,hp]
   have d:=c _ (z1g hp)
   obtain⟨f,h⟩:=zdi a b c d m.inputs.toNat (Nat.le_refl _)
   rw [e,show (cz m L).inputs.toNat=m.inputs.toNat from rfl,f]
   exact zlg a b g (p+1) _ h
  ·rw [if_neg hp,if_neg hp]
theorem zd5:(cz m L).rows.length=L.length:=by simp [cz]
theorem zsa(b:MOk m)(a:ClosedP m L){s0:Nat}(c:s0∈L):rch (cz m L) (L.idxOf s0)=(rch m s0).map (ren L):=by
 have d:=zd5 (m:=m) (L:=L)
 obtain⟨f,h⟩:=z5r c
 have hlen:=a.len
 have hroot:=zfa (m:=cz m L) (s0:=L.idxOf s0) (by rw [d];exact f)
 unfold rch
 rw [zhu (z9i b a) (cz m L).rows.length m.rows.length 0 _ hroot (by omega) (by omega)]
 exact zlg b a m.rows.length 0 [⟨s0,-1,-1,[]⟩] (fun e g=>by rw [List.mem_singleton.1 g];exact c)
theorem zit(k:MOk m){K:List Nat}(g:ClosedP m K)(a: ∀ s∈K,s∈L):cz (cz m L) (K.map fun s=>L.idxOf s)=cz m K:=by
 show Mach.mk m.inputs m.outputs ((K.map fun s=>L.idxOf s).map (rowP (cz m L) (K.map fun s=>L.idxOf s)))=Mach.mk m.inputs m.outputs (K.map (rowP m K))
 congr 1
 rw [List.map_map]
 refine List.map_congr_left fun s d=>?_
 show rowP (cz m L) (K.map fun s=>L.idxOf s) (L.idxOf s)=rowP m K s
 obtain⟨n,o⟩:=z5r (a s d)
 show ((cz m L).rows.getD (L.idxOf s) default).map (fun e=>(⟨pos (K.map fun s=>L.idxOf s) e.to,e.out⟩:Edge))=_
 rw [z5z n,o]
 unfold rowP
 rw [List.map_map]
 refine List.map_congr_left fun e p=>?_
 show Edge.mk (pos (K.map fun s=>L.idxOf s) (pos L e.to)) e.out=Edge.mk (pos K e.to) e.out
 congr 1
 obtain⟨i,hi,rfl⟩:=List.mem_iff_getElem.1 p
 have hrow:=k.row s (g.rng s d)
 have j:((m.rows.getD s default)[i]).to=ed m s i:=by
  unfold ed
  rw [List.getD_eq_getElem?_getD (l:=m.rows.getD s default),List.getElem?_eq_getElem hi];rfl
 rw [j]
 rcases zbn k (g.rng s d) (show i<m.inputs.toNat by omega) with h|⟨q,u⟩
 ·rw [h];rfl
 ·have c:=g.cl s d i (by omega) (by omega)
  generalize ed m s i=t at*
  obtain⟨t,rfl⟩:=Int.eq_ofNat_of_zero_le q
  rw [Int.toNat_natCast] at c
  rw [z8l,z8l,z8l,zda (f:=fun s=>L.idxOf s) (fun b r h=>zlj (a b r) (a _ c) h)]
end
/-! ### The states in their order-/
def z5n(P:List BE):List Nat:=P.map (·.st)
theorem zbi(P:List BE):ow (z5n P)=ry P:=by unfold ow z5n ry;rw [List.map_map];rfl
theorem zc8(P:List BE):(z5n P).length=P.length:=by simp [z5n]
theorem zj7(P:List BE){k:Nat}(a:k<P.length):(z5n P).getD k 0=(P.getD k default).st:=by
 simp [z5n,List.getD_eq_getElem?_getD,a]
theorem zc1{P:List BE}{s:Nat}:s∈z5n P↔ ∃ j,j<P.length∧(P.getD j default).st=s:=by
 unfold z5n;rw [List.mem_map]
 constructor
 ·rintro⟨e,b,rfl⟩
  obtain⟨j,a,rfl⟩:=List.mem_iff_getElem.1 b
  exact⟨j,a,by simp [List.getD_eq_getElem?_getD,a]⟩
 ·rintro⟨j,a,rfl⟩;exact⟨_,z1g a,rfl⟩
section
variable {m : Mach} {s0 : Nat} {P : List BE}
theorem zki(b:Rch m s0 P):(z5n P).Nodup:=by
 unfold z5n
 rw [List.nodup_iff_pairwise_ne,List.pairwise_iff_getElem]
 intro i j hi a c e
 rw [List.length_map] at hi a
 rw [List.getElem_map,List.getElem_map] at e
 have:=b.dis i j hi a (by simpa [List.getD_eq_getElem?_getD,a,hi] using e)
 omega
theorem z2a(a:Rch m s0 P):ClosedP m (z5n P):=by
 refine⟨fun s b=>?_,zki a,fun s b i hi c=>?_,fun e=>?_⟩
 ·obtain⟨j,d,rfl⟩:=zc1.1 b
  exact a.rng j d
 ·obtain⟨q,g,rfl⟩:=zc1.1 b
  obtain⟨j,d,h,_⟩:=a.cls q i g hi c
  exact zc1.2 ⟨j,d,by omega⟩
 ·have f:=zc8 P
  rw [e] at f
  have:=a.pos
  simp at f;omega
theorem zf9(a:Rch m s0 P):s0∈z5n P∧(z5n P).idxOf s0=0:=by
 have b:(z5n P).getD 0 0=s0:=by rw [zj7 P a.pos,a.root]
 have:=z6e (zki a) (show 0<(z5n P).length by rw [zc8];exact a.pos)
 rw [b] at this
 exact⟨zc1.2 ⟨0,a.pos,by rw [a.root]⟩,this⟩
end
def z3i(m:Mach):Mach:=cz m (z5n (rch m 0))
section
variable {m : Mach} {L : List Nat}
theorem z9l(a:MOk m):Rch m 0 (rch m 0):=z5o a (by have:=a.r1;omega)
theorem za1(a:MOk m):MOk (z3i m):=z9i a (z2a (z9l a))
theorem zgp(a:MOk m)(b:ClosedP m L)(c:0∈L)(d:L.idxOf 0=0)(hsub: ∀ s∈z5n (rch m 0),s∈L):z3i (cz m L)=z3i m:=by
 have:=zsa a b c
 rw [d] at this
 unfold z3i
 rw [this]
 have e:z5n ((rch m 0).map (ren L))=(z5n (rch m 0)).map fun s=>L.idxOf s:=by unfold z5n;rw [List.map_map,List.map_map];rfl
 rw [e]
 exact zit a (z2a (z9l a)) hsub
theorem zn3(a:MOk m):z3i (z3i m)=z3i m:=by
 obtain⟨b,c⟩:=zf9 (z9l a)
 exact zgp a (z2a (z9l a)) b c fun s d=>d
theorem zo8(a:MOk m){w:List Int}(b:WOk m.inputs w):z4l (z3i m) 0 w=z4l m 0 w:=by
 obtain⟨c,d⟩:=zf9 (z9l a)
 have:=(zbh a (z2a (z9l a)) w (s:=0) (.inr ⟨by decide,c⟩) b).1
 rw [show (0:Int)=((0:Nat):Int) from rfl,z8l,d] at this
 exact this
theorem zje(a:MOk m){w:List Int}(b:WOk m.inputs w):z2q (z3i m) 0 w=pos (z5n (rch m 0)) (z2q m 0 w):=by
 obtain⟨c,d⟩:=zf9 (z9l a)
 have:=(zbh a (z2a (z9l a)) w (s:=0) (.inr ⟨by decide,c⟩) b).2
 rw [show (0:Int)=((0:Nat):Int) from rfl,z8l,d] at this
 exact this
theorem zbr{N:Nat}(a:MOk m)(b:200≤N):ru N m=some (z3i m,0):=by
 unfold ru
 rw [q9 (zd3 a b),bu (by simp),q9 (z7c a b),q9 (show z0p N m (ry (rch m 0))=some (z3i m) from by rw [←zbi];exact zds a (z2a (z9l a)) b)]
theorem zin{a b:Mach}(c:MOk a):ziw a b=decide (a=b):=by
 rw [Bool.eq_iff_iff,zmo,decide_eq_true_eq]
 exact⟨fun h=>h.2,fun h=>⟨c,h⟩⟩
theorem zfh{N:Nat}(a:MOk m)(b:200≤N):lm N m=some (decide (z3i m=m),0):=by
 have c:=za1 a
 unfold lm
 rw [q9 (zbr a b),z4u (fun _=>show z1l N (z3i m) m=_ from ziy c.small a.small b),zin c]
 rfl
end
end GV
end Go.Proofs.Ytncblcdhmcmkmaa

namespace Go.Proofs.Ytncblcdhmcmkmaa
namespace GV
set_option maxRecDepth 100000
theorem zf3: ∀ {a b:List Int} {k:Nat},k<a.length→k<b.length→a.take k=b.take k→a.getD k default<b.getD k default→z4i a b
 | [],_,_,h,_,_,_=>by simp at h
 |_::_,[],_,_,h,_,_=>by simp at h
 |x::a,y::b,0,_,_,_,h=> .inl h
 |x::a,y::b,k+1,d,e,c,h=>by
  rw [List.take_succ_cons,List.take_succ_cons] at c
  obtain⟨rfl,ht'⟩:=List.cons.inj c
  exact .inr ⟨rfl,zf3 (k:=k) (by simpa using d) (by simpa using e) ht' h⟩
theorem zph{N:Nat}{a b:List Int}(d:a.length=b.length)(i:a.length<N)(j:a.length≤1000000){r:Ex Unit Int}(e:z4i a b→r=Ex.rt 1)(f:z4i b a→r=Ex.rt 0)(g:a=b→r=Ex.go ()):p8 N a b N 0=some r:=by
 refine xw (σ:=Unit) (fun F k _=>p8 N a b F (k:Int)) a.length (fun k _=>a.take k=b.take k) r (fun F k _ c hi=>?_) (fun F _ hi=>?_) N 0 () (Nat.zero_le _) (by omega) rfl
 ·simp only [p8]
  have oa:okI a (k:Int):=qo c
  have ob:okI b (k:Int):=qo (by omega)
  rw [mo (by omega),zh oa,zh ob]
  rcases Int.lt_trichotomy (ix a (k:Int)) (ix b (k:Int)) with h|h|h
  ·left
   rw [mo (by omega),zh oa,zh ob,mo h,e (zf3 c (by omega) hi h)]
  ·right
   refine⟨(),?_,?_⟩
   ·rw [z4y a k c,z4y b k (by omega),hi,show a.getD k default=b.getD k default from h]
   ·rw [bu (by omega)];exact zh (qm (by omega))
  ·left
   rw [mo (by omega),zh oa,zh ob,bu (by omega),f (zf3 (by omega) c hi.symm h)]
 ·simp only [p8]
  rw [bu (by omega),g (by rw [List.take_length,d,List.take_length] at hi;exact hi)]
theorem ztp{N:Nat}{a b:List Int}(h:llt a b)(c:a.length<N)(d:a.length≤1000000):fo N a b=some 1:=by
 unfold fo
 rcases h with h|⟨f,h⟩
 ·rw [mo (by omega),mo (by omega)]
 ·rw [bu (by omega),q9 (zph f c d (r:=Ex.rt 1) (fun _=>rfl) (fun k=>absurd (z7e h k) (z3g _)) (fun e=>by rw [e] at h;exact absurd h (z3g _)))];rfl
theorem zt8{N:Nat}{a b:List Int}(h:llt b a)(c:a.length<N)(d:a.length≤1000000):fo N a b=some 0:=by
 unfold fo
 rcases h with h|⟨f,h⟩
 ·rw [mo (by omega),bu (by omega)]
 ·rw [bu (by omega),q9 (zph f.symm c d (r:=Ex.rt 0) (fun k=>absurd (z7e h k) (z3g _)) (fun _=>rfl) (fun e=>by rw [e] at h;exact absurd h (z3g _)))];rfl
def lu(s:Nat)(P:List BE):List BE:=P.filter fun e=>decide (e.st<s)
theorem zd9{m:Mach}{s0:Nat}{P:List BE}(f:Rch m s0 P){j:Nat}(c:j<P.length):
 lu ((P.getD j default).st+1) P=lu (P.getD j default).st (P.take j)++P.getD j default::lu (P.getD j default).st (P.drop (j+1))∧
 lu (P.getD j default).st P=lu (P.getD j default).st (P.take j)++lu (P.getD j default).st (P.drop (j+1)):=by
 have d:P=P.take j++P.getD j default::P.drop (j+1):=by rw [←z7s P j c,List.take_append_drop]
 have key: ∀ i,i<P.length→i≠j→decide ((P.getD i default).st<(P.getD j default).st+1)=decide ((P.getD i default).st<(P.getD j default).st):=fun i hi a=>by
  have:(P.getD i default).st≠(P.getD j default).st:=fun e=>a (f.dis i j hi c e)
  rw [decide_eq_decide];omega
 generalize hx:P.getD j default=x at*
 have g:lu (x.st+1) (P.take j)=lu x.st (P.take j):=by
  refine List.filter_congr fun e b=>?_
  obtain⟨i,hi,rfl⟩:=List.mem_iff_getElem.1 b
  rw [List.length_take] at hi
  have:=key i (by omega) (by omega)
  rw [List.getElem_take]
  rwa [show P.getD i default=P[i]'(by omega) by simp [List.getD_eq_getElem?_getD,show i<P.length by omega]] at this
 have h:lu (x.st+1) (P.drop (j+1))=lu x.st (P.drop (j+1)):=by
  refine List.filter_congr fun e b=>?_
  obtain⟨i,hi,rfl⟩:=List.mem_iff_getElem.1 b
  rw [List.length_drop] at hi
  have:=key (j+1+i) (by omega) (by omega)
  rw [List.getElem_drop]
  rwa [show P.getD (j+1+i) default=P[j+1+i]'(by omega) by simp [List.getD_eq_getElem?_getD,show j+1+i<P.length by omega]] at this
 constructor
 ·conv=>lhs;rw [d]
  unfold lu at*
  rw [List.filter_append,List.filter_cons,if_pos (decide_eq_true (by omega)),g,h]
 ·conv=>lhs;rw [d]
  unfold lu
  rw [List.filter_append,List.filter_cons,if_neg (by simp)]
theorem zk1{P:List BE}{s:Nat}(h:occ P s=false):lu (s+1) P=lu s P:=by
 refine List.filter_congr fun e b=>?_
 have:e.st≠s:=fun a=>by
  have:occ P s=true:=List.any_eq_true.2 ⟨e,b,decide_eq_true a⟩
  rw [h] at this;cases this
 rw [decide_eq_decide];omega
theorem zns{m:Mach}{s0:Nat}{P:List BE}(a:Rch m s0 P):lu m.rows.length P=P:=by
 unfold lu
 rw [List.filter_eq_self]
 intro e b
 obtain⟨i,hi,rfl⟩:=List.mem_iff_getElem.1 b
 have:=a.rng i hi
 rw [show P.getD i default=P[i] by simp [List.getD_eq_getElem?_getD,hi]] at this
 exact decide_eq_true this
theorem zgk{m:Mach}{s0:Nat}{P:List BE}(a:Rch m s0 P)(s:Nat):(ry (lu s P)).length≤P.length:=by
 unfold ry lu;rw [List.length_map];exact List.length_filter_le _ _
theorem zd8(X Y:List BE):ry (X++Y)=ry X++ry Y:=by simp [ry]
theorem zol{N:Nat}{m:Mach}(z:200≤N){s0:Nat}{P:List BE}(a:Rch m s0 P)(v:m.rows.length≤64){j:Nat}(q:j<P.length):
 bf N (uy m.rows.length P,xm m.rows.length P) (ry (lu (P.getD j default).st P)) ((P.getD j default).st:Int) N 0=some ((lu (P.getD j default).st (P.take j)).length:Int):=by
 obtain⟨_,r⟩:=zd9 a q
 have w:=a.le
 have l:=a.rng j q
 have x: ∀ e∈lu (P.getD j default).st (P.take j),∃ i,i<j∧e=P.getD i default:=fun e c=>by
  obtain⟨i,hi,rfl⟩:=List.mem_iff_getElem.1 (List.mem_filter.1 c).1
  rw [List.length_take] at hi
  exact⟨i,by omega,by rw [List.getElem_take];simp [List.getD_eq_getElem?_getD,show i<P.length by omega]⟩
 have y: ∀ e∈lu (P.getD j default).st (P.drop (j+1)),∃ i,j<i∧i<P.length∧e=P.getD i default:=fun e c=>by
  obtain⟨i,hi,rfl⟩:=List.mem_iff_getElem.1 (List.mem_filter.1 c).1
  rw [List.length_drop] at hi
  exact⟨j+1+i,by omega,by omega,by rw [List.getElem_drop];simp [List.getD_eq_getElem?_getD,show j+1+i<P.length by omega]⟩
 have hlen:=zgk a (P.getD j default).st
 rw [r] at hlen⊢
 generalize hx:lu (P.getD j default).st (P.take j)=A at*
 generalize lu (P.getD j default).st (P.drop (j+1))=B at*
 have n:ix (uy m.rows.length P) ((P.getD j default).st:Int)=(P.getD j default).wd:=by rw [gu,eu l,a.wdOf q]
 have okw:okI (uy m.rows.length P) ((P.getD j default).st:Int):=qo (by rw [uu];exact l)
 have s:(ry (A++B)).length=A.length+B.length:=by simp [ry]
 have hget: ∀ k,k<A.length+B.length→ix (ry (A++B)) (k:Int)=(((A++B).getD k default).st:Int):=fun k o=>by
  have hk':k<(A++B).length:=by rw [List.length_append];exact o
  rw [gu]
  unfold ry
  rw [List.getD_eq_getElem?_getD,List.getElem?_map,List.getD_eq_getElem?_getD,List.getElem?_eq_getElem hk'];rfl
 refine xw (σ:=Unit) (fun F k _=>bf N (uy m.rows.length P,xm m.rows.length P) (ry (A++B)) ((P.getD j default).st:Int) F (k:Int)) A.length (fun _ _=>True) _ (fun F k _ o _=>?_) (fun F _ _=>?_) N 0 () (Nat.zero_le _) (by omega) trivial
 ·right
  refine⟨(),trivial,?_⟩
  simp only [bf,hget k (by omega),n]
  have c:(A++B).getD k default∈A:=by
   have:(A++B).getD k default=A[k]:=by simp [List.getD_eq_getElem?_getD,List.getElem?_append_left o,o]
   rw [this];exact List.getElem_mem o
  obtain⟨i,d,f⟩:=x _ c
  rw [f]
  have b:=a.rng i (by omega)
  have g:ix (uy m.rows.length P) ((P.getD i default).st:Int)=(P.getD i default).wd:=by rw [gu,eu b,a.wdOf (by omega)]
  have t:=(a.wok i (by omega)).2
  rw [g,zh (fun _=>qo (by omega)),zh (fun _=>qo (by rw [uu];exact b)),zh (fun _=>okw),z4u (fun _=>ztp (N:=N) (a.inc i j d q) (by omega) (by omega))]
  have p:decide ((k:Int)<((ry (A++B)).length:Int))=true:=decide_eq_true (by omega)
  refine(ct (by rw [p];rfl)).trans ?_
  exact zh (qm (by omega))
 ·simp only [bf]
  by_cases hb:0<B.length
  ·have p:decide ((A.length:Int)<((ry (A++B)).length:Int))=true:=decide_eq_true (by omega)
   simp only [hget A.length (by omega),n]
   have c:(A++B).getD A.length default∈B:=by
    have:(A++B).getD A.length default=B[0]:=by simp [List.getD_eq_getElem?_getD,hb]
    rw [this];exact List.getElem_mem hb
   obtain⟨i,d,u,f⟩:=y _ c
   rw [f]
   have b:=a.rng i (by omega)
   have g:ix (uy m.rows.length P) ((P.getD i default).st:Int)=(P.getD i default).wd:=by rw [gu,eu b,a.wdOf (by omega)]
   have t:=(a.wok i (by omega)).2
   rw [g,zh (fun _=>qo (by omega)),zh (fun _=>qo (by rw [uu];exact b)),zh (fun _=>okw),z4u (fun _=>zt8 (N:=N) (a.inc j i d u) (by omega) (by omega))]
   exact cf (by rw [p];rfl)
  ·have p:decide ((A.length:Int)<((ry (A++B)).length:Int))=false:=decide_eq_false (by omega)
   rw [p,zh (fun h=>by simp at h),zh (fun h=>by simp at h),zh (fun h=>by simp at h),zug (by rfl)]
   rfl
theorem zm6{N:Nat}{m:Mach}(e:MOk m)(o:400≤N)(p:m.rows.length≤6)(q:m.inputs≤3):z0q N m=some (ry (rch m 0)):=by
 have c:=z9l e
 have g:=e.r2
 unfold z0q
 rw [q9 (z8k e o p q)]
 generalize rch m 0=P at*
 have r:=c.le
 have s:gy N (uy m.rows.length P,xm m.rows.length P) N [] 0=some (ry P):=by
  refine xw (σ:=List Int) (fun F k st=>gy N (uy m.rows.length P,xm m.rows.length P) F st (k:Int)) m.rows.length (fun k st=>st=ry (lu k P)) _ (fun F k st i a=>?_) (fun F st a=>?_) N 0 _ (Nat.zero_le _) (by omega) (by unfold lu ry;simp)
  ·subst a
   right
   refine⟨_,rfl,?_⟩
   have hixs:ix (xm m.rows.length P) (k:Int)=occ P k:=by rw [gu,z0n i]
   simp only [gy,hixs]
   rw [mo (by rw [uu];omega)]
   refine(q9 (x:=ry (lu (k+1) P)) ?_).trans (zh (qm (by omega)))
   rw [zh (qo (by rw [ou];exact i))]
   cases ho:occ P k
   ·rw [ct (b:= !false) rfl,zk1 ho]
   ·rw [cf (b:= !true) rfl]
    obtain⟨j,l,rfl⟩:=z13.1 ho
    obtain⟨n,h⟩:=zd9 c l
    have hlen:=zgk c (P.getD j default).st
    rw [q9 (zol (by omega) c g l),n,h]
    rw [h] at hlen
    generalize lu (P.getD j default).st (P.take j)=A at*
    generalize lu (P.getD j default).st (P.drop (j+1))=B at*
    have d:(ry A).length=A.length:=by simp [ry]
    have t:(ry B).length=B.length:=by simp [ry]
    rw [zd8] at hlen⊢
    rw [List.length_append] at hlen
    have u:cut (ry A++ry B) 0 (A.length:Int)=ry A:=by rw [zef,←d,List.take_left]
    have v:cut (ry A++ry B) (A.length:Int) ((ry A++ry B).length:Int)=ry B:=by
     unfold cut
     rw [Int.toNat_natCast,Int.toNat_natCast,←d,List.drop_left,List.take_of_length_le (by rw [List.length_append];omega)]
    have f: ∀ {X Y:List Int},X.length≤1000→Y.length≤1000→fits 8 X Y:=fun n h=>⟨by omega,by omega⟩
    have la:(ry A++ry B).length=A.length+B.length:=by rw [List.length_append];omega
    rw [zh ⟨by omega,by omega,by omega⟩,u,zh (f (by simp) (by omega)),List.nil_append,zh (f (by omega) (by simp)),zh ⟨by omega,by omega,by omega⟩,v,zh (f (by rw [List.length_append];simp;omega) (by omega))]
    rw [zd8,List.append_assoc];rfl
  ·subst a
   simp only [gy]
   rw [bu (by rw [uu];omega),zns c]
 rw [q9 s]
theorem zd0{N:Nat}{m:Mach}(a:MOk m)(b:400≤N)(c:m.rows.length≤6)(d:m.inputs≤3):mi N m=some (z3i m):=by
 unfold mi
 rw [q9 (zm6 a b c d),q9 (show ng N m (ry (rch m 0))=some (z3i m) from by rw [←zbi];exact zc4 a (z2a (z9l a)) (by omega))]
end GV
end Go.Proofs.Ytncblcdhmcmkmaa

namespace Go.Proofs.Ytncblcdhmcmkmaa
namespace GV
set_option maxRecDepth 100000
structure Num (n:Nat) (L:List Nat):Prop where
 len:L.length=n
 rng: ∀ k,k<n→L.getD k 0<n
 inj: ∀ i j,i<n→j<n→L.getD i 0=L.getD j 0→i=j
 sur: ∀ s,s<n→ ∃ k,k<n∧L.getD k 0=s
 zero:L.getD 0 0=0
theorem zge(n:Nat)(d:1≤n):Num n (List.range n):=by
 have g: ∀ k,k<n→(List.range n).getD k 0=k:=fun k a=>by simp [List.getD_eq_getElem?_getD,a]
 exact⟨by simp,fun k a=>by rw [g k a];exact a,fun i j hi c h=>by rw [g i hi,g j c] at h;exact h,fun s b=>⟨s,b,g s b⟩,g 0 (by omega)⟩
def zaj(L:List Nat)(a b:Nat):List Nat:=(L.set a (L.getD b 0)).set b (L.getD a 0)
def tr(a b k:Nat):Nat:=if k=b then a else if k=a then b else k
theorem zno{n:Nat}{L:List Nat}(c:L.length=n){a b k:Nat}(d:a<n)(f:b<n)(g:k<n):(zaj L a b).getD k 0=L.getD (tr a b k) 0:=by
 unfold zaj tr
 rw [List.getD_eq_getElem?_getD,List.getElem?_set]
 by_cases h1:b=k
 ·subst h1
  rw [if_pos rfl,if_pos (by rw [List.length_set];omega),if_pos rfl];rfl
 ·rw [if_neg h1,if_neg (fun e=>h1 e.symm),List.getElem?_set]
  by_cases h2:a=k
  ·subst h2
   rw [if_pos rfl,if_pos (by omega),if_pos rfl];rfl
  ·rw [if_neg h2,if_neg (fun e=>h2 e.symm),←List.getD_eq_getElem?_getD]
theorem zi3{n:Nat}{L:List Nat}(h:Num n L){a b:Nat}(l:1≤a∧a<n)(m:1≤b∧b<n):Num n (zaj L a b):=by
 have g: ∀ k,k<n→(zaj L a b).getD k 0=L.getD (tr a b k) 0:=fun k c=>zno h.len l.2 m.2 c
 have d: ∀ k,k<n→tr a b k<n:=fun k c=>by unfold tr;split;omega;split;omega;exact c
 have hi: ∀ k,tr a b (tr a b k)=k:=fun k=>by
  unfold tr
  by_cases h1:k=b
  ·subst h1;rw [if_pos rfl];by_cases h2:a=k
   ·subst h2;simp
   ·rw [if_neg h2,if_pos rfl]
  ·rw [if_neg h1];by_cases h2:k=a
   ·subst h2;rw [if_pos rfl,if_pos rfl]
   ·rw [if_neg h2,if_neg h1,if_neg h2]
 refine⟨by unfold zaj;rw [List.length_set,List.length_set];exact h.len,fun k c=>by rw [g k c];exact h.rng _ (d k c),fun i j hi' f e=>?_,fun s o=>?_,?_⟩
 ·rw [g i hi',g j f] at e
  have:=h.inj _ _ (d i hi') (d j f) e
  rw [←hi i,this,hi]
 ·obtain⟨k,c,e⟩:=h.sur s o
  exact⟨tr a b k,d k c,by rw [g _ (d k c),hi,e]⟩
 ·rw [g 0 (by omega)]
  have:tr a b 0=0:=by unfold tr;rw [if_neg (by omega),if_neg (by omega)]
  rw [this,h.zero]
theorem zg0(L:List Nat)(a v:Nat):(ow L).set a (v:Int)=ow (L.set a v):=by
 unfold ow;rw [List.map_set]
theorem zll{n:Nat}{L:List Nat}(c:L.length=n){a b:Nat}(d:a<n)(e:b<n):up (up (ow L) (a:Int) (ix (ow L) (b:Int))) (b:Int) (ix (ow L) (a:Int))=ow (zaj L a b):=by
 rw [z3b (by omega),z3b (by omega),z3a,z3a,zg0,zg0];rfl
section
variable {m : Mach} {L : List Nat}
theorem zgy(h:Num m.rows.length L){s:Nat}(a:s<m.rows.length):s∈L:=by
 obtain⟨k,b,rfl⟩:=h.sur s a
 have:=h.len
 simp [List.getD_eq_getElem?_getD,show k<L.length by omega]
theorem zax(d:MOk m)(h:Num m.rows.length L):ClosedP m L:=by
 have f:=h.len
 have g:=d.r1
 refine⟨fun s a=>?_,?_,fun s a i hi b=>?_,fun e=>by rw [e] at f;simp at f;omega⟩
 ·obtain⟨k,c,rfl⟩:=List.mem_iff_getElem.1 a
  have:=h.rng k (by omega)
  simpa [List.getD_eq_getElem?_getD,c] using this
 ·rw [List.nodup_iff_pairwise_ne,List.pairwise_iff_getElem]
  intro i j hi l n e
  have:=h.inj i j (by omega) (by omega) (by simpa [List.getD_eq_getElem?_getD,hi,l] using e)
  omega
 ·obtain⟨k,c,rfl⟩:=List.mem_iff_getElem.1 a
  have o:=h.rng k (by omega)
  have p:L[k]<m.rows.length:=by simpa [List.getD_eq_getElem?_getD,c] using o
  have:=(zbn d p hi).resolve_left b
  exact zgy h (by omega)
theorem zoo(a:MOk m)(h:Num m.rows.length L):z3i (cz m L)=z3i m:=by
 have g:=h.len
 have d:=a.r1
 have b:=zax a h
 have c:=z6e b.nd (show 0<L.length by omega)
 rw [h.zero] at c
 refine zgp a b (zgy h (by omega)) c fun s e=>?_
 obtain⟨j,f,rfl⟩:=zc1.1 e
 exact zgy h ((z9l a).rng j f)
end
theorem zdc(k:Nat):ow (List.range (k+1))=ow (List.range k)++[(k:Int)]:=by
 unfold ow;rw [List.range_succ,List.map_append];rfl
theorem zhf{m:Mach}(b:m.rows.length≤64):ui 2000 m 2000 [] 0=some (ow (List.range m.rows.length)):=by
 refine xw (σ:=List Int) (fun F k st=>ui 2000 m F st (k:Int)) m.rows.length (fun k st=>st=ow (List.range k)) _ (fun F k st c a=>?_) (fun F st a=>?_) 2000 0 _ (Nat.zero_le _) (by omega) rfl
 ·subst a
  right
  refine⟨_,rfl,?_⟩
  simp only [ui]
  have d:(ow (List.range k)).length=k:=by rw [iw,List.length_range]
  rw [mo (by omega),zh ⟨by simp only [List.length_singleton];omega,by simp only [List.length_singleton];omega⟩,zh (qm (by omega)),zdc];rfl
 ·subst a
  simp only [ui]
  rw [bu (by omega)]
theorem zgt{m:Mach}(E:m.rows.length≤64){swaps:List Int}(q: ∀ k,k<swaps.length→0≤swaps.getD k default∧swaps.getD k default≤255){L:List Nat}(s:Num m.rows.length L):
 ∃ r,ug 2000 swaps m 2000 0 (ow L)=some r∧ ∃ L',r=ow L'∧Num m.rows.length L':=by
 have:=z1a (σ:=List Int) (fun F k st=>ug 2000 swaps m F (2*(k:Int)) st) 10 (fun k st=> ∃ L',st=ow L'∧Num m.rows.length L') (fun r=> ∃ L',r=ow L'∧Num m.rows.length L') (fun F k st G hi=>?_) (fun F st hi=>?_) 2000 0 (ow L) (Nat.zero_le _) (by omega) ⟨L,rfl,s⟩
 ·exact this
 ·obtain⟨L',rfl,hL'⟩:=hi
  simp only [ug]
  rw [zh (qm (by omega))]
  by_cases hc:2*k+1<swaps.length∧1<m.rows.length
  ·obtain⟨t,H⟩:=hc
   right
   have e:(((decide (2*(k:Int)+1<(swaps.length:Int)))&&(decide (2*(k:Int)<20)))&&(decide ((1:Int)<(m.rows.length:Int))))=true:=by
    rw [decide_eq_true (by omega),decide_eq_true (by omega),decide_eq_true (by omega)];rfl
   have ea:ix swaps (2*(k:Int))=swaps.getD (2*k) default:=by rw [show 2*(k:Int)=((2*k:Nat):Int) by omega];rfl
   have eb:ix swaps (2*(k:Int)+1)=swaps.getD (2*k+1) default:=by rw [show 2*(k:Int)+1=((2*k+1:Nat):Int) by omega];rfl
   have w:=q (2*k) (by omega)
   have x:=q (2*k+1) (by omega)
   rw [ct e,ea,eb]
   generalize swaps.getD (2*k) default=u at*
   generalize swaps.getD (2*k+1) default=v at*
   have y:=Int.emod_nonneg u (show (m.rows.length:Int)-1≠0 by omega)
   have A:=Int.emod_lt_of_pos u (show (0:Int)<(m.rows.length:Int)-1 by omega)
   have B:=Int.emod_nonneg v (show (m.rows.length:Int)-1≠0 by omega)
   have C:=Int.emod_lt_of_pos v (show (0:Int)<(m.rows.length:Int)-1 by omega)
   have c:in64 ((m.rows.length:Int)-1):=qm (by omega)
   have d: ∀ {z:Int},0≤z→okR z ((m.rows.length:Int)-1):=fun h=>⟨h,by omega⟩
   have i:okI swaps (2*(k:Int)):=⟨by omega,by omega⟩
   have j:okI swaps (2*(k:Int)+1):=⟨by omega,by omega⟩
   rw [zh i,zh (qm (by omega)),zh c,zh (d w.1)]
   have l:in64 (1+u%((m.rows.length:Int)-1)):=qm (by omega)
   have n:in64 (1+v%((m.rows.length:Int)-1)):=qm (by omega)
   rw [zh l,zh (qm (by omega)),zh j,zh (qm (by omega)),zh c,zh (d x.1),zh n]
   obtain⟨a,o⟩:=Int.eq_ofNat_of_zero_le (show 0≤1+u%((m.rows.length:Int)-1) by omega)
   obtain⟨b,p⟩:=Int.eq_ofNat_of_zero_le (show 0≤1+v%((m.rows.length:Int)-1) by omega)
   have f:1≤a∧a<m.rows.length:=by omega
   have g:1≤b∧b<m.rows.length:=by omega
   rw [o,p]
   have D:=hL'.len
   have oka:okI (ow L') (a:Int):=qo (by rw [iw];omega)
   have okb:okI (ow L') (b:Int):=qo (by rw [iw];omega)
   refine⟨ow (zaj L' a b),⟨_,rfl,zi3 hL' f g⟩,?_⟩
   rw [zh okb,zh oka,zh oka,zh okb,zh (qm (by omega)),zll D f.2 g.2]
   rw [show 2*(k:Int)+2=2*((k+1:Nat):Int) by omega]
  ·left
   have e:(((decide (2*(k:Int)+1<(swaps.length:Int)))&&(decide (2*(k:Int)<20)))&&(decide ((1:Int)<(m.rows.length:Int))))=false:=by
    by_cases t:2*k+1<swaps.length
    ·rw [decide_eq_false (show¬(1:Int)<(m.rows.length:Int) by omega),Bool.and_false]
    ·rw [decide_eq_false (show¬2*(k:Int)+1<(swaps.length:Int) by omega)];rfl
   rw [cf e]
   exact⟨_,rfl,L',rfl,hL'⟩
 ·obtain⟨L',rfl,hL'⟩:=hi
  simp only [ug]
  have e:(((decide (2*((10:Nat):Int)+1<(swaps.length:Int)))&&(decide (2*((10:Nat):Int)<20)))&&(decide ((1:Int)<(m.rows.length:Int))))=false:=by
   rw [decide_eq_false (show¬2*((10:Nat):Int)<20 by omega),Bool.and_false,Bool.false_and]
  rw [zh (qm (by omega)),cf e]
  exact⟨_,rfl,L',rfl,hL'⟩
theorem zm4{α β:Type}{b:Bool}{e:Option α}{v:α}{k:Option α→Option β}(a:b=true)(c:e=some v):bd (gop b e) k=k (some v):=by
 rw [z4u (fun _=>c),a];rfl
theorem znq{l:List Int}(h:l.length<2000):bv 2000 l l=some true:=by rw [zcc (N:=2000) h (by omega)];simp
theorem zfm{x:MDat}{y:WDat}{swaps:List Int}(i:MDOk x)(v:WDOk y)(z: ∀ k,k<swaps.length→0≤swaps.getD k default∧swaps.getD k default≤255):oh 2000 x y swaps=some true:=by
 have a:=zci i
 obtain⟨A,B⟩:=zfv i
 have C:=zqc (x:=y) (n:=(mOf x).inputs) a.i1
 have j:=a.r1
 have f:=a.r2
 unfold oh
 rw [q9 (zcs i (by decide)),q9 (zpr v a.i1 (by decide))]
 simp only [z5e]
 generalize wOf y (mOf x).inputs=w at*
 generalize mOf x=m at*
 obtain⟨e,D⟩:=C
 have d:=za1 a
 have l:=zn3 a
 have E:=d.r1
 rw [q9 (zbr (N:=2000) a (by decide)),q9 (zd0 (N:=2000) a (by decide) A B)]
 have F:bq 2000 (z3i m) 0 w=some (z4l m 0 w):=by
  rw [zdu (N:=2000) d (.inr ⟨by omega,by omega⟩) e (by omega) (by omega),zo8 a e]
 have G:bq 2000 m 0 w=some (z4l m 0 w):=zdu (N:=2000) a (.inr ⟨by omega,by omega⟩) e (by omega) (by omega)
 have H:bv 2000 (z4l m 0 w) (z4l m 0 w)=some true:=znq (by rw [z7g];omega)
 have s:=zbr (N:=2000) d (by decide)
 have I:=zfh (N:=2000) a (by decide)
 have t:=zfh (N:=2000) d (by decide)
 have J:=zes (N:=2000) (b:=z3i m) a.small (by decide)
 have o:=zf5 (N:=2000) d.small (by decide)
 obtain⟨r,K,L,rfl,u⟩:=zgt f z (zge m.rows.length j)
 have hoth:=zoo a u
 have g:=zax a u
 have p:=zc4 (N:=2000) a g (by decide)
 have h:=zbr (N:=2000) (z9i a g) (by decide)
 have q:=zhf f
 rw [l] at s t
 rw [hoth] at h
 generalize z3i m=c at*
 refine(q9 o).trans ?_
 refine(zm4 rfl F).trans ?_
 refine(zm4 rfl G).trans ?_
 refine(zm4 rfl H).trans ?_
 refine(cf rfl).trans ?_
 refine(q9 s).trans ?_
 refine(q9 I).trans ?_
 refine(q9 t).trans ?_
 refine(q9 o).trans ?_
 refine(zm4 rfl J).trans ?_
 refine(cf ?_).trans ?_
 ·have:decide (c=m)=decide (m=c):=by rw [decide_eq_decide];exact eq_comm
  rw [this,decide_eq_true (show c=c from rfl)]
  simp
 refine(q9 q).trans ?_
 refine(q9 K).trans ?_
 refine(q9 p).trans ?_
 refine(q9 h).trans ?_
 refine(q9 o).trans ?_
 exact(zm4 rfl z5i).trans rfl
end GV
end Go.Proofs.Ytncblcdhmcmkmaa

namespace Go.Proofs.Ytncblcdhmcmkmaa
namespace GV
set_option maxRecDepth 100000
theorem zpx{N:Nat}(a:200≤N)(e:Int):z1o N [0,e]=some e:=by
 unfold z1o
 obtain⟨M,rfl⟩: ∃ M,N=M+3:=⟨N-3,by omega⟩
 by_cases h:e=0
 ·subst h
  have:mf (M+3) [0,0] (M+3) 0=some (Ex.go ()):=by
   simp only [mf]
   rw [mo (by simp),zh ⟨by simp,by simp⟩,bu (by simp [ix]),zh (qm (by simp)),mo (by simp),zh ⟨by simp,by simp⟩,bu (by simp [ix]),zh (qm (by simp)),bu (by simp)]
  rw [q9 this];rfl
 ·have:mf (M+3) [0,e] (M+3) 0=some (Ex.rt e):=by
   simp only [mf]
   rw [mo (by simp),zh ⟨by simp,by simp⟩,bu (by simp [ix]),zh (qm (by simp)),mo (by simp),zh ⟨by simp,by simp⟩,mo (by simpa [ix] using h)]
   simp [ix]
  rw [q9 this];rfl
theorem wrap_u64{n:Int}(a:0≤n)(h:n<18446744073709551616):IntKind.u64.wrap n=n:=by
 simp only [IntKind.wrap,IntKind.signed,IntKind.bits,Bool.false_and]
 exact Int.emod_eq_of_lt a h
def zed(n k:Nat):List Int:=List.replicate k (-1)++List.replicate (n-k) 0
theorem zqj{n k j:Nat}(b:k≤n)(c:j≤k)(a:j≤n-k):z4p (zed n k) k (List.replicate j (-1))=zed n (k+j):=by
 unfold z4p zed
 rw [List.length_replicate,List.take_left' (by simp),←List.drop_drop,List.drop_left' (by simp),List.drop_replicate,List.replicate_append_replicate,Nat.sub_sub]
theorem zpi{n k j:Nat}(a:j≤k):(zed n k).take j=List.replicate j (-1):=by
 unfold zed
 rw [List.take_append_of_le_length (by simpa using a),List.take_replicate,Nat.min_eq_left a]
theorem zh1{n k:Nat}(a:k≤n):(zed n k).length=n:=by unfold zed;simp;omega
theorem zot{N:Nat}{n:Nat}(b:n≤1000): ∀ (F k:Nat),1≤k→k≤n→n-k<F→cu N F (k:Int) (zed n k)=some (List.replicate n (-1))
 |0,k,_,_,h=>by omega
 |F+1,k,c,a,h=>by
  simp only [cu,zh1 a]
  by_cases hk:k<n
  ·rw [mo (by omega),zh ⟨by omega,by omega,by rw [zh1 a];omega⟩,zh ⟨by omega,by omega,by rw [zh1 a];omega⟩]
   simp only [Int.toNat_natCast,Nat.sub_zero,List.drop_zero]
   rw [zh (qm (by omega)),zpi (Nat.min_le_left _ _),zqj a (Nat.min_le_left _ _) (Nat.min_le_right _ _)]
   have:(k:Int)+((min k (n-k):Nat):Int)=((k+min k (n-k):Nat):Int):=by omega
   rw [this]
   exact zot b F _ (by omega) (by omega) (by omega)
  ·rw [bu (by omega)]
   have:k=n:=by omega
   subst this
   unfold zed
   rw [Nat.sub_self,List.replicate_zero,List.append_nil]
theorem znn{N:Nat}(f:200≤N){n:Nat}(b:1≤n)(g:n≤100):z0u N [-1] (n:Int)=some (List.replicate n (-1)):=by
 unfold z0u
 have c:z3q N (IntKind.u64.wrap (([-1]:List Int).length:Int)) (IntKind.u64.wrap (n:Int))=some (0,(n:Int)):=by
  rw [wrap_u64 (by simp) (by simp),wrap_u64 (by omega) (by omega)]
  unfold z3q
  rw [zh ⟨⟨by simp,by simp⟩,by omega,by omega⟩]
  congr 1
  have:(([-1]:List Int).length:Int)=1:=rfl
  rw [this,Int.one_mul,Int.ediv_eq_zero_of_lt (by omega) (by omega),Int.emod_eq_of_lt (by omega) (by omega)]
 rw [bu (by omega),q9 c]
 refine(cf ?_).trans ?_
 ·show (decide ((0:Int)<0)||decide ((9223372036854775807:Int)<(n:Int)))=false
  rw [decide_eq_false (show¬(9223372036854775807:Int)<(n:Int) by omega)];rfl
 have d:(mk (n:Int) (0:Int)).length=n:=by rw [z7j,List.length_replicate]
 have hmin:min ([-1]:List Int).length (mk (n:Int) (0:Int)).length=1:=by rw [d];simp;omega
 show gd (in64 (n:Int)) (gd (okM 8 (n:Int)) (bd (cu N N _ _) fun a=>some a))=_
 rw [zh (qm (by omega)),zh ⟨by omega,by omega,by omega⟩,hmin]
 have e:z4p (mk (n:Int) (0:Int)) 0 (([-1]:List Int).take 1)=zed n 1:=by
  unfold z4p zed
  rw [z7j,List.take_zero,List.nil_append]
  simp [List.drop_replicate]
 rw [e,q9 (zot (by omega) N 1 (by omega) b (by omega))]
def zpb(P Q:List BE)(s:Nat):Int:=if occ P s=true then((Q.getD ((z5n P).idxOf s) default).st:Int) else-1
def zhn(n:Nat)(P Q:List BE):List Int:=(List.range n).map (zpb P Q)
theorem zcd(n:Nat)(P Q:List BE):(zhn n P Q).length=n:=by simp [zhn]
theorem zou{n s:Nat}{P Q:List BE}(h:s<n):(zhn n P Q).getD s default=zpb P Q s:=by simp [zhn,List.getD_eq_getElem?_getD,h]
theorem zjc{P:List BE}{k:Nat}(a:k<P.length):ix (ry P) (k:Int)=((P.getD k default).st:Int):=by
 rw [gu];unfold ry
 rw [List.getD_eq_getElem?_getD,List.getElem?_map,List.getD_eq_getElem?_getD,List.getElem?_eq_getElem a];rfl
theorem zbp(P:List BE):(ry P).length=P.length:=by simp [ry]
theorem zdw{m:Mach}{s0:Nat}{P:List BE}(b:Rch m s0 P){j:Nat}(a:j<P.length):(z5n P).idxOf (P.getD j default).st=j:=by
 have:=z6e (zki b) (show j<(z5n P).length by rw [zc8];exact a)
 rwa [zj7 P a] at this
theorem zth{N:Nat}{a b:Mach}(i:200≤N){P Q:List BE}(g:Rch a 0 P)(j:Rch b 0 Q)(l:a.rows.length≤64)(m:P.length=Q.length):
 mg N (ry P) (ry Q) N 0 (List.replicate a.rows.length (-1))=some (zhn a.rows.length P Q):=by
 have h:=g.le
 refine xw (σ:=List Int) (fun F k st=>mg N (ry P) (ry Q) F (k:Int) st) P.length
  (fun k st=>st=(List.range a.rows.length).map fun s=>if occ (P.take k) s=true then((Q.getD ((z5n P).idxOf s) default).st:Int) else-1) _ (fun F k st f d=>?_) (fun F st d=>?_) N 0 _ (Nat.zero_le _) (by omega) ?_
 ·subst d
  right
  refine⟨_,rfl,?_⟩
  have hrng:=g.rng k f
  simp only [mg,zjc f,zjc (show k<Q.length by omega)]
  rw [mo (by rw [zbp];omega),zh (qo (by rw [zbp];omega)),zh (qo (by rw [zbp];omega)),zh (qo (by simpa using hrng)),zh (qm (by omega))]
  rw [z3a]
  congr 1
  refine z0t (by simp) fun s c=>?_
  rw [List.length_set,List.length_map,List.length_range] at c
  rw [z2v _ c,List.getD_eq_getElem?_getD,List.getElem?_set]
  rw [z2w P k f,zjn]
  by_cases e:(P.getD k default).st=s
  ·subst e
   rw [if_pos rfl,if_pos (by simpa using c),decide_eq_true (rfl),Bool.or_true,if_pos rfl,zdw g f];rfl
  ·rw [if_neg e,←List.getD_eq_getElem?_getD,z2v _ c,decide_eq_false e,Bool.or_false]
 ·subst d
  simp only [mg]
  rw [bu (by rw [zbp];omega),List.take_length];rfl
 ·refine z0t (by simp) fun s c=>?_
  rw [List.length_replicate] at c
  rw [z2v _ c]
  simp [List.getD_eq_getElem?_getD,c,occ]
theorem zal{a b:Mach}(o:MOk a)(f:MOk b)(h:z3i a=z3i b):a.inputs=b.inputs∧(rch a 0).length=(rch b 0).length∧ ∀ j,j<(rch a 0).length→z2q b 0 ((rch a 0).getD j default).wd=(((rch b 0).getD j default).st:Int):=by
 have hi:a.inputs=b.inputs:=(zdz.1 h).1
 have g:=z9l o
 have p:=z9l f
 have r:(rch a 0).length=(rch b 0).length:=by
  have:=congrArg (fun m:Mach=>m.rows.length) h
  simp only [z3i,zd5,zc8] at this
  exact this
 refine⟨hi,r,fun j k=>?_⟩
 have q:=(g.wok j k).1
 have d:WOk b.inputs ((rch a 0).getD j default).wd:=hi▸q
 have l:=zje o q
 have haft:z2q a 0 ((rch a 0).getD j default).wd=(((rch a 0).getD j default).st:Int):=g.aft j k
 rw [haft,z8l,zdw g k,h,zje f d] at l
 have n:z2q b 0 ((rch a 0).getD j default).wd≠ -1:=fun e=>by
  rw [e] at l
  have:pos (z5n (rch b 0)) (-1)= -1:=rfl
  omega
 obtain⟨i,hi',c,_⟩:=p.least f _ _ rfl d n
 rw [show ((0:Nat):Int)=0 from rfl] at c
 rw [←c,z8l,zdw p hi'] at l
 have:i=j:=by omega
 subst this
 exact c.symm
theorem ztj{N:Nat}{a b:Mach}(d:MOk a)(e:MOk b)(c:200≤N):z0x N a b=some (if z3i a=z3i b then(zhn a.rows.length (rch a 0) (rch b 0),true,0) else([],false,0)):=by
 have f:=d.r1
 have g:=d.r2
 have i:=z9l d
 have j:=z9l e
 unfold z0x
 rw [q9 (zd3 d c),q9 (zd3 e c),q9 (zpx c 0),bu (by simp),q9 (z7c d c),q9 (z7c e c)]
 rw [q9 (show z0p N a (ry (rch a 0))=some (z3i a) from by rw [←zbi];exact zds d (z2a i) c)]
 rw [q9 (show z0p N b (ry (rch b 0))=some (z3i b) from by rw [←zbi];exact zds e (z2a j) c)]
 rw [q9 (ziy (za1 d).small (za1 e).small c),zin (za1 d)]
 by_cases h:z3i a=z3i b
 ·rw [if_pos h]
  obtain⟨_,k,_⟩:=zal d e h
  refine(cf (by rw [decide_eq_true h];rfl)).trans ?_
  rw [q9 (znn c f (by omega)),q9 (zth c i j g k),q9 zhj]
 ·rw [if_neg h]
  exact ct (by rw [decide_eq_false h];rfl)
end GV
end Go.Proofs.Ytncblcdhmcmkmaa

namespace Go.Proofs.Ytncblcdhmcmkmaa
namespace GV
set_option maxRecDepth 100000
theorem zuk{α β:Type}{e:Option α}{k:α→Option β}{P:α→Prop}{r:Option β}(h: ∃ v,e=some v∧P v)(a: ∀ v,P v→k v=r):bd e k=r:=by
 obtain⟨v,b,c⟩:=h
 rw [q9 b];exact a v c
theorem zs9{m:Mach}(b:m.rows.length≤64):u6 2000 m 2000 [] 0=some (ow (List.range m.rows.length)):=by
 refine xw (σ:=List Int) (fun F k st=>u6 2000 m F st (k:Int)) m.rows.length (fun k st=>st=ow (List.range k)) _ (fun F k st c a=>?_) (fun F st a=>?_) 2000 0 _ (Nat.zero_le _) (by omega) rfl
 ·subst a
  right
  refine⟨_,rfl,?_⟩
  simp only [u6]
  have d:(ow (List.range k)).length=k:=by rw [iw,List.length_range]
  rw [mo (by omega),zh ⟨by simp only [List.length_singleton];omega,by simp only [List.length_singleton];omega⟩,zh (qm (by omega)),zdc];rfl
 ·subst a
  simp only [u6]
  rw [bu (by omega)]
theorem zrk{a c:Mach}(m:MOk a)(e:MOk c)(q:a.rows.length≤6)(h:z3i a=z3i c):
 kz 2000 (c.inputs,c.outputs,c.rows) (zhn a.rows.length (rch a 0) (rch c 0),true,0) (uy a.rows.length (rch a 0),xm a.rows.length (rch a 0)) 2000 0=some (.go ()):=by
 have d:=z9l m
 obtain⟨hi,r,haft⟩:=zal m e h
 have o:=e.r1
 generalize rch a 0=P at*
 generalize rch c 0=Q at*
 refine xw (σ:=Unit) (fun F k _=>kz 2000 (c.inputs,c.outputs,c.rows) (zhn a.rows.length P Q,true,0) (uy a.rows.length P,xm a.rows.length P) F (k:Int)) a.rows.length (fun _ _=>True) _ (fun F k _ b _=>?_) (fun F _ _=>?_) 2000 0 () (Nat.zero_le _) (by omega) trivial
 ·right
  refine⟨(),trivial,?_⟩
  have hwix:ix (uy a.rows.length P) (k:Int)=wdOf P k:=by rw [gu,eu b]
  have hixs:ix (xm a.rows.length P) (k:Int)=occ P k:=by rw [gu,z0n b]
  have f:ix (zhn a.rows.length P Q) (k:Int)=zpb P Q k:=by rw [gu,zou b]
  simp only [kz,hwix,hixs,f,z5e]
  rw [mo (by rw [zcd];omega)]
  refine(q9 (x:=zpb P Q k) ?_).trans ?_
  ·rw [zh (qo (by rw [ou];exact b))]
   unfold zpb
   cases ho:occ P k
   ·rw [cf rfl,if_neg (by decide)]
   ·rw [ct rfl,zh (qo (by rw [uu];exact b)),if_pos rfl]
    obtain⟨j,g,i,l⟩:=zbu d ho
    have hwok:=d.wok j g
    have p:=d.le
    have:=zdy (N:=2000) e 2000 0 (wdOf P k) (.inr ⟨by omega,by omega⟩) (by rw [l,←hi];exact hwok.1) (by rw [l];omega)
    rw [q9 this]
    have n:=haft j g
    rw [←l] at n
    rw [n,←i,zdw d g]
  ·rw [zh (qo (by rw [zcd];exact b)),bu (by simp)]
   exact zh (qm (by omega))
 ·simp only [kz]
  rw [bu (by rw [zcd];omega)]
theorem zez{x y:MDat}{sw:Int×Int}(n:MDOk x)(o:MDOk y)(B:0≤sw.1∧sw.1≤255)(E:0≤sw.2∧sw.2≤255):o5 2000 x y sw=some true:=by
 have d:=zci n
 obtain⟨m,p⟩:=zfv n
 have F:=zci o
 obtain⟨G,H⟩:=zfv o
 unfold o5
 rw [q9 (zcs n (by decide)),q9 (zcs o (by decide))]
 simp only [z5e]
 generalize mOf x=a at*
 generalize mOf y=b at*
 have q:=d.r1
 have r:=d.r2
 refine zuk (P:=fun v=> ∃ c:Mach,v=(c.inputs,c.outputs,c.rows)∧MOk c∧c.rows.length≤6∧c.inputs≤3) ?_ ?_
 ·rw [zh ⟨B.1,by omega⟩]
  by_cases hc:sw.1%2=0∧1<a.rows.length
  ·obtain⟨s,I⟩:=hc
   have J:=Int.emod_nonneg sw.1 (show (a.rows.length:Int)-1≠0 by omega)
   have K:=Int.emod_lt_of_pos sw.1 (show (0:Int)<(a.rows.length:Int)-1 by omega)
   have L:=Int.emod_nonneg sw.2 (show (a.rows.length:Int)-1≠0 by omega)
   have M:=Int.emod_lt_of_pos sw.2 (show (0:Int)<(a.rows.length:Int)-1 by omega)
   have hlen:(ow (List.range a.rows.length)).length=a.rows.length:=by rw [iw,List.length_range]
   have e:in64 ((a.rows.length:Int)-1):=qm (by omega)
   have g: ∀ {z:Int},0≤z→okR z ((a.rows.length:Int)-1):=fun h=>⟨h,by omega⟩
   have t:in64 (1+sw.1%((a.rows.length:Int)-1)):=qm (by omega)
   have u:in64 (1+sw.2%((a.rows.length:Int)-1)):=qm (by omega)
   obtain⟨i,w⟩:=Int.eq_ofNat_of_zero_le (show 0≤1+sw.1%((a.rows.length:Int)-1) by omega)
   obtain⟨j,A⟩:=Int.eq_ofNat_of_zero_le (show 0≤1+sw.2%((a.rows.length:Int)-1) by omega)
   have hi1:1≤i∧i<a.rows.length:=by omega
   have k:1≤j∧j<a.rows.length:=by omega
   have C:=zge a.rows.length q
   have D:=zi3 C hi1 k
   have l:=zax d D
   refine⟨((cz a (zaj (List.range a.rows.length) i j)).inputs,(cz a (zaj (List.range a.rows.length) i j)).outputs,(cz a (zaj (List.range a.rows.length) i j)).rows),?_,_,rfl,z9i d l,by rw [zd5,D.len];exact m,p⟩
   refine(ct (by rw [decide_eq_true s,decide_eq_true (by omega)];rfl)).trans ?_
   refine(q9 (zs9 r)).trans ?_
   simp only [hlen]
   rw [zh (qm (by omega)),zh e,zh (g B.1),zh t,zh (qm (by omega)),zh e,zh (g E.1),zh u,w,A]
   have oka:okI (ow (List.range a.rows.length)) (i:Int):=qo (by omega)
   have okb:okI (ow (List.range a.rows.length)) (j:Int):=qo (by omega)
   rw [zh okb,zh oka,zh oka,zh okb,zll C.len hi1.2 k.2,q9 (zc4 (N:=2000) d l (by decide))]
  ·refine⟨(b.inputs,b.outputs,b.rows),cf ?_,b,rfl,F,G,H⟩
   by_cases h:sw.1%2=0
   ·rw [decide_eq_false (show¬(1:Int)<(a.rows.length:Int) by omega),Bool.and_false]
   ·rw [decide_eq_false h];rfl
 ·rintro v ⟨c,rfl,f,O,Q⟩
  simp only [z5e]
  refine(q9 (ztj (N:=2000) d f (by decide))).trans ?_
  refine(q9 (zd0 (N:=2000) d (by decide) m p)).trans ?_
  refine(q9 (zd0 (N:=2000) f (by decide) O Q)).trans ?_
  refine(q9 (zes (N:=2000) (za1 d).small (by decide))).trans ?_
  by_cases h:z3i a=z3i c
  ·simp only [if_pos h,decide_eq_true h]
   refine(cf rfl).trans ?_
   refine(cf rfl).trans ?_
   refine(q9 (z8k (N:=2000) d (by decide) m p)).trans ?_
   refine(cf ?_).trans ?_
   ·rw [zcd,uu];simp
   refine(q9 (zrk d f m h)).trans ?_
   rw [zdl,q9 z5i]
  ·simp only [if_neg h,decide_eq_false h]
   refine(cf rfl).trans ?_
   refine(ct rfl).trans ?_
   exact(zm4 rfl z5i).trans rfl
end GV
end Go.Proofs.Ytncblcdhmcmkmaa

namespace Go.Proofs.Ytncblcdhmcmkmaa
namespace GV
set_option maxRecDepth 100000
section
variable {N : Nat} {m : Mach}
end
end GV
end Go.Proofs.Ytncblcdhmcmkmaa
