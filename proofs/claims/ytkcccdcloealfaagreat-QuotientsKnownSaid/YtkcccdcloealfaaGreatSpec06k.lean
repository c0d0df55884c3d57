
import Derived.Test.YtkcccdcloealfaaGreatPart06
set_option linter.unusedVariables false
set_option linter.unusedSimpArgs false
namespace Go.Proofs.YtkcccdcloealfaaGreat
namespace GV
set_option maxRecDepth 100000
theorem zgg{N:Nat}{m:Mach}(a:Small m)(c:200≤N):xq N m 0 m=some true:=by
 have e:=a.r
 unfold xq
 rw [zby (fun _=>zqi a c)]
 have d:gm N m N 0=some (.go ()):=by
  refine ui (σ:=Unit) (fun F k _=>gm N m F (k:Int)) m.rows.length (fun _ _=>True) _ (fun F k _ b _=>?_) (fun F _ _=>?_) N 0 () (Nat.zero_le _) (by omega) trivial
  ·right
   refine⟨(),trivial,?_⟩
   simp only [gm]
   rw [yf (by omega),zk (qo b),zk (qo b),uw (by simp)]
   exact zk (qy (by omega))
  ·simp only [gm]
   rw [uw (by omega)]
 refine(cf (by simp)).trans ?_
 rw [zx d];rfl
end GV
end Go.Proofs.YtkcccdcloealfaaGreat

namespace Go.Proofs.YtkcccdcloealfaaGreat
namespace GV
set_option maxRecDepth 100000
theorem zr6{m:Mach}(a:MOk m){s0:Nat}: ∀ (g h p:Nat) (All:List BE),Inv m s0 p 0 All→m.rows.length≤p+g→m.rows.length≤p+h→bfs m g p All=bfs m h p All
 |0,h,p,All,hi,b,_=>by
  have:=zfc hi
  rw [zeh (g:=0) (by omega),zeh (g:=h) (by omega)]
 |g+1,0,p,All,hi,_,c=>by
  have:=zfc hi
  rw [zeh (g:=g+1) (by omega),zeh (g:=0) (by omega)]
 |g+1,h+1,p,All,hi,b,c=>by
  show (if p<All.length then _ else _)=(if p<All.length then _ else _)
  by_cases hp:p<All.length
  ·rw [if_pos hp,if_pos hp]
   have hpre:=(z6b m (All.getD p default) All m.inputs.toNat).length_le
   exact zr6 a g h (p+1) _ (zm5 (zgq a hi hp _ (Nat.le_refl _)) (by omega)) (by omega) (by omega)
  ·rw [if_neg hp,if_neg hp]
def ren(L:List Nat)(e:BE):BE:=⟨L.idxOf e.st,pos L e.par,e.inp,e.wd⟩
theorem zut{L:List Nat}{a b:Nat}(c:a∈L)(d:b∈L)(h:L.idxOf a=L.idxOf b):a=b:=by
 have e:=(z88 c).2
 have f:=(z88 d).2
 rw [←e,h,f]
theorem z6k(L:List Nat)(t:Nat):pos L (t:Int)=(L.idxOf t:Int):=by
 unfold pos;rw [if_neg (by omega),Int.toNat_natCast]
theorem zjc{f:Nat→Nat}: ∀ {K:List Nat} {a:Nat},(∀ b∈K,f b=f a→b=a)→(K.map f).idxOf (f a)=K.idxOf a
 | [],a,_=>rfl
 |b::K,a,h=>by
  rw [List.map_cons,List.idxOf_cons,List.idxOf_cons]
  by_cases e:b=a
  ·subst e;simp
  ·have:f b≠f a:=fun d=>e (h b (by simp) d)
   rw [beq_false_of_ne this,beq_false_of_ne e,zjc (K:=K) (a:=a) (fun c g=>h c (by simp [g]))]
section
variable {m : Mach} {L : List Nat}
theorem q39(b:MOk m)(c:ClosedP m L){s i:Nat}(a:s∈L)(hi:i<m.inputs.toNat):ed (z13 m L) (L.idxOf s) i=pos L (ed m s i):=by
 obtain⟨d,e⟩:=z88 a
 show (((z13 m L).rows.getD (L.idxOf s) default).getD i default).to=_
 rw [zad d,e,z9u b (c.rng s a) hi]
theorem q30{All:List BE}(c: ∀ e∈All,e.st∈L){t:Nat}(d:t∈L):occ (All.map (ren L)) (L.idxOf t)=occ All t:=by
 unfold occ
 rw [Bool.eq_iff_iff,List.any_eq_true,List.any_eq_true]
 constructor
 ·rintro⟨e,a,h⟩
  obtain⟨x,b,rfl⟩:=List.mem_map.1 a
  exact⟨x,b,decide_eq_true (zut (c x b) d (of_decide_eq_true h))⟩
 ·rintro⟨e,a,h⟩
  exact⟨ren L e,List.mem_map.2 ⟨e,a,rfl⟩,decide_eq_true (congrArg L.idxOf (of_decide_eq_true h))⟩
theorem zzy(j:MOk m)(f:ClosedP m L){x:BE}{All:List BE}(d: ∀ e∈All,e.st∈L)(g:x.st∈L){i:Nat}(hi:i<m.inputs.toNat):
 push (z13 m L) (ren L x) (All.map (ren L)) i=(push m x All i).map (ren L)∧ ∀ e∈push m x All i,e.st∈L:=by
 have a:ed (z13 m L) (ren L x).st i=pos L (ed m x.st i):=q39 j f g hi
 unfold push
 rw [a]
 rcases z4r j (f.rng _ g) hi with h|⟨l,n⟩
 ·rw [h,if_pos (show pos L (-1)= -1 from rfl),if_pos (show (-1:Int)= -1 from rfl)]
  exact⟨rfl,d⟩
 ·have b:ed m x.st i≠ -1:=by omega
  have c:=f.cl _ g i hi b
  have k:pos L (ed m x.st i)=((L.idxOf (ed m x.st i).toNat:Nat):Int):=by unfold pos;rw [if_neg b]
  rw [k,if_neg (show¬((L.idxOf (ed m x.st i).toNat:Nat):Int)= -1 by omega),if_neg b,Int.toNat_natCast,q30 d c]
  by_cases ho:occ All (ed m x.st i).toNat=true
  ·rw [if_pos ho,if_pos ho];exact⟨rfl,d⟩
  ·rw [if_neg ho,if_neg ho]
   refine⟨?_,fun e a=>?_⟩
   ·rw [List.map_append]
    congr 1
   ·rcases List.mem_append.1 a with a|a
    ·exact d e a
    ·rw [List.mem_singleton.1 a];exact c
theorem zjk(a:MOk m)(b:ClosedP m L){x:BE}{All:List BE}(c: ∀ e∈All,e.st∈L)(d:x.st∈L): ∀ k,k≤m.inputs.toNat→
 lh (z13 m L) (ren L x) (All.map (ren L)) k=(lh m x All k).map (ren L)∧ ∀ e∈lh m x All k,e.st∈L
 |0,_=>⟨rfl,c⟩
 |k+1,h=>by
  obtain⟨f,g⟩:=zjk a b c d k (by omega)
  show push (z13 m L) (ren L x) (lh (z13 m L) (ren L x) (All.map (ren L)) k) k=(push m x (lh m x All k) k).map (ren L)∧ ∀ e∈push m x (lh m x All k) k,e.st∈L
  rw [f]
  exact zzy a b g d (by omega)
theorem zvw(a:MOk m)(b:ClosedP m L): ∀ (g p:Nat) (All:List BE),(∀ e∈All,e.st∈L)→bfs (z13 m L) g p (All.map (ren L))=(bfs m g p All).map (ren L)
 |0,p,All,_=>rfl
 |g+1,p,All,c=>by
  show (if p<(All.map (ren L)).length then bfs (z13 m L) g (p+1) (lh (z13 m L) ((All.map (ren L)).getD p default) (All.map (ren L)) (z13 m L).inputs.toNat) else All.map (ren L))=(if p<All.length then bfs m g (p+1) (lh m (All.getD p default) All m.inputs.toNat) else All).map (ren L)
  rw [List.length_map]
  by_cases hp:p<All.length
  ·rw [if_pos hp,if_pos hp]
   have e:(All.map (ren L)).getD p default=ren L (All.getD p default):=by simp [List.getD_eq_getElem?_getD,hp]
   have d:=c _ (z1t hp)
   obtain⟨f,h⟩:=zjk a b c d m.inputs.toNat (Nat.le_refl _)
   rw [e,show (z13 m L).inputs.toNat=m.inputs.toNat from rfl,f]
   exact zvw a b g (p+1) _ h
  ·rw [if_neg hp,if_neg hp]
theorem ziw:(z13 m L).rows.length=L.length:=by simp [z13]
theorem zpr(b:MOk m)(a:ClosedP m L){s0:Nat}(c:s0∈L):rch (z13 m L) (L.idxOf s0)=(rch m s0).map (ren L):=by
 have d:=ziw (m:=m) (L:=L)
 obtain⟨f,h⟩:=z88 c
 have hlen:=a.len
 have hroot:=zlo (m:=z13 m L) (s0:=L.idxOf s0) (by rw [d];exact f)
 unfold rch
 rw [zr6 (zpy b a) (z13 m L).rows.length m.rows.length 0 _ hroot (by omega) (by omega)]
 exact zvw b a m.rows.length 0 [⟨s0,-1,-1,[]⟩] (fun e g=>by rw [List.mem_singleton.1 g];exact c)
theorem zqb(k:MOk m){K:List Nat}(g:ClosedP m K)(a: ∀ s∈K,s∈L):z13 (z13 m L) (K.map fun s=>L.idxOf s)=z13 m K:=by
 show Mach.mk m.inputs m.outputs ((K.map fun s=>L.idxOf s).map (rowP (z13 m L) (K.map fun s=>L.idxOf s)))=Mach.mk m.inputs m.outputs (K.map (rowP m K))
 congr 1
 rw [List.map_map]
 refine List.map_congr_left fun s d=>?_
 show rowP (z13 m L) (K.map fun s=>L.idxOf s) (L.idxOf s)=rowP m K s
 obtain⟨n,o⟩:=z88 (a s d)
 show ((z13 m L).rows.getD (L.idxOf s) default).map (fun e=>(⟨pos (K.map fun s=>L.idxOf s) e.to,e.out⟩:Edge))=_
 rw [zad n,o]
 unfold rowP
 rw [List.map_map]
 refine List.map_congr_left fun e p=>?_
 show Edge.mk (pos (K.map fun s=>L.idxOf s) (pos L e.to)) e.out=Edge.mk (pos K e.to) e.out
 congr 1
 obtain⟨i,hi,rfl⟩:=List.mem_iff_getElem.1 p
 have hrow:=k.row s (g.rng s d)
 have j:((m.rows.getD s default)[i]).to=ed m s i:=by
  unfold ed
  rw [List.getD_eq_getElem?_getD (l:=m.rows.getD s default),List.getElem?_eq_getElem hi];rfl
 rw [j]
 rcases z4r k (g.rng s d) (show i<m.inputs.toNat by omega) with h|⟨q,u⟩
 ·rw [h];rfl
 ·have c:=g.cl s d i (by omega) (by omega)
  generalize ed m s i=t at*
  obtain⟨t,rfl⟩:=Int.eq_ofNat_of_zero_le q
  rw [Int.toNat_natCast] at c
  rw [z6k,z6k,z6k,zjc (f:=fun s=>L.idxOf s) (fun b r h=>zut (a b r) (a _ c) h)]
end
/-! ### The states in their order-/
def z3s(P:List BE):List Nat:=P.map (·.st)
theorem zm7(P:List BE):z09 (z3s P)=z0m P:=by unfold z09 z3s z0m;rw [List.map_map];rfl
theorem z6x(P:List BE):(z3s P).length=P.length:=by simp [z3s]
theorem z9s(P:List BE){k:Nat}(a:k<P.length):(z3s P).getD k 0=(P.getD k default).st:=by
 simp [z3s,List.getD_eq_getElem?_getD,a]
theorem zf0{P:List BE}{s:Nat}:s∈z3s P↔ ∃ j,j<P.length∧(P.getD j default).st=s:=by
 unfold z3s;rw [List.mem_map]
 constructor
 ·rintro⟨e,b,rfl⟩
  obtain⟨j,a,rfl⟩:=List.mem_iff_getElem.1 b
  exact⟨j,a,by simp [List.getD_eq_getElem?_getD,a]⟩
 ·rintro⟨j,a,rfl⟩;exact⟨_,z1t a,rfl⟩
section
variable {m : Mach} {s0 : Nat} {P : List BE}
theorem zny(b:Rch m s0 P):(z3s P).Nodup:=by
 unfold z3s
 rw [List.nodup_iff_pairwise_ne,List.pairwise_iff_getElem]
 intro i j hi a c e
 rw [List.length_map] at hi a
 rw [List.getElem_map,List.getElem_map] at e
 have:=b.dis i j hi a (by simpa [List.getD_eq_getElem?_getD,a,hi] using e)
 omega
theorem z2v(a:Rch m s0 P):ClosedP m (z3s P):=by
 refine⟨fun s b=>?_,zny a,fun s b i hi c=>?_,fun e=>?_⟩
 ·obtain⟨j,d,rfl⟩:=zf0.1 b
  exact a.rng j d
 ·obtain⟨q,g,rfl⟩:=zf0.1 b
  obtain⟨j,d,h,_⟩:=a.cls q i g hi c
  exact zf0.2 ⟨j,d,by omega⟩
 ·have f:=z6x P
  rw [e] at f
  have:=a.pos
  simp at f;omega
theorem zep(a:Rch m s0 P):s0∈z3s P∧(z3s P).idxOf s0=0:=by
 have b:(z3s P).getD 0 0=s0:=by rw [z9s P a.pos,a.root]
 have:=z5f (zny a) (show 0<(z3s P).length by rw [z6x];exact a.pos)
 rw [b] at this
 exact⟨zf0.2 ⟨0,a.pos,by rw [a.root]⟩,this⟩
end
def z8n(m:Mach):Mach:=z13 m (z3s (rch m 0))
section
variable {m : Mach} {L : List Nat}
theorem z7g(a:MOk m):Rch m 0 (rch m 0):=zge a (by have:=a.r1;omega)
theorem zk5(a:MOk m):MOk (z8n m):=zpy a (z2v (z7g a))
theorem zx2(a:MOk m)(b:ClosedP m L)(c:0∈L)(d:L.idxOf 0=0)(hsub: ∀ s∈z3s (rch m 0),s∈L):z8n (z13 m L)=z8n m:=by
 have:=zpr a b c
 rw [d] at this
 unfold z8n
 rw [this]
 have e:z3s ((rch m 0).map (ren L))=(z3s (rch m 0)).map fun s=>L.idxOf s:=by unfold z3s;rw [List.map_map,List.map_map];rfl
 rw [e]
 exact zqb a (z2v (z7g a)) hsub
theorem zwk(a:MOk m):z8n (z8n m)=z8n m:=by
 obtain⟨b,c⟩:=zep (z7g a)
 exact zx2 a (z2v (z7g a)) b c fun s d=>d
theorem zyu(a:MOk m){w:List Int}(b:WOk m.inputs w):z2x (z8n m) 0 w=z2x m 0 w:=by
 obtain⟨c,d⟩:=zep (z7g a)
 have:=(zhb a (z2v (z7g a)) w (s:=0) (.inr ⟨by decide,c⟩) b).1
 rw [show (0:Int)=((0:Nat):Int) from rfl,z6k,d] at this
 exact this
theorem zqw(a:MOk m){w:List Int}(b:WOk m.inputs w):z0e (z8n m) 0 w=pos (z3s (rch m 0)) (z0e m 0 w):=by
 obtain⟨c,d⟩:=zep (z7g a)
 have:=(zhb a (z2v (z7g a)) w (s:=0) (.inr ⟨by decide,c⟩) b).2
 rw [show (0:Int)=((0:Nat):Int) from rfl,z6k,d] at this
 exact this
theorem q0c{N:Nat}(a:MOk m)(b:200≤N):z4g N m=some (z8n m,0):=by
 unfold z4g
 rw [zx (zbw a b),uw (by simp),zx (zbi a b),zx (show z4w N m (z0m (rch m 0))=some (z8n m) from by rw [←zm7];exact zo2 a (z2v (z7g a)) b)]
theorem zz6{a b:Mach}(c:MOk a):zra a b=decide (a=b):=by
 rw [Bool.eq_iff_iff,zy1,decide_eq_true_eq]
 exact⟨fun h=>h.2,fun h=>⟨c,h⟩⟩
end
end GV
end Go.Proofs.YtkcccdcloealfaaGreat

namespace Go.Proofs.YtkcccdcloealfaaGreat
namespace GV
set_option maxRecDepth 100000
theorem zm1: ∀ {a b:List Int} {k:Nat},k<a.length→k<b.length→a.take k=b.take k→a.getD k default<b.getD k default→z8b a b
 | [],_,_,h,_,_,_=>by simp at h
 |_::_,[],_,_,h,_,_=>by simp at h
 |x::a,y::b,0,_,_,_,h=> .inl h
 |x::a,y::b,k+1,d,e,c,h=>by
  rw [List.take_succ_cons,List.take_succ_cons] at c
  obtain⟨rfl,ht'⟩:=List.cons.inj c
  exact .inr ⟨rfl,zm1 (k:=k) (by simpa using d) (by simpa using e) ht' h⟩
theorem zyb{N:Nat}{a b:List Int}(d:a.length=b.length)(i:a.length<N)(j:a.length≤1000000){r:Ex Unit Int}(e:z8b a b→r=Ex.rt 1)(f:z8b b a→r=Ex.rt 0)(g:a=b→r=Ex.go ()):og N a b N 0=some r:=by
 refine ui (σ:=Unit) (fun F k _=>og N a b F (k:Int)) a.length (fun k _=>a.take k=b.take k) r (fun F k _ c hi=>?_) (fun F _ hi=>?_) N 0 () (Nat.zero_le _) (by omega) rfl
 ·simp only [og]
  have oa:okI a (k:Int):=qo c
  have ob:okI b (k:Int):=qo (by omega)
  rw [yf (by omega),zk oa,zk ob]
  rcases Int.lt_trichotomy (ix a (k:Int)) (ix b (k:Int)) with h|h|h
  ·left
   rw [yf (by omega),zk oa,zk ob,yf h,e (zm1 c (by omega) hi h)]
  ·right
   refine⟨(),?_,?_⟩
   ·rw [z99 a k c,z99 b k (by omega),hi,show a.getD k default=b.getD k default from h]
   ·rw [uw (by omega)];exact zk (qy (by omega))
  ·left
   rw [yf (by omega),zk oa,zk ob,uw (by omega),f (zm1 (by omega) c hi.symm h)]
 ·simp only [og]
  rw [uw (by omega),g (by rw [List.take_length,d,List.take_length] at hi;exact hi)]
theorem q5j{N:Nat}{a b:List Int}(h:llt a b)(c:a.length<N)(d:a.length≤1000000):z0v N a b=some 1:=by
 unfold z0v
 rcases h with h|⟨f,h⟩
 ·rw [yf (by omega),yf (by omega)]
 ·rw [uw (by omega),zx (zyb f c d (r:=Ex.rt 1) (fun _=>rfl) (fun k=>absurd (zbh h k) (z6d _)) (fun e=>by rw [e] at h;exact absurd h (z6d _)))];rfl
theorem q6h{N:Nat}{a b:List Int}(h:llt b a)(c:a.length<N)(d:a.length≤1000000):z0v N a b=some 0:=by
 unfold z0v
 rcases h with h|⟨f,h⟩
 ·rw [yf (by omega),uw (by omega)]
 ·rw [uw (by omega),zx (zyb f.symm c d (r:=Ex.rt 0) (fun k=>absurd (zbh h k) (z6d _)) (fun _=>rfl) (fun e=>by rw [e] at h;exact absurd h (z6d _)))];rfl
def z1e(s:Nat)(P:List BE):List BE:=P.filter fun e=>decide (e.st<s)
theorem zj8{m:Mach}{s0:Nat}{P:List BE}(f:Rch m s0 P){j:Nat}(c:j<P.length):
 z1e ((P.getD j default).st+1) P=z1e (P.getD j default).st (P.take j)++P.getD j default::z1e (P.getD j default).st (P.drop (j+1))∧
 z1e (P.getD j default).st P=z1e (P.getD j default).st (P.take j)++z1e (P.getD j default).st (P.drop (j+1)):=by
 have d:P=P.take j++P.getD j default::P.drop (j+1):=by rw [←z92 P j c,List.take_append_drop]
 have key: ∀ i,i<P.length→i≠j→decide ((P.getD i default).st<(P.getD j default).st+1)=decide ((P.getD i default).st<(P.getD j default).st):=fun i hi a=>by
  have:(P.getD i default).st≠(P.getD j default).st:=fun e=>a (f.dis i j hi c e)
  rw [decide_eq_decide];omega
 generalize hx:P.getD j default=x at*
 have g:z1e (x.st+1) (P.take j)=z1e x.st (P.take j):=by
  refine List.filter_congr fun e b=>?_
  obtain⟨i,hi,rfl⟩:=List.mem_iff_getElem.1 b
  rw [List.length_take] at hi
  have:=key i (by omega) (by omega)
  rw [List.getElem_take]
  rwa [show P.getD i default=P[i]'(by omega) by simp [List.getD_eq_getElem?_getD,show i<P.length by omega]] at this
 have h:z1e (x.st+1) (P.drop (j+1))=z1e x.st (P.drop (j+1)):=by
  refine List.filter_congr fun e b=>?_
  obtain⟨i,hi,rfl⟩:=List.mem_iff_getElem.1 b
  rw [List.length_drop] at hi
  have:=key (j+1+i) (by omega) (by omega)
  rw [List.getElem_drop]
  rwa [show P.getD (j+1+i) default=P[j+1+i]'(by omega) by simp [List.getD_eq_getElem?_getD,show j+1+i<P.length by omega]] at this
 constructor
 ·conv=>lhs;rw [d]
  unfold z1e at*
  rw [List.filter_append,List.filter_cons,if_pos (decide_eq_true (by omega)),g,h]
 ·conv=>lhs;rw [d]
  unfold z1e
  rw [List.filter_append,List.filter_cons,if_neg (by simp)]
theorem zte{P:List BE}{s:Nat}(h:occ P s=false):z1e (s+1) P=z1e s P:=by
 refine List.filter_congr fun e b=>?_
 have:e.st≠s:=fun a=>by
  have:occ P s=true:=List.any_eq_true.2 ⟨e,b,decide_eq_true a⟩
  rw [h] at this;cases this
 rw [decide_eq_decide];omega
theorem zxd{m:Mach}{s0:Nat}{P:List BE}(a:Rch m s0 P):z1e m.rows.length P=P:=by
 unfold z1e
 rw [List.filter_eq_self]
 intro e b
 obtain⟨i,hi,rfl⟩:=List.mem_iff_getElem.1 b
 have:=a.rng i hi
 rw [show P.getD i default=P[i] by simp [List.getD_eq_getElem?_getD,hi]] at this
 exact decide_eq_true this
theorem zni{m:Mach}{s0:Nat}{P:List BE}(a:Rch m s0 P)(s:Nat):(z0m (z1e s P)).length≤P.length:=by
 unfold z0m z1e;rw [List.length_map];exact List.length_filter_le _ _
theorem zjj(X Y:List BE):z0m (X++Y)=z0m X++z0m Y:=by simp [z0m]
theorem zzl{N:Nat}{m:Mach}(z:200≤N){s0:Nat}{P:List BE}(a:Rch m s0 P)(v:m.rows.length≤64){j:Nat}(q:j<P.length):
 nu N (z1f m.rows.length P,z0l m.rows.length P) (z0m (z1e (P.getD j default).st P)) ((P.getD j default).st:Int) N 0=some ((z1e (P.getD j default).st (P.take j)).length:Int):=by
 obtain⟨_,r⟩:=zj8 a q
 have w:=a.le
 have l:=a.rng j q
 have x: ∀ e∈z1e (P.getD j default).st (P.take j),∃ i,i<j∧e=P.getD i default:=fun e c=>by
  obtain⟨i,hi,rfl⟩:=List.mem_iff_getElem.1 (List.mem_filter.1 c).1
  rw [List.length_take] at hi
  exact⟨i,by omega,by rw [List.getElem_take];simp [List.getD_eq_getElem?_getD,show i<P.length by omega]⟩
 have y: ∀ e∈z1e (P.getD j default).st (P.drop (j+1)),∃ i,j<i∧i<P.length∧e=P.getD i default:=fun e c=>by
  obtain⟨i,hi,rfl⟩:=List.mem_iff_getElem.1 (List.mem_filter.1 c).1
  rw [List.length_drop] at hi
  exact⟨j+1+i,by omega,by omega,by rw [List.getElem_drop];simp [List.getD_eq_getElem?_getD,show j+1+i<P.length by omega]⟩
 have hlen:=zni a (P.getD j default).st
 rw [r] at hlen⊢
 generalize hx:z1e (P.getD j default).st (P.take j)=A at*
 generalize z1e (P.getD j default).st (P.drop (j+1))=B at*
 have n:ix (z1f m.rows.length P) ((P.getD j default).st:Int)=(P.getD j default).wd:=by rw [z0a,z8t l,a.wdOf q]
 have okw:okI (z1f m.rows.length P) ((P.getD j default).st:Int):=qo (by rw [z3x];exact l)
 have s:(z0m (A++B)).length=A.length+B.length:=by simp [z0m]
 have hget: ∀ k,k<A.length+B.length→ix (z0m (A++B)) (k:Int)=(((A++B).getD k default).st:Int):=fun k o=>by
  have hk':k<(A++B).length:=by rw [List.length_append];exact o
  rw [z0a]
  unfold z0m
  rw [List.getD_eq_getElem?_getD,List.getElem?_map,List.getD_eq_getElem?_getD,List.getElem?_eq_getElem hk'];rfl
 refine ui (σ:=Unit) (fun F k _=>nu N (z1f m.rows.length P,z0l m.rows.length P) (z0m (A++B)) ((P.getD j default).st:Int) F (k:Int)) A.length (fun _ _=>True) _ (fun F k _ o _=>?_) (fun F _ _=>?_) N 0 () (Nat.zero_le _) (by omega) trivial
 ·right
  refine⟨(),trivial,?_⟩
  simp only [nu,hget k (by omega),n]
  have c:(A++B).getD k default∈A:=by
   have:(A++B).getD k default=A[k]:=by simp [List.getD_eq_getElem?_getD,List.getElem?_append_left o,o]
   rw [this];exact List.getElem_mem o
  obtain⟨i,d,f⟩:=x _ c
  rw [f]
  have b:=a.rng i (by omega)
  have g:ix (z1f m.rows.length P) ((P.getD i default).st:Int)=(P.getD i default).wd:=by rw [z0a,z8t b,a.wdOf (by omega)]
  have t:=(a.wok i (by omega)).2
  rw [g,zk (fun _=>qo (by omega)),zk (fun _=>qo (by rw [z3x];exact b)),zk (fun _=>okw),zby (fun _=>q5j (N:=N) (a.inc i j d q) (by omega) (by omega))]
  have p:decide ((k:Int)<((z0m (A++B)).length:Int))=true:=decide_eq_true (by omega)
  refine(ct (by rw [p];rfl)).trans ?_
  exact zk (qy (by omega))
 ·simp only [nu]
  by_cases hb:0<B.length
  ·have p:decide ((A.length:Int)<((z0m (A++B)).length:Int))=true:=decide_eq_true (by omega)
   simp only [hget A.length (by omega),n]
   have c:(A++B).getD A.length default∈B:=by
    have:(A++B).getD A.length default=B[0]:=by simp [List.getD_eq_getElem?_getD,hb]
    rw [this];exact List.getElem_mem hb
   obtain⟨i,d,u,f⟩:=y _ c
   rw [f]
   have b:=a.rng i (by omega)
   have g:ix (z1f m.rows.length P) ((P.getD i default).st:Int)=(P.getD i default).wd:=by rw [z0a,z8t b,a.wdOf (by omega)]
   have t:=(a.wok i (by omega)).2
   rw [g,zk (fun _=>qo (by omega)),zk (fun _=>qo (by rw [z3x];exact b)),zk (fun _=>okw),zby (fun _=>q6h (N:=N) (a.inc j i d u) (by omega) (by omega))]
   exact cf (by rw [p];rfl)
  ·have p:decide ((A.length:Int)<((z0m (A++B)).length:Int))=false:=decide_eq_false (by omega)
   rw [p,zk (fun h=>by simp at h),zk (fun h=>by simp at h),zk (fun h=>by simp at h),zvd (by rfl)]
   rfl
theorem zwp{N:Nat}{m:Mach}(e:MOk m)(o:400≤N)(p:m.rows.length≤6)(q:m.inputs≤3):z3e N m=some (z0m (rch m 0)):=by
 have c:=z7g e
 have g:=e.r2
 unfold z3e
 rw [zx (zso e o p q)]
 generalize rch m 0=P at*
 have r:=c.le
 have s:ny N (z1f m.rows.length P,z0l m.rows.length P) N [] 0=some (z0m P):=by
  refine ui (σ:=List Int) (fun F k st=>ny N (z1f m.rows.length P,z0l m.rows.length P) F st (k:Int)) m.rows.length (fun k st=>st=z0m (z1e k P)) _ (fun F k st i a=>?_) (fun F st a=>?_) N 0 _ (Nat.zero_le _) (by omega) (by unfold z1e z0m;simp)
  ·subst a
   right
   refine⟨_,rfl,?_⟩
   have hixs:ix (z0l m.rows.length P) (k:Int)=occ P k:=by rw [z0a,z7r i]
   simp only [ny,hixs]
   rw [yf (by rw [z3x];omega)]
   refine(zx (x:=z0m (z1e (k+1) P)) ?_).trans (zk (qy (by omega)))
   rw [zk (qo (by rw [z2o];exact i))]
   cases ho:occ P k
   ·rw [ct (b:= !false) rfl,zte ho]
   ·rw [cf (b:= !true) rfl]
    obtain⟨j,l,rfl⟩:=z1m.1 ho
    obtain⟨n,h⟩:=zj8 c l
    have hlen:=zni c (P.getD j default).st
    rw [zx (zzl (by omega) c g l),n,h]
    rw [h] at hlen
    generalize z1e (P.getD j default).st (P.take j)=A at*
    generalize z1e (P.getD j default).st (P.drop (j+1))=B at*
    have d:(z0m A).length=A.length:=by simp [z0m]
    have t:(z0m B).length=B.length:=by simp [z0m]
    rw [zjj] at hlen⊢
    rw [List.length_append] at hlen
    have u:cut (z0m A++z0m B) 0 (A.length:Int)=z0m A:=by rw [q0w,←d,List.take_left]
    have v:cut (z0m A++z0m B) (A.length:Int) ((z0m A++z0m B).length:Int)=z0m B:=by
     unfold cut
     rw [Int.toNat_natCast,Int.toNat_natCast,←d,List.drop_left,List.take_of_length_le (by rw [List.length_append];omega)]
    have f: ∀ {X Y:List Int},X.length≤1000→Y.length≤1000→fits 8 X Y:=fun n h=>⟨by omega,by omega⟩
    have la:(z0m A++z0m B).length=A.length+B.length:=by rw [List.length_append];omega
    rw [zk ⟨by omega,by omega,by omega⟩,u,zk (f (by simp) (by omega)),List.nil_append,zk (f (by omega) (by simp)),zk ⟨by omega,by omega,by omega⟩,v,zk (f (by rw [List.length_append];simp;omega) (by omega))]
    rw [zjj,List.append_assoc];rfl
  ·subst a
   simp only [ny]
   rw [uw (by rw [z3x];omega),zxd c]
 rw [zx s]
end GV
end Go.Proofs.YtkcccdcloealfaaGreat

namespace Go.Proofs.YtkcccdcloealfaaGreat
namespace GV
set_option maxRecDepth 100000
structure Num (n:Nat) (L:List Nat):Prop where
 len:L.length=n
 rng: ∀ k,k<n→L.getD k 0<n
 inj: ∀ i j,i<n→j<n→L.getD i 0=L.getD j 0→i=j
 sur: ∀ s,s<n→ ∃ k,k<n∧L.getD k 0=s
 zero:L.getD 0 0=0
def tr(a b k:Nat):Nat:=if k=b then a else if k=a then b else k
section
variable {m : Mach} {L : List Nat}
end
theorem zbd{α β:Type}{b:Bool}{e:Option α}{v:α}{k:Option α→Option β}(a:b=true)(c:e=some v):bd (gop b e) k=k (some v):=by
 rw [zby (fun _=>c),a];rfl
end GV
end Go.Proofs.YtkcccdcloealfaaGreat

namespace Go.Proofs.YtkcccdcloealfaaGreat
namespace GV
set_option maxRecDepth 100000
theorem zkd{N:Nat}(a:200≤N)(e:Int):z3p N [0,e]=some e:=by
 unfold z3p
 obtain⟨M,rfl⟩: ∃ M,N=M+3:=⟨N-3,by omega⟩
 by_cases h:e=0
 ·subst h
  have:iq (M+3) [0,0] (M+3) 0=some (Ex.go ()):=by
   simp only [iq]
   rw [yf (by simp),zk ⟨by simp,by simp⟩,uw (by simp [ix]),zk (qy (by simp)),yf (by simp),zk ⟨by simp,by simp⟩,uw (by simp [ix]),zk (qy (by simp)),uw (by simp)]
  rw [zx this];rfl
 ·have:iq (M+3) [0,e] (M+3) 0=some (Ex.rt e):=by
   simp only [iq]
   rw [yf (by simp),zk ⟨by simp,by simp⟩,uw (by simp [ix]),zk (qy (by simp)),yf (by simp),zk ⟨by simp,by simp⟩,yf (by simpa [ix] using h)]
   simp [ix]
  rw [zx this];rfl
theorem wrap_u64{n:Int}(a:0≤n)(h:n<18446744073709551616):IntKind.u64.wrap n=n:=by
 simp only [IntKind.wrap,IntKind.signed,IntKind.bits,Bool.false_and]
 exact Int.emod_eq_of_lt a h
def zk9(n k:Nat):List Int:=List.replicate k (-1)++List.replicate (n-k) 0
theorem q1t{n k j:Nat}(b:k≤n)(c:j≤k)(a:j≤n-k):z8o (zk9 n k) k (List.replicate j (-1))=zk9 n (k+j):=by
 unfold z8o zk9
 rw [List.length_replicate,List.take_left' (by simp),←List.drop_drop,List.drop_left' (by simp),List.drop_replicate,List.replicate_append_replicate,Nat.sub_sub]
theorem zzw{n k j:Nat}(a:j≤k):(zk9 n k).take j=List.replicate j (-1):=by
 unfold zk9
 rw [List.take_append_of_le_length (by simpa using a),List.take_replicate,Nat.min_eq_left a]
theorem zoo{n k:Nat}(a:k≤n):(zk9 n k).length=n:=by unfold zk9;simp;omega
theorem q0k{N:Nat}{n:Nat}(b:n≤1000): ∀ (F k:Nat),1≤k→k≤n→n-k<F→aj N F (k:Int) (zk9 n k)=some (List.replicate n (-1))
 |0,k,_,_,h=>by omega
 |F+1,k,c,a,h=>by
  simp only [aj,zoo a]
  by_cases hk:k<n
  ·rw [yf (by omega),zk ⟨by omega,by omega,by rw [zoo a];omega⟩,zk ⟨by omega,by omega,by rw [zoo a];omega⟩]
   simp only [Int.toNat_natCast,Nat.sub_zero,List.drop_zero]
   rw [zk (qy (by omega)),zzw (Nat.min_le_left _ _),q1t a (Nat.min_le_left _ _) (Nat.min_le_right _ _)]
   have:(k:Int)+((min k (n-k):Nat):Int)=((k+min k (n-k):Nat):Int):=by omega
   rw [this]
   exact q0k b F _ (by omega) (by omega) (by omega)
  ·rw [uw (by omega)]
   have:k=n:=by omega
   subst this
   unfold zk9
   rw [Nat.sub_self,List.replicate_zero,List.append_nil]
theorem zn9{N:Nat}(f:200≤N){n:Nat}(b:1≤n)(g:n≤100):z1j N [-1] (n:Int)=some (List.replicate n (-1)):=by
 unfold z1j
 have c:z6w N (IntKind.u64.wrap (([-1]:List Int).length:Int)) (IntKind.u64.wrap (n:Int))=some (0,(n:Int)):=by
  rw [wrap_u64 (by simp) (by simp),wrap_u64 (by omega) (by omega)]
  unfold z6w
  rw [zk ⟨⟨by simp,by simp⟩,by omega,by omega⟩]
  congr 1
  have:(([-1]:List Int).length:Int)=1:=rfl
  rw [this,Int.one_mul,Int.ediv_eq_zero_of_lt (by omega) (by omega),Int.emod_eq_of_lt (by omega) (by omega)]
 rw [uw (by omega),zx c]
 refine(cf ?_).trans ?_
 ·show (decide ((0:Int)<0)||decide ((9223372036854775807:Int)<(n:Int)))=false
  rw [decide_eq_false (show¬(9223372036854775807:Int)<(n:Int) by omega)];rfl
 have d:(mk (n:Int) (0:Int)).length=n:=by rw [z8x,List.length_replicate]
 have hmin:min ([-1]:List Int).length (mk (n:Int) (0:Int)).length=1:=by rw [d];simp;omega
 show gd (in64 (n:Int)) (gd (okM 8 (n:Int)) (bd (aj N N _ _) fun a=>some a))=_
 rw [zk (qy (by omega)),zk ⟨by omega,by omega,by omega⟩,hmin]
 have e:z8o (mk (n:Int) (0:Int)) 0 (([-1]:List Int).take 1)=zk9 n 1:=by
  unfold z8o zk9
  rw [z8x,List.take_zero,List.nil_append]
  simp [List.drop_replicate]
 rw [e,zx (q0k (by omega) N 1 (by omega) b (by omega))]
def q3g(P Q:List BE)(s:Nat):Int:=if occ P s=true then((Q.getD ((z3s P).idxOf s) default).st:Int) else-1
def zmd(n:Nat)(P Q:List BE):List Int:=(List.range n).map (q3g P Q)
theorem zzp(n:Nat)(P Q:List BE):(zmd n P Q).length=n:=by simp [zmd]
theorem q0q{n s:Nat}{P Q:List BE}(h:s<n):(zmd n P Q).getD s default=q3g P Q s:=by simp [zmd,List.getD_eq_getElem?_getD,h]
theorem zel{P:List BE}{k:Nat}(a:k<P.length):ix (z0m P) (k:Int)=((P.getD k default).st:Int):=by
 rw [z0a];unfold z0m
 rw [List.getD_eq_getElem?_getD,List.getElem?_map,List.getD_eq_getElem?_getD,List.getElem?_eq_getElem a];rfl
theorem zed(P:List BE):(z0m P).length=P.length:=by simp [z0m]
theorem zpq{m:Mach}{s0:Nat}{P:List BE}(b:Rch m s0 P){j:Nat}(a:j<P.length):(z3s P).idxOf (P.getD j default).st=j:=by
 have:=z5f (zny b) (show j<(z3s P).length by rw [z6x];exact a)
 rwa [z9s P a] at this
theorem q4x{N:Nat}{a b:Mach}(i:200≤N){P Q:List BE}(g:Rch a 0 P)(j:Rch b 0 Q)(l:a.rows.length≤64)(m:P.length=Q.length):
 si N (z0m P) (z0m Q) N 0 (List.replicate a.rows.length (-1))=some (zmd a.rows.length P Q):=by
 have h:=g.le
 refine ui (σ:=List Int) (fun F k st=>si N (z0m P) (z0m Q) F (k:Int) st) P.length
  (fun k st=>st=(List.range a.rows.length).map fun s=>if occ (P.take k) s=true then((Q.getD ((z3s P).idxOf s) default).st:Int) else-1) _ (fun F k st f d=>?_) (fun F st d=>?_) N 0 _ (Nat.zero_le _) (by omega) ?_
 ·subst d
  right
  refine⟨_,rfl,?_⟩
  have hrng:=g.rng k f
  simp only [si,zel f,zel (show k<Q.length by omega)]
  rw [yf (by rw [zed];omega),zk (qo (by rw [zed];omega)),zk (qo (by rw [zed];omega)),zk (qo (by simpa using hrng)),zk (qy (by omega))]
  rw [z7h]
  congr 1
  refine z0d (by simp) fun s c=>?_
  rw [List.length_set,List.length_map,List.length_range] at c
  rw [ae _ c,List.getD_eq_getElem?_getD,List.getElem?_set]
  rw [zau P k f,zrv]
  by_cases e:(P.getD k default).st=s
  ·subst e
   rw [if_pos rfl,if_pos (by simpa using c),decide_eq_true (rfl),Bool.or_true,if_pos rfl,zpq g f];rfl
  ·rw [if_neg e,←List.getD_eq_getElem?_getD,ae _ c,decide_eq_false e,Bool.or_false]
 ·subst d
  simp only [si]
  rw [uw (by rw [zed];omega),List.take_length];rfl
 ·refine z0d (by simp) fun s c=>?_
  rw [List.length_replicate] at c
  rw [ae _ c]
  simp [List.getD_eq_getElem?_getD,c,occ]
theorem zmh{a b:Mach}(o:MOk a)(f:MOk b)(h:z8n a=z8n b):a.inputs=b.inputs∧(rch a 0).length=(rch b 0).length∧ ∀ j,j<(rch a 0).length→z0e b 0 ((rch a 0).getD j default).wd=(((rch b 0).getD j default).st:Int):=by
 have hi:a.inputs=b.inputs:=(zjy.1 h).1
 have g:=z7g o
 have p:=z7g f
 have r:(rch a 0).length=(rch b 0).length:=by
  have:=congrArg (fun m:Mach=>m.rows.length) h
  simp only [z8n,ziw,z6x] at this
  exact this
 refine⟨hi,r,fun j k=>?_⟩
 have q:=(g.wok j k).1
 have d:WOk b.inputs ((rch a 0).getD j default).wd:=hi▸q
 have l:=zqw o q
 have haft:z0e a 0 ((rch a 0).getD j default).wd=(((rch a 0).getD j default).st:Int):=g.aft j k
 rw [haft,z6k,zpq g k,h,zqw f d] at l
 have n:z0e b 0 ((rch a 0).getD j default).wd≠ -1:=fun e=>by
  rw [e] at l
  have:pos (z3s (rch b 0)) (-1)= -1:=rfl
  omega
 obtain⟨i,hi',c,_⟩:=p.least f _ _ rfl d n
 rw [show ((0:Nat):Int)=0 from rfl] at c
 rw [←c,z6k,zpq p hi'] at l
 have:i=j:=by omega
 subst this
 exact c.symm
theorem q6a{N:Nat}{a b:Mach}(d:MOk a)(e:MOk b)(c:200≤N):z3m N a b=some (if z8n a=z8n b then(zmd a.rows.length (rch a 0) (rch b 0),true,0) else([],false,0)):=by
 have f:=d.r1
 have g:=d.r2
 have i:=z7g d
 have j:=z7g e
 unfold z3m
 rw [zx (zbw d c),zx (zbw e c),zx (zkd c 0),uw (by simp),zx (zbi d c),zx (zbi e c)]
 rw [zx (show z4w N a (z0m (rch a 0))=some (z8n a) from by rw [←zm7];exact zo2 d (z2v i) c)]
 rw [zx (show z4w N b (z0m (rch b 0))=some (z8n b) from by rw [←zm7];exact zo2 e (z2v j) c)]
 rw [zx (zz9 (zk5 d).small (zk5 e).small c),zz6 (zk5 d)]
 by_cases h:z8n a=z8n b
 ·rw [if_pos h]
  obtain⟨_,k,_⟩:=zmh d e h
  refine(cf (by rw [decide_eq_true h];rfl)).trans ?_
  rw [zx (zn9 c f (by omega)),zx (q4x c i j g k),zx zp8]
 ·rw [if_neg h]
  exact ct (by rw [decide_eq_false h];rfl)
end GV
end Go.Proofs.YtkcccdcloealfaaGreat

namespace Go.Proofs.YtkcccdcloealfaaGreat
namespace GV
set_option maxRecDepth 100000
end GV
end Go.Proofs.YtkcccdcloealfaaGreat

namespace Go.Proofs.YtkcccdcloealfaaGreat
namespace GV
set_option maxRecDepth 100000
section
variable {N : Nat} {m : Mach}
end
end GV
end Go.Proofs.YtkcccdcloealfaaGreat
