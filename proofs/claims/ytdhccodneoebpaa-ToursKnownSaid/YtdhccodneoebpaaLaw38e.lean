
import Derived.Test.YtdhccodneoebpaaLaw38o
set_option linter.unusedVariables false
set_option linter.unusedSimpArgs false
set_option linter.unusedSectionVars false
namespace Go.Proofs.Ytdhccodneoebpaa
namespace GV
set_option maxRecDepth 100000
/-! ### Sums-/
theorem z3b{α:Type}(f g:α→Int): ∀ l:List α,(l.map fun x=>f x+g x).sum=(l.map f).sum+(l.map g).sum
 | []=>rfl
 |a::l=>by rw [List.map_cons,List.map_cons,List.map_cons,List.sum_cons,List.sum_cons,List.sum_cons,z3b f g l];omega
theorem gz{α:Type}{f g:α→Int}: ∀ {l:List α},(∀ x∈l,f x=g x)→(l.map f).sum=(l.map g).sum
 | [],_=>rfl
 |a::l,h=>by rw [List.map_cons,List.map_cons,List.sum_cons,List.sum_cons,h a (by simp),gz fun x b=>h x (by simp [b])]
theorem zje{α:Type}{f g:α→Int}: ∀ {l:List α},(∀ x∈l,f x≤g x)→(l.map f).sum≤(l.map g).sum
 | [],_=>Int.le_refl _
 |a::l,h=>by
  rw [List.map_cons,List.map_cons,List.sum_cons,List.sum_cons]
  have:=h a (by simp)
  have:=zje (l:=l) fun x b=>h x (by simp [b])
  omega
theorem z6i{α:Type}{f g:α→Int}{a:α}{d:Int}: ∀ {l:List α},l.Nodup→a∈l→g a=f a+d→(∀ x∈l,x≠a→g x=f x)→(l.map g).sum=(l.map f).sum+d
 | [],_,h,_,_=>by cases h
 |b::l,k,h,j,i=>by
  obtain⟨m,n⟩:=List.nodup_cons.1 k
  rw [List.map_cons,List.map_cons,List.sum_cons,List.sum_cons]
  by_cases e:b=a
  ·subst e
   rw [j,gz (f:=g) (g:=f) fun x c=>i x (by simp [c]) fun e=>m (e▸c)];omega
  ·have o:a∈l:=by rcases List.mem_cons.1 h with h|h;exact absurd h.symm e;exact h
   rw [i b (by simp) e,z6i n o j fun x c=>i x (by simp [c])];omega
theorem zb8{α:Type}{f:α→Int}{B:Int}(b:0≤B): ∀ {l:List α},(∀ x∈l,-B≤f x∧f x≤B)→ -(B*(l.length:Int))≤(l.map f).sum∧(l.map f).sum≤B*(l.length:Int)
 | [],_=>by simp
 |a::l,h=>by
  have d:=h a (by simp)
  have g:=zb8 b (l:=l) fun x c=>h x (by simp [c])
  have e:B*((a::l).length:Int)=B*(l.length:Int)+B:=by
   rw [List.length_cons,Int.natCast_succ,Int.mul_add,Int.mul_one]
  rw [e,List.map_cons,List.sum_cons];omega
theorem z0u{α:Type}: ∀ l:List α,(l.map fun _=>(0:Int)).sum=0
 | []=>rfl
 |a::l=>by rw [List.map_cons,List.sum_cons,z0u l];rfl
theorem z5a{α:Type}{f:α→Int}{l:List α}(h: ∀ x∈l,0≤f x):0≤(l.map f).sum:=by
 have:=zje (f:=fun _=>0) (g:=f) (l:=l) h
 rwa [z0u] at this
theorem zbl{α:Type}{f:α→Int}: ∀ {l:List α},(∀ x∈l,0≤f x)→(∃ x∈l,0<f x)→0<(l.map f).sum
 | [],_,⟨x,b,_⟩=>by cases b
 |a::l,h,⟨x,b,c⟩=>by
  rw [List.map_cons,List.sum_cons]
  have d:=h a (by simp)
  have e:=z5a (l:=l) fun x b=>h x (by simp [b])
  rcases List.mem_cons.1 b with rfl|b
  ·omega
  ·have:=zbl (l:=l) (fun x b=>h x (by simp [b])) ⟨x,b,c⟩;omega
def dl(a b:Nat):Int:=if a=b then 1 else 0
theorem z1a(a:Nat):dl a a=1:=if_pos rfl
theorem z1n{a b:Nat}(h:a≠b):dl a b=0:=if_neg h
theorem za2(a b:Nat):0≤dl a b∧dl a b≤1:=by unfold dl;split<;>omega
def tgE(m:Mach)(e:Int×Int):Nat:=(ed m e.1.toNat e.2.toNat).toNat
def lfE(L:List (List Int))(e:Int×Int):Int:=lf L e.1.toNat e.2.toNat
def w9(m:Mach)(L:List (List Int)):Int:=((qp m).map (lfE L)).sum
def z9e(m:Mach)(L:List (List Int))(v:Nat)(e:Int×Int):Int:=lfE L e*(dl e.1.toNat v-dl (tgE m e) v)
def y8(m:Mach)(L:List (List Int))(v:Nat):Int:=((qp m).map (z9e m L v)).sum
section
variable {N : Nat} {m : Mach} {L : List (List Int)} {s i : Nat}
theorem zr9(g:Shp m L)(d:VE m s i){x:Int}:w9 m (L.set s ((L.getD s default).set i x))=w9 m L+(x-lf L s i):=by
 unfold w9
 refine z6i edges_nd (z4x d) ?_ fun e k f=>?_
 ·show lf _ s i=lf L s i+_
  rw [za9 g d.hs d.hi,if_pos ⟨rfl,rfl⟩];omega
 ·obtain⟨t,j,a,b,c,rfl⟩:=ut.1 k
  show lf _ t j=lf L t j
  rw [za9 g d.hs d.hi,if_neg (fun h=>f (by rw [h.1,h.2]))]
theorem zk1(g:Shp m L)(d:VE m s i){x:Int}(v:Nat):y8 m (L.set s ((L.getD s default).set i x)) v=y8 m L v+(x-lf L s i)*(dl s v-dl (ed m s i).toNat v):=by
 unfold y8
 refine z6i edges_nd (z4x d) ?_ fun e k f=>?_
 ·show lf _ s i*(dl s v-dl (ed m s i).toNat v)=lf L s i*(dl s v-dl (ed m s i).toNat v)+_
  rw [za9 g d.hs d.hi,if_pos ⟨rfl,rfl⟩,←Int.add_mul]
  congr 1;omega
 ·obtain⟨t,j,a,b,c,rfl⟩:=ut.1 k
  show lf _ t j*(dl t v-dl (ed m t j).toNat v)=lf L t j*(dl t v-dl (ed m t j).toNat v)
  rw [za9 g d.hs d.hi,if_neg (fun h=>f (by rw [h.1,h.2]))]
/-! ### newRest-/
def z7y(m:Mach)(t:Nat→Nat→Int)(s:Nat):List Int:=(List.range m.inputs.toNat).map fun i=>if ed m s i= -1 then 0 else t s i
def z1i(m:Mach)(t:Nat→Nat→Int):List (List Int):=(List.range m.rows.length).map (z7y m t)
theorem z90{t:Nat→Nat→Int}:Shp m (z1i m t):=by
 refine⟨by simp [z1i],fun s a=>?_⟩
 unfold z1i
 rw [yf (z7y m t) a];simp [z7y]
theorem zdm{t:Nat→Nat→Int}(a:s<m.rows.length)(hi:i<m.inputs.toNat):lf (z1i m t) s i=if ed m s i= -1 then 0 else t s i:=by
 unfold lf z1i
 rw [yf (z7y m t) a]
 unfold z7y
 rw [yf (fun i=>if ed m s i= -1 then 0 else t s i) hi]
theorem zfe(A:MOk m)(K:200≤N){times:Int→Int→Option Int}{t:Nat→Nat→Int}(C: ∀ s i,VE m s i→times (s:Int) (i:Int)=some (t s i)∧0≤t s i∧t s i≤1000000000):av N m times=some ⟨m,z1i m t,w9 m (z1i m t)⟩:=by
 have P:=A.r2;have hinp:=A.inp
 unfold av
 rw [zu ⟨by omega,by omega,by omega⟩,z07]
 have hsum: ∀ s i,s<m.rows.length→i≤m.inputs.toNat→0≤((wh m s++xn m s i).map (lfE (z1i m t))).sum∧((wh m s++xn m s i).map (lfE (z1i m t))).sum≤1000000000*1040:=by
  intro s i n hi
  have D: ∀ e∈wh m s++xn m s i,0≤lfE (z1i m t) e∧lfE (z1i m t) e≤1000000000:=by
   intro e o
   rcases List.mem_append.1 o with h|h
   ·obtain⟨x,j,a,b,c,rfl⟩:=(z5j s).1 h
    have:=(C x j ⟨by omega,b,c⟩).2
    show 0≤lf _ x j∧lf _ x j≤_
    rw [zdm (by omega) b,if_neg c];exact this
   ·obtain⟨j,L,rfl⟩:=List.mem_map.1 h
    obtain⟨u,p⟩:=List.mem_filter.1 L
    have u:=List.mem_range.1 u
    have p:=of_decide_eq_true p
    have:=(C s j ⟨n,by omega,p⟩).2
    show 0≤lf _ s j∧lf _ s j≤_
    rw [zdm n (by omega),if_neg p];exact this
  have u:=z5a (f:=lfE (z1i m t)) fun e o=>(D e o).1
  have p:=(zb8 (f:=lfE (z1i m t)) (B:=1000000000) (by decide) (fun e o=>⟨by have:=(D e o).1;omega,(D e o).2⟩)).2
  have M:=zdk A (k:=s) (by omega)
  have Q:=z5k (m:=m) (s:=s) (k:=i)
  rw [List.length_append] at p
  omega
 refine Eq.trans (qg (x:=(w9 m (z1i m t),z1i m t)) ?_) rfl
 refine lh (σ:=Int×List (List Int)) (fun F s z=>p9 N m times F (s:Int) z.1 z.2) m.rows.length (fun s z=>z.1=((wh m s).map (lfE (z1i m t))).sum∧z.2=(List.range s).map (z7y m t)++List.replicate (m.rows.length-s) []) _ (fun F s z n v=> .inr ?_) (fun F z v=>?_) N 0 (0,List.replicate m.rows.length []) (Nat.zero_le _) (by omega) ⟨rfl,by simp⟩
 ·obtain⟨c,X⟩:=z
  obtain⟨rfl,rfl⟩:=v
  have hlen:((List.range s).map (z7y m t)++List.replicate (m.rows.length-s) ([]:List Int)).length=m.rows.length:=by simp;omega
  have J: ∀ r:List Int,(((List.range s).map (z7y m t)++List.replicate (m.rows.length-s) []).set s r).getD s default=r:=fun r=>by
   rw [u6 (by rw [hlen];exact n),if_pos rfl]
  have E:mk m.inputs (0:Int)=List.replicate m.inputs.toNat 0:=rfl
  simp only [p9]
  rw [il (by rw [z07,List.length_replicate];omega),zu ⟨by omega,by omega,by omega⟩,zu (qi (by rw [hlen];exact n)),z6b,show ym N m (s:Int)=some (m,(s:Int)) from rfl,z7j]
  obtain⟨z,v,w,y⟩:=z5c (s:=s) A K n (σ:=Int×List (List Int)) (fun g d=>
   gd (okI d.2 (s:Int))<|
   bd (times (s:Int) g.fA) fun l=>
   gd (okI (ix d.2 (s:Int)) g.fA)<|
   gd (okI (up d.2 (s:Int) (up (ix d.2 (s:Int)) g.fA l)) (s:Int))<|
   gd (okI (ix (up d.2 (s:Int) (up (ix d.2 (s:Int)) g.fA l)) (s:Int)) g.fA)<|
   gd (in64 (d.1+(ix (ix (up d.2 (s:Int) (up (ix d.2 (s:Int)) g.fA l)) (s:Int)) g.fA)))<|
   some (true,(d.1+(ix (ix (up d.2 (s:Int) (up (ix d.2 (s:Int)) g.fA l)) (s:Int)) g.fA),(up d.2 (s:Int) (up (ix d.2 (s:Int)) g.fA l))))) (fun i z=>z.1=((wh m s++xn m s i).map (lfE (z1i m t))).sum∧z.2=((List.range s).map (z7y m t)++List.replicate (m.rows.length-s) []).set s (((List.range i).map fun j=>if ed m s j= -1 then 0 else t s j)++List.replicate (m.inputs.toNat-i) 0)) (s0:=(((wh m s).map (lfE (z1i m t))).sum,up ((List.range s).map (z7y m t)++List.replicate (m.rows.length-s) []) (s:Int) (mk m.inputs (0:Int)))) ⟨by rw [zav,List.append_nil],by rw [mo,E];simp⟩ (by
    rintro i ⟨c,X⟩ hi R ⟨rfl,rfl⟩
    have G:VE m s i:=⟨n,hi,by omega⟩
    obtain⟨u,p,M⟩:=C s i G
    have O:=hsum s (i+1) n (by omega)
    dsimp only
    have q:(((List.range i).map fun j=>if ed m s j= -1 then 0 else t s j)++List.replicate (m.inputs.toNat-i) (0:Int)).length=m.inputs.toNat:=by simp;omega
    have hval:((((List.range i).map fun j=>if ed m s j= -1 then 0 else t s j)++List.replicate (m.inputs.toNat-i) (0:Int)).set i (t s i)).getD i default=t s i:=by
     rw [u6 (by rw [q];exact hi),if_pos rfl]
    have hsucc:((wh m s++xn m s (i+1)).map (lfE (z1i m t))).sum=((wh m s++xn m s i).map (lfE (z1i m t))).sum+t s i:=by
     rw [zai (by omega),←List.append_assoc,List.map_append,List.sum_append]
     congr 1
     show lf (z1i m t) s i+0=_
     rw [zdm n hi,if_neg G.he];omega
    have H:((List.range (i+1)).map fun j=>if ed m s j= -1 then 0 else t s j)=((List.range i).map fun j=>if ed m s j= -1 then 0 else t s j)++[t s i]:=by
     rw [List.range_succ,List.map_append,List.map_cons,if_neg G.he];rfl
    refine⟨(((wh m s++xn m s (i+1)).map (lfE (z1i m t))).sum,((List.range s).map (z7y m t)++List.replicate (m.rows.length-s) []).set s (((List.range (i+1)).map fun j=>if ed m s j= -1 then 0 else t s j)++List.replicate (m.inputs.toNat-(i+1)) 0)),?_,rfl,rfl⟩
    rw [zu (qi (by rw [List.length_set,hlen];exact n)),qg u,uy,J,zu (qi (by rw [q];exact hi)),mo,mo,List.set_set,zu (qi (by rw [List.length_set,hlen];exact n)),uy,J,zu (qi (by rw [List.length_set,q];exact hi)),uy,hval,zu (jh (by rw [←hsucc];omega)),←hsucc,z7t (by simp) hi,H]) (by
    rintro i ⟨c,X⟩ hi o ⟨rfl,rfl⟩
    refine⟨by dsimp only;rw [z9w o],?_⟩
    dsimp only
    congr 1
    rw [List.range_succ,List.map_append,show (List.map (fun j=>if ed m s j= -1 then(0:Int) else t s j) [i])=[0] from by rw [List.map_cons,if_pos o];rfl,List.append_assoc]
    congr 1
    rw [show m.inputs.toNat-i=(m.inputs.toNat-(i+1))+1 by omega,List.replicate_succ];rfl)
  obtain⟨c,X⟩:=z
  dsimp only at w y
  subst w
  subst y
  refine⟨(((wh m (s+1)).map (lfE (z1i m t))).sum,(List.range (s+1)).map (z7y m t)++List.replicate (m.rows.length-(s+1)) []),⟨rfl,rfl⟩,?_⟩
  have I:(((List.range s).map (z7y m t)++List.replicate (m.rows.length-s) ([]:List Int)).set s ((List.range m.inputs.toNat).map fun j=>if ed m s j= -1 then 0 else t s j))=(List.range (s+1)).map (z7y m t)++List.replicate (m.rows.length-(s+1)) []:=by
   rw [List.range_succ,List.map_append]
   exact z7t (by simp) n
  rw [qg v,zu (jh (by omega)),Nat.sub_self,List.replicate_zero,List.append_nil,I];rfl
 ·obtain⟨c,X⟩:=z
  obtain⟨rfl,rfl⟩:=v
  simp only [p9]
  rw [ni (by rw [z07,List.length_replicate];omega),Nat.sub_self,List.replicate_zero,List.append_nil];rfl
/-! ### balance-/
def zjq(m:Mach)(L:List (List Int))(E:List (Int×Int))(v:Nat):Int:=(E.map (z9e m L v)).sum
theorem zck(w:MOk m)(O:200≤N)(q:Shp m L)(E: ∀ s i,VE m s i→0≤lf L s i∧lf L s i≤1000000000){k:Int}:mi N ⟨m,L,k⟩=some ((List.range m.rows.length).map (y8 m L)):=by
 have V:=w.r2;have hinp:=w.inp
 unfold mi
 dsimp only
 rw [zu (by rw [q.len];exact⟨by omega,by omega,by omega⟩),z07,q.len]
 have hbal: ∀ s i v,s<m.rows.length→i≤m.inputs.toNat→ -(1000000000*1040)≤zjq m L (wh m s++xn m s i) v∧zjq m L (wh m s++xn m s i) v≤1000000000*1040:=by
  intro s i v p hi
  have hone: ∀ x j,VE m x j→ -1000000000≤lf L x j*(dl x v-dl (ed m x j).toNat v)∧lf L x j*(dl x v-dl (ed m x j).toNat v)≤1000000000:=by
   intro x j n
   obtain⟨a,b⟩:=E x j n
   have G:=za2 x v;have A:=za2 (ed m x j).toNat v
   have t:dl x v-dl (ed m x j).toNat v= -1∨dl x v-dl (ed m x j).toNat v=0∨dl x v-dl (ed m x j).toNat v=1:=by omega
   rcases t with t|t|t<;>rw [t]<;>omega
  have P: ∀ e∈wh m s++xn m s i,-1000000000≤z9e m L v e∧z9e m L v e≤1000000000:=by
   intro e u
   rcases List.mem_append.1 u with h|h
   ·obtain⟨x,j,a,b,c,rfl⟩:=(z5j s).1 h
    exact hone x j ⟨by omega,b,c⟩
   ·obtain⟨j,Q,rfl⟩:=List.mem_map.1 h
    obtain⟨G,A⟩:=List.mem_filter.1 Q
    have G:=List.mem_range.1 G
    exact hone s j ⟨p,by omega,of_decide_eq_true A⟩
  have A:=zb8 (f:=z9e m L v) (B:=1000000000) (by decide) P
  have t:=zdk w (k:=s) (by omega)
  have W:=z5k (m:=m) (s:=s) (k:=i)
  rw [List.length_append] at A
  unfold zjq
  omega
 have hsucc: ∀ s i v,VE m s i→zjq m L (wh m s++xn m s (i+1)) v=zjq m L (wh m s++xn m s i) v+lf L s i*(dl s v-dl (ed m s i).toNat v):=by
  intro s i v n
  unfold zjq
  rw [zai n.he,←List.append_assoc,List.map_append,List.sum_append]
  congr 1
  show lf L s i*(dl s v-dl (ed m s i).toNat v)+0=_
  omega
 refine Eq.trans (qg (x:=(List.range m.rows.length).map (y8 m L)) ?_) rfl
 refine lh (fun F s X=>xe N ⟨m,L,k⟩ F (s:Int) X) m.rows.length (fun s X=>X.length=m.rows.length∧ ∀ v,v<m.rows.length→X.getD v default=zjq m L (wh m s) v) _ (fun F s X p H=> .inr ?_) (fun F X H=>?_) N 0 _ (Nat.zero_le _) (by omega) ⟨by simp,fun v n=>by simp [zjq,wh,List.getD_eq_getElem?_getD,n]⟩
 ·obtain⟨C,I⟩:=H
  simp only [xe]
  rw [il (by rw [z07,List.length_replicate,q.len];omega),show og N ⟨m,L,k⟩ (s:Int)=some (⟨m,L,k⟩,(s:Int)) from rfl,z7j]
  obtain⟨z,R,l,o⟩:=zgv (s:=s) (k:=k) w O q p (σ:=List Int) (fun d g=>
   gd (okI g (s:Int))<|
   gd (okI L (s:Int))<|
   gd (okI (ix L (s:Int)) d.fA)<|
   gd (in64 ((ix g (s:Int))+(ix (ix L (s:Int)) d.fA)))<|
   gd (okI g (s:Int))<|
   gd (okI (up g (s:Int) ((ix g (s:Int))+(ix (ix L (s:Int)) d.fA))) d.fB)<|
   gd (okI L (s:Int))<|
   gd (okI (ix L (s:Int)) d.fA)<|
   gd (in64 ((ix (up g (s:Int) ((ix g (s:Int))+(ix (ix L (s:Int)) d.fA))) d.fB)-(ix (ix L (s:Int)) d.fA)))<|
   gd (okI (up g (s:Int) ((ix g (s:Int))+(ix (ix L (s:Int)) d.fA))) d.fB)<|
   some (true,(up (up g (s:Int) ((ix g (s:Int))+(ix (ix L (s:Int)) d.fA))) d.fB ((ix (up g (s:Int) ((ix g (s:Int))+(ix (ix L (s:Int)) d.fA))) d.fB)-(ix (ix L (s:Int)) d.fA))))) (fun i z=>z.length=m.rows.length∧ ∀ v,v<m.rows.length→z.getD v default=zjq m L (wh m s++xn m s i) v) (s0:=X) ⟨C,fun v n=>by rw [zav,List.append_nil];exact I v n⟩ (by
    rintro i z hi u S ⟨l,o⟩
    have n:VE m s i:=⟨p,hi,by omega⟩
    obtain⟨D,J⟩:=n.to w
    obtain⟨l0,Y⟩:=E s i n
    have T:ix (ix L (s:Int)) (i:Int)=lf L s i:=rfl
    have Z:=hbal s i s p (by omega)
    have b2:=hbal s i (ed m s i).toNat p (by omega)
    have K:=o s p
    have U:=o (ed m s i).toNat D
    have y:(z.set s (z.getD s default+lf L s i)).getD (ed m s i).toNat default=if(ed m s i).toNat=s then z.getD s default+lf L s i else z.getD (ed m s i).toNat default:=u6 (by rw [l];exact p)
    refine⟨(z.set s (z.getD s default+lf L s i)).set (ed m s i).toNat ((z.set s (z.getD s default+lf L s i)).getD (ed m s i).toNat default-lf L s i),?_,by simp [l],fun v r=>?_⟩
    ·dsimp only
     rw [zu (qi (by rw [l];exact p)),zu (qi (by rw [q.len];exact p)),zu (show okI (ix L (s:Int)) (i:Int) from qi (by rw [uy,q.row s p];exact hi)),T,uy,zu (jh (by rw [K];omega)),zu (qi (by rw [l];exact p)),mo,J,zu (qi (by rw [List.length_set,l];exact D)),zu (qi (by rw [q.len];exact p)),zu (show okI (ix L (s:Int)) (i:Int) from qi (by rw [uy,q.row s p];exact hi)),uy,zu (jh (by rw [y];split<;>omega)),zu (qi (by rw [List.length_set,l];exact D))]
     rfl
    ·rw [u6 (by rw [List.length_set,l];exact D),y,hsucc s i v n]
     by_cases e:v=(ed m s i).toNat
     ·rw [if_pos e]
      by_cases e2:(ed m s i).toNat=s
      ·rw [if_pos e2,K,e,e2,z1a];omega
      ·rw [if_neg e2,U,e,z1a,z1n (fun h=>e2 h.symm)];omega
     ·rw [if_neg e,u6 (by rw [l];exact p),z1n (fun h=>e h.symm)]
      by_cases e2:v=s
      ·rw [if_pos e2,e2,K,z1a];omega
      ·rw [if_neg e2,o v r,z1n (fun h=>e2 h.symm)];omega) (by
    rintro i z hi h ⟨l,o⟩
    refine⟨l,fun v r=>?_⟩
    by_cases u:ed m s i= -1
    ·rw [z9w u];exact o v r
    ·have n:VE m s i:=⟨p,hi,u⟩
     have M:lf L s i=0:=by
      have:=(E s i n).1
      rcases h with h|h
      ·exact absurd h u
      ·omega
     rw [hsucc s i v n,M,Int.zero_mul,Int.add_zero];exact o v r)
  exact⟨z,⟨l,o⟩,by rw [qg R,zu (jh (by omega))];rfl⟩
 ·obtain⟨C,I⟩:=H
  simp only [xe]
  rw [ni (by rw [z07,List.length_replicate,q.len];omega)]
  refine congrArg some (zdh (by simp [C]) fun v n=>?_)
  rw [C] at n
  rw [I v n,yf (y8 m L) n];rfl
end
end GV
end Go.Proofs.Ytdhccodneoebpaa

namespace Go.Proofs.Ytdhccodneoebpaa
namespace GV
set_option maxRecDepth 100000
def WkV(m:Mach):Nat→List Int→Nat→Prop
 |a,[],t=>a=t
 |a,i::w,t=> ∃ j:Nat,i=(j:Int)∧VE m a j∧WkV m (ed m a j).toNat w t
def ctN(m:Mach):Nat→List Int→Nat→Nat→Int
 |_,[],_,_=>0
 |a,i::w,s,j=>(if a=s∧i=(j:Int) then 1 else 0)+ctN m (ed m a i.toNat).toNat w s j
section
variable {m : Mach} {L : List (List Int)}
theorem ze0(c:MOk m): ∀ {w:List Int} {a t:Nat},WkV m a w t→z4m m.inputs.toNat w
 | [],_,_,_=>fun i hi=>by cases hi
 |i::w,a,t,⟨j,e,d,h⟩=>fun x b=>by
  rcases List.mem_cons.1 b with rfl|b
  ·have:=d.hi;omega
  ·exact ze0 c h x b
theorem zw4(b:MOk m): ∀ {w:List Int} {a t:Nat},a<m.rows.length→WkV m a w t→t<m.rows.length
 | [],_,_,h,e=>by cases e;exact h
 |i::w,a,t,_,⟨j,e,c,h⟩=>zw4 b (c.to b).1 h
theorem z8y: ∀ (w:List Int) (a s j:Nat),0≤ctN m a w s j
 | [],_,_,_=>Int.le_refl _
 |i::w,a,s,j=>by
  have:=z8y w (ed m a i.toNat).toNat s j
  show 0≤(if a=s∧i=(j:Int) then(1:Int) else 0)+_
  split<;>omega
theorem znd(g:MOk m): ∀ {w:List Int} {a t:Nat} (b:Nat),WkV m a w t→ ∃ b',lc (nxT m) (a,b) w=some (t,b')∧(b<2^(qp m).length→b'<2^(qp m).length)∧ ∀ x j,VE m x j→b'.testBit (uo m x j)=(b.testBit (uo m x j)||decide (0<ctN m a w x j))
 | [],a,t,b,h=>by
  cases h
  exact⟨b,rfl,id,fun x j _=>by rw [decide_eq_false (show¬(0:Int)<ctN m a [] x j from Int.lt_irrefl _),Bool.or_false]⟩
 |i::w,a,t,b,⟨l,e,c,h⟩=>by
  subst e
  obtain⟨b',k,n,o⟩:=znd g (b|||2^uo m a l) h
  refine⟨b',?_,fun p=>n (Nat.or_lt_two_pow p (Nat.pow_lt_pow_right (by decide) (z8e c.hs c.hi c.he))),fun x j d=>?_⟩
  ·show (nxT m (a,b) ((l:Int)).toNat).bind _=_
   rw [Int.toNat_natCast]
   unfold nxT
   dsimp only
   rw [if_neg c.he];exact k
  ·rw [o x j d,Nat.testBit_or,Nat.testBit_two_pow]
   have f:ctN m a ((l:Int)::w) x j=(if a=x∧(l:Int)=(j:Int) then 1 else 0)+ctN m (ed m a l).toNat w x j:=by
    show _+ctN m (ed m a (l:Int).toNat).toNat w x j=_
    rw [Int.toNat_natCast]
   have q:=z8y (m:=m) w (ed m a l).toNat x j
   rw [f]
   by_cases e2:a=x∧l=j
   ·obtain⟨rfl,rfl⟩:=e2
    rw [if_pos ⟨rfl,rfl⟩,decide_eq_true (rfl:uo m a l=uo m a l),decide_eq_true (show (0:Int)<1+ctN m (ed m a l).toNat w a l by omega)]
    simp
   ·rw [if_neg (fun h=>e2 ⟨h.1,by omega⟩),decide_eq_false (fun h=>e2 (zf2 c.hs c.hi c.he d.hs d.hi d.he h)),Bool.or_false,Int.zero_add]
theorem zim(f:MOk m): ∀ {w:List Int} {a b t b':Nat},a<m.rows.length→z4m m.inputs.toNat w→lc (nxT m) (a,b) w=some (t,b')→WkV m a w t
 | [],a,b,t,b',_,_,h=>(Prod.mk.inj (Option.some.inj h)).1
 |i::w,a,b,t,b',k,d,h=>by
  obtain⟨j,rfl⟩: ∃ j:Nat,i=(j:Int):=⟨i.toNat,by have:=d i (by simp);omega⟩
  have l:j<m.inputs.toNat:=by have:=d (j:Int) (by simp);omega
  have c:(nxT m (a,b) j).bind (fun t'=>lc (nxT m) t' w)=some (t,b'):=h
  unfold nxT at c
  dsimp only at c
  by_cases e:ed m a j= -1
  ·rw [if_pos e] at c;cases c
  ·rw [if_neg e] at c
   have g:VE m a j:=⟨k,l,e⟩
   exact⟨j,rfl,g,zim f (g.to f).1 (fun x n=>d x (by simp [n])) c⟩
theorem zd3(d:MOk m){w:List Int}{t:Nat}{round:Bool}(h:WkV m 0 w t)(hall: ∀ x j,VE m x j→0<ctN m 0 w x j)(e:round=true→t=0): ∃ x,lc (nxT m) (0,0) w=some x∧z1k m round x=true:=by
 obtain⟨b',f,g,i⟩:=znd d 0 h
 refine⟨(t,b'),f,?_⟩
 have n:b'=2^(qp m).length-1:=by
  rw [zg5 (g (Nat.two_pow_pos _))]
  intro k o
  obtain⟨y,l,a,b,c,rfl⟩:=zb2 o
  rw [i y l ⟨a,b,c⟩,decide_eq_true (hall y l ⟨a,b,c⟩),Bool.or_true]
 unfold z1k
 rw [decide_eq_true n]
 cases round
 ·rfl
 ·rw [decide_eq_true (e rfl)];rfl
theorem zos(e:MOk m){w:List Int}{x:Nat×Nat}{round:Bool}(g:z4m m.inputs.toNat w)(h:lc (nxT m) (0,0) w=some x)(c:z1k m round x=true):WkV m 0 w x.1∧(∀ s j,VE m s j→0<ctN m 0 w s j)∧(round=true→x.1=0):=by
 obtain⟨t,b⟩:=x
 have i:0<m.rows.length:=by have:=e.r1;omega
 have a:=zim e i g h
 obtain⟨b',f,p,k⟩:=znd e 0 a
 rw [h] at f
 obtain⟨_,rfl⟩:=Prod.mk.inj (Option.some.inj f)
 unfold z1k at c
 rw [Bool.and_eq_true,decide_eq_true_iff] at c
 refine⟨a,fun s j d=>?_,fun l=>?_⟩
 ·have:=k s j d
  have n:=z8e d.hs d.hi d.he
  have o:b=2^(qp m).length-1:=c.1
  rw [o,Nat.testBit_two_pow_sub_one,decide_eq_true n,Nat.zero_testBit,Bool.false_or] at this
  exact of_decide_eq_true this.symm
 ·have:=c.2
  rw [l] at this
  simpa using this
/-! ### What a walk's numbers are like-/
def ctE(m:Mach)(a:Nat)(w:List Int)(e:Int×Int):Int:=ctN m a w e.1.toNat e.2.toNat
theorem z3o(m:Mach)(a j:Nat)(w:List Int)(x l:Nat):ctN m a ((j:Int)::w) x l=(if a=x∧j=l then 1 else 0)+ctN m (ed m a j).toNat w x l:=by
 show (if a=x∧(j:Int)=(l:Int) then 1 else 0)+ctN m (ed m a (j:Int).toNat).toNat w x l=_
 rw [Int.toNat_natCast]
 congr 1
 by_cases h:a=x∧j=l
 ·rw [if_pos h,if_pos ⟨h.1,by omega⟩]
 ·rw [if_neg h,if_neg (fun b=>h ⟨b.1,by omega⟩)]
theorem zmj(c:MOk m)(v:Nat): ∀ {w:List Int} {a t:Nat},WkV m a w t→((qp m).map fun e=>ctE m a w e*(dl e.1.toNat v-dl (tgE m e) v)).sum=dl a v-dl t v
 | [],a,t,h=>by
  cases h
  rw [gz (g:=fun _=>0) (fun e _=>by show 0*_=0;rw [Int.zero_mul]),z0u];omega
 |i::w,a,t,⟨j,e,k,h⟩=>by
  subst e
  have ih:=zmj c v h
  have:=z6i (f:=fun e=>ctE m (ed m a j).toNat w e*(dl e.1.toNat v-dl (tgE m e) v)) (g:=fun e=>ctE m a ((j:Int)::w) e*(dl e.1.toNat v-dl (tgE m e) v)) (d:=dl a v-dl (ed m a j).toNat v) edges_nd (z4x k) (by
   show ctN m a ((j:Int)::w) a j*(dl a v-dl (ed m a j).toNat v)=ctN m (ed m a j).toNat w a j*(dl a v-dl (ed m a j).toNat v)+_
   rw [z3o,if_pos ⟨rfl,rfl⟩,Int.add_mul,Int.one_mul];omega) (fun e n b=>by
   obtain⟨x,l,o,p,q,rfl⟩:=ut.1 n
   show ctN m a ((j:Int)::w) x l*_=ctN m (ed m a j).toNat w x l*_
   rw [z3o,if_neg (fun h=>b (by rw [h.1,h.2])),Int.zero_add])
  rw [this,ih];omega
theorem zk5(c:MOk m): ∀ {w:List Int} {a t:Nat},WkV m a w t→((qp m).map fun e=>ctE m a w e).sum=(w.length:Int)
 | [],a,t,h=>by
  rw [gz (f:=fun e=>ctE m a [] e) (g:=fun _=>0) (fun e _=>rfl),z0u];rfl
 |i::w,a,t,⟨j,e,k,h⟩=>by
  subst e
  have ih:=zk5 c h
  have:=z6i (f:=fun e=>ctE m (ed m a j).toNat w e) (g:=fun e=>ctE m a ((j:Int)::w) e) (d:=1) edges_nd (z4x k) (by
   show ctN m a ((j:Int)::w) a j=ctN m (ed m a j).toNat w a j+_
   rw [z3o,if_pos ⟨rfl,rfl⟩];omega) (fun e n b=>by
   obtain⟨x,l,o,p,q,rfl⟩:=ut.1 n
   show ctN m a ((j:Int)::w) x l=ctN m (ed m a j).toNat w x l
   rw [z3o,if_neg (fun h=>b (by rw [h.1,h.2])),Int.zero_add])
  rw [this,ih,List.length_cons];omega
/-! ### Edges that are left,as a machine-/
def z2n(m:Mach)(L:List (List Int)):Mach:=⟨m.inputs,m.outputs,(List.range m.rows.length).map fun s=>(List.range m.inputs.toNat).map fun i=>if 0<lf L s i then(m.rows.getD s default).getD i default else⟨-1,-1⟩⟩
theorem zaz{s:Nat}(a:s<m.rows.length):(z2n m L).rows.getD s default=(List.range m.inputs.toNat).map fun i=>if 0<lf L s i then(m.rows.getD s default).getD i default else⟨-1,-1⟩:=yf _ a
theorem fo:(z2n m L).rows.length=m.rows.length:=by simp [z2n]
theorem zfx{s i:Nat}(a:s<m.rows.length)(hi:i<m.inputs.toNat):((z2n m L).rows.getD s default).getD i default=if 0<lf L s i then(m.rows.getD s default).getD i default else⟨-1,-1⟩:=by
 rw [zaz a,yf _ hi]
theorem zge{s i:Nat}(a:s<m.rows.length)(hi:i<m.inputs.toNat):ed (z2n m L) s i=if 0<lf L s i then ed m s i else-1:=by
 unfold ed
 rw [zfx a hi]
 split<;>rfl
theorem zmx(d:MOk m):MOk (z2n m L):=by
 have hinp:=d.inp
 refine⟨d.i1,d.i2,d.o1,d.o2,by rw [fo];exact d.r1,by rw [fo];exact d.r2,fun s e=>?_,fun s i e hi=>?_⟩
 ·rw [fo] at e
  rw [zaz e,List.length_map,List.length_range];exact hinp.2.2
 ·rw [fo] at e
  rw [zaz e,List.length_map,List.length_range] at hi
  rw [zfx e hi]
  by_cases h:0<lf L s i
  ·rw [if_pos h]
   rcases d.edge s i e (by rw [d.rowlen e];exact hi) with h|⟨a,b,c⟩
   ·exact .inl h
   ·exact .inr ⟨a,by rw [fo];exact b,c⟩
  ·rw [if_neg h];exact .inl ⟨rfl,rfl⟩
theorem ztt{s i:Nat}:VE (z2n m L) s i↔VE m s i∧0<lf L s i:=by
 constructor
 ·intro h
  have c:s<m.rows.length:=by have:=h.hs;rwa [fo] at this
  have a:=h.he
  rw [zge c h.hi] at a
  by_cases b:0<lf L s i
  ·rw [if_pos b] at a;exact⟨⟨c,h.hi,a⟩,b⟩
  ·rw [if_neg b] at a;exact absurd rfl a
 ·rintro⟨h,b⟩
  exact⟨by rw [fo];exact h.hs,h.hi,by rw [zge h.hs h.hi,if_pos b];exact h.he⟩
theorem zqz(f:MOk m): ∀ {w:List Int} {a t:Nat},WkV m a w t→(∀ x j,VE m x j→0<ctN m a w x j→0<lf L x j)→ ∀ x j,VE m x j→0<ctN m a w x j→Reach (z2n m L) a x
 | [],a,t,_,_,x,j,_,h=>by exact absurd h (Int.lt_irrefl _)
 |i::w,a,t,⟨l,e,c,h⟩,g,x,j,n,d=>by
  subst e
  rw [z3o] at d
  have b:0<lf L a l:=g a l c (by rw [z3o,if_pos ⟨rfl,rfl⟩];have:=z8y (m:=m) w (ed m a l).toNat a l;omega)
  have o:Reach (z2n m L) a (ed m a l).toNat:=by
   have:=(ztt.2 ⟨c,b⟩:VE (z2n m L) a l).reach (zmx f)
   rwa [zge c.hs c.hi,if_pos b] at this
  by_cases e2:a=x∧l=j
  ·rw [←e2.1];exact .refl
  ·rw [if_neg e2,Int.zero_add] at d
   refine o.trans (zqz f h (fun y k p q=>g y k p ?_) x j n d)
   rw [z3o]
   split<;>omega
end
end GV
end Go.Proofs.Ytdhccodneoebpaa

namespace Go.Proofs.Ytdhccodneoebpaa
namespace GV
set_option maxRecDepth 100000
def z0w(L:List (List Int))(s i:Nat):List (List Int):=L.set s ((L.getD s default).set i (lf L s i-1))
def zc3(m:Mach)(L:List (List Int))(s:Nat):Option Nat:=(List.range m.inputs.toNat).find? fun i=>decide (ed m s i≠ -1)&&decide (0<lf L s i)
def zld(m:Mach):Nat→List (List Int)→List Int→List (Int×Nat)→Option (List Int)
 |0,_,_,_=>none
 |_+1,_,out,[]=>some out
 |f+1,L,out,(q,s)::st=>match zc3 m L s with
  |some i=>zld m f (z0w L s i) out (((i:Int),(ed m s i).toNat)::(q,s)::st)
  |none=>zld m f L (if q= -1 then out else out++[q]) st
section
variable {m : Mach} {L L0 : List (List Int)}
theorem zgy{s i:Nat}(b:s<m.rows.length)(h:zc3 m L s=some i):VE m s i∧0<lf L s i∧ ∀ j,j<i→ed m s j= -1∨lf L s j≤0:=by
 unfold zc3 at h
 rw [List.find?_range_eq_some] at h
 obtain⟨a,c,d⟩:=h
 rw [Bool.and_eq_true,decide_eq_true_iff,decide_eq_true_iff] at a
 refine⟨⟨b,List.mem_range.1 c,a.1⟩,a.2,fun j e=>?_⟩
 have:=d j e
 rw [Bool.not_eq_true',Bool.and_eq_false_iff,decide_eq_false_iff_not,decide_eq_false_iff_not] at this
 rcases this with h|h
 ·exact .inl (Classical.byContradiction h)
 ·exact .inr (by omega)
theorem zgs{s:Nat}(h:zc3 m L s=none): ∀ i,i<m.inputs.toNat→ed m s i= -1∨lf L s i≤0:=by
 intro i hi
 unfold zc3 at h
 rw [List.find?_eq_none] at h
 have:=h i (List.mem_range.2 hi)
 rw [Bool.and_eq_true,decide_eq_true_iff,decide_eq_true_iff] at this
 by_cases e:ed m s i= -1
 ·exact .inl e
 ·exact .inr (Int.not_lt.1 fun a=>this ⟨e,a⟩)
theorem z2j(a:Shp m L){s i:Nat}(b:VE m s i):Shp m (z0w L s i):=a.set b.hs (by rw [List.length_set,a.row s b.hs])
theorem zay(b:Shp m L){s i:Nat}(a:VE m s i)(t j:Nat):lf (z0w L s i) t j=if t=s∧j=i then lf L s i-1 else lf L t j:=za9 b a.hs a.hi
theorem z4t(a:Shp m L){s i:Nat}(b:VE m s i):w9 m (z0w L s i)=w9 m L-1:=by
 unfold z0w;rw [zr9 a b];omega
theorem zv6(a:Shp m L){s i:Nat}(b:VE m s i)(v:Nat):y8 m (z0w L s i) v=y8 m L v-(dl s v-dl (ed m s i).toNat v):=by
 unfold z0w
 rw [zk1 a b,show lf L s i-1-lf L s i= -1 by omega,Int.neg_mul,Int.one_mul];omega
def zrx(m:Mach)(a:Nat):List (Int×Nat)→Prop
 | []=>False
 | [(q,s)]=>q= -1∧s=a
 |(q,t)::(q',s)::st=>(∃ i:Nat,q=(i:Int)∧VE m s i∧t=(ed m s i).toNat)∧zrx m a ((q',s)::st)
def ctS:List (Int×Nat)→Nat→Nat→Int
 | [],_,_=>0
 | [_],_,_=>0
 |(q,_)::(q',s)::st,x,j=>(if s=x∧q=(j:Int) then 1 else 0)+ctS ((q',s)::st) x j
theorem zwt(b:MOk m){a:Nat}(c:a<m.rows.length): ∀ {q:Int} {s:Nat} {st:List (Int×Nat)},zrx m a ((q,s)::st)→s<m.rows.length
 |q,s,[],h=>by rw [h.2];exact c
 |q,s,(q',s')::st,⟨⟨i,_,d,e⟩,_⟩=>by rw [e];exact(d.to b).1
structure HInv (m:Mach) (L0:List (List Int)) (a e0:Nat) (L:List (List Int)) (out:List Int) (st:List (Int×Nat)) (q:Nat):Prop where
 shp:Shp m L
 pos: ∀ s i,VE m s i→0≤lf L s i
 wk:WkV m q out.reverse e0
 cnt: ∀ s i,VE m s i→lf L s i+ctS st s i+ctN m q out.reverse s i=lf L0 s i
 dry: ∀ u i v x,out.reverse=u++i::v→WkV m q (u++[i]) x→ ∀ l,VE m x l→lf L x l=0
theorem zv4(q:MOk m)(hpos: ∀ s i,VE m s i→0≤lf L s i){s:Nat}(k: ∀ i,VE m s i→lf L s i=0):y8 m L s≤0:=by
 have:=zje (f:=z9e m L s) (g:=fun _=>0) (l:=qp m) (fun e n=>by
  obtain⟨x,j,a,b,c,rfl⟩:=ut.1 n
  have d:VE m x j:=⟨a,b,c⟩
  show lf L x j*(dl x s-dl (ed m x j).toNat s)≤0
  by_cases h:x=s
  ·subst h;rw [k j d,Int.zero_mul];exact Int.le_refl _
  ·rw [z1n h,Int.zero_sub,Int.mul_neg]
   have o:=hpos x j d
   have p:=(za2 (ed m x j).toNat s).1
   have:=Int.mul_nonneg o p
   omega)
 rwa [z0u] at this
theorem zdd(A:MOk m){a e0:Nat}(B:a<m.rows.length): ∀ (f:Nat) (L:List (List Int)) (out:List Int) (st:List (Int×Nat)) (q:Nat),HInv m L0 a e0 L out st q→
 ((st=[]∧q=a∧ ∀ l,VE m a l→lf L a l=0)∨ ∃ p s st',st=(p,s)::st'∧zrx m a st∧ ∀ v,v<m.rows.length→y8 m L v=dl s v-dl q v)→(2*w9 m L).toNat+st.length<f→
 ∃ w Z,zld m f L out st=some w∧HInv m L0 a e0 Z w [] a∧ ∀ l,VE m a l→lf Z a l=0
 |0,_,_,_,_,_,_,h=>by omega
 |f+1,L,out,st,q,b,D,E=>by
  rcases D with⟨rfl,rfl,Q⟩|⟨p,s,st,rfl,t,F⟩
  ·exact⟨out,L,rfl,b,Q⟩
  ·have P:=zwt A B t
   unfold zld
   cases hfl:zc3 m L s with
   |some i=>
    obtain⟨d,G,_⟩:=zgy P hfl
    dsimp only
    have hmany:0<w9 m L:=zbl (fun e R=>by
     obtain⟨x,j,S,T,U,rfl⟩:=ut.1 R
     exact b.pos x j ⟨S,T,U⟩) ⟨_,z4x d,G⟩
    refine zdd A B f (z0w L s i) out _ q ⟨z2j b.shp d,fun x j g=>?_,b.wk,fun x j g=>?_,fun u k v x r y l n=>?_⟩ (.inr ⟨_,_,_,rfl,⟨⟨i,rfl,d,rfl⟩,t⟩,fun v z=>?_⟩) ?_
    ·rw [zay b.shp d]
     split
     ·omega
     ·exact b.pos x j g
    ·have:=b.cnt x j g
     rw [zay b.shp d]
     show _+((if s=x∧(i:Int)=(j:Int) then 1 else 0)+ctS ((p,s)::st) x j)+_=_
     by_cases e:x=s∧j=i
     ·rw [if_pos e,if_pos ⟨e.1.symm,by omega⟩]
      rw [e.1,e.2] at this⊢
      omega
     ·rw [if_neg e,if_neg (fun h=>e ⟨h.1.symm,by omega⟩)];omega
    ·have C:=b.dry u k v x r y l n
     rw [zay b.shp d]
     split
     ·rename_i e
      obtain⟨rfl,rfl⟩:=e
      omega
     ·exact C
    ·rw [zv6 b.shp d,F v z];omega
    ·rw [z4t b.shp d]
     simp only [List.length_cons] at E⊢
     omega
   |none=>
    have hdry: ∀ l,VE m s l→lf L s l=0:=fun l H=>by
     have C:=b.pos s l H
     rcases zgs hfl l H.hi with h|h
     ·exact absurd h H.he
     ·omega
    have V:s=q:=Classical.byContradiction fun I=>by
     have C:=zv4 A b.pos hdry
     rw [F s P,z1a,z1n (fun h=>I h.symm)] at C
     omega
    subst V
    have J: ∀ v,v<m.rows.length→y8 m L v=0:=fun v d=>by rw [F v d];omega
    dsimp only
    match st,t with
    | [],⟨K,M⟩=>
     subst K
     subst M
     rw [if_pos rfl]
     refine zdd A B f L out [] s ⟨b.shp,b.pos,b.wk,fun x j g=>?_,b.dry⟩ (.inl ⟨rfl,rfl,hdry⟩) ?_
     ·have:=b.cnt x j g
      exact this
     ·simp only [List.length_cons,List.length_nil] at E⊢;omega
    |(p',s')::st,⟨⟨i,K,d,o⟩,hok'⟩=>
     subst K
     rw [if_neg (by omega)]
     have hrev:(out++[(i:Int)]).reverse=(i:Int)::out.reverse:=by simp
     refine zdd A B f L (out++[(i:Int)]) _ s' ⟨b.shp,b.pos,?_,fun x j g=>?_,fun u k v x r y l n=>?_⟩ (.inr ⟨_,_,_,rfl,hok',fun v z=>by rw [J v z];omega⟩) (by simp only [List.length_cons] at E⊢;omega)
     ·rw [hrev]
      exact⟨i,rfl,d,by rw [←o];exact b.wk⟩
     ·have:=b.cnt x j g
      rw [hrev,z3o,←o]
      have e:ctS (((i:Int),s)::(p',s')::st) x j=(if s'=x∧(i:Int)=(j:Int) then 1 else 0)+ctS ((p',s')::st) x j:=rfl
      rw [e] at this
      by_cases h:s'=x∧i=j
      ·rw [if_pos ⟨h.1,by omega⟩] at this;rw [if_pos h];omega
      ·rw [if_neg (fun W=>h ⟨W.1,by omega⟩)] at this;rw [if_neg h];omega
     ·rw [hrev] at r
      match u,r,y with
      | [],r,⟨j,e,N,g⟩=>
       obtain⟨rfl,_⟩:=List.cons.inj r
       obtain rfl:i=j:=by omega
       have:(ed m s' i).toNat=x:=g
       rw [←this,←o] at n⊢
       exact hdry l n
      |c::u,r,⟨j,e,N,g⟩=>
       obtain⟨rfl,O⟩:=List.cons.inj r
       obtain rfl:i=j:=by omega
       rw [←o] at g
       exact b.dry u k v x O g l n
theorem zfk(B:MOk m){a e0:Nat}(E:a<m.rows.length)(F:Shp m L0)(hpos: ∀ s i,VE m s i→0≤lf L0 s i)(G: ∀ v,v<m.rows.length→y8 m L0 v=dl a v-dl e0 v)(H: ∀ s i,VE m s i→0<lf L0 s i→Reach (z2n m L0) a s){f:Nat}(I:(2*w9 m L0).toNat+1<f):
 ∃ w,zld m f L0 [] [(-1,a)]=some w∧WkV m a w.reverse e0∧ ∀ s i,VE m s i→ctN m a w.reverse s i=lf L0 s i:=by
 obtain⟨w,Z,J,k,K⟩:=zdd (L0:=L0) (e0:=e0) B E f L0 [] [(-1,a)] e0 ⟨F,hpos,rfl,fun s i b=>by show lf L0 s i+0+0=_;omega,fun u i v x n=>by cases u<;>cases n⟩ (.inr ⟨_,_,_,rfl,⟨rfl,rfl⟩,G⟩) (by simpa using I)
 refine⟨w,J,k.wk,?_⟩
 have key: ∀ x,Reach (z2n m L0) a x→ ∀ l,VE m x l→lf Z x l=0:=by
  intro x M
  induction M with
  |refl=>exact K
  | @step t i Q q C R ih=>
   have k2':t<m.rows.length:=by rwa [fo] at q
   have k3':i<m.inputs.toNat:=by rw [(zmx (L:=L0) B).rowlen q] at C;exact C
   have b:VE (z2n m L0) t i:=⟨q,k3',by unfold ed;omega⟩
   obtain⟨o,r⟩:=ztt.1 b
   have D:=ih i o
   have d:=k.cnt t i o
   have g:ctS [] t i=0:=rfl
   rw [D,g] at d
   have y:0<ctN m a w.reverse t i:=by omega
   have z: ∀ {w:List Int} {a e:Nat},WkV m a w e→0<ctN m a w t i→ ∃ u v,w=u++(i:Int)::v∧WkV m a (u++[(i:Int)]) (ed m t i).toNat:=by
    intro w
    induction w with
    |nil=>intro a e _ h;exact absurd h (Int.lt_irrefl _)
    |cons c w ihw=>
     intro a e N d
     obtain⟨j,rfl,p,hw'⟩:=N
     rw [z3o] at d
     by_cases e2:a=t∧j=i
     ·obtain⟨rfl,rfl⟩:=e2
      exact⟨[],w,rfl,j,rfl,p,rfl⟩
     ·rw [if_neg e2,Int.zero_add] at d
      obtain⟨u,v,rfl,n⟩:=ihw hw' d
      exact⟨(j:Int)::u,v,rfl,j,rfl,p,n⟩
   obtain⟨u,v,O,n⟩:=z k.wk y
   have A:((z2n m L0).rows.getD t default).getD i default=(m.rows.getD t default).getD i default:=by rw [zfx k2' k3',if_pos r]
   rw [A]
   exact fun l P=>k.dry u _ v _ O n l P
 intro s i b
 have d:=k.cnt s i b
 have g:ctS [] s i=0:=rfl
 rw [g] at d
 have D:lf Z s i=0:=by
  by_cases h0:0<lf L0 s i
  ·exact key s (H s i b h0) i b
  ·have S:=k.pos s i b
   have T:=z8y (m:=m) w.reverse a s i
   omega
 omega
end
end GV
end Go.Proofs.Ytdhccodneoebpaa

namespace Go.Proofs.Ytdhccodneoebpaa
namespace GV
set_option maxRecDepth 100000
section
variable {N : Nat} {m : Mach} {L : List (List Int)} {a : Nat} {round : Bool}
def ze8(m:Mach)(L:List (List Int))(a:Nat)(round:Bool):Prop:= ∃ w e,WkV m a w e∧(∀ s i,VE m s i→ctN m a w s i=lf L s i)∧(round=true→e=0)
def zx5(m:Mach)(L:List (List Int))(a:Nat)(round:Bool):Prop:= ∃ e,e<m.rows.length∧(∀ v,v<m.rows.length→y8 m L v=dl a v-dl e v)∧(round=true→e=0)
def zqk(m:Mach)(L:List (List Int))(a:Nat):Prop:= ∀ s i,VE m s i→0<lf L s i→Reach (z2n m L) a s
theorem zi1(hpos: ∀ s i,VE m s i→0≤lf L s i):w9 m L=0↔ ∀ s i,VE m s i→lf L s i=0:=by
 constructor
 ·intro h s i k
  refine Classical.byContradiction fun n=>?_
  have o:=hpos s i k
  have:=zbl (f:=lfE L) (l:=qp m) (fun e a=>by
   obtain⟨x,j,b,c,d,rfl⟩:=ut.1 a
   exact hpos x j ⟨b,c,d⟩) ⟨_,z4x k,by show 0<lf L s i;omega⟩
  unfold w9 at h;omega
 ·intro h
  unfold w9
  rw [gz (f:=lfE L) (g:=fun _=>0) (fun e a=>by
   obtain⟨x,j,b,c,d,rfl⟩:=ut.1 a
   exact h x j ⟨b,c,d⟩),z0u]
theorem zah(hpos: ∀ s i,VE m s i→0≤lf L s i):0≤w9 m L:=z5a fun e a=>by
 obtain⟨x,j,b,c,d,rfl⟩:=ut.1 a
 exact hpos x j ⟨b,c,d⟩
theorem zdg(b:MOk m){w:List Int}{e:Nat}(c:WkV m a w e)(d: ∀ s i,VE m s i→ctN m a w s i=lf L s i):(w.length:Int)=w9 m L:=by
 rw [←zk5 b c]
 refine gz fun e f=>?_
 obtain⟨x,j,g,h,k,rfl⟩:=ut.1 f
 exact d x j ⟨g,h,k⟩
theorem zj1(c:MOk m)(q:a<m.rows.length)(r:Shp m L)(hpos: ∀ s i,VE m s i→0≤lf L s i):ze8 m L a round↔if w9 m L=0 then(round=true→a=0) else zx5 m L a round∧zqk m L a:=by
 by_cases h0:w9 m L=0
 ·rw [if_pos h0]
  constructor
  ·rintro⟨w,e,b,d,g⟩ h
   have E:=zdg c b d
   have:w=[]:=List.length_eq_zero_iff.1 (by omega)
   subst this
   cases b
   exact g h
  ·intro h
   exact⟨[],a,rfl,fun s i k=>by rw [(zi1 hpos).1 h0 s i k];rfl,h⟩
 ·rw [if_neg h0]
  constructor
  ·rintro⟨w,e,b,d,g⟩
   refine⟨⟨e,zw4 c q b,fun v k=>?_,g⟩,fun s i k l=>?_⟩
   ·rw [←zmj c v b]
    refine gz fun p t=>?_
    obtain⟨x,j,u,y,z,rfl⟩:=ut.1 t
    show lf L x j*_=ctN m a w x j*_
    rw [d x j ⟨u,y,z⟩]
   ·refine zqz c b (fun x j A n=>?_) s i k (by rw [d s i k];exact l)
    rw [←d x j A];exact n
  ·rintro⟨⟨e,F,B,g⟩,o⟩
   obtain⟨w,_,C,D⟩:=zfk (L0:=L) (e0:=e) c q r hpos B o (f:=(2*w9 m L).toNat+2) (by omega)
   exact⟨w.reverse,e,C,D,g⟩
/-! ### The program's test-/
noncomputable def rchPB(m:Mach)(L:List (List Int))(a:Nat):Bool:= @decide (zqk m L a) (Classical.propDecidable _)
theorem zcs(g:MOk m)(p:200≤N)(q:Shp m L)(r:a<m.rows.length){k:Int}: ∀ (F:Nat) (Y:List Bool) (S:List Int),DInv (z2n m L) a Y S→Y.count false+S.length<F→Y.count false+S.length≤100→
 xh N ⟨m,L,k⟩ F Y S=some (reachL (z2n m L) a)
 |0,_,_,_,h,_=>by omega
 |F+1,Y,S,t,w,y=>by
  have A:=g.r2
  have f:=zmx (L:=L) g
  have ha':a<(z2n m L).rows.length:=by rw [fo];exact r
  rcases List.eq_nil_or_concat S with rfl|⟨j,x,rfl⟩
  ·simp only [xh]
   rw [ni (by simp),t.fin ha']
  ·rw [List.concat_eq_append] at*
   obtain⟨s,rfl,n,hrow⟩:=t.pop
   have hs':s<m.rows.length:=by rwa [fo] at n
   have hlen:(j++[(s:Int)]).length=j.length+1:=by simp
   simp only [xh]
   rw [il (by omega),zu (jh (by omega)),zu (zlb _ _),zu (jh (by omega)),zu (zkh _ _),zof,zh7]
   rw [show og N ⟨m,L,k⟩ (s:Int)=some (⟨m,L,k⟩,(s:Int)) from rfl,z7j]
   obtain⟨z,u,d⟩:=zgv (s:=s) (k:=k) g p q hs' (σ:=List Bool×List Int) (fun c b=>
    gd (okI b.1 c.fB)<|
    bif !(ix b.1 c.fB) then(
    gd (okI b.1 c.fB)<|
    gd (fits 8 b.2 ([c.fB]:List Int))<|
    some (true,((up b.1 c.fB true),(b.2++([c.fB]:List Int))))) else(
    some (true,(b.1,b.2)))) (fun i z=>DRow (z2n m L) a s (Y.count false+j.length) i z.1 z.2) (s0:=(Y,j)) hrow
    (fun i z hi v o d=>by
     have e:ed (z2n m L) s i=ed m s i:=by rw [zge hs' hi,if_pos o]
     have:=zlh f n hi (by omega) d (by rw [e];exact v)
     rw [e] at this
     exact this) (fun i z hi l d=>d.skip (by
     rw [zge hs' hi]
     rcases l with l|l
     ·rw [l];split<;>rfl
     ·rw [if_neg (by omega)]))
   rw [qg u]
   have:=d.cnt
   exact zcs g p q r F z.1 z.2 (d.fin f n) (by omega) (by omega)
theorem zmt(p:MOk m)(y:200≤N)(g:Shp m L)(q:a<m.rows.length){k:Int}:z0g N ⟨m,L,k⟩ (a:Int)=some (rchPB m L a):=by
 have I:=p.r2;have hinp:=p.inp
 unfold z0g
 dsimp only
 rw [zu (by rw [g.len];exact⟨by omega,by omega,by omega⟩),z07,g.len,zu (qi (by simpa using q)),mo]
 have v:=DInv.zcnt (m:=z2n m L) (a:=a) (by rw [fo];exact q)
 have A:=DInv.zero (m:=z2n m L) (a:=a) (by rw [fo];exact q)
 rw [fo] at v A
 rw [qg (zcs p y g q N _ _ A (by simp only [List.length_singleton];omega) (by simp only [List.length_singleton];omega))]
 have hget: ∀ s,s<m.rows.length→((reachL (z2n m L) a).getD s default=true↔Reach (z2n m L) a s):=fun s f=>z0f (by rw [fo];exact f)
 have hlen:(reachL (z2n m L) a).length=m.rows.length:=by rw [z5q,fo]
 have w: ∃ r,yj N ⟨m,L,k⟩ (reachL (z2n m L) a) N 0=some r∧((r=Ex.rt false∧ ¬zqk m L a)∨(r=Ex.go ()∧zqk m L a)):=by
  refine z2p (σ:=Unit) (fun F s _=>yj N ⟨m,L,k⟩ (reachL (z2n m L) a) F (s:Int)) m.rows.length (fun s _=> ∀ t,t<s→ ∀ i,VE m t i→0<lf L t i→Reach (z2n m L) a t) _ (fun F s _ f hi=>?_) (fun F _ hi=>?_) N 0 () (Nat.zero_le _) (by omega) (fun t D=>by omega)
  ·simp only [yj]
   rw [il (by rw [g.len];omega),show og N ⟨m,L,k⟩ (s:Int)=some (⟨m,L,k⟩,(s:Int)) from rfl,z7j]
   obtain⟨z,v,l⟩:=zer (s:=s) (k:=k) p y g f (σ:=Ex Unit (Ex Unit Bool)) (fun B E=>Ex.on E (fun C=>
    gd (okI (reachL (z2n m L) a) (s:Int))<|
    bif !(ix (reachL (z2n m L) a) (s:Int)) then(
    some (false,Ex.rt (Ex.rt false))) else(
    some (true,Ex.go ()))) fun _=>none) (fun i z=>z=Ex.go ()∧ ∀ j,j<i→VE m s j→0<lf L s j→Reach (z2n m L) a s) (fun z=>z=Ex.rt (Ex.rt false)∧ ¬zqk m L a) (s0:=Ex.go ()) ⟨rfl,fun j G=>by omega⟩ (by
     rintro i _ n J c ⟨rfl,l⟩
     have d:VE m s i:=⟨f,n,by omega⟩
     simp only [z9z]
     rw [zu (qi (by rw [hlen];exact f)),uy]
     cases hg:(reachL (z2n m L) a).getD s default
     ·rw [ct (b:= !false) rfl]
      refine⟨false,_,rfl,fun h=>(by cases h),fun _=>⟨rfl,fun h=>?_⟩⟩
      have:=(hget s f).2 (h s i d c)
      rw [hg] at this;cases this
     ·rw [cf (b:= !true) rfl]
      exact⟨true,_,rfl,fun _=>⟨rfl,fun j _ _ _=>(hget s f).1 hg⟩,fun h=>(by cases h)⟩) (by
     rintro i _ n u ⟨rfl,l⟩
     refine⟨rfl,fun j G d c=>?_⟩
     by_cases e:j=i
     ·subst e
      rcases u with u|u
      ·exact absurd u d.he
      ·omega
     ·exact l j (by omega) d c)
   rw [qg v]
   rcases l with⟨rfl,l⟩|⟨rfl,H⟩
   ·right
    refine⟨(),fun t D=>?_,by rw [z9z,zu (jh (by omega))];rfl⟩
    by_cases e:t=s
    ·subst e;exact fun i d c=>l i d.hi d c
    ·exact hi t (by omega)
   ·left
    exact⟨_,rfl,.inl ⟨rfl,H⟩⟩
  ·simp only [yj]
   rw [ni (by rw [g.len];omega)]
   exact⟨_,rfl,.inr ⟨rfl,fun s i d c=>hi s d.hs i d c⟩⟩
 obtain⟨r,o,⟨rfl,x⟩|⟨rfl,x⟩⟩:=w
 ·rw [qg o,zll]
  unfold rchPB
  rw [@decide_eq_false _ (Classical.propDecidable _) x]
 ·rw [qg o,z9z]
  unfold rchPB
  rw [@decide_eq_true _ (Classical.propDecidable _) x]
def okV(m:Mach)(L:List (List Int))(a:Nat)(round:Bool)(v:Nat):Prop:=y8 m L v=0∨(y8 m L v=1∧v=a)∨(y8 m L v= -1∧(round=true→v=0))
def zcu(m:Mach)(L:List (List Int))(k:Nat):Nat:=(List.range k).countP fun v=>decide (y8 m L v= -1)
theorem zed{k:Nat}:zcu m L (k+1)=zcu m L k+if y8 m L k= -1 then 1 else 0:=by
 unfold zcu
 rw [List.range_succ,List.countP_append,List.countP_singleton]
 by_cases h:y8 m L k= -1
 ·rw [if_pos h,if_pos (by simpa using h)]
 ·rw [if_neg h,if_neg (by simpa using h)]
theorem zgi(t:a<m.rows.length):zx5 m L a round↔(∀ v,v<m.rows.length→okV m L a round v)∧((if y8 m L a=1 then 1 else 0)=zcu m L m.rows.length)∧ ¬(round=true∧y8 m L a≠1∧a≠0):=by
 constructor
 ·rintro⟨e,l,r,w⟩
  by_cases d:a=e
  ·subst d
   have f: ∀ v,v<m.rows.length→y8 m L v=0:=fun v b=>by rw [r v b];omega
   refine⟨fun v b=> .inl (f v b),?_,fun⟨c,_,g⟩=>g (w c)⟩
   rw [if_neg (by rw [f a t];decide)]
   unfold zcu
   rw [eq_comm,List.countP_eq_zero]
   intro v b
   rw [f v (List.mem_range.1 b)];decide
  ·have k:y8 m L a=1:=by rw [r a t,z1a,z1n (fun h=>d h.symm)];rfl
   have n:y8 m L e= -1:=by rw [r e l,z1a,z1n d];rfl
   refine⟨fun v b=>?_,?_,fun⟨_,h,_⟩=>h k⟩
   ·by_cases c:v=a
    ·subst c;exact .inr (.inl ⟨k,rfl⟩)
    ·by_cases g:v=e
     ·subst g;exact .inr (.inr ⟨n,w⟩)
     ·exact .inl (by rw [r v b,z1n (fun h=>c h.symm),z1n (fun h=>g h.symm)];rfl)
   ·rw [if_pos k]
    have c:0<zcu m L m.rows.length:=List.countP_pos_iff.2 ⟨e,List.mem_range.2 l,decide_eq_true n⟩
    have g: ¬1<zcu m L m.rows.length:=fun h=>by
     obtain⟨x,y,A,B,i,px,py⟩:=z9b List.nodup_range h
     have key: ∀ z,z∈List.range m.rows.length→y8 m L z= -1→z=e:=fun z f j=>by
      have f:=List.mem_range.1 f
      rw [r z f] at j
      refine Classical.byContradiction fun i=>?_
      have:=(za2 a z).1
      rw [z1n (fun h=>i h.symm)] at j;omega
     exact i ((key x A (of_decide_eq_true px)).trans (key y B (of_decide_eq_true py)).symm)
    omega
 ·rintro⟨o,hcnt,u⟩
  by_cases k:y8 m L a=1
  ·rw [if_pos k] at hcnt
   obtain⟨e,l,n⟩:=List.countP_pos_iff.1 (show 0<zcu m L m.rows.length by omega)
   have l:=List.mem_range.1 l
   have n:=of_decide_eq_true n
   have huniq: ∀ z,z<m.rows.length→y8 m L z= -1→z=e:=fun z f j=>Classical.byContradiction fun i=>by
    have c:1<zcu m L m.rows.length:=by
     unfold zcu
     obtain⟨D,E,C⟩:=List.append_of_mem (List.mem_range.2 l)
     have s:=List.mem_range.2 f
     rw [C] at s⊢
     rw [List.countP_append,List.countP_cons,if_pos (decide_eq_true n)]
     rcases List.mem_append.1 s with q|q
     ·have:=List.countP_pos_iff (p:=fun v=>decide (y8 m L v= -1)).2 ⟨z,q,decide_eq_true j⟩;omega
     ·rcases List.mem_cons.1 q with q|q
      ·exact absurd q i
      ·have:=List.countP_pos_iff (p:=fun v=>decide (y8 m L v= -1)).2 ⟨z,q,decide_eq_true j⟩;omega
    omega
   have d:a≠e:=fun h=>by rw [h] at k;omega
   refine⟨e,l,fun v b=>?_,fun h=>?_⟩
   ·by_cases c:v=a
    ·subst c;rw [k,z1a,z1n (fun h=>d h.symm)];rfl
    ·by_cases g:v=e
     ·subst g;rw [n,z1a,z1n d];rfl
     ·rw [z1n (fun h=>c h.symm),z1n (fun h=>g h.symm)]
      rcases o v b with h|⟨_,h⟩|⟨h,_⟩
      ·rw [h];rfl
      ·exact absurd h c
      ·exact absurd (huniq v b h) g
   ·rcases o e l with c|⟨c,_⟩|⟨_,c⟩
    ·omega
    ·omega
    ·exact c h
  ·rw [if_neg k] at hcnt
   have f: ∀ v,v<m.rows.length→y8 m L v=0:=fun v b=>by
    rcases o v b with h|⟨h,e⟩|⟨h,_⟩
    ·exact h
    ·rw [e] at h;exact absurd h k
    ·have:0<zcu m L m.rows.length:=List.countP_pos_iff.2 ⟨v,List.mem_range.2 b,decide_eq_true h⟩
     omega
   refine⟨a,t,fun v b=>by rw [f v b];omega,fun h=>Classical.byContradiction fun g=>u ⟨h,k,g⟩⟩
noncomputable def eulB(m:Mach)(L:List (List Int))(a:Nat)(round:Bool):Bool:= @decide (ze8 m L a round) (Classical.propDecidable _)
theorem zhz(h:ze8 m L a round):eulB m L a round=true:= @decide_eq_true _ (Classical.propDecidable _) h
theorem zfb(h: ¬ze8 m L a round):eulB m L a round=false:= @decide_eq_false _ (Classical.propDecidable _) h
theorem zj0(q:MOk m)(D:200≤N)(x:Shp m L)(l:a<m.rows.length)(E: ∀ s i,VE m s i→0≤lf L s i∧lf L s i≤1000000000):gu N ⟨m,L,w9 m L⟩ (a:Int) round=some (eulB m L a round):=by
 have M:=q.r2
 have hpos: ∀ s i,VE m s i→0≤lf L s i:=fun s i f=>(E s i f).1
 have hiff:=zj1 (round:=round) q l x hpos
 unfold gu
 by_cases c:w9 m L=0
 ·rw [if_pos c] at hiff
  rw [il c]
  by_cases h:round=true→a=0
  ·rw [zhz (hiff.2 h)]
   cases round
   ·rfl
   ·rw [h rfl];rfl
  ·rw [zfb (fun b=>h (hiff.1 b))]
   obtain⟨y,b⟩:=Classical.not_imp.1 h
   rw [y,decide_eq_false (by omega)];rfl
 ·rw [if_neg c] at hiff
  rw [ni c,qg (zck q D x E)]
  have hget: ∀ v,v<m.rows.length→((List.range m.rows.length).map (y8 m L)).getD v default=y8 m L v:=fun v f=>yf (y8 m L) f
  have hlen:((List.range m.rows.length).map (y8 m L)).length=m.rows.length:=by simp
  have hend: ∀ k,zcu m L k≤k:=fun k=>Nat.le_trans List.countP_le_length (by simp)
  obtain⟨r,o,A⟩: ∃ r,bq N (a:Int) round ((List.range m.rows.length).map (y8 m L)) N 0 0 0=some r∧((r=Ex.rt (false)∧ ¬ ∀ v,v<m.rows.length→okV m L a round v)∨(r=Ex.go ((if y8 m L a=1 then 1 else 0),(zcu m L m.rows.length:Int))∧ ∀ v,v<m.rows.length→okV m L a round v)):=by
   refine z2p (σ:=Int×Int) (fun F v z=>bq N (a:Int) round ((List.range m.rows.length).map (y8 m L)) F z.1 z.2 (v:Int)) m.rows.length (fun v z=>z.1=(if a<v∧y8 m L a=1 then 1 else 0)∧z.2=(zcu m L v:Int)∧ ∀ u,u<v→okV m L a round u) _ (fun F v z f c=>?_) (fun F z c=>?_) N 0 (0,0) (Nat.zero_le _) (by omega) ⟨by rw [if_neg (by omega)],rfl,fun u O=>by omega⟩
   ·obtain⟨n,t⟩:=z
    obtain⟨d,g,p⟩:=c
    dsimp only at d g
    have H:0≤n∧n≤1:=by rw [d];split<;>omega
    have I:=hend v
    simp only [bq]
    rw [il (by rw [hlen];omega),zu (qi (by rw [hlen];exact f)),uy,hget v f]
    by_cases c1:y8 m L v=0
    ·right
     refine⟨(n,t),⟨?_,?_,zg2 p (.inl c1)⟩,?_⟩
     ·dsimp only
      rw [d]
      by_cases hc:a<v∧y8 m L a=1
      ·rw [if_pos hc,if_pos ⟨by omega,hc.2⟩]
      ·rw [if_neg hc,if_neg (fun h=>hc ⟨?_,h.2⟩)]
       rcases Nat.lt_succ_iff_lt_or_eq.1 h.1 with b|b
       ·exact b
       ·have:=h.2;rw [b,c1] at this;cases this
     ·dsimp only;rw [g,zed,if_neg (by omega)];rfl
     ·rw [il c1,z7j,z9z,zu (jh (by omega))];rfl
    ·by_cases j:y8 m L v=1∧v=a
     ·obtain⟨j,rfl⟩:=j
      right
      refine⟨(n+1,t),⟨?_,?_,zg2 p (.inr (.inl ⟨j,rfl⟩))⟩,?_⟩
      ·dsimp only;rw [d,if_neg (by omega),if_pos ⟨by omega,j⟩];rfl
      ·dsimp only;rw [g,zed,if_neg (by omega)];rfl
      ·rw [ni c1,ct (by rw [decide_eq_true j,decide_eq_true (rfl:(v:Int)=(v:Int))];rfl),zu (jh (by omega)),z7j,z9z,zu (jh (by omega))];rfl
     ·by_cases e:y8 m L v= -1∧(round=true→v=0)
      ·obtain⟨e,G⟩:=e
       right
       refine⟨(n,t+1),⟨?_,?_,zg2 p (.inr (.inr ⟨e,G⟩))⟩,?_⟩
       ·dsimp only
        rw [d]
        by_cases hc:a<v∧y8 m L a=1
        ·rw [if_pos hc,if_pos ⟨by omega,hc.2⟩]
        ·rw [if_neg hc,if_neg (fun h=>hc ⟨?_,h.2⟩)]
         rcases Nat.lt_succ_iff_lt_or_eq.1 h.1 with b|b
         ·exact b
         ·have:=h.2;rw [b,e] at this;cases this
       ·dsimp only;rw [g,zed,if_pos e];rfl
       ·rw [ni c1,cf (by rw [decide_eq_false (by omega)];rfl),ct (by
         rw [decide_eq_true e]
         cases round
         ·rfl
         ·rw [G rfl];rfl),zu (jh (by omega)),z7j,z9z,zu (jh (by omega))];rfl
      ·left
       refine⟨Ex.rt false,?_,.inl ⟨rfl,fun h=>?_⟩⟩
       ·rw [ni c1,cf (by
         rw [Bool.and_eq_false_iff]
         by_cases h:y8 m L v=1
         ·exact .inr (decide_eq_false fun b=>j ⟨h,by omega⟩)
         ·exact .inl (decide_eq_false h)),cf (by
         rw [Bool.and_eq_false_iff]
         by_cases h:y8 m L v= -1
         ·right
          have b: ¬(round=true→v=0):=fun b=>e ⟨h,b⟩
          obtain⟨w,P⟩:=Classical.not_imp.1 b
          rw [w,decide_eq_false (by omega)];rfl
         ·exact .inl (decide_eq_false h)),z7j,zll]
       ·rcases h v f with h|h|h
        ·exact c1 h
        ·exact j h
        ·exact e h
   ·obtain⟨n,t⟩:=z
    obtain⟨d,g,p⟩:=c
    dsimp only at d g
    simp only [bq]
    rw [ni (by rw [hlen];omega)]
    refine⟨_,rfl,.inr ⟨?_,p⟩⟩
    rw [d,g]
    by_cases hc:y8 m L a=1
    ·rw [if_pos hc,if_pos ⟨l,hc⟩]
    ·rw [if_neg hc,if_neg (fun h=>hc h.2)]
  rcases A with⟨rfl,B⟩|⟨rfl,C⟩
  ·rw [qg o,zll,zfb (fun h=>B ((zgi l).1 (hiff.1 h).1).1)]
  ·rw [qg o,z9z]
   dsimp only
   by_cases hb:zx5 m L a round
   ·obtain⟨_,J,K⟩:=(zgi l).1 hb
    rw [cf (by
     rw [Bool.or_eq_false_iff]
     refine⟨decide_eq_false fun h=>h (by rw [←J];split<;>rfl),?_⟩
     by_cases h:y8 m L a=1
     ·rw [if_pos h];simp
     ·by_cases b:round=true
      ·have:a=0:=Classical.byContradiction fun w=>K ⟨b,h,w⟩
       rw [this];simp
      ·rw [Bool.eq_false_iff.2 b];simp),qg (zmt q D x l)]
    congr 1
    unfold rchPB
    by_cases hrc:zqk m L a
    ·rw [@decide_eq_true _ (Classical.propDecidable _) hrc,zhz (hiff.2 ⟨hb,hrc⟩)]
    ·rw [@decide_eq_false _ (Classical.propDecidable _) hrc,zfb (fun h=>hrc (hiff.1 h).2)]
   ·rw [ct (by
     refine Classical.byContradiction fun h=>hb ((zgi l).2 ⟨C,?_,?_⟩)
     ·have h:=(Bool.or_eq_false_iff.1 (Bool.eq_false_iff.2 h)).1
      have h:=Classical.not_not.1 (of_decide_eq_false h)
      by_cases hA:y8 m L a=1
      ·rw [if_pos hA] at h⊢;omega
      ·rw [if_neg hA] at h⊢;omega
     ·rintro⟨y,b,w⟩
      refine h ?_
      rw [y,if_neg b,decide_eq_true (show ((a:Int)≠0) by omega)];simp),zfb (fun h=>hb (hiff.1 h).1)]
end
end GV
end Go.Proofs.Ytdhccodneoebpaa

namespace Go.Proofs.Ytdhccodneoebpaa
namespace GV
set_option maxRecDepth 100000
theorem zib{β:Type}{g:Nat→Option β}: ∀ {I:Nat},(∀ j,j<I→g j=none)→(List.range I).findSome? g=none
 |0,_=>rfl
 |I+1,h=>by
  rw [List.range_succ,List.findSome?_append,zib (fun j a=>h j (by omega)),List.findSome?_singleton,h I (by omega)];rfl
theorem ze9{β:Type}{g:Nat→Option β}{i:Nat}{y:β}: ∀ {I:Nat},i<I→g i=some y→(∀ j,j<i→g j=none)→(List.range I).findSome? g=some y
 |0,h,_,_=>by omega
 |I+1,h,a,b=>by
  rw [List.range_succ,List.findSome?_append]
  by_cases e:i<I
  ·rw [ze9 e a b];rfl
  ·obtain rfl:i=I:=by omega
   rw [zib b,List.findSome?_singleton,a];rfl
theorem zgb{β:Type}{g:Nat→Option β}{y:β}: ∀ {I:Nat},(List.range I).findSome? g=some y→ ∃ i,i<I∧g i=some y∧ ∀ j,j<i→g j=none
 |0,h=>by cases h
 |I+1,h=>by
  rw [List.range_succ,List.findSome?_append] at h
  cases e:(List.range I).findSome? g with
  |some z=>
   rw [e] at h
   obtain rfl:=Option.some.inj h
   obtain⟨i,a,b,c⟩:=zgb e
   exact⟨i,by omega,b,c⟩
  |none=>
   rw [e,List.findSome?_singleton] at h
   refine⟨I,by omega,h,fun j d=>?_⟩
   rw [List.findSome?_eq_none_iff] at e
   exact e j (List.mem_range.2 d)
def exL(m:Mach)(round:Bool):Nat→List (List Int)→Nat→Option (List Int)
 |0,_,_=>none
 |f+1,L,a=>if w9 m L=0 then(if(!round||decide (a=0))=true then some [] else none) else(List.range m.inputs.toNat).findSome? fun i=>if ed m a i≠ -1∧0<lf L a i then(exL m round f (z0w L a i) (ed m a i).toNat).map fun w=>(i:Int)::w else none
section
variable {N : Nat} {m : Mach} {round : Bool}
def zj3(m:Mach)(L:List (List Int)):Prop:= ∀ s i,VE m s i→0≤lf L s i∧lf L s i≤1000000000
theorem z3i{L:List (List Int)}{a i:Nat}(d:Shp m L)(b:zj3 m L)(c:VE m a i)(h:0<lf L a i):zj3 m (z0w L a i):=fun s j e=>by
 rw [zay d c]
 have f:=b a i c
 have g:=b s j e
 split<;>omega
theorem zs2{a:Nat}:(!round||decide (a=0))=true↔(round=true→a=0):=by
 cases round<;>simp
theorem zeh(n:MOk m): ∀ (f:Nat) (L:List (List Int)) (a:Nat),Shp m L→zj3 m L→a<m.rows.length→(w9 m L).toNat<f→
 (∀ w,exL m round f L a=some w→ ∃ e,WkV m a w e∧(∀ s i,VE m s i→ctN m a w s i=lf L s i)∧(round=true→e=0))∧(exL m round f L a=none→ ¬ze8 m L a round)
 |0,_,_,_,_,_,h=>by omega
 |f+1,L,a,k,r,y,C=>by
  have hpos: ∀ s i,VE m s i→0≤lf L s i:=fun s i g=>(r s i g).1
  unfold exL
  by_cases hz:w9 m L=0
  ·rw [if_pos hz]
   have hall:=(zi1 hpos).1 hz
   constructor
   ·intro w d
    by_cases hr:(!round||decide (a=0))=true
    ·rw [if_pos hr] at d
     obtain rfl:=Option.some.inj d
     exact⟨a,rfl,fun s i g=>by rw [hall s i g];rfl,zs2.1 hr⟩
    ·rw [if_neg hr] at d;cases d
   ·intro d t
    by_cases hr:(!round||decide (a=0))=true
    ·rw [if_pos hr] at d;cases d
    ·refine hr (zs2.2 ?_)
     have:=(zj1 (round:=round) n y k hpos).1 t
     rw [if_pos hz] at this
     exact this
  ·rw [if_neg hz]
   have z:=zah hpos
   have hstep: ∀ i,VE m a i→0<lf L a i→(w9 m (z0w L a i)).toNat<f:=fun i g h=>by
    rw [z4t k g];omega
   constructor
   ·intro w d
    obtain⟨i,hi,q,_⟩:=zgb d
    by_cases g:ed m a i≠ -1∧0<lf L a i
    ·rw [if_pos g] at q
     have b:VE m a i:=⟨y,hi,g.1⟩
     obtain⟨w',hw',rfl⟩:=Option.map_eq_some_iff.1 q
     obtain⟨e,o,p,u⟩:=(zeh n f _ _ (z2j k b) (z3i k r b g.2) (b.to n).1 (hstep i b g.2)).1 w' hw'
     refine⟨e,⟨i,rfl,b,o⟩,fun s j v=>?_,u⟩
     rw [z3o,p s j v,zay k b]
     by_cases e2:s=a∧j=i
     ·rw [if_pos e2,if_pos ⟨e2.1.symm,e2.2.symm⟩,e2.1,e2.2];omega
     ·rw [if_neg e2,if_neg (fun h=>e2 ⟨h.1.symm,h.2.symm⟩)];omega
    ·rw [if_neg g] at q;cases q
   ·intro d t
    obtain⟨w,e,o,p,u⟩:=t
    have A:=zdg n o p
    match w,o with
    | [],_=>exact hz A.symm
    |c::w,⟨i,B,b,o⟩=>
     subst B
     have l:0<lf L a i:=by
      rw [←p a i b,z3o,if_pos ⟨rfl,rfl⟩]
      have:=z8y (m:=m) w (ed m a i).toNat a i;omega
     rw [List.findSome?_eq_none_iff] at d
     have:=d i (List.mem_range.2 b.hi)
     rw [if_pos ⟨b.he,l⟩] at this
     have x:=(zeh n f _ _ (z2j k b) (z3i k r b l) (b.to n).1 (hstep i b l)).2 (Option.map_eq_none_iff.1 this)
     refine x ⟨w,e,o,fun s j v=>?_,u⟩
     have:=p s j v
     rw [z3o] at this
     rw [zay k b]
     by_cases e2:s=a∧j=i
     ·rw [if_pos ⟨e2.1.symm,e2.2.symm⟩] at this
      rw [if_pos e2]
      rw [e2.1,e2.2] at this⊢;omega
     ·rw [if_neg (fun h=>e2 ⟨h.1.symm,h.2.symm⟩)] at this
      rw [if_neg e2];omega
theorem zdn(b:MOk m){f:Nat}{L:List (List Int)}{a:Nat}(c:Shp m L)(d:zj3 m L)(g:a<m.rows.length)(i:(w9 m L).toNat<f):(exL m round f L a).isSome=true↔ze8 m L a round:=by
 obtain⟨j,k⟩:=zeh (round:=round) b f L a c d g i
 cases e:exL m round f L a with
 |some w=>
  obtain⟨e',l,n,o⟩:=j w e
  exact⟨fun _=>⟨w,e',l,n,o⟩,fun _=>rfl⟩
 |none=>exact⟨fun h=>(by cases h),fun h=>absurd h (k e)⟩
/-! ### The document's-/
end
end GV
end Go.Proofs.Ytdhccodneoebpaa

namespace Go.Proofs.Ytdhccodneoebpaa
namespace GV
set_option maxRecDepth 100000
section
variable {N : Nat} {m : Mach} {round : Bool} {L : List (List Int)} {a : Nat}
theorem zl5(c:Shp m L){i:Nat}(b:VE m a i)(d:zj3 m L){k:Int}(e:0≤k∧k≤2000000000000):yo N (a:Int) (i:Int) 1 m.inputs m.outputs m.rows L k=some (z0w L a i,k-1):=by
 have f:=d a i b
 unfold yo
 rw [zu (qi (by rw [c.len];exact b.hs)),uy,zu (qi (by rw [c.row a b.hs];exact b.hi)),uy,show (L.getD a default).getD i default=lf L a i from rfl,zu (jh (by omega)),zu (qi (by rw [c.row a b.hs];exact b.hi)),zu (jh (by omega)),mo,mo];rfl
theorem zle{α:Type}[Inhabited α]{l:List α}{i:Nat}:l.set i (l.getD i default)=l:=by
 apply List.ext_getElem?
 intro j
 rw [List.getElem?_set]
 split
 ·rename_i h;subst h
  split
  ·rename_i h;rw [List.getD_eq_getElem?_getD,List.getElem?_eq_getElem h];rfl
  ·rename_i h;rw [List.getElem?_eq_none (by omega)]
 ·rfl
theorem zvd(d:Shp m L){i:Nat}(b:VE m a i)(f:zj3 m L){k:Int}(l:0≤k∧k≤2000000000000):yo N (a:Int) (i:Int) (-1) m.inputs m.outputs m.rows (z0w L a i) (k-1)=some (L,k):=by
 have n:=f a i b
 have c:=z2j d b
 have e:(z0w L a i).getD a default=(L.getD a default).set i (lf L a i-1):=by
  unfold z0w;rw [u6 (by rw [d.len];exact b.hs),if_pos rfl]
 have g:((z0w L a i).getD a default).getD i default=lf L a i-1:=by
  rw [e,u6 (by rw [d.row a b.hs];exact b.hi),if_pos rfl]
 unfold yo
 rw [zu (qi (by rw [c.len];exact b.hs)),uy,zu (qi (by rw [c.row a b.hs];exact b.hi)),uy,g,zu (jh (by omega)),zu (qi (by rw [c.row a b.hs];exact b.hi)),zu (jh (by omega)),mo,mo,e,List.set_set,show lf L a i-1- -1=lf L a i by omega]
 have h:(L.getD a default).set i (lf L a i)=L.getD a default:=zle
 have j:(z0w L a i).set a (L.getD a default)=L:=by
  unfold z0w;rw [List.set_set];exact zle
 rw [h,j,show k-1- -1=k by omega]
theorem zh0(n:MOk m)(E:200≤N){Y:Sc}(P:Y.fD=m): ∀ (f:Nat) (L:List (List Int)) (a F:Nat) (out:List Int) (x:Int) (w:List Int),Shp m L→zj3 m L→a<m.rows.length→(w9 m L).toNat<f→w9 m L≤1000000→(w9 m L).toNat<F→(out.length:Int)+w9 m L=Y.fI→x≠w9 m L→exL m round f L a=some w→
 z0i N round Y F x (w9 m L) L out (a:Int)=some (out++w)
 |0,_,_,_,_,_,_,_,_,_,h,_,_,_,_,_=>by omega
 |f+1,L,a,F,out,x,w,l,t,G,U,R,V,W,S,u=>by
  obtain⟨F,rfl⟩: ∃ F',F=F'+1:=⟨F-1,by omega⟩
  have y:=zah (L:=L) fun s i p=>(t s i p).1
  unfold exL at u
  simp only [z0i]
  by_cases hz:w9 m L=0
  ·rw [if_pos hz] at u
   rw [cf (by rw [decide_eq_false (by omega)];rfl),z7j,zll]
   split at u
   ·obtain rfl:=Option.some.inj u;rw [List.append_nil]
   ·cases u
  ·rw [if_neg hz] at u
   obtain⟨i,hi,H,T⟩:=zgb u
   split at H
   ·rename_i hcond
    have p:VE m a i:=⟨G,hi,hcond.1⟩
    obtain⟨w',hw',rfl⟩:=Option.map_eq_some_iff.1 H
    have I:=z4t l p
    obtain⟨Q,J⟩:=p.to n
    rw [ct (by rw [decide_eq_true (show 0<w9 m L by omega),decide_eq_true S];rfl),show iy N (a:Int) Y.fD.inputs Y.fD.outputs Y.fD.rows L (w9 m L)=some (a:Int) from rfl,z7j,P]
    have K: ∀ j,j<i→VE m a j→0<lf L a j→ ¬ze8 m (z0w L a j) (ed m a j).toNat round:=fun j v b g=>by
     have A:=T j v
     rw [if_pos ⟨b.he,g⟩] at A
     have X:=z4t l b
     exact(zeh n f _ _ (z2j l b) (z3i l t b g) (b.to n).1 (by omega)).2 (Option.map_eq_none_iff.1 A)
    have hyes:ze8 m (z0w L a i) (ed m a i).toNat round:=(zdn n (z2j l p) (z3i l t p hcond.2) Q (f:=f) (by omega)).1 (by rw [hw'];rfl)
    have hcan: ∀ j,VE m a j→0<lf L a j→gu N ⟨⟨m.inputs,m.outputs,m.rows⟩,z0w L a j,w9 m L-1⟩ (ed m a j) round=some (eulB m (z0w L a j) (ed m a j).toNat round):=fun j b g=>by
     have A:=zj0 (N:=N) (round:=round) n E (z2j l b) (b.to n).1 (z3i l t b g)
     rw [z4t l b,←(b.to n).2] at A
     exact A
    obtain⟨z,M,O⟩:=zau (s:=a) (k:=w9 m L) n E l G (σ:=Ex (Int×List (List Int)) (Ex (Int×List (List Int)×List Int×Int) (List Int))) (Ex.got (fun(o:Int×List (List Int))=>(m.inputs,m.outputs,m.rows,o.2,o.1))) (fun c s=>Ex.on s (fun q=>
     bd (yo N (a:Int) c.fA 1 m.inputs m.outputs m.rows q.2 q.1) fun d=>
     bd (gu N (⟨(⟨m.inputs,m.outputs,m.rows⟩:Mach),d.1,d.2⟩:Sc) c.fB round) fun B=>
     bif B then(
     gd (out.length+([c.fA]:List Int).length≤Y.fI.toNat)<|
     some (false,Ex.rt (Ex.go (d.2,d.1,(out++([c.fA]:List Int)),c.fB)))) else(
     bd (yo N (a:Int) c.fA (-1) m.inputs m.outputs m.rows d.1 d.2) fun r=>
     some (true,Ex.go (r.2,r.1)))) fun _=>none) (fun j z=>z=Ex.go (w9 m L,L)∧j≤i) (fun z=>z=Ex.rt (Ex.go (w9 m L-1,z0w L a i,out++[(i:Int)],ed m a i))) (s0:=Ex.go (w9 m L,L)) ⟨rfl,Nat.zero_le _⟩ (fun j z h=>by rw [h.1];rfl) (by
      rintro j _ C Z g ⟨rfl,v⟩
      have b:VE m a j:=⟨G,C,by omega⟩
      simp only [z9z]
      rw [qg (zl5 l b t ⟨y,by omega⟩),qg (hcan j b g)]
      by_cases e:j=i
      ·subst e
       rw [zhz hyes,ct rfl,zu (by simp;omega)]
       exact⟨false,_,rfl,fun h=>(by cases h),fun _=>rfl⟩
      ·rw [zfb (K j (by omega) b g),cf rfl,qg (zvd l b t ⟨y,by omega⟩)]
       exact⟨true,_,rfl,fun _=>⟨rfl,by omega⟩,fun h=>(by cases h)⟩) (by
      rintro j _ C D ⟨rfl,v⟩
      refine⟨rfl,?_⟩
      by_cases e:j=i
      ·subst e
       rcases D with D|D
       ·exact absurd D hcond.1
       ·omega
      ·omega)
    rw [qg M]
    rcases O with⟨_,h⟩|rfl
    ·omega
    ·rw [zll,z7j,z9z]
     have ih:=zh0 n E P f (z0w L a i) (ed m a i).toNat F (out++[(i:Int)]) (w9 m L) w' (z2j l p) (z3i l t p hcond.2) Q (by omega) (by omega) (by omega) (by simp;omega) (by omega) hw'
     rw [I,←J,List.append_assoc] at ih
     exact ih
   ·cases H
def ay(m:Mach):List (List Int):=z1i m fun _ _=>1
theorem z5b{s i:Nat}(a:VE m s i):lf (ay m) s i=1:=by
 unfold ay;rw [zdm a.hs a.hi,if_neg a.he]
theorem z1b:Shp m (ay m):=z90
theorem one_pos:zj3 m (ay m):=fun s i a=>by rw [z5b a];omega
theorem z05:w9 m (ay m)=((qp m).length:Int):=by
 have h:w9 m (ay m)=((qp m).map fun _=>(1:Int)).sum:=gz fun e d=>by
  obtain⟨x,j,a,b,c,rfl⟩:=ut.1 d
  exact z5b ⟨a,b,c⟩
 rw [h]
 induction qp m with
 |nil=>rfl
 |cons x l ih=>rw [List.map_cons,List.sum_cons,ih,List.length_cons];omega
def exW(m:Mach)(round:Bool):Option (List Int):=exL m round ((qp m).length+1) (ay m) 0
def exE(m:Mach)(round:Bool):List Int×Int:=match exW m round with|some w=>(w,0)|none=>([],7)
theorem zax(a:MOk m)(b:200≤N):av N m (fun c d=>z6y N c d)=some ⟨m,ay m,((qp m).length:Int)⟩:=by
 rw [zfe (t:=fun _ _=>1) a b fun s i e=>⟨rfl,by decide,by decide⟩]
 rw [show z1i m (fun _ _=>1)=ay m from rfl,z05]
theorem zgl(a:MOk m):(exW m round).isSome=true↔ze8 m (ay m) 0 round:=by
 have c:=a.r1
 have b:=a.r2
 exact zdn a z1b one_pos (by omega) (by rw [z05];omega)
theorem znp(a:MOk m){w:List Int}(h:exW m round=some w):w.length=(qp m).length:=by
 have f:=a.r1
 have b:=a.r2
 obtain⟨e,c,d,_⟩:=(zeh (round:=round) a _ _ _ z1b one_pos (by omega) (by rw [z05];omega)).1 w h
 have:=zdg a c d
 rw [z05] at this;omega
theorem zsf(d:CM38 m)(j:1500≤N)(k:(qp m).length≤256):cu N m round=some (exE m round):=by
 have c:=d.ok
 have l:=c.r1
 have i:=c.r2
 unfold cu exE
 rw [qg (d.check0 (by omega)),ni (by decide),qg (zax c (by omega)),z6b]
 have f:=zj0 (N:=N) (a:=0) (round:=round) c (by omega) z1b (by omega) one_pos
 rw [z05,show ((0:Nat):Int)=0 from rfl] at f
 dsimp only
 rw [qg f]
 have hiff:=zgl (round:=round) c
 cases e:exW m round with
 |none=>
  rw [e] at hiff
  rw [zfb (fun h=>by have:=hiff.2 h;cases this),ct (b:= !false) rfl]
 |some w=>
  rw [e] at hiff
  rw [zhz (hiff.1 rfl),cf (b:= !true) rfl,ni (by omega),zu ⟨⟨by omega,by omega,by omega⟩,by omega,by omega⟩]
  have g:=zh0 (N:=N) (round:=round) c (by omega) (Y:=⟨m,ay m,((qp m).length:Int)⟩) rfl ((qp m).length+1) (ay m) 0 N [] (-1) w z1b one_pos (by omega) (by rw [z05];omega) (by rw [z05];omega) (by rw [z05];omega) (by rw [z05];simp) (by rw [z05];omega) e
  rw [z05] at g
  dsimp only
  rw [show mk 0 (0:Int)=[] from rfl,show (0:Int)=((0:Nat):Int) from rfl,qg g,zu (by rw [List.nil_append,znp c e];rfl)];rfl
/-! ### when there is a round one-/
theorem zql(c:MOk m){x y:Nat}(h:Reach m x y):Reach (z2n m (ay m)) x y:=by
 induction h with
 |refl=>exact .refl
 | @step t i j a d e ih=>
  have hi:i<m.inputs.toNat:=by rwa [c.rowlen a] at d
  have f:VE m t i:=⟨a,hi,by unfold ed;omega⟩
  have g:=z5b f
  have b:((z2n m (ay m)).rows.getD t default).getD i default=(m.rows.getD t default).getD i default:=by rw [zfx a hi,if_pos (by omega)]
  have:=Reach.step ih (by rw [fo];exact a) (i:=i) (by rw [zaz a];simpa using hi) (by rw [b];exact e)
  rwa [b] at this
end
end GV
end Go.Proofs.Ytdhccodneoebpaa

namespace Go.Proofs.Ytdhccodneoebpaa
namespace GV
set_option maxRecDepth 100000
section
variable {N : Nat} {m : Mach} {round : Bool}
end
end GV
end Go.Proofs.Ytdhccodneoebpaa
