
import Derived.Test.YtdhccodneoebpaaLaw38o
import Derived.Test.YtdhccodneoebpaaSaid38
set_option linter.unusedVariables false
set_option linter.unusedSimpArgs false
set_option linter.unusedSectionVars false
namespace Go.Proofs.Ytdhccodneoebpaa
namespace GV
set_option maxRecDepth 100000
/-! ### Sums-/
theorem z3t{α:Type}{f g:α→Int}: ∀ {l:List α},(∀ x∈l,f x=g x)→(l.map f).sum=(l.map g).sum
 | [],_=>rfl
 |a::l,h=>by rw [List.map_cons,List.map_cons,List.sum_cons,List.sum_cons,h a (by simp),z3t fun x b=>h x (by simp [b])]
theorem zpr{α:Type}{f g:α→Int}: ∀ {l:List α},(∀ x∈l,f x≤g x)→(l.map f).sum≤(l.map g).sum
 | [],_=>Int.le_refl _
 |a::l,h=>by
  rw [List.map_cons,List.map_cons,List.sum_cons,List.sum_cons]
  have:=h a (by simp)
  have:=zpr (l:=l) fun x b=>h x (by simp [b])
  omega
theorem zes{α:Type}{f g:α→Int}{a:α}{d:Int}: ∀ {l:List α},l.Nodup→a∈l→g a=f a+d→(∀ x∈l,x≠a→g x=f x)→(l.map g).sum=(l.map f).sum+d
 | [],_,h,_,_=>by cases h
 |b::l,k,h,j,i=>by
  obtain⟨m,n⟩:=List.nodup_cons.1 k
  rw [List.map_cons,List.map_cons,List.sum_cons,List.sum_cons]
  by_cases e:b=a
  ·subst e
   rw [j,z3t (f:=g) (g:=f) fun x c=>i x (by simp [c]) fun e=>m (e▸c)];omega
  ·have o:a∈l:=by rcases List.mem_cons.1 h with h|h;exact absurd h.symm e;exact h
   rw [i b (by simp) e,zes n o j fun x c=>i x (by simp [c])];omega
theorem zgx{α:Type}{f:α→Int}{B:Int}(b:0≤B): ∀ {l:List α},(∀ x∈l,-B≤f x∧f x≤B)→ -(B*(l.length:Int))≤(l.map f).sum∧(l.map f).sum≤B*(l.length:Int)
 | [],_=>by simp
 |a::l,h=>by
  have d:=h a (by simp)
  have g:=zgx b (l:=l) fun x c=>h x (by simp [c])
  have e:B*((a::l).length:Int)=B*(l.length:Int)+B:=by
   rw [List.length_cons,Int.natCast_succ,Int.mul_add,Int.mul_one]
  rw [e,List.map_cons,List.sum_cons];omega
theorem zam{α:Type}: ∀ l:List α,(l.map fun _=>(0:Int)).sum=0
 | []=>rfl
 |a::l=>by rw [List.map_cons,List.sum_cons,zam l];rfl
theorem zdk{α:Type}{f:α→Int}{l:List α}(h: ∀ x∈l,0≤f x):0≤(l.map f).sum:=by
 have:=zpr (f:=fun _=>0) (g:=f) (l:=l) h
 rwa [zam] at this
theorem zl6{α:Type}{f:α→Int}: ∀ {l:List α},(∀ x∈l,0≤f x)→(∃ x∈l,0<f x)→0<(l.map f).sum
 | [],_,⟨x,b,_⟩=>by cases b
 |a::l,h,⟨x,b,c⟩=>by
  rw [List.map_cons,List.sum_cons]
  have d:=h a (by simp)
  have e:=zdk (l:=l) fun x b=>h x (by simp [b])
  rcases List.mem_cons.1 b with rfl|b
  ·omega
  ·have:=zl6 (l:=l) (fun x b=>h x (by simp [b])) ⟨x,b,c⟩;omega
def dl(a b:Nat):Int:=if a=b then 1 else 0
theorem z5k(a:Nat):dl a a=1:=if_pos rfl
theorem z7d{a b:Nat}(h:a≠b):dl a b=0:=if_neg h
theorem zg4(a b:Nat):0≤dl a b∧dl a b≤1:=by unfold dl;split<;>omega
def tgE(m:Mach)(e:Int×Int):Nat:=(ed m e.1.toNat e.2.toNat).toNat
def lfE(L:List (List Int))(e:Int×Int):Int:=lf L e.1.toNat e.2.toNat
def mr(m:Mach)(L:List (List Int)):Int:=((ql m).map (lfE L)).sum
def zjh(m:Mach)(L:List (List Int))(v:Nat)(e:Int×Int):Int:=lfE L e*(dl e.1.toNat v-dl (tgE m e) v)
def z0g(m:Mach)(L:List (List Int))(v:Nat):Int:=((ql m).map (zjh m L v)).sum
section
variable {N : Nat} {m : Mach} {L : List (List Int)} {s i : Nat}
theorem zus(g:Shp m L)(d:VE m s i){x:Int}:mr m (L.set s ((L.getD s default).set i x))=mr m L+(x-lf L s i):=by
 unfold mr
 refine zes edges_nd (z6s d) ?_ fun e k f=>?_
 ·show lf _ s i=lf L s i+_
  rw [zfb g d.hs d.hi,if_pos ⟨rfl,rfl⟩];omega
 ·obtain⟨t,j,a,b,c,rfl⟩:=xy.1 k
  show lf _ t j=lf L t j
  rw [zfb g d.hs d.hi,if_neg (fun h=>f (by rw [h.1,h.2]))]
theorem zxv(g:Shp m L)(d:VE m s i){x:Int}(v:Nat):z0g m (L.set s ((L.getD s default).set i x)) v=z0g m L v+(x-lf L s i)*(dl s v-dl (ed m s i).toNat v):=by
 unfold z0g
 refine zes edges_nd (z6s d) ?_ fun e k f=>?_
 ·show lf _ s i*(dl s v-dl (ed m s i).toNat v)=lf L s i*(dl s v-dl (ed m s i).toNat v)+_
  rw [zfb g d.hs d.hi,if_pos ⟨rfl,rfl⟩,←Int.add_mul]
  congr 1;omega
 ·obtain⟨t,j,a,b,c,rfl⟩:=xy.1 k
  show lf _ t j*(dl t v-dl (ed m t j).toNat v)=lf L t j*(dl t v-dl (ed m t j).toNat v)
  rw [zfb g d.hs d.hi,if_neg (fun h=>f (by rw [h.1,h.2]))]
/-! ### newRest-/
def z92(m:Mach)(t:Nat→Nat→Int)(s:Nat):List Int:=(List.range m.inputs.toNat).map fun i=>if ed m s i= -1 then 0 else t s i
def z2t(m:Mach)(t:Nat→Nat→Int):List (List Int):=(List.range m.rows.length).map (z92 m t)
theorem zx0{t:Nat→Nat→Int}:Shp m (z2t m t):=by
 refine⟨by simp [z2t],fun s a=>?_⟩
 unfold z2t
 rw [aa (z92 m t) a];simp [z92]
theorem zgt{t:Nat→Nat→Int}(a:s<m.rows.length)(hi:i<m.inputs.toNat):lf (z2t m t) s i=if ed m s i= -1 then 0 else t s i:=by
 unfold lf z2t
 rw [aa (z92 m t) a]
 unfold z92
 rw [aa (fun i=>if ed m s i= -1 then 0 else t s i) hi]
theorem zq1(A:MOk m)(K:200≤N){times:Int→Int→Option Int}{t:Nat→Nat→Int}(C: ∀ s i,VE m s i→times (s:Int) (i:Int)=some (t s i)∧0≤t s i∧t s i≤1000000000):rq N m times=some ⟨m,z2t m t,mr m (z2t m t)⟩:=by
 have P:=A.r2;have hinp:=A.inp
 unfold rq
 rw [zh ⟨by omega,by omega,by omega⟩,z0k]
 have hsum: ∀ s i,s<m.rows.length→i≤m.inputs.toNat→0≤((vw m s++pu m s i).map (lfE (z2t m t))).sum∧((vw m s++pu m s i).map (lfE (z2t m t))).sum≤1000000000*1040:=by
  intro s i n hi
  have D: ∀ e∈vw m s++pu m s i,0≤lfE (z2t m t) e∧lfE (z2t m t) e≤1000000000:=by
   intro e o
   rcases List.mem_append.1 o with h|h
   ·obtain⟨x,j,a,b,c,rfl⟩:=(z6i s).1 h
    have:=(C x j ⟨by omega,b,c⟩).2
    show 0≤lf _ x j∧lf _ x j≤_
    rw [zgt (by omega) b,if_neg c];exact this
   ·obtain⟨j,L,rfl⟩:=List.mem_map.1 h
    obtain⟨u,p⟩:=List.mem_filter.1 L
    have u:=List.mem_range.1 u
    have p:=of_decide_eq_true p
    have:=(C s j ⟨n,by omega,p⟩).2
    show 0≤lf _ s j∧lf _ s j≤_
    rw [zgt n (by omega),if_neg p];exact this
  have u:=zdk (f:=lfE (z2t m t)) fun e o=>(D e o).1
  have p:=(zgx (f:=lfE (z2t m t)) (B:=1000000000) (by decide) (fun e o=>⟨by have:=(D e o).1;omega,(D e o).2⟩)).2
  have M:=zev A (k:=s) (by omega)
  have Q:=z6l (m:=m) (s:=s) (k:=i)
  rw [List.length_append] at p
  omega
 refine Eq.trans (qj (x:=(mr m (z2t m t),z2t m t)) ?_) rfl
 refine df (σ:=Int×List (List Int)) (fun F s z=>mo N m times F (s:Int) z.1 z.2) m.rows.length (fun s z=>z.1=((vw m s).map (lfE (z2t m t))).sum∧z.2=(List.range s).map (z92 m t)++List.replicate (m.rows.length-s) []) _ (fun F s z n v=> .inr ?_) (fun F z v=>?_) N 0 (0,List.replicate m.rows.length []) (Nat.zero_le _) (by omega) ⟨rfl,by simp⟩
 ·obtain⟨c,X⟩:=z
  obtain⟨rfl,rfl⟩:=v
  have hlen:((List.range s).map (z92 m t)++List.replicate (m.rows.length-s) ([]:List Int)).length=m.rows.length:=by simp;omega
  have J: ∀ r:List Int,(((List.range s).map (z92 m t)++List.replicate (m.rows.length-s) []).set s r).getD s default=r:=fun r=>by
   rw [uu (by rw [hlen];exact n),if_pos rfl]
  have E:mk m.inputs (0:Int)=List.replicate m.inputs.toNat 0:=rfl
  simp only [mo]
  rw [di (by rw [z0k,List.length_replicate];omega),zh ⟨by omega,by omega,by omega⟩,zh (qf (by rw [hlen];exact n)),zei,show bi N m (s:Int)=some (m,(s:Int)) from rfl,z5y]
  obtain⟨z,v,w,y⟩:=z81 (s:=s) A K n (σ:=Int×List (List Int)) (fun g d=>
   gd (okI d.2 (s:Int))<|
   bd (times (s:Int) g.fA) fun l=>
   gd (okI (ix d.2 (s:Int)) g.fA)<|
   gd (okI (up d.2 (s:Int) (up (ix d.2 (s:Int)) g.fA l)) (s:Int))<|
   gd (okI (ix (up d.2 (s:Int) (up (ix d.2 (s:Int)) g.fA l)) (s:Int)) g.fA)<|
   gd (in64 (d.1+(ix (ix (up d.2 (s:Int) (up (ix d.2 (s:Int)) g.fA l)) (s:Int)) g.fA)))<|
   some (true,(d.1+(ix (ix (up d.2 (s:Int) (up (ix d.2 (s:Int)) g.fA l)) (s:Int)) g.fA),(up d.2 (s:Int) (up (ix d.2 (s:Int)) g.fA l))))) (fun i z=>z.1=((vw m s++pu m s i).map (lfE (z2t m t))).sum∧z.2=((List.range s).map (z92 m t)++List.replicate (m.rows.length-s) []).set s (((List.range i).map fun j=>if ed m s j= -1 then 0 else t s j)++List.replicate (m.inputs.toNat-i) 0)) (s0:=(((vw m s).map (lfE (z2t m t))).sum,up ((List.range s).map (z92 m t)++List.replicate (m.rows.length-s) []) (s:Int) (mk m.inputs (0:Int)))) ⟨by rw [zch,List.append_nil],by rw [ry,E];simp⟩ (by
    rintro i ⟨c,X⟩ hi R ⟨rfl,rfl⟩
    have G:VE m s i:=⟨n,hi,by omega⟩
    obtain⟨u,p,M⟩:=C s i G
    have O:=hsum s (i+1) n (by omega)
    dsimp only
    have q:(((List.range i).map fun j=>if ed m s j= -1 then 0 else t s j)++List.replicate (m.inputs.toNat-i) (0:Int)).length=m.inputs.toNat:=by simp;omega
    have hval:((((List.range i).map fun j=>if ed m s j= -1 then 0 else t s j)++List.replicate (m.inputs.toNat-i) (0:Int)).set i (t s i)).getD i default=t s i:=by
     rw [uu (by rw [q];exact hi),if_pos rfl]
    have hsucc:((vw m s++pu m s (i+1)).map (lfE (z2t m t))).sum=((vw m s++pu m s i).map (lfE (z2t m t))).sum+t s i:=by
     rw [zc2 (by omega),←List.append_assoc,List.map_append,List.sum_append]
     congr 1
     show lf (z2t m t) s i+0=_
     rw [zgt n hi,if_neg G.he];omega
    have H:((List.range (i+1)).map fun j=>if ed m s j= -1 then 0 else t s j)=((List.range i).map fun j=>if ed m s j= -1 then 0 else t s j)++[t s i]:=by
     rw [List.range_succ,List.map_append,List.map_cons,if_neg G.he];rfl
    refine⟨(((vw m s++pu m s (i+1)).map (lfE (z2t m t))).sum,((List.range s).map (z92 m t)++List.replicate (m.rows.length-s) []).set s (((List.range (i+1)).map fun j=>if ed m s j= -1 then 0 else t s j)++List.replicate (m.inputs.toNat-(i+1)) 0)),?_,rfl,rfl⟩
    rw [zh (qf (by rw [List.length_set,hlen];exact n)),qj u,uo,J,zh (qf (by rw [q];exact hi)),ry,ry,List.set_set,zh (qf (by rw [List.length_set,hlen];exact n)),uo,J,zh (qf (by rw [List.length_set,q];exact hi)),uo,hval,zh (qx (by rw [←hsucc];omega)),←hsucc,zcx (by simp) hi,H]) (by
    rintro i ⟨c,X⟩ hi o ⟨rfl,rfl⟩
    refine⟨by dsimp only;rw [zce o],?_⟩
    dsimp only
    congr 1
    rw [List.range_succ,List.map_append,show (List.map (fun j=>if ed m s j= -1 then(0:Int) else t s j) [i])=[0] from by rw [List.map_cons,if_pos o];rfl,List.append_assoc]
    congr 1
    rw [show m.inputs.toNat-i=(m.inputs.toNat-(i+1))+1 by omega,List.replicate_succ];rfl)
  obtain⟨c,X⟩:=z
  dsimp only at w y
  subst w
  subst y
  refine⟨(((vw m (s+1)).map (lfE (z2t m t))).sum,(List.range (s+1)).map (z92 m t)++List.replicate (m.rows.length-(s+1)) []),⟨rfl,rfl⟩,?_⟩
  have I:(((List.range s).map (z92 m t)++List.replicate (m.rows.length-s) ([]:List Int)).set s ((List.range m.inputs.toNat).map fun j=>if ed m s j= -1 then 0 else t s j))=(List.range (s+1)).map (z92 m t)++List.replicate (m.rows.length-(s+1)) []:=by
   rw [List.range_succ,List.map_append]
   exact zcx (by simp) n
  rw [qj v,zh (qx (by omega)),Nat.sub_self,List.replicate_zero,List.append_nil,I];rfl
 ·obtain⟨c,X⟩:=z
  obtain⟨rfl,rfl⟩:=v
  simp only [mo]
  rw [gp (by rw [z0k,List.length_replicate];omega),Nat.sub_self,List.replicate_zero,List.append_nil];rfl
/-! ### balance-/
def zcd(m:Mach)(L:List (List Int))(E:List (Int×Int))(v:Nat):Int:=(E.map (zjh m L v)).sum
theorem zq7(w:MOk m)(O:200≤N)(q:Shp m L)(E: ∀ s i,VE m s i→0≤lf L s i∧lf L s i≤1000000000){k:Int}:fu N ⟨m,L,k⟩=some ((List.range m.rows.length).map (z0g m L)):=by
 have V:=w.r2;have hinp:=w.inp
 unfold fu
 dsimp only
 rw [zh (by rw [q.len];exact⟨by omega,by omega,by omega⟩),z0k,q.len]
 have hbal: ∀ s i v,s<m.rows.length→i≤m.inputs.toNat→ -(1000000000*1040)≤zcd m L (vw m s++pu m s i) v∧zcd m L (vw m s++pu m s i) v≤1000000000*1040:=by
  intro s i v p hi
  have hone: ∀ x j,VE m x j→ -1000000000≤lf L x j*(dl x v-dl (ed m x j).toNat v)∧lf L x j*(dl x v-dl (ed m x j).toNat v)≤1000000000:=by
   intro x j n
   obtain⟨a,b⟩:=E x j n
   have G:=zg4 x v;have A:=zg4 (ed m x j).toNat v
   have t:dl x v-dl (ed m x j).toNat v= -1∨dl x v-dl (ed m x j).toNat v=0∨dl x v-dl (ed m x j).toNat v=1:=by omega
   rcases t with t|t|t<;>rw [t]<;>omega
  have P: ∀ e∈vw m s++pu m s i,-1000000000≤zjh m L v e∧zjh m L v e≤1000000000:=by
   intro e u
   rcases List.mem_append.1 u with h|h
   ·obtain⟨x,j,a,b,c,rfl⟩:=(z6i s).1 h
    exact hone x j ⟨by omega,b,c⟩
   ·obtain⟨j,Q,rfl⟩:=List.mem_map.1 h
    obtain⟨G,A⟩:=List.mem_filter.1 Q
    have G:=List.mem_range.1 G
    exact hone s j ⟨p,by omega,of_decide_eq_true A⟩
  have A:=zgx (f:=zjh m L v) (B:=1000000000) (by decide) P
  have t:=zev w (k:=s) (by omega)
  have W:=z6l (m:=m) (s:=s) (k:=i)
  rw [List.length_append] at A
  unfold zcd
  omega
 have hsucc: ∀ s i v,VE m s i→zcd m L (vw m s++pu m s (i+1)) v=zcd m L (vw m s++pu m s i) v+lf L s i*(dl s v-dl (ed m s i).toNat v):=by
  intro s i v n
  unfold zcd
  rw [zc2 n.he,←List.append_assoc,List.map_append,List.sum_append]
  congr 1
  show lf L s i*(dl s v-dl (ed m s i).toNat v)+0=_
  omega
 refine Eq.trans (qj (x:=(List.range m.rows.length).map (z0g m L)) ?_) rfl
 refine df (fun F s X=>bv N ⟨m,L,k⟩ F (s:Int) X) m.rows.length (fun s X=>X.length=m.rows.length∧ ∀ v,v<m.rows.length→X.getD v default=zcd m L (vw m s) v) _ (fun F s X p H=> .inr ?_) (fun F X H=>?_) N 0 _ (Nat.zero_le _) (by omega) ⟨by simp,fun v n=>by simp [zcd,vw,List.getD_eq_getElem?_getD,n]⟩
 ·obtain⟨C,I⟩:=H
  simp only [bv]
  rw [di (by rw [z0k,List.length_replicate,q.len];omega),show aj N ⟨m,L,k⟩ (s:Int)=some (⟨m,L,k⟩,(s:Int)) from rfl,z5y]
  obtain⟨z,R,l,o⟩:=ziy (s:=s) (k:=k) w O q p (σ:=List Int) (fun d g=>
   gd (okI g (s:Int))<|
   gd (okI L (s:Int))<|
   gd (okI (ix L (s:Int)) d.fA)<|
   gd (in64 ((ix g (s:Int))+(ix (ix L (s:Int)) d.fA)))<|
   gd (okI g (s:Int))<|
   gd (okI (up g (s:Int) ((ix g (s:Int))+(ix (ix L (s:Int)) d.fA))) d.fB)<|
   gd (okI L (s:Int))<|
   gd (okI (ix L (s:Int)) d.fA)<|
   gd (in64 ((ix (up g (s:Int) ((ix g (s:Int))+(ix (ix L (s:Int)) d.fA))) d.fB)-(ix (ix L (s:Int)) d.fA)))<|
   gd (okI (up g (s:Int) ((ix g (s:Int))+(ix (ix L (s:Int)) d.fA))) d.fB)<|
   some (true,(up (up g (s:Int) ((ix g (s:Int))+(ix (ix L (s:Int)) d.fA))) d.fB ((ix (up g (s:Int) ((ix g (s:Int))+(ix (ix L (s:Int)) d.fA))) d.fB)-(ix (ix L (s:Int)) d.fA))))) (fun i z=>z.length=m.rows.length∧ ∀ v,v<m.rows.length→z.getD v default=zcd m L (vw m s++pu m s i) v) (s0:=X) ⟨C,fun v n=>by rw [zch,List.append_nil];exact I v n⟩ (by
    rintro i z hi u S ⟨l,o⟩
    have n:VE m s i:=⟨p,hi,by omega⟩
    obtain⟨D,J⟩:=n.to w
    obtain⟨l0,Y⟩:=E s i n
    have T:ix (ix L (s:Int)) (i:Int)=lf L s i:=rfl
    have Z:=hbal s i s p (by omega)
    have b2:=hbal s i (ed m s i).toNat p (by omega)
    have K:=o s p
    have U:=o (ed m s i).toNat D
    have y:(z.set s (z.getD s default+lf L s i)).getD (ed m s i).toNat default=if(ed m s i).toNat=s then z.getD s default+lf L s i else z.getD (ed m s i).toNat default:=uu (by rw [l];exact p)
    refine⟨(z.set s (z.getD s default+lf L s i)).set (ed m s i).toNat ((z.set s (z.getD s default+lf L s i)).getD (ed m s i).toNat default-lf L s i),?_,by simp [l],fun v r=>?_⟩
    ·dsimp only
     rw [zh (qf (by rw [l];exact p)),zh (qf (by rw [q.len];exact p)),zh (show okI (ix L (s:Int)) (i:Int) from qf (by rw [uo,q.row s p];exact hi)),T,uo,zh (qx (by rw [K];omega)),zh (qf (by rw [l];exact p)),ry,J,zh (qf (by rw [List.length_set,l];exact D)),zh (qf (by rw [q.len];exact p)),zh (show okI (ix L (s:Int)) (i:Int) from qf (by rw [uo,q.row s p];exact hi)),uo,zh (qx (by rw [y];split<;>omega)),zh (qf (by rw [List.length_set,l];exact D))]
     rfl
    ·rw [uu (by rw [List.length_set,l];exact D),y,hsucc s i v n]
     by_cases e:v=(ed m s i).toNat
     ·rw [if_pos e]
      by_cases e2:(ed m s i).toNat=s
      ·rw [if_pos e2,K,e,e2,z5k];omega
      ·rw [if_neg e2,U,e,z5k,z7d (fun h=>e2 h.symm)];omega
     ·rw [if_neg e,uu (by rw [l];exact p),z7d (fun h=>e h.symm)]
      by_cases e2:v=s
      ·rw [if_pos e2,e2,K,z5k];omega
      ·rw [if_neg e2,o v r,z7d (fun h=>e2 h.symm)];omega) (by
    rintro i z hi h ⟨l,o⟩
    refine⟨l,fun v r=>?_⟩
    by_cases u:ed m s i= -1
    ·rw [zce u];exact o v r
    ·have n:VE m s i:=⟨p,hi,u⟩
     have M:lf L s i=0:=by
      have:=(E s i n).1
      rcases h with h|h
      ·exact absurd h u
      ·omega
     rw [hsucc s i v n,M,Int.zero_mul,Int.add_zero];exact o v r)
  exact⟨z,⟨l,o⟩,by rw [qj R,zh (qx (by omega))];rfl⟩
 ·obtain⟨C,I⟩:=H
  simp only [bv]
  rw [gp (by rw [z0k,List.length_replicate,q.len];omega)]
  refine congrArg some (z4m (by simp [C]) fun v n=>?_)
  rw [C] at n
  rw [I v n,aa (z0g m L) n];rfl
end
end GV
end Go.Proofs.Ytdhccodneoebpaa

namespace Go.Proofs.Ytdhccodneoebpaa
namespace GV
set_option maxRecDepth 100000
def WkV(m:Mach):Nat→List Int→Nat→Prop
 |a,[],t=>a=t
 |a,i::w,t=> ∃ j:Nat,i=(j:Int)∧VE m a j∧WkV m (ed m a j).toNat w t
def ctN(m:Mach):Nat→List Int→Nat→Nat→Int
 |_,[],_,_=>0
 |a,i::w,s,j=>(if a=s∧i=(j:Int) then 1 else 0)+ctN m (ed m a i.toNat).toNat w s j
section
variable {m : Mach} {L : List (List Int)}
theorem zuq(c:MOk m): ∀ {w:List Int} {a t:Nat},WkV m a w t→z6j m.inputs.toNat w
 | [],_,_,_=>fun i hi=>by cases hi
 |i::w,a,t,⟨j,e,d,h⟩=>fun x b=>by
  rcases List.mem_cons.1 b with rfl|b
  ·have:=d.hi;omega
  ·exact zuq c h x b
theorem zyx(b:MOk m): ∀ {w:List Int} {a t:Nat},a<m.rows.length→WkV m a w t→t<m.rows.length
 | [],_,_,h,e=>by cases e;exact h
 |i::w,a,t,_,⟨j,e,c,h⟩=>zyx b (c.to b).1 h
theorem z9v: ∀ (w:List Int) (a s j:Nat),0≤ctN m a w s j
 | [],_,_,_=>Int.le_refl _
 |i::w,a,s,j=>by
  have:=z9v w (ed m a i.toNat).toNat s j
  show 0≤(if a=s∧i=(j:Int) then(1:Int) else 0)+_
  split<;>omega
theorem zwt(g:MOk m): ∀ {w:List Int} {a t:Nat} (b:Nat),WkV m a w t→ ∃ b',z0v (nxT m) (a,b) w=some (t,b')∧(b<2^(ql m).length→b'<2^(ql m).length)∧ ∀ x j,VE m x j→b'.testBit (ky m x j)=(b.testBit (ky m x j)||decide (0<ctN m a w x j))
 | [],a,t,b,h=>by
  cases h
  exact⟨b,rfl,id,fun x j _=>by rw [decide_eq_false (show¬(0:Int)<ctN m a [] x j from Int.lt_irrefl _),Bool.or_false]⟩
 |i::w,a,t,b,⟨l,e,c,h⟩=>by
  subst e
  obtain⟨b',k,n,o⟩:=zwt g (b|||2^ky m a l) h
  refine⟨b',?_,fun p=>n (Nat.or_lt_two_pow p (Nat.pow_lt_pow_right (by decide) (z5n c.hs c.hi c.he))),fun x j d=>?_⟩
  ·show (nxT m (a,b) ((l:Int)).toNat).bind _=_
   rw [Int.toNat_natCast]
   unfold nxT
   dsimp only
   rw [if_neg c.he];exact k
  ·rw [o x j d,Nat.testBit_or,Nat.testBit_two_pow]
   have f:ctN m a ((l:Int)::w) x j=(if a=x∧(l:Int)=(j:Int) then 1 else 0)+ctN m (ed m a l).toNat w x j:=by
    show _+ctN m (ed m a (l:Int).toNat).toNat w x j=_
    rw [Int.toNat_natCast]
   have q:=z9v (m:=m) w (ed m a l).toNat x j
   rw [f]
   by_cases e2:a=x∧l=j
   ·obtain⟨rfl,rfl⟩:=e2
    rw [if_pos ⟨rfl,rfl⟩,decide_eq_true (rfl:ky m a l=ky m a l),decide_eq_true (show (0:Int)<1+ctN m (ed m a l).toNat w a l by omega)]
    simp
   ·rw [if_neg (fun h=>e2 ⟨h.1,by omega⟩),decide_eq_false (fun h=>e2 (zef c.hs c.hi c.he d.hs d.hi d.he h)),Bool.or_false,Int.zero_add]
theorem zy6(d:MOk m){w:List Int}{t:Nat}{round:Bool}(h:WkV m 0 w t)(hall: ∀ x j,VE m x j→0<ctN m 0 w x j)(e:round=true→t=0): ∃ x,z0v (nxT m) (0,0) w=some x∧z2k m round x=true:=by
 obtain⟨b',f,g,i⟩:=zwt d 0 h
 refine⟨(t,b'),f,?_⟩
 have n:b'=2^(ql m).length-1:=by
  rw [zf0 (g (Nat.two_pow_pos _))]
  intro k o
  obtain⟨y,l,a,b,c,rfl⟩:=zar o
  rw [i y l ⟨a,b,c⟩,decide_eq_true (hall y l ⟨a,b,c⟩),Bool.or_true]
 unfold z2k
 rw [decide_eq_true n]
 cases round
 ·rfl
 ·rw [decide_eq_true (e rfl)];rfl
/-! ### What a walk's numbers are like-/
def ctE(m:Mach)(a:Nat)(w:List Int)(e:Int×Int):Int:=ctN m a w e.1.toNat e.2.toNat
theorem z4p(m:Mach)(a j:Nat)(w:List Int)(x l:Nat):ctN m a ((j:Int)::w) x l=(if a=x∧j=l then 1 else 0)+ctN m (ed m a j).toNat w x l:=by
 show (if a=x∧(j:Int)=(l:Int) then 1 else 0)+ctN m (ed m a (j:Int).toNat).toNat w x l=_
 rw [Int.toNat_natCast]
 congr 1
 by_cases h:a=x∧j=l
 ·rw [if_pos h,if_pos ⟨h.1,by omega⟩]
 ·rw [if_neg h,if_neg (fun b=>h ⟨b.1,by omega⟩)]
theorem zoy(c:MOk m)(v:Nat): ∀ {w:List Int} {a t:Nat},WkV m a w t→((ql m).map fun e=>ctE m a w e*(dl e.1.toNat v-dl (tgE m e) v)).sum=dl a v-dl t v
 | [],a,t,h=>by
  cases h
  rw [z3t (g:=fun _=>0) (fun e _=>by show 0*_=0;rw [Int.zero_mul]),zam];omega
 |i::w,a,t,⟨j,e,k,h⟩=>by
  subst e
  have ih:=zoy c v h
  have:=zes (f:=fun e=>ctE m (ed m a j).toNat w e*(dl e.1.toNat v-dl (tgE m e) v)) (g:=fun e=>ctE m a ((j:Int)::w) e*(dl e.1.toNat v-dl (tgE m e) v)) (d:=dl a v-dl (ed m a j).toNat v) edges_nd (z6s k) (by
   show ctN m a ((j:Int)::w) a j*(dl a v-dl (ed m a j).toNat v)=ctN m (ed m a j).toNat w a j*(dl a v-dl (ed m a j).toNat v)+_
   rw [z4p,if_pos ⟨rfl,rfl⟩,Int.add_mul,Int.one_mul];omega) (fun e n b=>by
   obtain⟨x,l,o,p,q,rfl⟩:=xy.1 n
   show ctN m a ((j:Int)::w) x l*_=ctN m (ed m a j).toNat w x l*_
   rw [z4p,if_neg (fun h=>b (by rw [h.1,h.2])),Int.zero_add])
  rw [this,ih];omega
theorem zwz(c:MOk m): ∀ {w:List Int} {a t:Nat},WkV m a w t→((ql m).map fun e=>ctE m a w e).sum=(w.length:Int)
 | [],a,t,h=>by
  rw [z3t (f:=fun e=>ctE m a [] e) (g:=fun _=>0) (fun e _=>rfl),zam];rfl
 |i::w,a,t,⟨j,e,k,h⟩=>by
  subst e
  have ih:=zwz c h
  have:=zes (f:=fun e=>ctE m (ed m a j).toNat w e) (g:=fun e=>ctE m a ((j:Int)::w) e) (d:=1) edges_nd (z6s k) (by
   show ctN m a ((j:Int)::w) a j=ctN m (ed m a j).toNat w a j+_
   rw [z4p,if_pos ⟨rfl,rfl⟩];omega) (fun e n b=>by
   obtain⟨x,l,o,p,q,rfl⟩:=xy.1 n
   show ctN m a ((j:Int)::w) x l=ctN m (ed m a j).toNat w x l
   rw [z4p,if_neg (fun h=>b (by rw [h.1,h.2])),Int.zero_add])
  rw [this,ih,List.length_cons];omega
/-! ### Edges that are left,as a machine-/
def z4d(m:Mach)(L:List (List Int)):Mach:=⟨m.inputs,m.outputs,(List.range m.rows.length).map fun s=>(List.range m.inputs.toNat).map fun i=>if 0<lf L s i then(m.rows.getD s default).getD i default else⟨-1,-1⟩⟩
theorem ze7{s:Nat}(a:s<m.rows.length):(z4d m L).rows.getD s default=(List.range m.inputs.toNat).map fun i=>if 0<lf L s i then(m.rows.getD s default).getD i default else⟨-1,-1⟩:=aa _ a
theorem z0o:(z4d m L).rows.length=m.rows.length:=by simp [z4d]
theorem zku{s i:Nat}(a:s<m.rows.length)(hi:i<m.inputs.toNat):((z4d m L).rows.getD s default).getD i default=if 0<lf L s i then(m.rows.getD s default).getD i default else⟨-1,-1⟩:=by
 rw [ze7 a,aa _ hi]
theorem zhn{s i:Nat}(a:s<m.rows.length)(hi:i<m.inputs.toNat):ed (z4d m L) s i=if 0<lf L s i then ed m s i else-1:=by
 unfold ed
 rw [zku a hi]
 split<;>rfl
theorem zpj(d:MOk m):MOk (z4d m L):=by
 have hinp:=d.inp
 refine⟨d.i1,d.i2,d.o1,d.o2,by rw [z0o];exact d.r1,by rw [z0o];exact d.r2,fun s e=>?_,fun s i e hi=>?_⟩
 ·rw [z0o] at e
  rw [ze7 e,List.length_map,List.length_range];exact hinp.2.2
 ·rw [z0o] at e
  rw [ze7 e,List.length_map,List.length_range] at hi
  rw [zku e hi]
  by_cases h:0<lf L s i
  ·rw [if_pos h]
   rcases d.edge s i e (by rw [d.rowlen e];exact hi) with h|⟨a,b,c⟩
   ·exact .inl h
   ·exact .inr ⟨a,by rw [z0o];exact b,c⟩
  ·rw [if_neg h];exact .inl ⟨rfl,rfl⟩
theorem zuh{s i:Nat}:VE (z4d m L) s i↔VE m s i∧0<lf L s i:=by
 constructor
 ·intro h
  have c:s<m.rows.length:=by have:=h.hs;rwa [z0o] at this
  have a:=h.he
  rw [zhn c h.hi] at a
  by_cases b:0<lf L s i
  ·rw [if_pos b] at a;exact⟨⟨c,h.hi,a⟩,b⟩
  ·rw [if_neg b] at a;exact absurd rfl a
 ·rintro⟨h,b⟩
  exact⟨by rw [z0o];exact h.hs,h.hi,by rw [zhn h.hs h.hi,if_pos b];exact h.he⟩
theorem zun(f:MOk m): ∀ {w:List Int} {a t:Nat},WkV m a w t→(∀ x j,VE m x j→0<ctN m a w x j→0<lf L x j)→ ∀ x j,VE m x j→0<ctN m a w x j→Reach (z4d m L) a x
 | [],a,t,_,_,x,j,_,h=>by exact absurd h (Int.lt_irrefl _)
 |i::w,a,t,⟨l,e,c,h⟩,g,x,j,n,d=>by
  subst e
  rw [z4p] at d
  have b:0<lf L a l:=g a l c (by rw [z4p,if_pos ⟨rfl,rfl⟩];have:=z9v (m:=m) w (ed m a l).toNat a l;omega)
  have o:Reach (z4d m L) a (ed m a l).toNat:=by
   have:=(zuh.2 ⟨c,b⟩:VE (z4d m L) a l).reach (zpj f)
   rwa [zhn c.hs c.hi,if_pos b] at this
  by_cases e2:a=x∧l=j
  ·rw [←e2.1];exact .refl
  ·rw [if_neg e2,Int.zero_add] at d
   refine o.trans (zun f h (fun y k p q=>g y k p ?_) x j n d)
   rw [z4p]
   split<;>omega
end
end GV
end Go.Proofs.Ytdhccodneoebpaa

namespace Go.Proofs.Ytdhccodneoebpaa
namespace GV
set_option maxRecDepth 100000
def z4i(L:List (List Int))(s i:Nat):List (List Int):=L.set s ((L.getD s default).set i (lf L s i-1))
def zft(m:Mach)(L:List (List Int))(s:Nat):Option Nat:=(List.range m.inputs.toNat).find? fun i=>decide (ed m s i≠ -1)&&decide (0<lf L s i)
def zvr(m:Mach):Nat→List (List Int)→List Int→List (Int×Nat)→Option (List Int)
 |0,_,_,_=>none
 |_+1,_,out,[]=>some out
 |f+1,L,out,(q,s)::st=>match zft m L s with
  |some i=>zvr m f (z4i L s i) out (((i:Int),(ed m s i).toNat)::(q,s)::st)
  |none=>zvr m f L (if q= -1 then out else out++[q]) st
section
variable {m : Mach} {L L0 : List (List Int)}
theorem zpm{s i:Nat}(b:s<m.rows.length)(h:zft m L s=some i):VE m s i∧0<lf L s i∧ ∀ j,j<i→ed m s j= -1∨lf L s j≤0:=by
 unfold zft at h
 rw [List.find?_range_eq_some] at h
 obtain⟨a,c,d⟩:=h
 rw [Bool.and_eq_true,decide_eq_true_iff,decide_eq_true_iff] at a
 refine⟨⟨b,List.mem_range.1 c,a.1⟩,a.2,fun j e=>?_⟩
 have:=d j e
 rw [Bool.not_eq_true',Bool.and_eq_false_iff,decide_eq_false_iff_not,decide_eq_false_iff_not] at this
 rcases this with h|h
 ·exact .inl (Classical.byContradiction h)
 ·exact .inr (by omega)
theorem zqa{s:Nat}(h:zft m L s=none): ∀ i,i<m.inputs.toNat→ed m s i= -1∨lf L s i≤0:=by
 intro i hi
 unfold zft at h
 rw [List.find?_eq_none] at h
 have:=h i (List.mem_range.2 hi)
 rw [Bool.and_eq_true,decide_eq_true_iff,decide_eq_true_iff] at this
 by_cases e:ed m s i= -1
 ·exact .inl e
 ·exact .inr (Int.not_lt.1 fun a=>this ⟨e,a⟩)
theorem z6q(a:Shp m L){s i:Nat}(b:VE m s i):Shp m (z4i L s i):=a.set b.hs (by rw [List.length_set,a.row s b.hs])
theorem zdn(b:Shp m L){s i:Nat}(a:VE m s i)(t j:Nat):lf (z4i L s i) t j=if t=s∧j=i then lf L s i-1 else lf L t j:=zfb b a.hs a.hi
theorem za7(a:Shp m L){s i:Nat}(b:VE m s i):mr m (z4i L s i)=mr m L-1:=by
 unfold z4i;rw [zus a b];omega
theorem zxg(a:Shp m L){s i:Nat}(b:VE m s i)(v:Nat):z0g m (z4i L s i) v=z0g m L v-(dl s v-dl (ed m s i).toNat v):=by
 unfold z4i
 rw [zxv a b,show lf L s i-1-lf L s i= -1 by omega,Int.neg_mul,Int.one_mul];omega
def zwb(m:Mach)(a:Nat):List (Int×Nat)→Prop
 | []=>False
 | [(q,s)]=>q= -1∧s=a
 |(q,t)::(q',s)::st=>(∃ i:Nat,q=(i:Int)∧VE m s i∧t=(ed m s i).toNat)∧zwb m a ((q',s)::st)
def ctS:List (Int×Nat)→Nat→Nat→Int
 | [],_,_=>0
 | [_],_,_=>0
 |(q,_)::(q',s)::st,x,j=>(if s=x∧q=(j:Int) then 1 else 0)+ctS ((q',s)::st) x j
theorem q02(b:MOk m){a:Nat}(c:a<m.rows.length): ∀ {q:Int} {s:Nat} {st:List (Int×Nat)},zwb m a ((q,s)::st)→s<m.rows.length
 |q,s,[],h=>by rw [h.2];exact c
 |q,s,(q',s')::st,⟨⟨i,_,d,e⟩,_⟩=>by rw [e];exact(d.to b).1
structure HInv (m:Mach) (L0:List (List Int)) (a e0:Nat) (L:List (List Int)) (out:List Int) (st:List (Int×Nat)) (q:Nat):Prop where
 shp:Shp m L
 pos: ∀ s i,VE m s i→0≤lf L s i
 wk:WkV m q out.reverse e0
 cnt: ∀ s i,VE m s i→lf L s i+ctS st s i+ctN m q out.reverse s i=lf L0 s i
 dry: ∀ u i v x,out.reverse=u++i::v→WkV m q (u++[i]) x→ ∀ l,VE m x l→lf L x l=0
theorem zyc(q:MOk m)(hpos: ∀ s i,VE m s i→0≤lf L s i){s:Nat}(k: ∀ i,VE m s i→lf L s i=0):z0g m L s≤0:=by
 have:=zpr (f:=zjh m L s) (g:=fun _=>0) (l:=ql m) (fun e n=>by
  obtain⟨x,j,a,b,c,rfl⟩:=xy.1 n
  have d:VE m x j:=⟨a,b,c⟩
  show lf L x j*(dl x s-dl (ed m x j).toNat s)≤0
  by_cases h:x=s
  ·subst h;rw [k j d,Int.zero_mul];exact Int.le_refl _
  ·rw [z7d h,Int.zero_sub,Int.mul_neg]
   have o:=hpos x j d
   have p:=(zg4 (ed m x j).toNat s).1
   have:=Int.mul_nonneg o p
   omega)
 rwa [zam] at this
theorem ze4(A:MOk m){a e0:Nat}(B:a<m.rows.length): ∀ (f:Nat) (L:List (List Int)) (out:List Int) (st:List (Int×Nat)) (q:Nat),HInv m L0 a e0 L out st q→
 ((st=[]∧q=a∧ ∀ l,VE m a l→lf L a l=0)∨ ∃ p s st',st=(p,s)::st'∧zwb m a st∧ ∀ v,v<m.rows.length→z0g m L v=dl s v-dl q v)→(2*mr m L).toNat+st.length<f→
 ∃ w Z,zvr m f L out st=some w∧HInv m L0 a e0 Z w [] a∧ ∀ l,VE m a l→lf Z a l=0
 |0,_,_,_,_,_,_,h=>by omega
 |f+1,L,out,st,q,b,D,E=>by
  rcases D with⟨rfl,rfl,Q⟩|⟨p,s,st,rfl,t,F⟩
  ·exact⟨out,L,rfl,b,Q⟩
  ·have P:=q02 A B t
   unfold zvr
   cases hfl:zft m L s with
   |some i=>
    obtain⟨d,G,_⟩:=zpm P hfl
    dsimp only
    have hmany:0<mr m L:=zl6 (fun e R=>by
     obtain⟨x,j,S,T,U,rfl⟩:=xy.1 R
     exact b.pos x j ⟨S,T,U⟩) ⟨_,z6s d,G⟩
    refine ze4 A B f (z4i L s i) out _ q ⟨z6q b.shp d,fun x j g=>?_,b.wk,fun x j g=>?_,fun u k v x r y l n=>?_⟩ (.inr ⟨_,_,_,rfl,⟨⟨i,rfl,d,rfl⟩,t⟩,fun v z=>?_⟩) ?_
    ·rw [zdn b.shp d]
     split
     ·omega
     ·exact b.pos x j g
    ·have:=b.cnt x j g
     rw [zdn b.shp d]
     show _+((if s=x∧(i:Int)=(j:Int) then 1 else 0)+ctS ((p,s)::st) x j)+_=_
     by_cases e:x=s∧j=i
     ·rw [if_pos e,if_pos ⟨e.1.symm,by omega⟩]
      rw [e.1,e.2] at this⊢
      omega
     ·rw [if_neg e,if_neg (fun h=>e ⟨h.1.symm,by omega⟩)];omega
    ·have C:=b.dry u k v x r y l n
     rw [zdn b.shp d]
     split
     ·rename_i e
      obtain⟨rfl,rfl⟩:=e
      omega
     ·exact C
    ·rw [zxg b.shp d,F v z];omega
    ·rw [za7 b.shp d]
     simp only [List.length_cons] at E⊢
     omega
   |none=>
    have hdry: ∀ l,VE m s l→lf L s l=0:=fun l H=>by
     have C:=b.pos s l H
     rcases zqa hfl l H.hi with h|h
     ·exact absurd h H.he
     ·omega
    have V:s=q:=Classical.byContradiction fun I=>by
     have C:=zyc A b.pos hdry
     rw [F s P,z5k,z7d (fun h=>I h.symm)] at C
     omega
    subst V
    have J: ∀ v,v<m.rows.length→z0g m L v=0:=fun v d=>by rw [F v d];omega
    dsimp only
    match st,t with
    | [],⟨K,M⟩=>
     subst K
     subst M
     rw [if_pos rfl]
     refine ze4 A B f L out [] s ⟨b.shp,b.pos,b.wk,fun x j g=>?_,b.dry⟩ (.inl ⟨rfl,rfl,hdry⟩) ?_
     ·have:=b.cnt x j g
      exact this
     ·simp only [List.length_cons,List.length_nil] at E⊢;omega
    |(p',s')::st,⟨⟨i,K,d,o⟩,hok'⟩=>
     subst K
     rw [if_neg (by omega)]
     have hrev:(out++[(i:Int)]).reverse=(i:Int)::out.reverse:=by simp
     refine ze4 A B f L (out++[(i:Int)]) _ s' ⟨b.shp,b.pos,?_,fun x j g=>?_,fun u k v x r y l n=>?_⟩ (.inr ⟨_,_,_,rfl,hok',fun v z=>by rw [J v z];omega⟩) (by simp only [List.length_cons] at E⊢;omega)
     ·rw [hrev]
      exact⟨i,rfl,d,by rw [←o];exact b.wk⟩
     ·have:=b.cnt x j g
      rw [hrev,z4p,←o]
      have e:ctS (((i:Int),s)::(p',s')::st) x j=(if s'=x∧(i:Int)=(j:Int) then 1 else 0)+ctS ((p',s')::st) x j:=rfl
      rw [e] at this
      by_cases h:s'=x∧i=j
      ·rw [if_pos ⟨h.1,by omega⟩] at this;rw [if_pos h];omega
      ·rw [if_neg (fun W=>h ⟨W.1,by omega⟩)] at this;rw [if_neg h];omega
     ·rw [hrev] at r
      match u,r,y with
      | [],r,⟨j,e,N,g⟩=>
       obtain⟨rfl,_⟩:=List.cons.inj r
       obtain rfl:i=j:=by omega
       have:(ed m s' i).toNat=x:=g
       rw [←this,←o] at n⊢
       exact hdry l n
      |c::u,r,⟨j,e,N,g⟩=>
       obtain⟨rfl,O⟩:=List.cons.inj r
       obtain rfl:i=j:=by omega
       rw [←o] at g
       exact b.dry u k v x O g l n
theorem zu7(B:MOk m){a e0:Nat}(E:a<m.rows.length)(F:Shp m L0)(hpos: ∀ s i,VE m s i→0≤lf L0 s i)(G: ∀ v,v<m.rows.length→z0g m L0 v=dl a v-dl e0 v)(H: ∀ s i,VE m s i→0<lf L0 s i→Reach (z4d m L0) a s){f:Nat}(I:(2*mr m L0).toNat+1<f):
 ∃ w,zvr m f L0 [] [(-1,a)]=some w∧WkV m a w.reverse e0∧ ∀ s i,VE m s i→ctN m a w.reverse s i=lf L0 s i:=by
 obtain⟨w,Z,J,k,K⟩:=ze4 (L0:=L0) (e0:=e0) B E f L0 [] [(-1,a)] e0 ⟨F,hpos,rfl,fun s i b=>by show lf L0 s i+0+0=_;omega,fun u i v x n=>by cases u<;>cases n⟩ (.inr ⟨_,_,_,rfl,⟨rfl,rfl⟩,G⟩) (by simpa using I)
 refine⟨w,J,k.wk,?_⟩
 have key: ∀ x,Reach (z4d m L0) a x→ ∀ l,VE m x l→lf Z x l=0:=by
  intro x M
  induction M with
  |refl=>exact K
  | @step t i Q q C R ih=>
   have k2':t<m.rows.length:=by rwa [z0o] at q
   have k3':i<m.inputs.toNat:=by rw [(zpj (L:=L0) B).rowlen q] at C;exact C
   have b:VE (z4d m L0) t i:=⟨q,k3',by unfold ed;omega⟩
   obtain⟨o,r⟩:=zuh.1 b
   have D:=ih i o
   have d:=k.cnt t i o
   have g:ctS [] t i=0:=rfl
   rw [D,g] at d
   have y:0<ctN m a w.reverse t i:=by omega
   have z: ∀ {w:List Int} {a e:Nat},WkV m a w e→0<ctN m a w t i→ ∃ u v,w=u++(i:Int)::v∧WkV m a (u++[(i:Int)]) (ed m t i).toNat:=by
    intro w
    induction w with
    |nil=>intro a e _ h;exact absurd h (Int.lt_irrefl _)
    |cons c w ihw=>
     intro a e N d
     obtain⟨j,rfl,p,hw'⟩:=N
     rw [z4p] at d
     by_cases e2:a=t∧j=i
     ·obtain⟨rfl,rfl⟩:=e2
      exact⟨[],w,rfl,j,rfl,p,rfl⟩
     ·rw [if_neg e2,Int.zero_add] at d
      obtain⟨u,v,rfl,n⟩:=ihw hw' d
      exact⟨(j:Int)::u,v,rfl,j,rfl,p,n⟩
   obtain⟨u,v,O,n⟩:=z k.wk y
   have A:((z4d m L0).rows.getD t default).getD i default=(m.rows.getD t default).getD i default:=by rw [zku k2' k3',if_pos r]
   rw [A]
   exact fun l P=>k.dry u _ v _ O n l P
 intro s i b
 have d:=k.cnt s i b
 have g:ctS [] s i=0:=rfl
 rw [g] at d
 have D:lf Z s i=0:=by
  by_cases h0:0<lf L0 s i
  ·exact key s (H s i b h0) i b
  ·have S:=k.pos s i b
   have T:=z9v (m:=m) w.reverse a s i
   omega
 omega
end
end GV
end Go.Proofs.Ytdhccodneoebpaa

namespace Go.Proofs.Ytdhccodneoebpaa
namespace GV
set_option maxRecDepth 100000
section
variable {N : Nat} {m : Mach} {L : List (List Int)} {a : Nat} {round : Bool}
def zhf(m:Mach)(L:List (List Int))(a:Nat)(round:Bool):Prop:= ∃ w e,WkV m a w e∧(∀ s i,VE m s i→ctN m a w s i=lf L s i)∧(round=true→e=0)
def q0f(m:Mach)(L:List (List Int))(a:Nat)(round:Bool):Prop:= ∃ e,e<m.rows.length∧(∀ v,v<m.rows.length→z0g m L v=dl a v-dl e v)∧(round=true→e=0)
def zru(m:Mach)(L:List (List Int))(a:Nat):Prop:= ∀ s i,VE m s i→0<lf L s i→Reach (z4d m L) a s
theorem zg0(hpos: ∀ s i,VE m s i→0≤lf L s i):mr m L=0↔ ∀ s i,VE m s i→lf L s i=0:=by
 constructor
 ·intro h s i k
  refine Classical.byContradiction fun n=>?_
  have o:=hpos s i k
  have:=zl6 (f:=lfE L) (l:=ql m) (fun e a=>by
   obtain⟨x,j,b,c,d,rfl⟩:=xy.1 a
   exact hpos x j ⟨b,c,d⟩) ⟨_,z6s k,by show 0<lf L s i;omega⟩
  unfold mr at h;omega
 ·intro h
  unfold mr
  rw [z3t (f:=lfE L) (g:=fun _=>0) (fun e a=>by
   obtain⟨x,j,b,c,d,rfl⟩:=xy.1 a
   exact h x j ⟨b,c,d⟩),zam]
theorem zbs(hpos: ∀ s i,VE m s i→0≤lf L s i):0≤mr m L:=zdk fun e a=>by
 obtain⟨x,j,b,c,d,rfl⟩:=xy.1 a
 exact hpos x j ⟨b,c,d⟩
theorem zgv(b:MOk m){w:List Int}{e:Nat}(c:WkV m a w e)(d: ∀ s i,VE m s i→ctN m a w s i=lf L s i):(w.length:Int)=mr m L:=by
 rw [←zwz b c]
 refine z3t fun e f=>?_
 obtain⟨x,j,g,h,k,rfl⟩:=xy.1 f
 exact d x j ⟨g,h,k⟩
theorem zkz(c:MOk m)(q:a<m.rows.length)(r:Shp m L)(hpos: ∀ s i,VE m s i→0≤lf L s i):zhf m L a round↔if mr m L=0 then(round=true→a=0) else q0f m L a round∧zru m L a:=by
 by_cases h0:mr m L=0
 ·rw [if_pos h0]
  constructor
  ·rintro⟨w,e,b,d,g⟩ h
   have E:=zgv c b d
   have:w=[]:=List.length_eq_zero_iff.1 (by omega)
   subst this
   cases b
   exact g h
  ·intro h
   exact⟨[],a,rfl,fun s i k=>by rw [(zg0 hpos).1 h0 s i k];rfl,h⟩
 ·rw [if_neg h0]
  constructor
  ·rintro⟨w,e,b,d,g⟩
   refine⟨⟨e,zyx c q b,fun v k=>?_,g⟩,fun s i k l=>?_⟩
   ·rw [←zoy c v b]
    refine z3t fun p t=>?_
    obtain⟨x,j,u,y,z,rfl⟩:=xy.1 t
    show lf L x j*_=ctN m a w x j*_
    rw [d x j ⟨u,y,z⟩]
   ·refine zun c b (fun x j A n=>?_) s i k (by rw [d s i k];exact l)
    rw [←d x j A];exact n
  ·rintro⟨⟨e,F,B,g⟩,o⟩
   obtain⟨w,_,C,D⟩:=zu7 (L0:=L) (e0:=e) c q r hpos B o (f:=(2*mr m L).toNat+2) (by omega)
   exact⟨w.reverse,e,C,D,g⟩
/-! ### The program's test-/
noncomputable def rchPB(m:Mach)(L:List (List Int))(a:Nat):Bool:= @decide (zru m L a) (Classical.propDecidable _)
theorem zew(g:MOk m)(p:200≤N)(q:Shp m L)(r:a<m.rows.length){k:Int}: ∀ (F:Nat) (Y:List Bool) (S:List Int),DInv (z4d m L) a Y S→Y.count false+S.length<F→Y.count false+S.length≤100→
 bz N ⟨m,L,k⟩ F Y S=some (reachL (z4d m L) a)
 |0,_,_,_,h,_=>by omega
 |F+1,Y,S,t,w,y=>by
  have A:=g.r2
  have f:=zpj (L:=L) g
  have ha':a<(z4d m L).rows.length:=by rw [z0o];exact r
  rcases List.eq_nil_or_concat S with rfl|⟨j,x,rfl⟩
  ·simp only [bz]
   rw [gp (by simp),t.fin ha']
  ·rw [List.concat_eq_append] at*
   obtain⟨s,rfl,n,hrow⟩:=t.pop
   have hs':s<m.rows.length:=by rwa [z0o] at n
   have hlen:(j++[(s:Int)]).length=j.length+1:=by simp
   simp only [bz]
   rw [di (by omega),zh (qx (by omega)),zh (znb _ _),zh (qx (by omega)),zh (zne _ _),zrr,znq]
   rw [show aj N ⟨m,L,k⟩ (s:Int)=some (⟨m,L,k⟩,(s:Int)) from rfl,z5y]
   obtain⟨z,u,d⟩:=ziy (s:=s) (k:=k) g p q hs' (σ:=List Bool×List Int) (fun c b=>
    gd (okI b.1 c.fB)<|
    bif !(ix b.1 c.fB) then(
    gd (okI b.1 c.fB)<|
    gd (fits 8 b.2 ([c.fB]:List Int))<|
    some (true,((up b.1 c.fB true),(b.2++([c.fB]:List Int))))) else(
    some (true,(b.1,b.2)))) (fun i z=>DRow (z4d m L) a s (Y.count false+j.length) i z.1 z.2) (s0:=(Y,j)) hrow
    (fun i z hi v o d=>by
     have e:ed (z4d m L) s i=ed m s i:=by rw [zhn hs' hi,if_pos o]
     have:=zn4 f n hi (by omega) d (by rw [e];exact v)
     rw [e] at this
     exact this) (fun i z hi l d=>d.skip (by
     rw [zhn hs' hi]
     rcases l with l|l
     ·rw [l];split<;>rfl
     ·rw [if_neg (by omega)]))
   rw [qj u]
   have:=d.cnt
   exact zew g p q r F z.1 z.2 (d.fin f n) (by omega) (by omega)
theorem zop(p:MOk m)(y:200≤N)(g:Shp m L)(q:a<m.rows.length){k:Int}:z1h N ⟨m,L,k⟩ (a:Int)=some (rchPB m L a):=by
 have I:=p.r2;have hinp:=p.inp
 unfold z1h
 dsimp only
 rw [zh (by rw [g.len];exact⟨by omega,by omega,by omega⟩),z0k,g.len,zh (qf (by simpa using q)),ry]
 have v:=DInv.zcnt (m:=z4d m L) (a:=a) (by rw [z0o];exact q)
 have A:=DInv.zero (m:=z4d m L) (a:=a) (by rw [z0o];exact q)
 rw [z0o] at v A
 rw [qj (zew p y g q N _ _ A (by simp only [List.length_singleton];omega) (by simp only [List.length_singleton];omega))]
 have hget: ∀ s,s<m.rows.length→((reachL (z4d m L) a).getD s default=true↔Reach (z4d m L) a s):=fun s f=>ll (by rw [z0o];exact f)
 have hlen:(reachL (z4d m L) a).length=m.rows.length:=by rw [z3b,z0o]
 have w: ∃ r,xn N ⟨m,L,k⟩ (reachL (z4d m L) a) N 0=some r∧((r=Ex.rt false∧ ¬zru m L a)∨(r=Ex.go ()∧zru m L a)):=by
  refine z0t (σ:=Unit) (fun F s _=>xn N ⟨m,L,k⟩ (reachL (z4d m L) a) F (s:Int)) m.rows.length (fun s _=> ∀ t,t<s→ ∀ i,VE m t i→0<lf L t i→Reach (z4d m L) a t) _ (fun F s _ f hi=>?_) (fun F _ hi=>?_) N 0 () (Nat.zero_le _) (by omega) (fun t D=>by omega)
  ·simp only [xn]
   rw [di (by rw [g.len];omega),show aj N ⟨m,L,k⟩ (s:Int)=some (⟨m,L,k⟩,(s:Int)) from rfl,z5y]
   obtain⟨z,v,l⟩:=zg7 (s:=s) (k:=k) p y g f (σ:=Ex Unit (Ex Unit Bool)) (fun B E=>Ex.on E (fun C=>
    gd (okI (reachL (z4d m L) a) (s:Int))<|
    bif !(ix (reachL (z4d m L) a) (s:Int)) then(
    some (false,Ex.rt (Ex.rt false))) else(
    some (true,Ex.go ()))) fun _=>none) (fun i z=>z=Ex.go ()∧ ∀ j,j<i→VE m s j→0<lf L s j→Reach (z4d m L) a s) (fun z=>z=Ex.rt (Ex.rt false)∧ ¬zru m L a) (s0:=Ex.go ()) ⟨rfl,fun j G=>by omega⟩ (by
     rintro i _ n J c ⟨rfl,l⟩
     have d:VE m s i:=⟨f,n,by omega⟩
     simp only [z9o]
     rw [zh (qf (by rw [hlen];exact f)),uo]
     cases hg:(reachL (z4d m L) a).getD s default
     ·rw [ct (b:= !false) rfl]
      refine⟨false,_,rfl,fun h=>(by cases h),fun _=>⟨rfl,fun h=>?_⟩⟩
      have:=(hget s f).2 (h s i d c)
      rw [hg] at this;cases this
     ·rw [cf (b:= !true) rfl]
      exact⟨true,_,rfl,fun _=>⟨rfl,fun j _ _ _=>(hget s f).1 hg⟩,fun h=>(by cases h)⟩) (by
     rintro i _ n u ⟨rfl,l⟩
     refine⟨rfl,fun j G d c=>?_⟩
     by_cases e:j=i
     ·subst e
      rcases u with u|u
      ·exact absurd u d.he
      ·omega
     ·exact l j (by omega) d c)
   rw [qj v]
   rcases l with⟨rfl,l⟩|⟨rfl,H⟩
   ·right
    refine⟨(),fun t D=>?_,by rw [z9o,zh (qx (by omega))];rfl⟩
    by_cases e:t=s
    ·subst e;exact fun i d c=>l i d.hi d c
    ·exact hi t (by omega)
   ·left
    exact⟨_,rfl,.inl ⟨rfl,H⟩⟩
  ·simp only [xn]
   rw [gp (by rw [g.len];omega)]
   exact⟨_,rfl,.inr ⟨rfl,fun s i d c=>hi s d.hs i d c⟩⟩
 obtain⟨r,o,⟨rfl,x⟩|⟨rfl,x⟩⟩:=w
 ·rw [qj o,zlh]
  unfold rchPB
  rw [@decide_eq_false _ (Classical.propDecidable _) x]
 ·rw [qj o,z9o]
  unfold rchPB
  rw [@decide_eq_true _ (Classical.propDecidable _) x]
def okV(m:Mach)(L:List (List Int))(a:Nat)(round:Bool)(v:Nat):Prop:=z0g m L v=0∨(z0g m L v=1∧v=a)∨(z0g m L v= -1∧(round=true→v=0))
def zf7(m:Mach)(L:List (List Int))(k:Nat):Nat:=(List.range k).countP fun v=>decide (z0g m L v= -1)
theorem zfz{k:Nat}:zf7 m L (k+1)=zf7 m L k+if z0g m L k= -1 then 1 else 0:=by
 unfold zf7
 rw [List.range_succ,List.countP_append,List.countP_singleton]
 by_cases h:z0g m L k= -1
 ·rw [if_pos h,if_pos (by simpa using h)]
 ·rw [if_neg h,if_neg (by simpa using h)]
theorem zhw(t:a<m.rows.length):q0f m L a round↔(∀ v,v<m.rows.length→okV m L a round v)∧((if z0g m L a=1 then 1 else 0)=zf7 m L m.rows.length)∧ ¬(round=true∧z0g m L a≠1∧a≠0):=by
 constructor
 ·rintro⟨e,l,r,w⟩
  by_cases d:a=e
  ·subst d
   have f: ∀ v,v<m.rows.length→z0g m L v=0:=fun v b=>by rw [r v b];omega
   refine⟨fun v b=> .inl (f v b),?_,fun⟨c,_,g⟩=>g (w c)⟩
   rw [if_neg (by rw [f a t];decide)]
   unfold zf7
   rw [eq_comm,List.countP_eq_zero]
   intro v b
   rw [f v (List.mem_range.1 b)];decide
  ·have k:z0g m L a=1:=by rw [r a t,z5k,z7d (fun h=>d h.symm)];rfl
   have n:z0g m L e= -1:=by rw [r e l,z5k,z7d d];rfl
   refine⟨fun v b=>?_,?_,fun⟨_,h,_⟩=>h k⟩
   ·by_cases c:v=a
    ·subst c;exact .inr (.inl ⟨k,rfl⟩)
    ·by_cases g:v=e
     ·subst g;exact .inr (.inr ⟨n,w⟩)
     ·exact .inl (by rw [r v b,z7d (fun h=>c h.symm),z7d (fun h=>g h.symm)];rfl)
   ·rw [if_pos k]
    have c:0<zf7 m L m.rows.length:=List.countP_pos_iff.2 ⟨e,List.mem_range.2 l,decide_eq_true n⟩
    have g: ¬1<zf7 m L m.rows.length:=fun h=>by
     obtain⟨x,y,A,B,i,px,py⟩:=zat List.nodup_range h
     have key: ∀ z,z∈List.range m.rows.length→z0g m L z= -1→z=e:=fun z f j=>by
      have f:=List.mem_range.1 f
      rw [r z f] at j
      refine Classical.byContradiction fun i=>?_
      have:=(zg4 a z).1
      rw [z7d (fun h=>i h.symm)] at j;omega
     exact i ((key x A (of_decide_eq_true px)).trans (key y B (of_decide_eq_true py)).symm)
    omega
 ·rintro⟨o,hcnt,u⟩
  by_cases k:z0g m L a=1
  ·rw [if_pos k] at hcnt
   obtain⟨e,l,n⟩:=List.countP_pos_iff.1 (show 0<zf7 m L m.rows.length by omega)
   have l:=List.mem_range.1 l
   have n:=of_decide_eq_true n
   have huniq: ∀ z,z<m.rows.length→z0g m L z= -1→z=e:=fun z f j=>Classical.byContradiction fun i=>by
    have c:1<zf7 m L m.rows.length:=by
     unfold zf7
     obtain⟨D,E,C⟩:=List.append_of_mem (List.mem_range.2 l)
     have s:=List.mem_range.2 f
     rw [C] at s⊢
     rw [List.countP_append,List.countP_cons,if_pos (decide_eq_true n)]
     rcases List.mem_append.1 s with q|q
     ·have:=List.countP_pos_iff (p:=fun v=>decide (z0g m L v= -1)).2 ⟨z,q,decide_eq_true j⟩;omega
     ·rcases List.mem_cons.1 q with q|q
      ·exact absurd q i
      ·have:=List.countP_pos_iff (p:=fun v=>decide (z0g m L v= -1)).2 ⟨z,q,decide_eq_true j⟩;omega
    omega
   have d:a≠e:=fun h=>by rw [h] at k;omega
   refine⟨e,l,fun v b=>?_,fun h=>?_⟩
   ·by_cases c:v=a
    ·subst c;rw [k,z5k,z7d (fun h=>d h.symm)];rfl
    ·by_cases g:v=e
     ·subst g;rw [n,z5k,z7d d];rfl
     ·rw [z7d (fun h=>c h.symm),z7d (fun h=>g h.symm)]
      rcases o v b with h|⟨_,h⟩|⟨h,_⟩
      ·rw [h];rfl
      ·exact absurd h c
      ·exact absurd (huniq v b h) g
   ·rcases o e l with c|⟨c,_⟩|⟨_,c⟩
    ·omega
    ·omega
    ·exact c h
  ·rw [if_neg k] at hcnt
   have f: ∀ v,v<m.rows.length→z0g m L v=0:=fun v b=>by
    rcases o v b with h|⟨h,e⟩|⟨h,_⟩
    ·exact h
    ·rw [e] at h;exact absurd h k
    ·have:0<zf7 m L m.rows.length:=List.countP_pos_iff.2 ⟨v,List.mem_range.2 b,decide_eq_true h⟩
     omega
   refine⟨a,t,fun v b=>by rw [f v b];omega,fun h=>Classical.byContradiction fun g=>u ⟨h,k,g⟩⟩
noncomputable def eulB(m:Mach)(L:List (List Int))(a:Nat)(round:Bool):Bool:= @decide (zhf m L a round) (Classical.propDecidable _)
theorem zqp(h:zhf m L a round):eulB m L a round=true:= @decide_eq_true _ (Classical.propDecidable _) h
theorem zki(h: ¬zhf m L a round):eulB m L a round=false:= @decide_eq_false _ (Classical.propDecidable _) h
theorem zw4(q:MOk m)(D:200≤N)(x:Shp m L)(l:a<m.rows.length)(E: ∀ s i,VE m s i→0≤lf L s i∧lf L s i≤1000000000):z09 N ⟨m,L,mr m L⟩ (a:Int) round=some (eulB m L a round):=by
 have M:=q.r2
 have hpos: ∀ s i,VE m s i→0≤lf L s i:=fun s i f=>(E s i f).1
 have hiff:=zkz (round:=round) q l x hpos
 unfold z09
 by_cases c:mr m L=0
 ·rw [if_pos c] at hiff
  rw [di c]
  by_cases h:round=true→a=0
  ·rw [zqp (hiff.2 h)]
   cases round
   ·rfl
   ·rw [h rfl];rfl
  ·rw [zki (fun b=>h (hiff.1 b))]
   obtain⟨y,b⟩:=Classical.not_imp.1 h
   rw [y,decide_eq_false (by omega)];rfl
 ·rw [if_neg c] at hiff
  rw [gp c,qj (zq7 q D x E)]
  have hget: ∀ v,v<m.rows.length→((List.range m.rows.length).map (z0g m L)).getD v default=z0g m L v:=fun v f=>aa (z0g m L) f
  have hlen:((List.range m.rows.length).map (z0g m L)).length=m.rows.length:=by simp
  have hend: ∀ k,zf7 m L k≤k:=fun k=>Nat.le_trans List.countP_le_length (by simp)
  obtain⟨r,o,A⟩: ∃ r,ma N (a:Int) round ((List.range m.rows.length).map (z0g m L)) N 0 0 0=some r∧((r=Ex.rt (false)∧ ¬ ∀ v,v<m.rows.length→okV m L a round v)∨(r=Ex.go ((if z0g m L a=1 then 1 else 0),(zf7 m L m.rows.length:Int))∧ ∀ v,v<m.rows.length→okV m L a round v)):=by
   refine z0t (σ:=Int×Int) (fun F v z=>ma N (a:Int) round ((List.range m.rows.length).map (z0g m L)) F z.1 z.2 (v:Int)) m.rows.length (fun v z=>z.1=(if a<v∧z0g m L a=1 then 1 else 0)∧z.2=(zf7 m L v:Int)∧ ∀ u,u<v→okV m L a round u) _ (fun F v z f c=>?_) (fun F z c=>?_) N 0 (0,0) (Nat.zero_le _) (by omega) ⟨by rw [if_neg (by omega)],rfl,fun u O=>by omega⟩
   ·obtain⟨n,t⟩:=z
    obtain⟨d,g,p⟩:=c
    dsimp only at d g
    have H:0≤n∧n≤1:=by rw [d];split<;>omega
    have I:=hend v
    simp only [ma]
    rw [di (by rw [hlen];omega),zh (qf (by rw [hlen];exact f)),uo,hget v f]
    by_cases c1:z0g m L v=0
    ·right
     refine⟨(n,t),⟨?_,?_,za9 p (.inl c1)⟩,?_⟩
     ·dsimp only
      rw [d]
      by_cases hc:a<v∧z0g m L a=1
      ·rw [if_pos hc,if_pos ⟨by omega,hc.2⟩]
      ·rw [if_neg hc,if_neg (fun h=>hc ⟨?_,h.2⟩)]
       rcases Nat.lt_succ_iff_lt_or_eq.1 h.1 with b|b
       ·exact b
       ·have:=h.2;rw [b,c1] at this;cases this
     ·dsimp only;rw [g,zfz,if_neg (by omega)];rfl
     ·rw [di c1,z5y,z9o,zh (qx (by omega))];rfl
    ·by_cases j:z0g m L v=1∧v=a
     ·obtain⟨j,rfl⟩:=j
      right
      refine⟨(n+1,t),⟨?_,?_,za9 p (.inr (.inl ⟨j,rfl⟩))⟩,?_⟩
      ·dsimp only;rw [d,if_neg (by omega),if_pos ⟨by omega,j⟩];rfl
      ·dsimp only;rw [g,zfz,if_neg (by omega)];rfl
      ·rw [gp c1,ct (by rw [decide_eq_true j,decide_eq_true (rfl:(v:Int)=(v:Int))];rfl),zh (qx (by omega)),z5y,z9o,zh (qx (by omega))];rfl
     ·by_cases e:z0g m L v= -1∧(round=true→v=0)
      ·obtain⟨e,G⟩:=e
       right
       refine⟨(n,t+1),⟨?_,?_,za9 p (.inr (.inr ⟨e,G⟩))⟩,?_⟩
       ·dsimp only
        rw [d]
        by_cases hc:a<v∧z0g m L a=1
        ·rw [if_pos hc,if_pos ⟨by omega,hc.2⟩]
        ·rw [if_neg hc,if_neg (fun h=>hc ⟨?_,h.2⟩)]
         rcases Nat.lt_succ_iff_lt_or_eq.1 h.1 with b|b
         ·exact b
         ·have:=h.2;rw [b,e] at this;cases this
       ·dsimp only;rw [g,zfz,if_pos e];rfl
       ·rw [gp c1,cf (by rw [decide_eq_false (by omega)];rfl),ct (by
         rw [decide_eq_true e]
         cases round
         ·rfl
         ·rw [G rfl];rfl),zh (qx (by omega)),z5y,z9o,zh (qx (by omega))];rfl
      ·left
       refine⟨Ex.rt false,?_,.inl ⟨rfl,fun h=>?_⟩⟩
       ·rw [gp c1,cf (by
         rw [Bool.and_eq_false_iff]
         by_cases h:z0g m L v=1
         ·exact .inr (decide_eq_false fun b=>j ⟨h,by omega⟩)
         ·exact .inl (decide_eq_false h)),cf (by
         rw [Bool.and_eq_false_iff]
         by_cases h:z0g m L v= -1
         ·right
          have b: ¬(round=true→v=0):=fun b=>e ⟨h,b⟩
          obtain⟨w,P⟩:=Classical.not_imp.1 b
          rw [w,decide_eq_false (by omega)];rfl
         ·exact .inl (decide_eq_false h)),z5y,zlh]
       ·rcases h v f with h|h|h
        ·exact c1 h
        ·exact j h
        ·exact e h
   ·obtain⟨n,t⟩:=z
    obtain⟨d,g,p⟩:=c
    dsimp only at d g
    simp only [ma]
    rw [gp (by rw [hlen];omega)]
    refine⟨_,rfl,.inr ⟨?_,p⟩⟩
    rw [d,g]
    by_cases hc:z0g m L a=1
    ·rw [if_pos hc,if_pos ⟨l,hc⟩]
    ·rw [if_neg hc,if_neg (fun h=>hc h.2)]
  rcases A with⟨rfl,B⟩|⟨rfl,C⟩
  ·rw [qj o,zlh,zki (fun h=>B ((zhw l).1 (hiff.1 h).1).1)]
  ·rw [qj o,z9o]
   dsimp only
   by_cases hb:q0f m L a round
   ·obtain⟨_,J,K⟩:=(zhw l).1 hb
    rw [cf (by
     rw [Bool.or_eq_false_iff]
     refine⟨decide_eq_false fun h=>h (by rw [←J];split<;>rfl),?_⟩
     by_cases h:z0g m L a=1
     ·rw [if_pos h];simp
     ·by_cases b:round=true
      ·have:a=0:=Classical.byContradiction fun w=>K ⟨b,h,w⟩
       rw [this];simp
      ·rw [Bool.eq_false_iff.2 b];simp),qj (zop q D x l)]
    congr 1
    unfold rchPB
    by_cases hrc:zru m L a
    ·rw [@decide_eq_true _ (Classical.propDecidable _) hrc,zqp (hiff.2 ⟨hb,hrc⟩)]
    ·rw [@decide_eq_false _ (Classical.propDecidable _) hrc,zki (fun h=>hrc (hiff.1 h).2)]
   ·rw [ct (by
     refine Classical.byContradiction fun h=>hb ((zhw l).2 ⟨C,?_,?_⟩)
     ·have h:=(Bool.or_eq_false_iff.1 (Bool.eq_false_iff.2 h)).1
      have h:=Classical.not_not.1 (of_decide_eq_false h)
      by_cases hA:z0g m L a=1
      ·rw [if_pos hA] at h⊢;omega
      ·rw [if_neg hA] at h⊢;omega
     ·rintro⟨y,b,w⟩
      refine h ?_
      rw [y,if_neg b,decide_eq_true (show ((a:Int)≠0) by omega)];simp),zki (fun h=>hb (hiff.1 h).1)]
end
end GV
end Go.Proofs.Ytdhccodneoebpaa

namespace Go.Proofs.Ytdhccodneoebpaa
namespace GV
set_option maxRecDepth 100000
theorem zfy{β:Type}{g:Nat→Option β}: ∀ {I:Nat},(∀ j,j<I→g j=none)→(List.range I).findSome? g=none
 |0,_=>rfl
 |I+1,h=>by
  rw [List.range_succ,List.findSome?_append,zfy (fun j a=>h j (by omega)),List.findSome?_singleton,h I (by omega)];rfl
theorem zkd{β:Type}{g:Nat→Option β}{i:Nat}{y:β}: ∀ {I:Nat},i<I→g i=some y→(∀ j,j<i→g j=none)→(List.range I).findSome? g=some y
 |0,h,_,_=>by omega
 |I+1,h,a,b=>by
  rw [List.range_succ,List.findSome?_append]
  by_cases e:i<I
  ·rw [zkd e a b];rfl
  ·obtain rfl:i=I:=by omega
   rw [zfy b,List.findSome?_singleton,a];rfl
theorem zhs{β:Type}{g:Nat→Option β}{y:β}: ∀ {I:Nat},(List.range I).findSome? g=some y→ ∃ i,i<I∧g i=some y∧ ∀ j,j<i→g j=none
 |0,h=>by cases h
 |I+1,h=>by
  rw [List.range_succ,List.findSome?_append] at h
  cases e:(List.range I).findSome? g with
  |some z=>
   rw [e] at h
   obtain rfl:=Option.some.inj h
   obtain⟨i,a,b,c⟩:=zhs e
   exact⟨i,by omega,b,c⟩
  |none=>
   rw [e,List.findSome?_singleton] at h
   refine⟨I,by omega,h,fun j d=>?_⟩
   rw [List.findSome?_eq_none_iff] at e
   exact e j (List.mem_range.2 d)
def exL(m:Mach)(round:Bool):Nat→List (List Int)→Nat→Option (List Int)
 |0,_,_=>none
 |f+1,L,a=>if mr m L=0 then(if(!round||decide (a=0))=true then some [] else none) else(List.range m.inputs.toNat).findSome? fun i=>if ed m a i≠ -1∧0<lf L a i then(exL m round f (z4i L a i) (ed m a i).toNat).map fun w=>(i:Int)::w else none
section
variable {N : Nat} {m : Mach} {round : Bool}
def zm3(m:Mach)(L:List (List Int)):Prop:= ∀ s i,VE m s i→0≤lf L s i∧lf L s i≤1000000000
theorem zb1{L:List (List Int)}{a i:Nat}(d:Shp m L)(b:zm3 m L)(c:VE m a i)(h:0<lf L a i):zm3 m (z4i L a i):=fun s j e=>by
 rw [zdn d c]
 have f:=b a i c
 have g:=b s j e
 split<;>omega
theorem zwf{a:Nat}:(!round||decide (a=0))=true↔(round=true→a=0):=by
 cases round<;>simp
theorem zfo(n:MOk m): ∀ (f:Nat) (L:List (List Int)) (a:Nat),Shp m L→zm3 m L→a<m.rows.length→(mr m L).toNat<f→
 (∀ w,exL m round f L a=some w→ ∃ e,WkV m a w e∧(∀ s i,VE m s i→ctN m a w s i=lf L s i)∧(round=true→e=0))∧(exL m round f L a=none→ ¬zhf m L a round)
 |0,_,_,_,_,_,h=>by omega
 |f+1,L,a,k,r,y,C=>by
  have hpos: ∀ s i,VE m s i→0≤lf L s i:=fun s i g=>(r s i g).1
  unfold exL
  by_cases hz:mr m L=0
  ·rw [if_pos hz]
   have hall:=(zg0 hpos).1 hz
   constructor
   ·intro w d
    by_cases hr:(!round||decide (a=0))=true
    ·rw [if_pos hr] at d
     obtain rfl:=Option.some.inj d
     exact⟨a,rfl,fun s i g=>by rw [hall s i g];rfl,zwf.1 hr⟩
    ·rw [if_neg hr] at d;cases d
   ·intro d t
    by_cases hr:(!round||decide (a=0))=true
    ·rw [if_pos hr] at d;cases d
    ·refine hr (zwf.2 ?_)
     have:=(zkz (round:=round) n y k hpos).1 t
     rw [if_pos hz] at this
     exact this
  ·rw [if_neg hz]
   have z:=zbs hpos
   have hstep: ∀ i,VE m a i→0<lf L a i→(mr m (z4i L a i)).toNat<f:=fun i g h=>by
    rw [za7 k g];omega
   constructor
   ·intro w d
    obtain⟨i,hi,q,_⟩:=zhs d
    by_cases g:ed m a i≠ -1∧0<lf L a i
    ·rw [if_pos g] at q
     have b:VE m a i:=⟨y,hi,g.1⟩
     obtain⟨w',hw',rfl⟩:=Option.map_eq_some_iff.1 q
     obtain⟨e,o,p,u⟩:=(zfo n f _ _ (z6q k b) (zb1 k r b g.2) (b.to n).1 (hstep i b g.2)).1 w' hw'
     refine⟨e,⟨i,rfl,b,o⟩,fun s j v=>?_,u⟩
     rw [z4p,p s j v,zdn k b]
     by_cases e2:s=a∧j=i
     ·rw [if_pos e2,if_pos ⟨e2.1.symm,e2.2.symm⟩,e2.1,e2.2];omega
     ·rw [if_neg e2,if_neg (fun h=>e2 ⟨h.1.symm,h.2.symm⟩)];omega
    ·rw [if_neg g] at q;cases q
   ·intro d t
    obtain⟨w,e,o,p,u⟩:=t
    have A:=zgv n o p
    match w,o with
    | [],_=>exact hz A.symm
    |c::w,⟨i,B,b,o⟩=>
     subst B
     have l:0<lf L a i:=by
      rw [←p a i b,z4p,if_pos ⟨rfl,rfl⟩]
      have:=z9v (m:=m) w (ed m a i).toNat a i;omega
     rw [List.findSome?_eq_none_iff] at d
     have:=d i (List.mem_range.2 b.hi)
     rw [if_pos ⟨b.he,l⟩] at this
     have x:=(zfo n f _ _ (z6q k b) (zb1 k r b l) (b.to n).1 (hstep i b l)).2 (Option.map_eq_none_iff.1 this)
     refine x ⟨w,e,o,fun s j v=>?_,u⟩
     have:=p s j v
     rw [z4p] at this
     rw [zdn k b]
     by_cases e2:s=a∧j=i
     ·rw [if_pos ⟨e2.1.symm,e2.2.symm⟩] at this
      rw [if_pos e2]
      rw [e2.1,e2.2] at this⊢;omega
     ·rw [if_neg (fun h=>e2 ⟨h.1.symm,h.2.symm⟩)] at this
      rw [if_neg e2];omega
theorem zon(b:MOk m){f:Nat}{L:List (List Int)}{a:Nat}(c:Shp m L)(d:zm3 m L)(g:a<m.rows.length)(i:(mr m L).toNat<f):(exL m round f L a).isSome=true↔zhf m L a round:=by
 obtain⟨j,k⟩:=zfo (round:=round) b f L a c d g i
 cases e:exL m round f L a with
 |some w=>
  obtain⟨e',l,n,o⟩:=j w e
  exact⟨fun _=>⟨w,e',l,n,o⟩,fun _=>rfl⟩
 |none=>exact⟨fun h=>(by cases h),fun h=>absurd h (k e)⟩
/-! ### The document's-/
def RelB(m:Mach)(L:List (List Int))(b:Nat):Prop:= ∀ s i,VE m s i→lf L s i=if b.testBit (ky m s i)=true then 0 else 1
theorem zrp{L:List (List Int)}{b:Nat}(h:RelB m L b):zm3 m L:=fun s i a=>by rw [h s i a];split<;>omega
theorem zwo{L:List (List Int)}{b:Nat}(h:RelB m L b)(j:b<2^(ql m).length):b=2^(ql m).length-1↔mr m L=0:=by
 rw [zf0 j,zg0 fun s i a=>(zrp h s i a).1]
 constructor
 ·intro c s i a
  rw [h s i a,if_pos (c _ (z5n a.hs a.hi a.he))]
 ·intro c k n
  obtain⟨y,l,d,f,g,rfl⟩:=zar n
  have:=c y l ⟨d,f,g⟩
  rw [h y l ⟨d,f,g⟩] at this
  by_cases e:b.testBit (ky m y l)=true
  ·exact e
  ·rw [if_neg e] at this;cases this
theorem zxd{L:List (List Int)}{b a i:Nat}(h:RelB m L b)(k:Shp m L)(c:VE m a i)(d:0<lf L a i):RelB m (z4i L a i) (b|||2^ky m a i):=fun s j f=>by
 rw [zdn k c,Nat.testBit_or,Nat.testBit_two_pow]
 by_cases e:s=a∧j=i
 ·obtain⟨rfl,rfl⟩:=e
  have l:=h s j c
  rw [if_pos ⟨rfl,rfl⟩,decide_eq_true (rfl:ky m s j=ky m s j),Bool.or_true,if_pos rfl]
  rw [l] at d⊢
  split at d
  ·omega
  ·rename_i g
   rw [if_neg g];rfl
 ·rw [if_neg e,decide_eq_false (fun g=>e (by obtain⟨x,y⟩:=zef c.hs c.hi c.he f.hs f.hi f.he g;exact⟨x.symm,y.symm⟩)),Bool.or_false]
  exact h s j f
theorem zvc(c:MOk m)(l:2000≤N){s i:Nat}(d:ed m s i= -1):ol N (ql m) (s:Int) (i:Int)=some 0:=by
 have hlen:=ze0 c
 unfold ol
 refine Eq.trans (qj (x:=Ex.go ()) ?_) rfl
 refine df (σ:=Unit) (fun F k _=>wz N (ql m) (s:Int) (i:Int) F (k:Int)) (ql m).length (fun _ _=>True) _ (fun F k _ b _=> .inr ⟨(),trivial,?_⟩) (fun F _ _=>?_) N 0 () (Nat.zero_le _) (by omega) trivial
 ·simp only [wz]
  rw [di (by omega),zh (qf b),uo,gp (fun h=>?_),zh (qx (by omega))];rfl
  obtain⟨x,j,_,_,a,e⟩:=xy.1 (z0f b)
  rw [e] at h
  obtain⟨f,g⟩:=h
  dsimp only at f g
  obtain rfl:x=s:=by omega
  obtain rfl:j=i:=by omega
  exact a d
 ·simp only [wz]
  rw [gp (by omega)]
theorem zu0{b k:Nat}:zyi (b:Int) ((2^k:Nat):Int)=if b.testBit k=true then((2^k:Nat):Int) else 0:=by
 unfold zyi
 rw [Int.toNat_natCast,Int.toNat_natCast]
 have e:b&&&2^k=if b.testBit k=true then 2^k else 0:=by
  apply Nat.eq_of_testBit_eq
  intro j
  rw [Nat.testBit_and,Nat.testBit_two_pow]
  by_cases h:k=j
  ·subst h
   cases hb:b.testBit k
   ·rw [if_neg (by simp)];simp
   ·rw [if_pos rfl,Nat.testBit_two_pow];simp
  ·rw [decide_eq_false h,Bool.and_false]
   split
   ·rw [Nat.testBit_two_pow,decide_eq_false h]
   ·rw [Nat.zero_testBit]
 rw [e]
 split<;>rfl
def exR(m:Mach)(round:Bool)(f:Nat)(L:List (List Int))(a:Nat):List Int×Bool:=match exL m round f L a with|some w=>(w,true)|none=>([],false)
theorem zjy(l:MOk m)(u:2000≤N)(d:(ql m).length≤16): ∀ (f F:Nat) (L:List (List Int)) (b a:Nat),Shp m L→RelB m L b→b<2^(ql m).length→a<m.rows.length→(mr m L).toNat<f→mr m L≤1024→f≤F→
 yh N F m (ql m) (a:Int) (b:Int) round=some (exR m round f L a)
 |0,_,_,_,_,_,_,_,_,h,_,_=>by omega
 |f+1,F,L,b,a,o,p,A,q,P,D,Q=>by
  obtain⟨F,rfl⟩: ∃ F',F=F'+1:=⟨F-1,by omega⟩
  have R:=z8k d
  have hinp:=l.inp
  have hfull:=zwo p A
  have B:=zrp p
  have E:=zbs (L:=L) fun s i g=>(B s i g).1
  simp only [yh]
  rw [zh (zfc d),zkc d,zh (qx (by omega))]
  by_cases hz:mr m L=0
  ·have:=hfull.2 hz
   rw [di (by omega)]
   unfold exR exL
   rw [if_pos hz]
   have e:decide ((a:Int)=0)=decide (a=0):=by rw [decide_eq_decide];omega
   rw [e]
   cases (!round||decide (a=0))<;>rfl
  ·have: ¬b=2^(ql m).length-1:=fun h=>hz (hfull.1 h)
   rw [gp (by omega)]
   unfold exR exL
   rw [if_neg hz]
   obtain⟨r,G,v⟩: ∃ r,ym N (yh N F) m (ql m) (a:Int) (b:Int) round N 0=some r∧((∃ i w,r=Ex.rt (((i:Nat):Int)::w,true)∧i<m.inputs.toNat∧(if ed m a i≠ -1∧0<lf L a i then(exL m round f (z4i L a i) (ed m a i).toNat).map fun w=>(i:Int)::w else none)=some ((i:Int)::w)∧ ∀ j,j<i→(if ed m a j≠ -1∧0<lf L a j then(exL m round f (z4i L a j) (ed m a j).toNat).map fun w=>(j:Int)::w else none)=none)∨(r=Ex.go ()∧ ∀ j,j<m.inputs.toNat→(if ed m a j≠ -1∧0<lf L a j then(exL m round f (z4i L a j) (ed m a j).toNat).map fun w=>(j:Int)::w else none)=none)):=by
    refine z0t (σ:=Unit) (fun F' i _=>ym N (yh N F) m (ql m) (a:Int) (b:Int) round F' (i:Int)) m.inputs.toNat (fun i _=> ∀ j,j<i→(if ed m a j≠ -1∧0<lf L a j then(exL m round f (z4i L a j) (ed m a j).toNat).map fun w=>(j:Int)::w else none)=none) _ (fun F' i _ hi n=>?_) (fun F' _ n=>?_) N 0 () (Nat.zero_le _) (by omega) (fun j S=>by omega)
    ·simp only [ym]
     rw [di (by omega)]
     by_cases he:ed m a i= -1
     ·right
      refine⟨(),za9 n (if_neg (fun h=>h.1 he)),?_⟩
      rw [qj (zvc l u he),zh (fun h=>by simp at h),ct (by simp),z5y,z9o,zh (qx (by omega))];rfl
     ·have g:VE m a i:=⟨q,hi,he⟩
      obtain⟨C,x⟩:=g.to l
      have y:=z5n q hi he
      have H:=z8k (k:=ky m a i) (by omega)
      rw [qj (zmd l u d q hi he),zh (fun _=>zrn (by omega) (by omega)),zu0]
      by_cases hbit:b.testBit (ky m a i)=true
      ·right
       have c: ¬0<lf L a i:=by rw [p a i g,if_pos hbit];omega
       refine⟨(),za9 n (if_neg (fun h=>c h.2)),?_⟩
       rw [if_pos hbit,ct (by rw [decide_eq_true (show (0:Int)<((2^ky m a i:Nat):Int) by omega),Bool.or_true]),z5y,z9o,zh (qx (by omega))];rfl
      ·have c:0<lf L a i:=by rw [p a i g,if_neg hbit];omega
       have I:(ix (ix m.rows (a:Int)) (i:Int)).to=ed m a i:=rfl
       have z:b|||2^ky m a i<2^(ql m).length:=Nat.or_lt_two_pow A (Nat.pow_lt_pow_right (by decide) y)
       have J:=za7 o g
       have ih:=zjy l u d f F (z4i L a i) (b|||2^ky m a i) (ed m a i).toNat (z6q o g) (zxd p o g c) z C (by omega) (by omega) (by omega)
       rw [if_neg hbit,cf (by rw [decide_eq_false (show¬((2^ky m a i:Nat):Int)=0 by omega)];rfl),zh (qf q),zh (show okI (ix m.rows (a:Int)) (i:Int) from qf (by rw [uo,l.rowlen q];exact hi)),zh (zrn (by omega) (by omega)),I,zlr,x,qj ih]
       cases hx:exL m round f (z4i L a i) (ed m a i).toNat with
       |none=>
        right
        refine⟨(),za9 n (by rw [if_pos ⟨he,c⟩,hx];rfl),?_⟩
        unfold exR
        rw [hx,cf rfl,z5y,z9o,zh (qx (by omega))];rfl
       |some w=>
        left
        have K:(w.length:Int)=mr m (z4i L a i):=by
         obtain⟨e,M,t,_⟩:=(zfo (round:=round) l f _ _ (z6q o g) (zb1 o B g c) C (by omega)).1 w hx
         exact zgv l M t
        refine⟨Ex.rt ((i:Int)::w,true),?_,.inl ⟨i,w,rfl,hi,by rw [if_pos ⟨he,c⟩,hx];rfl,n⟩⟩
        unfold exR
        rw [hx,ct rfl,zh ⟨by simp;omega,by simp;omega⟩,z5y,zlh];rfl
    ·simp only [ym]
     rw [gp (by omega)]
     exact⟨_,rfl,.inr ⟨rfl,n⟩⟩
   rw [qj G]
   rcases v with⟨i,w,rfl,hi,t,O⟩|⟨rfl,t⟩
   ·rw [zlh,zkd hi t O]
   ·rw [z9o,zfy t]
end
end GV
end Go.Proofs.Ytdhccodneoebpaa

namespace Go.Proofs.Ytdhccodneoebpaa
namespace GV
set_option maxRecDepth 100000
section
variable {N : Nat} {m : Mach} {round : Bool} {L : List (List Int)} {a : Nat}
theorem zvg(c:Shp m L){i:Nat}(b:VE m a i)(d:zm3 m L){k:Int}(e:0≤k∧k≤2000000000000):cu N (a:Int) (i:Int) 1 m.inputs m.outputs m.rows L k=some (z4i L a i,k-1):=by
 have f:=d a i b
 unfold cu
 rw [zh (qf (by rw [c.len];exact b.hs)),uo,zh (qf (by rw [c.row a b.hs];exact b.hi)),uo,show (L.getD a default).getD i default=lf L a i from rfl,zh (qx (by omega)),zh (qf (by rw [c.row a b.hs];exact b.hi)),zh (qx (by omega)),ry,ry];rfl
theorem zoa{α:Type}[Inhabited α]{l:List α}{i:Nat}:l.set i (l.getD i default)=l:=by
 apply List.ext_getElem?
 intro j
 rw [List.getElem?_set]
 split
 ·rename_i h;subst h
  split
  ·rename_i h;rw [List.getD_eq_getElem?_getD,List.getElem?_eq_getElem h];rfl
  ·rename_i h;rw [List.getElem?_eq_none (by omega)]
 ·rfl
theorem zx6(d:Shp m L){i:Nat}(b:VE m a i)(f:zm3 m L){k:Int}(l:0≤k∧k≤2000000000000):cu N (a:Int) (i:Int) (-1) m.inputs m.outputs m.rows (z4i L a i) (k-1)=some (L,k):=by
 have n:=f a i b
 have c:=z6q d b
 have e:(z4i L a i).getD a default=(L.getD a default).set i (lf L a i-1):=by
  unfold z4i;rw [uu (by rw [d.len];exact b.hs),if_pos rfl]
 have g:((z4i L a i).getD a default).getD i default=lf L a i-1:=by
  rw [e,uu (by rw [d.row a b.hs];exact b.hi),if_pos rfl]
 unfold cu
 rw [zh (qf (by rw [c.len];exact b.hs)),uo,zh (qf (by rw [c.row a b.hs];exact b.hi)),uo,g,zh (qx (by omega)),zh (qf (by rw [c.row a b.hs];exact b.hi)),zh (qx (by omega)),ry,ry,e,List.set_set,show lf L a i-1- -1=lf L a i by omega]
 have h:(L.getD a default).set i (lf L a i)=L.getD a default:=zoa
 have j:(z4i L a i).set a (L.getD a default)=L:=by
  unfold z4i;rw [List.set_set];exact zoa
 rw [h,j,show k-1- -1=k by omega]
theorem zii(n:MOk m)(E:200≤N){Y:Sd}(P:Y.fD=m): ∀ (f:Nat) (L:List (List Int)) (a F:Nat) (out:List Int) (x:Int) (w:List Int),Shp m L→zm3 m L→a<m.rows.length→(mr m L).toNat<f→mr m L≤1000000→(mr m L).toNat<F→(out.length:Int)+mr m L=Y.fJ→x≠mr m L→exL m round f L a=some w→
 z1e N round Y F x (mr m L) L out (a:Int)=some (out++w)
 |0,_,_,_,_,_,_,_,_,_,h,_,_,_,_,_=>by omega
 |f+1,L,a,F,out,x,w,l,t,G,U,R,V,W,S,u=>by
  obtain⟨F,rfl⟩: ∃ F',F=F'+1:=⟨F-1,by omega⟩
  have y:=zbs (L:=L) fun s i p=>(t s i p).1
  unfold exL at u
  simp only [z1e]
  by_cases hz:mr m L=0
  ·rw [if_pos hz] at u
   rw [cf (by rw [decide_eq_false (by omega)];rfl),z5y,zlh]
   split at u
   ·obtain rfl:=Option.some.inj u;rw [List.append_nil]
   ·cases u
  ·rw [if_neg hz] at u
   obtain⟨i,hi,H,T⟩:=zhs u
   split at H
   ·rename_i hcond
    have p:VE m a i:=⟨G,hi,hcond.1⟩
    obtain⟨w',hw',rfl⟩:=Option.map_eq_some_iff.1 H
    have I:=za7 l p
    obtain⟨Q,J⟩:=p.to n
    rw [ct (by rw [decide_eq_true (show 0<mr m L by omega),decide_eq_true S];rfl),show z1g N (a:Int) Y.fD.inputs Y.fD.outputs Y.fD.rows L (mr m L)=some (a:Int) from rfl,z5y,P]
    have K: ∀ j,j<i→VE m a j→0<lf L a j→ ¬zhf m (z4i L a j) (ed m a j).toNat round:=fun j v b g=>by
     have A:=T j v
     rw [if_pos ⟨b.he,g⟩] at A
     have X:=za7 l b
     exact(zfo n f _ _ (z6q l b) (zb1 l t b g) (b.to n).1 (by omega)).2 (Option.map_eq_none_iff.1 A)
    have hyes:zhf m (z4i L a i) (ed m a i).toNat round:=(zon n (z6q l p) (zb1 l t p hcond.2) Q (f:=f) (by omega)).1 (by rw [hw'];rfl)
    have hcan: ∀ j,VE m a j→0<lf L a j→z09 N ⟨⟨m.inputs,m.outputs,m.rows⟩,z4i L a j,mr m L-1⟩ (ed m a j) round=some (eulB m (z4i L a j) (ed m a j).toNat round):=fun j b g=>by
     have A:=zw4 (N:=N) (round:=round) n E (z6q l b) (b.to n).1 (zb1 l t b g)
     rw [za7 l b,←(b.to n).2] at A
     exact A
    obtain⟨z,M,O⟩:=zmc (s:=a) (k:=mr m L) n E l G (σ:=Ex (Int×List (List Int)) (Ex (Int×List (List Int)×List Int×Int) (List Int))) (Ex.got (fun(o:Int×List (List Int))=>(m.inputs,m.outputs,m.rows,o.2,o.1))) (fun c s=>Ex.on s (fun q=>
     bd (cu N (a:Int) c.fA 1 m.inputs m.outputs m.rows q.2 q.1) fun d=>
     bd (z09 N (⟨(⟨m.inputs,m.outputs,m.rows⟩:Mach),d.1,d.2⟩:Sd) c.fB round) fun B=>
     bif B then(
     gd (out.length+([c.fA]:List Int).length≤Y.fJ.toNat)<|
     some (false,Ex.rt (Ex.go (d.2,d.1,(out++([c.fA]:List Int)),c.fB)))) else(
     bd (cu N (a:Int) c.fA (-1) m.inputs m.outputs m.rows d.1 d.2) fun r=>
     some (true,Ex.go (r.2,r.1)))) fun _=>none) (fun j z=>z=Ex.go (mr m L,L)∧j≤i) (fun z=>z=Ex.rt (Ex.go (mr m L-1,z4i L a i,out++[(i:Int)],ed m a i))) (s0:=Ex.go (mr m L,L)) ⟨rfl,Nat.zero_le _⟩ (fun j z h=>by rw [h.1];rfl) (by
      rintro j _ C Z g ⟨rfl,v⟩
      have b:VE m a j:=⟨G,C,by omega⟩
      simp only [z9o]
      rw [qj (zvg l b t ⟨y,by omega⟩),qj (hcan j b g)]
      by_cases e:j=i
      ·subst e
       rw [zqp hyes,ct rfl,zh (by simp;omega)]
       exact⟨false,_,rfl,fun h=>(by cases h),fun _=>rfl⟩
      ·rw [zki (K j (by omega) b g),cf rfl,qj (zx6 l b t ⟨y,by omega⟩)]
       exact⟨true,_,rfl,fun _=>⟨rfl,by omega⟩,fun h=>(by cases h)⟩) (by
      rintro j _ C D ⟨rfl,v⟩
      refine⟨rfl,?_⟩
      by_cases e:j=i
      ·subst e
       rcases D with D|D
       ·exact absurd D hcond.1
       ·omega
      ·omega)
    rw [qj M]
    rcases O with⟨_,h⟩|rfl
    ·omega
    ·rw [zlh,z5y,z9o]
     have ih:=zii n E P f (z4i L a i) (ed m a i).toNat F (out++[(i:Int)]) (mr m L) w' (z6q l p) (zb1 l t p hcond.2) Q (by omega) (by omega) (by omega) (by simp;omega) (by omega) hw'
     rw [I,←J,List.append_assoc] at ih
     exact ih
   ·cases H
def z4j(m:Mach):List (List Int):=z2t m fun _ _=>1
theorem zfm{s i:Nat}(a:VE m s i):lf (z4j m) s i=1:=by
 unfold z4j;rw [zgt a.hs a.hi,if_neg a.he]
theorem zcv:Shp m (z4j m):=zx0
theorem one_pos:zm3 m (z4j m):=fun s i a=>by rw [zfm a];omega
theorem z2d:mr m (z4j m)=((ql m).length:Int):=by
 have h:mr m (z4j m)=((ql m).map fun _=>(1:Int)).sum:=z3t fun e d=>by
  obtain⟨x,j,a,b,c,rfl⟩:=xy.1 d
  exact zfm ⟨a,b,c⟩
 rw [h]
 induction ql m with
 |nil=>rfl
 |cons x l ih=>rw [List.map_cons,List.sum_cons,ih,List.length_cons];omega
def exW(m:Mach)(round:Bool):Option (List Int):=exL m round ((ql m).length+1) (z4j m) 0
def exE(m:Mach)(round:Bool):List Int×Int:=match exW m round with|some w=>(w,0)|none=>([],7)
theorem zny(a:MOk m)(b:200≤N):rq N m (fun c d=>z8d N c d)=some ⟨m,z4j m,((ql m).length:Int)⟩:=by
 rw [zq1 (t:=fun _ _=>1) a b fun s i e=>⟨rfl,by decide,by decide⟩]
 rw [show z2t m (fun _ _=>1)=z4j m from rfl,z2d]
theorem zhg(a:MOk m):(exW m round).isSome=true↔zhf m (z4j m) 0 round:=by
 have c:=a.r1
 have b:=a.r2
 exact zon a zcv one_pos (by omega) (by rw [z2d];omega)
theorem zqg(a:MOk m){w:List Int}(h:exW m round=some w):w.length=(ql m).length:=by
 have f:=a.r1
 have b:=a.r2
 obtain⟨e,c,d,_⟩:=(zfo (round:=round) a _ _ _ zcv one_pos (by omega) (by rw [z2d];omega)).1 w h
 have:=zgv a c d
 rw [z2d] at this;omega
theorem zue(d:CM38 m)(j:1500≤N)(k:(ql m).length≤256):z3m N m round=some (exE m round):=by
 have c:=d.ok
 have l:=c.r1
 have i:=c.r2
 unfold z3m exE
 rw [qj (d.check0 (by omega)),gp (by decide),qj (zny c (by omega)),zei]
 have f:=zw4 (N:=N) (a:=0) (round:=round) c (by omega) zcv (by omega) one_pos
 rw [z2d,show ((0:Nat):Int)=0 from rfl] at f
 dsimp only
 rw [qj f]
 have hiff:=zhg (round:=round) c
 cases e:exW m round with
 |none=>
  rw [e] at hiff
  rw [zki (fun h=>by have:=hiff.2 h;cases this),ct (b:= !false) rfl]
 |some w=>
  rw [e] at hiff
  rw [zqp (hiff.1 rfl),cf (b:= !true) rfl,gp (by omega),zh ⟨⟨by omega,by omega,by omega⟩,by omega,by omega⟩]
  have g:=zii (N:=N) (round:=round) c (by omega) (Y:=⟨m,z4j m,((ql m).length:Int)⟩) rfl ((ql m).length+1) (z4j m) 0 N [] (-1) w zcv one_pos (by omega) (by rw [z2d];omega) (by rw [z2d];omega) (by rw [z2d];omega) (by rw [z2d];simp) (by rw [z2d];omega) e
  rw [z2d] at g
  dsimp only
  rw [show mk 0 (0:Int)=[] from rfl,show (0:Int)=((0:Nat):Int) from rfl,qj g,zh (by rw [List.nil_append,zqg c e];rfl)];rfl
theorem zsc(a:MOk m)(c:2000≤N)(b:(ql m).length≤16):z0p N m round=some (match exW m round with|some w=>(w,true)|none=>([],false)):=by
 have f:=a.r1
 have d:=a.r2
 unfold z0p
 rw [qj (zbr a (by omega))]
 have:=zjy (round:=round) a c b ((ql m).length+1) N (z4j m) 0 0 zcv (fun s i e=>by rw [zfm e,if_neg (by simp)]) (Nat.two_pow_pos _) (by omega) (by rw [z2d];omega) (by rw [z2d];omega) (by omega)
 rw [show ((0:Nat):Int)=0 from rfl] at this
 rw [qj this]
 unfold exR exW
 cases exL m round ((ql m).length+1) (z4j m) 0<;>rfl
/-! ### when there is a round one-/
theorem zrz(c:MOk m){x y:Nat}(h:Reach m x y):Reach (z4d m (z4j m)) x y:=by
 induction h with
 |refl=>exact .refl
 | @step t i j a d e ih=>
  have hi:i<m.inputs.toNat:=by rwa [c.rowlen a] at d
  have f:VE m t i:=⟨a,hi,by unfold ed;omega⟩
  have g:=zfm f
  have b:((z4d m (z4j m)).rows.getD t default).getD i default=(m.rows.getD t default).getD i default:=by rw [zku a hi,if_pos (by omega)]
  have:=Reach.step ih (by rw [z0o];exact a) (i:=i) (by rw [ze7 a];simpa using hi) (by rw [b];exact e)
  rwa [b] at this
theorem zxo(d:MOk m)(f:zhf m (z4j m) 0 true){v:Nat}(l:v<m.rows.length):z0g m (z4j m) v=0:=by
 obtain⟨w,e,g,h,i⟩:=f
 obtain rfl:=i rfl
 have:=zoy d v g
 rw [Int.sub_self] at this
 rw [←this]
 refine z3t fun e k=>?_
 obtain⟨x,j,a,b,c,rfl⟩:=xy.1 k
 unfold zjh
 have:=h x j ⟨a,b,c⟩
 show lf (z4j m) x j*_=ctN m 0 w x j*_
 rw [this]
theorem zs8(c:CM38 m):zhf m (z4j m) 0 true↔(∀ v,v<m.rows.length→z0g m (z4j m) v=0)∧(knotsL m).length=1:=by
 have b:=c.ok
 have g:=b.r1
 have k:=b.r2
 constructor
 ·intro h
  refine⟨fun v a=>zxo b h a,?_⟩
  obtain⟨w,e,j,g,l⟩:=h
  obtain⟨x,d,f⟩:=zy6 (round:=true) b j (fun s i a=>by rw [g s i a,zfm a];decide) l
  exact(zjw b).2 ((zna c).1 (zmo c (zuq b j) d f))
 ·rintro⟨n,_⟩
  refine(zkz b (by omega) zcv (fun s i a=>(one_pos s i a).1)).2 ?_
  split
  ·exact fun _=>rfl
  ·refine⟨⟨0,by omega,fun v a=>?_,fun _=>rfl⟩,fun s i a _=>zrz b (c.conn s a.hs)⟩
   rw [n v a];exact(Int.sub_self _).symm
end
end GV
end Go.Proofs.Ytdhccodneoebpaa

namespace Go.Proofs.Ytdhccodneoebpaa
namespace GV
set_option maxRecDepth 100000
section
variable {N : Nat} {m : Mach} {round : Bool}
theorem zn1{v s i:Nat}(a:VE m s i):zjh m (z4j m) v ((s:Int),(i:Int))=dl s v-dl (ed m s i).toNat v:=by
 unfold zjh
 show lf (z4j m) s i*(dl s v-dl (ed m s i).toNat v)=_
 rw [zfm a,Int.one_mul]
theorem zmr{k v:Nat}: -(k:Int)≤zcd m (z4j m) ((ql m).take k) v∧zcd m (z4j m) ((ql m).take k) v≤(k:Int):=by
 have:=zgx (f:=zjh m (z4j m) v) (B:=1) (by decide) (l:=(ql m).take k) (fun e d=>by
  obtain⟨x,j,a,b,c,rfl⟩:=xy.1 (List.mem_of_mem_take d)
  rw [zn1 ⟨a,b,c⟩]
  have g:=zg4 x v
  have h:=zg4 (ed m x j).toNat v
  omega)
 have i:((ql m).take k).length≤k:=by simp;omega
 unfold zcd;omega
theorem zt3(n:MOk m)(H:1500≤N): ∃ z:List Int,ug N m (ql m) N 0 (mk (m.rows.length:Int) (0:Int))=some z∧z.length=m.rows.length∧ ∀ v,v<m.rows.length→z.getD v default= -z0g m (z4j m) v:=by
 have hlen:=ze0 n
 have o:mk (m.rows.length:Int) (0:Int)=List.replicate m.rows.length 0:=z0k _ _
 rw [o]
 obtain⟨r,x,y,A⟩: ∃ r:List Int,ug N m (ql m) N 0 (List.replicate m.rows.length 0)=some r∧r.length=m.rows.length∧ ∀ v,v<m.rows.length→r.getD v default= -zcd m (z4j m) ((ql m).take (ql m).length) v:=by
  refine z0t (σ:=List Int) (fun F k z=>ug N m (ql m) F (k:Int) z) (ql m).length (fun k z=>z.length=m.rows.length∧ ∀ v,v<m.rows.length→z.getD v default= -zcd m (z4j m) ((ql m).take k) v) _ (fun F k z f p=> .inr ?_) (fun F z p=>?_) N 0 (List.replicate m.rows.length 0) (Nat.zero_le _) (by omega) ⟨by simp,fun v g=>by
   rw [List.getD_eq_getElem?_getD,List.getElem?_replicate,if_pos g];rfl⟩
  ·obtain⟨d,e⟩:=p
   obtain⟨s,i,a,b,c,u⟩:=xy.1 (z0f f)
   have g:VE m s i:=⟨a,b,c⟩
   obtain⟨j,q⟩:=g.to n
   have B:=zmr (m:=m) (k:=k) (v:=s)
   have C:=zmr (m:=m) (k:=k) (v:=(ed m s i).toNat)
   have l:=e s a
   have w:=e _ j
   have D:(ix (ix m.rows (s:Int)) (i:Int)).to=ed m s i:=rfl
   have E: ∀ v,zcd m (z4j m) ((ql m).take (k+1)) v=zcd m (z4j m) ((ql m).take k) v+(dl s v-dl (ed m s i).toNat v):=fun v=>by
    unfold zcd
    rw [List.take_succ_eq_append_getElem f,List.map_append,List.sum_append]
    have:(ql m)[k]=((s:Int),(i:Int)):=by rw [←u,List.getD_eq_getElem?_getD,List.getElem?_eq_getElem f];rfl
    rw [this,List.map_cons,List.sum_cons,zn1 g];simp
   have hget:(z.set s (z.getD s default-1)).getD (ed m s i).toNat default=if(ed m s i).toNat=s then z.getD s default-1 else z.getD (ed m s i).toNat default:=uu (by rw [d];exact a)
   simp only [ug]
   rw [di (by omega),zh (qf f),uo,u]
   dsimp only
   rw [zh (qf (by rw [d];exact a)),uo,zh (qx (by rw [l];omega)),zh (qf (by rw [d];exact a)),zh (qf f),zh (qf a),zh (qf f),zh (show okI (ix m.rows (s:Int)) (i:Int) from qf (by rw [uo,n.rowlen a];exact b)),D,q,ry,zh (qf (by rw [List.length_set,d];exact j)),uo,zh (qx (by rw [hget,l,w];split<;>omega)),zh (qf (by rw [List.length_set,d];exact j)),zh (qx (by omega)),ry]
   refine⟨_,⟨by rw [List.length_set,List.length_set,d],fun v t=>?_⟩,rfl⟩
   rw [uu (by rw [List.length_set,d];exact j),uu (by rw [d];exact a),uu (by rw [d];exact a),E v]
   have G:=e v t
   by_cases c1:v=(ed m s i).toNat
   ·rw [if_pos c1,c1,z5k]
    by_cases c2:(ed m s i).toNat=s
    ·rw [if_pos c2,c2,z5k,l];omega
    ·rw [if_neg c2,z7d (fun h=>c2 h.symm),w];omega
   ·rw [if_neg c1,z7d (a:=(ed m s i).toNat) (fun h=>c1 h.symm)]
    by_cases c2:v=s
    ·rw [if_pos c2,c2,z5k,l];omega
    ·rw [if_neg c2,z7d (a:=s) (fun h=>c2 h.symm),G];omega
  ·simp only [ug]
   rw [gp (by omega)]
   exact⟨_,rfl,p⟩
 exact⟨r,x,y,fun v g=>by rw [A v g,List.take_length];rfl⟩
theorem zsp(d:200≤N){z:List Int}(e:z.length≤64):uw N z N true 0=some (z.all fun x=>decide (x=0)):=by
 refine Eq.trans ?_ (congrArg (fun l=>some (List.all l fun x=>decide (x=0))) (List.take_length (l:=z)))
 refine df (σ:=Bool) (fun F k b=>uw N z F b (k:Int)) z.length (fun k b=>b=(z.take k).all fun x=>decide (x=0)) _ (fun F k b a c=> .inr ?_) (fun F b c=>?_) N 0 true (Nat.zero_le _) (by omega) (by simp)
 ·simp only [uw]
  rw [di (by omega),zh (fun _=>qf a),zh (qx (by omega)),uo]
  refine⟨_,?_,rfl⟩
  rw [List.take_succ_eq_append_getElem a,List.all_append,c,List.getD_eq_getElem?_getD,List.getElem?_eq_getElem a];simp
 ·simp only [uw]
  rw [gp (by omega),c]
theorem zv6{z:List Int}{n:Nat}(b:z.length=n):(z.all fun x=>decide (x=0))=true↔ ∀ v,v<n→z.getD v default=0:=by
 subst b
 rw [List.all_eq_true]
 constructor
 ·intro h v a
  rw [List.getD_eq_getElem?_getD,List.getElem?_eq_getElem a]
  exact of_decide_eq_true (h _ (List.getElem_mem a))
 ·intro h x c
  obtain⟨v,a,rfl⟩:=List.getElem_of_mem c
  have:=h v a
  rw [List.getD_eq_getElem?_getD,List.getElem?_eq_getElem a] at this
  exact decide_eq_true this
end
theorem zsw{x:Sg}{round:Bool}(p:DDOk x):ow 1000000 x round=some true:=by
 unfold ow
 obtain⟨m,q,j,r,k⟩:=zw6 (N:=1000000) p (by decide)
 have a:=j.ok
 obtain⟨s,t,u⟩:=zr9 j r k
 obtain⟨z,b,l,c⟩:=zt3 (N:=1000000) a (by decide)
 have d:=zsp (N:=1000000) (by decide) (z:=z) (by omega)
 have f:=zs8 j
 have hall:(z.all fun x=>decide (x=0))=true↔ ∀ v,v<m.rows.length→z0g m (z4j m) v=0:=by
  rw [zv6 l]
  exact⟨fun h v g=>by have o:=h v g;have y:=c v g;omega,fun h v g=>by rw [c v g,h v g];rfl⟩
 rw [qj q,zei,qj (zue j (by omega) (by omega)),qj (zsc a (by omega) (by omega))]
 unfold exE
 cases e:exW m round with
 |none=>
  dsimp only
  rw [z3f (x:=true) (fun _=>zm9 (by simp)),cf (by simp),zh ⟨by omega,by omega,by omega⟩,qj (zbr a (by decide)),qj b,qj d]
  rw [z3f (x:=knotsL m) (fun _=>zcp a (by decide)),z3f (fun _=>zh1)]
  cases round
  ·rfl
  ·have i:=zhg (round:=true) a
   rw [e] at i
   have n: ¬((z.all fun x=>decide (x=0))=true∧(knotsL m).length=1):=fun h=>by
    have:=i.2 (f.2 ⟨hall.1 h.1,h.2⟩);cases this
   cases hb:z.all fun x=>decide (x=0)
   ·simp
   ·have: ¬(((knotsL m).length:Int)=1):=fun h=>n ⟨hb,by omega⟩
    simp [this]
 |some w=>
  have A:=zqg a e
  dsimp only
  rw [z3f (x:=true) (fun _=>by rw [zm9 (by omega)];simp),cf (by simp),zh ⟨by omega,by omega,by omega⟩,qj (zbr a (by decide)),qj b,qj d]
  rw [z3f (x:=knotsL m) (fun _=>zcp a (by decide)),z3f (fun _=>zh1)]
  cases round
  ·rfl
  ·have i:=zhg (round:=true) a
   rw [e] at i
   obtain⟨o,k⟩:=f.1 (i.1 rfl)
   rw [hall.2 o];simp [k]
end GV
end Go.Proofs.Ytdhccodneoebpaa

namespace Go.Proofs.Ytdhccodneoebpaa
namespace GV
theorem zpn{x:Sg}{round:Bool}(a:zyd x)(b:True):ow 1000000 x round=some true:=zsw (zqk a)
end GV
end Go.Proofs.Ytdhccodneoebpaa
