
import Derived.Test.YtkcccdcloealfaaGreatSpec06e
import Derived.Test.YtkcccdcloealfaaGreatLives06
set_option linter.unusedVariables false
set_option linter.unusedSimpArgs false
namespace Go.Proofs.YtkcccdcloealfaaGreat
namespace GV
set_option maxRecDepth 100000
theorem q1c{x:MDat}(h:MDOk x):(mOf x).rows.length≤6∧(mOf x).inputs≤3:=by
 have b:=h.st;have c:=h.ins
 have d:1≤x.n∧x.n≤6:=by unfold MDat.n;omega
 have a:1≤x.inp∧x.inp≤3:=by unfold MDat.inp;omega
 have e:(mOf x).rows.length=x.n.toNat:=by simp [mOf]
 exact⟨by omega,a.2⟩
theorem q0w(w:List Int)(k:Nat):cut w 0 (k:Int)=w.take k:=by simp [cut]
end GV
end Go.Proofs.YtkcccdcloealfaaGreat

namespace Go.Proofs.YtkcccdcloealfaaGreat
namespace GV
set_option maxRecDepth 100000
def pos(L:List Nat)(t:Int):Int:=if t= -1 then-1 else(L.idxOf t.toNat:Int)
def rowP(m:Mach)(L:List Nat)(s:Nat):List Edge:=(m.rows.getD s default).map fun e=>⟨pos L e.to,e.out⟩
def z13(m:Mach)(L:List Nat):Mach:=⟨m.inputs,m.outputs,L.map (rowP m L)⟩
structure ClosedP (m:Mach) (L:List Nat):Prop where
 rng: ∀ s∈L,s<m.rows.length
 nd:L.Nodup
 cl: ∀ s∈L,∀ i,i<m.inputs.toNat→ed m s i≠ -1→(ed m s i).toNat∈L
 ne:L≠[]
theorem z5f{L:List Nat}{k:Nat}(a:L.Nodup)(b:k<L.length):L.idxOf (L.getD k 0)=k:=by
 have:L.getD k 0=L[k]:=by simp [List.getD_eq_getElem?_getD,b]
 rw [this]
 exact a.idxOf_getElem k b
theorem z88{L:List Nat}{t:Nat}(h:t∈L):L.idxOf t<L.length∧L.getD (L.idxOf t) 0=t:=by
 have a:=List.idxOf_lt_length_iff.2 h
 refine⟨a,?_⟩
 simp [List.getD_eq_getElem?_getD,a]
section
variable {m : Mach} {L : List Nat}
theorem ClosedP.len(a:ClosedP m L):L.length≤m.rows.length:=by
 have:=List.Nodup.length_le_of_subset a.nd (l₂:=List.range m.rows.length) (fun x b=>List.mem_range.2 (a.rng x b))
 simpa using this
theorem zad{k:Nat}(a:k<L.length):(z13 m L).rows.getD k default=rowP m L (L.getD k 0):=by
 unfold z13
 simp [List.getD_eq_getElem?_getD,a]
theorem zb3(a:MOk m){s:Nat}(b:s<m.rows.length):(rowP m L s).length=m.inputs.toNat:=by
 unfold rowP
 have:=a.row s b
 rw [List.length_map];omega
theorem z9u(a:MOk m){s i:Nat}(b:s<m.rows.length)(hi:i<m.inputs.toNat):(rowP m L s).getD i default=⟨pos L (ed m s i),((m.rows.getD s default).getD i default).out⟩:=by
 have:=a.row s b
 unfold rowP ed
 simp only [List.getD_eq_getElem?_getD,List.getElem?_map]
 rw [←List.getD_eq_getElem?_getD,List.getElem?_eq_getElem (show i<(m.rows.getD s default).length by omega)]
 rfl
theorem q57(d:MOk m)(b:ClosedP m L){s i:Nat}(c:s∈L)(hi:i<m.inputs.toNat):pos L (ed m s i)= -1∧ed m s i= -1∨(0≤pos L (ed m s i)∧pos L (ed m s i)<L.length∧0≤ed m s i∧L.getD (pos L (ed m s i)).toNat 0=(ed m s i).toNat):=by
 unfold pos
 rcases z4r d (b.rng s c) hi with h|⟨e,g⟩
 ·left;rw [if_pos h];exact⟨rfl,h⟩
 ·right
  have a:ed m s i≠ -1:=by omega
  obtain⟨j,f⟩:=z88 (b.cl s c i hi a)
  rw [if_neg a]
  exact⟨by omega,by omega,e,by rw [Int.toNat_natCast];exact f⟩
theorem zpy(a:MOk m)(c:ClosedP m L):MOk (z13 m L):=by
 have hlen:=c.len
 have l:=a.r2
 have e:(z13 m L).rows.length=L.length:=by simp [z13]
 have hpos:0<L.length:=List.length_pos_iff.2 c.ne
 have hmem: ∀ k,k<L.length→L.getD k 0∈L:=fun k n=>by simp [List.getD_eq_getElem?_getD,n]
 refine⟨a.i1,a.i2,a.o1,a.o2,by omega,by omega,fun s b=>?_,fun s i b hi=>?_⟩
 ·rw [e] at b
  rw [zad b,zb3 a (c.rng _ (hmem s b))]
  have:=a.i1
  show _=m.inputs
  omega
 ·rw [e] at b
  rw [zad b] at hi⊢
  have d:=c.rng _ (hmem s b)
  rw [zb3 a d] at hi
  rw [z9u a d hi]
  have h:=a.edge _ i d (by have:=a.row _ d;omega)
  rcases q57 a c (hmem s b) hi with⟨f,j⟩|⟨f,j,q,_⟩
  ·rcases h with⟨_,g⟩|⟨o,_⟩
   ·left;exact⟨f,g⟩
   ·exfalso
    have:ed m (L.getD s 0) i=((m.rows.getD (L.getD s 0) default).getD i default).to:=rfl
    omega
  ·rcases h with⟨o,_⟩|⟨_,_,g,p⟩
   ·exfalso
    have:ed m (L.getD s 0) i=((m.rows.getD (L.getD s 0) default).getD i default).to:=rfl
    omega
   ·right
    exact⟨f,by rw [e];exact j,g,p⟩
theorem zws(b:MOk m)(c:ClosedP m L){s:Int}(a:s= -1∨(0≤s∧s.toNat∈L)){i:Int}(hi:0≤i∧i<m.inputs):
 z0h (z13 m L) (pos L s) i=⟨pos L (z0h m s i).to,(z0h m s i).out⟩∧((z0h m s i).to= -1∨(0≤(z0h m s i).to∧(z0h m s i).to.toNat∈L)):=by
 rcases a with rfl|⟨k,a⟩
 ·exact⟨rfl,.inl rfl⟩
 ·obtain⟨e,f⟩:=z88 a
  have g:pos L s=(L.idxOf s.toNat:Int):=by unfold pos;rw [if_neg (by omega)]
  have hi':i.toNat<m.inputs.toNat:=by omega
  have d:=c.rng _ a
  unfold z0h
  rw [g,if_neg (by omega),if_neg (by omega),Int.toNat_natCast,zad e,f,z9u b d hi']
  refine⟨rfl,?_⟩
  show ed m s.toNat i.toNat= -1∨(0≤ed m s.toNat i.toNat∧(ed m s.toNat i.toNat).toNat∈L)
  rcases z4r b d hi' with h|⟨j,_⟩
  ·exact .inl h
  ·exact .inr ⟨j,c.cl _ a _ hi' (by omega)⟩
theorem zhb(a:MOk m)(b:ClosedP m L): ∀ (w:List Int) {s:Int},(s= -1∨(0≤s∧s.toNat∈L))→WOk m.inputs w→z2x (z13 m L) (pos L s) w=z2x m s w∧z0e (z13 m L) (pos L s) w=pos L (z0e m s w)
 | [],s,c,_=>⟨rfl,rfl⟩
 |i::w,s,c,d=>by
  have hi:=d 0 (by simp)
  obtain⟨e,f⟩:=zws a b c (i:=i) hi
  have hw':WOk m.inputs w:=fun k g=>d (k+1) (by simpa using g)
  obtain⟨h,j⟩:=zhb a b w f hw'
  refine⟨?_,?_⟩
  ·show (z0h (z13 m L) (pos L s) i).out::z2x (z13 m L) (z0h (z13 m L) (pos L s) i).to w=_
   rw [e,h];rfl
  ·show z0e (z13 m L) (z0h (z13 m L) (pos L s) i).to w=_
   rw [e,j];rfl
end
/-! ### The program's part-/
theorem zid{M:List (Int×Int)}{k v z t:Int}:z4x z (z98 M k v) t=if t=k then v else z4x z M t:=by
 induction M with
 |nil=>simp [z98,z4x]
 |cons p l ih=>
  unfold z98
  by_cases h:k=p.1
  ·rw [if_pos h]
   simp only [z4x]
   by_cases ht:t=k
   ·rw [if_pos ht,if_pos ht]
   ·rw [if_neg ht,if_neg ht,if_neg (by rw [←h];exact ht)]
  ·rw [if_neg h]
   simp only [z4x]
   by_cases ht:t=p.1
   ·rw [if_pos ht,if_neg (by rw [ht];exact fun e=>h e.symm),if_pos ht]
   ·rw [if_neg ht,ih,if_neg ht]
def z09(L:List Nat):List Int:=L.map fun s=>((s:Nat):Int)
theorem z1y(L:List Nat):(z09 L).length=L.length:=by simp [z09]
theorem z7k{L:List Nat}{k:Nat}(a:k<L.length):ix (z09 L) (k:Int)=((L.getD k 0:Nat):Int):=by
 rw [z0a]
 simp [z09,List.getD_eq_getElem?_getD,a]
theorem z7d{α:Type}[Inhabited α](P:List α)(k:Nat)(h:k<P.length):P.take (k+1)=P.take k++[P.getD k default]:=by
 rw [List.take_add_one];simp [List.getD_eq_getElem?_getD,h]
theorem zor{α:Type}{X:List α}{n k:Nat}{z y:α}(a:X.length=k)(b:k<n):(X++List.replicate (n-k) z).set k y=(X++[y])++List.replicate (n-(k+1)) z:=by
 rw [show n-k=(n-(k+1))+1 by omega,List.replicate_succ,List.set_append_right _ _ (by omega),a,Nat.sub_self]
 simp
theorem zo2{N:Nat}{m:Mach}{L:List Nat}(d:MOk m)(f:ClosedP m L)(I:200≤N):z4w N m (z09 L)=some (z13 m L):=by
 have hlen:=f.len
 have A:=d.r2
 have hi1:=d.i1
 have hi2:=d.i2
 have hmem: ∀ k,k<L.length→L.getD k 0∈L:=fun k a=>by simp [List.getD_eq_getElem?_getD,a]
 unfold z4w
 obtain⟨M,B,l⟩: ∃ M,z2d N (z09 L) N 0 (z98 ([]:List (Int×Int)) (-1) (-1))=some M∧(z4x 0 M (-1)= -1∧ ∀ j,j<L.length→z4x 0 M ((L.getD j 0:Nat):Int)=(j:Int)):=by
  refine z3c (σ:=List (Int×Int)) (fun F k st=>z2d N (z09 L) F (k:Int) st) L.length (fun k st=>z4x 0 st (-1)= -1∧ ∀ j,j<k→z4x 0 st ((L.getD j 0:Nat):Int)=(j:Int)) _ (fun F k st a hi=>?_) (fun F st hi=>?_) N 0 _ (Nat.zero_le _) (by omega) ⟨by rw [zid,if_pos rfl],fun j C=>by omega⟩
  ·right
   refine⟨z98 st ((L.getD k 0:Nat):Int) (k:Int),⟨by rw [zid,if_neg (by omega)];exact hi.1,fun j C=>?_⟩,?_⟩
   ·rw [zid]
    by_cases e:j=k
    ·subst e;rw [if_pos rfl]
    ·rw [if_neg,hi.2 j (by omega)]
     intro J
     have p:=z5f f.nd (show j<L.length by omega)
     have y:=z5f f.nd a
     rw [show L.getD j 0=L.getD k 0 by omega,y] at p
     omega
   ·simp only [z2d,z7k a]
    rw [yf (by rw [z1y];omega),zk (qo (by rw [z1y];exact a)),zk (qy (by omega))];rfl
  ·refine⟨st,?_,hi⟩
   simp only [z2d]
   rw [uw (by rw [z1y];omega)]
 rw [zx B,z1y,zk ⟨by omega,by omega,by omega⟩]
 have q: ∀ s∈L,∀ i,i<m.inputs.toNat→z4x 0 M (ed m s i)=pos L (ed m s i):=fun s z i hi=>by
  unfold pos
  rcases z4r d (f.rng s z) hi with h|⟨p,y⟩
  ·rw [if_pos h,h];exact l.1
  ·have n:ed m s i≠ -1:=by omega
   obtain⟨D,E⟩:=z88 (f.cl s z i hi n)
   have:=l.2 _ D
   rw [E,Int.toNat_of_nonneg p] at this
   rw [if_neg n,this]
 have hrow: ∀ (k:Nat) (X:List (List Edge)),k<L.length→X.length=L.length→z2a N m (z09 L) M (k:Int) N 0 (up X (k:Int) (mk m.inputs (⟨0,0⟩:Edge)))=some (X.set k (rowP m L (L.getD k 0))):=fun k X a r=>by
  have o:=f.rng _ (hmem k a)
  have G:=d.row _ o
  have t:=zb3 (L:=L) d o
  refine ui (σ:=List (List Edge)) (fun F i st=>z2a N m (z09 L) M (k:Int) F (i:Int) st) m.inputs.toNat (fun i st=>st=X.set k ((rowP m L (L.getD k 0)).take i++List.replicate (m.inputs.toNat-i) ⟨0,0⟩)) _ (fun F i st hi b=>?_) (fun F st b=>?_) N 0 _ (Nat.zero_le _) (by omega) (by rw [z7h];simp [mk])
  ·subst b
   right
   refine⟨_,rfl,?_⟩
   have H:(X.set k ((rowP m L (L.getD k 0)).take i++List.replicate (m.inputs.toNat-i) (⟨0,0⟩:Edge))).length=L.length:=by rw [List.length_set,r]
   have hget:ix (X.set k ((rowP m L (L.getD k 0)).take i++List.replicate (m.inputs.toNat-i) (⟨0,0⟩:Edge))) (k:Int)=(rowP m L (L.getD k 0)).take i++List.replicate (m.inputs.toNat-i) (⟨0,0⟩:Edge):=by
    rw [z0a,List.getD_eq_getElem?_getD,List.getElem?_set,if_pos rfl,if_pos (by omega)];rfl
   have g:ix m.rows ((L.getD k 0:Nat):Int)=m.rows.getD (L.getD k 0) default:=z0a _ _
   have u:(ix (m.rows.getD (L.getD k 0) default) (i:Int)).to=ed m (L.getD k 0) i:=by rw [z0a];rfl
   simp only [z2a,z7k a,g,u,hget]
   rw [yf (by omega),zk (qo (by omega)),zk (qo (by omega)),zx (show zaa N ⟨ed m (L.getD k 0) i,(ix (m.rows.getD (L.getD k 0) default) (i:Int)).out⟩ M=some ⟨z4x 0 M (ed m (L.getD k 0) i),(ix (m.rows.getD (L.getD k 0) default) (i:Int)).out⟩ from rfl)]
   rw [zk (qo (by rw [List.length_append,List.length_take,List.length_replicate];omega)),zk (qy (by omega)),q _ (hmem k a) i hi]
   have c:((rowP m L (L.getD k 0)).take i).length=i:=by rw [List.length_take];omega
   have v:up (X.set k ((rowP m L (L.getD k 0)).take i++List.replicate (m.inputs.toNat-i) (⟨0,0⟩:Edge))) (k:Int) (up ((rowP m L (L.getD k 0)).take i++List.replicate (m.inputs.toNat-i) (⟨0,0⟩:Edge)) (i:Int) ⟨pos L (ed m (L.getD k 0) i),(ix (m.rows.getD (L.getD k 0) default) (i:Int)).out⟩)=X.set k ((rowP m L (L.getD k 0)).take (i+1)++List.replicate (m.inputs.toNat-(i+1)) ⟨0,0⟩):=by
    rw [z7h,z7h,List.set_set,zor c hi]
    rw [z7d _ _ (show i<(rowP m L (L.getD k 0)).length by omega),z9u d o hi,z0a]
   rw [v];rfl
  ·subst b
   have g:ix m.rows ((L.getD k 0:Nat):Int)=m.rows.getD (L.getD k 0) default:=z0a _ _
   simp only [z2a,z7k a,g]
   rw [uw (by omega),Nat.sub_self,List.replicate_zero,List.append_nil,←t,List.take_length]
 have w:z2e N m (z09 L) M N 0 (mk (L.length:Int) ([]:List Edge))=some (L.map (rowP m L)):=by
  refine ui (σ:=List (List Edge)) (fun F k st=>z2e N m (z09 L) M F (k:Int) st) L.length (fun k st=>st=(L.map (rowP m L)).take k++List.replicate (L.length-k) []) _ (fun F k st a b=>?_) (fun F st b=>?_) N 0 _ (Nat.zero_le _) (by omega) (by rw [z8x];simp)
  ·subst b
   right
   refine⟨_,rfl,?_⟩
   have o:=f.rng _ (hmem k a)
   have c:((L.map (rowP m L)).take k).length=k:=by rw [List.length_take,List.length_map];omega
   have r:((L.map (rowP m L)).take k++List.replicate (L.length-k) ([]:List Edge)).length=L.length:=by rw [List.length_append,c,List.length_replicate];omega
   simp only [z2e,z7k a]
   rw [yf (by rw [z1y];omega)]
   refine(zx (x:=(L.map (rowP m L)).take (k+1)++List.replicate (L.length-(k+1)) []) ?_).trans ?_
   ·rw [zk (qo (by rw [z1y];exact a)),zk ⟨by omega,by omega,by omega⟩,zk (qo (by omega)),zk (qo o),hrow k _ a r,zor c a]
    congr 2
    rw [List.take_add_one];simp [List.getD_eq_getElem?_getD,a]
   ·exact zk (qy (by omega))
  ·subst b
   simp only [z2e]
   rw [uw (by rw [z1y];omega),Nat.sub_self,List.replicate_zero,List.append_nil,←(show (L.map (rowP m L)).length=L.length by simp),List.take_length]
 rw [zx w];rfl
end GV
end Go.Proofs.YtkcccdcloealfaaGreat
