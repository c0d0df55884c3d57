
import Derived.Test.YtkhihcleegljhaaMat21d
import Derived.Test.YtkhihcleegljhaaSort21b
set_option linter.unusedVariables false
set_option linter.unusedSimpArgs false
namespace Go.Proofs.Ytkhihcleegljhaa
namespace GV
set_option maxRecDepth 100000
theorem zk6{N:Nat}{X:List (List Int)}{is:Int→Option Bool}{p:Nat→Bool}(h:Bx X)(d:5000≤N)(a: ∀ k,k<X.length→is (k:Int)=some (p k)):av N ⟨X⟩ is=some (z3u p X.length):=by
 have e:=h.rows
 have b:yj N ⟨X⟩ is N [] 0=some (z3u p X.length):=by
  refine z4k (fun F k s=>yj N ⟨X⟩ is F s (k:Int)) X.length (fun k=>z3u p k) _ (fun F k c=>?_) (fun F=>?_) (by omega)
  ·have f:=z3e p k
   simp only [yj]
   rw [bi (by omega),a k c,z3m]
   cases hb:p k
   ·rw [cond_false,z3m,zo (kw (by omega))]
    simp only [z3u,hb,cond_false];rfl
   ·rw [cond_true,zo ⟨by simp only [List.length_singleton];omega,by simp only [List.length_singleton];omega⟩,z3m,zo (kw (by omega))]
    simp only [z3u,hb,cond_true];rfl
  ·simp only [yj]
   rw [pq (by omega)]
 unfold av
 rw [qf b]
theorem zim{N:Nat}{X:List (List Int)}(h:Bx X)(a:5000≤N):av N ⟨X⟩ (fun b=>xe N ⟨X⟩ b)=some (z0y X):=zk6 h a fun k c=>zdh h a c
theorem zch{N:Nat}{l:List Int}: ∀ (F:Nat) (i:Nat) (o:List Int) (B:Int),l.length<5000→i≤l.length→l.length-i<F→(∀ c∈l,0≤c∧c<o.length)→Bd o B→0≤B→B+((l.length-i:Nat):Int)≤1000000000→ym N l F (i:Int) o=some (addL o (l.drop i))
 |0,i,o,B,_,_,h,_,_,_,_=>by omega
 |F+1,i,o,B,j,hi,n,d,f,b,p=>by
  simp only [ym]
  by_cases e:i=l.length
  ·rw [pq (by omega),e,List.drop_length];rfl
  ·have hi':i<l.length:=by omega
   have g:=d (l.getD i default) (su hi')
   have k:=f (l.getD i default).toNat
   have a:okI o (ix l (i:Int)):=⟨g.1,g.2⟩
   rw [bi (by omega),zo (uy hi'),zo a,zo (kw (by rw [tq,z9k];omega)),zo a,zo (kw (by omega))]
   have hlen:(incr o (l.getD i default)).length=o.length:=z8c
   have:=zch (N:=N) F (i+1) (incr o (l.getD i default)) (B+1) j hi' (by omega) (by rw [hlen];exact d) (f.incr (by omega) b) (by omega) (by omega)
   have m:l.drop i=l.getD i default::l.drop (i+1):=by
    rw [List.drop_eq_getElem_cons hi',z8e hi']
   rw [m]
   exact this
theorem zci{N:Nat}{X:List (List Int)}{rows:List Int}(h:VX X)(f:5000≤N)(g: ∀ i∈rows,0≤i∧i<(X.length:Int)): ∀ (F:Nat) (i:Nat) (o:List Int) (B:Int),rows.length≤1000→i≤rows.length→rows.length-i<F→o.length=cols X→Bd o B→0≤B→B+((rows.length-i:Nat):Int)*3000≤900000000→
 yl N ⟨X⟩ rows F (i:Int) o=some (zbu X (rows.drop i) o)
 |0,i,o,B,_,_,h,_,_,_,_=>by omega
 |F+1,i,o,B,n,hi,q,d,j,b,r=>by
  simp only [yl]
  by_cases e:i=rows.length
  ·rw [pq (by omega),e,List.drop_length];rfl
  ·have hi':i<rows.length:=by omega
   obtain⟨s,t⟩:=g (rows.getD i default) (su hi')
   obtain⟨k,m⟩: ∃ k:Nat,rows.getD i default=(k:Int):=⟨(rows.getD i default).toNat,by omega⟩
   have a:k<X.length:=by omega
   have hlen:=zg7 (X.getD k default)
   have hrow:=h.toBx.row a
   have c:=zf0 h a
   rw [bi (by omega),zo (uy hi'),tq,m,qf (z4c h.toBx f a),qf (show ym N (kl (X.getD k default)) N 0 o=_ from zch (N:=N) (l:=kl (X.getD k default)) N 0 o B (by omega) (Nat.zero_le _) (by omega) (by rw [d];exact c) j b (by omega)),zo (kw (by omega))]
   have hstep:=zci (N:=N) h f g F (i+1) (addL o (kl (X.getD k default))) (B+(kl (X.getD k default)).length) n hi' (by omega) (by rw [za6];exact d) (j.addL (by rw [d];exact c) b) (by omega) (by omega)
   have p:rows.drop i=rows.getD i default::rows.drop (i+1):=by
    rw [List.drop_eq_getElem_cons hi',z8e hi']
   rw [p,m]
   exact hstep
theorem zgf{N:Nat}{X:List (List Int)}{rows:List Int}(h:VX X)(a:5000≤N)(b: ∀ i∈rows,0≤i∧i<(X.length:Int))(d:rows.length≤100):sj N ⟨X⟩ rows=some (zbu X rows (List.replicate (cols X) 0)):=by
 have e:=h.toBx.cols
 have c:=zci (N:=N) h a b N 0 (List.replicate (cols X) 0) 0 (by omega) (Nat.zero_le _) (by omega) (List.length_replicate ..) (fun j=>by
  by_cases hj:j<cols X
  ·rw [z8e (by rw [List.length_replicate];exact hj),List.getElem_replicate];decide
  ·rw [zmv (by rw [List.length_replicate];omega)];decide) (by decide) (by omega)
 unfold sj
 rw [qf (z5l h.toBx (by omega)),zo ⟨by omega,by omega,by omega⟩,zcj,qf (show yl N ⟨X⟩ rows N 0 (List.replicate (cols X) 0)=_ from c)]
 rfl
theorem zes{P:Int→Prop}{s:List Int}{a:Int}(d:0≤a)(c:a<s.length)(g:s.length≤100): ∀ (F:Nat) (k b:Int) (Y:List Int),1≤b→a≤k→k≤a+b-1→b≤s.length-a→Y.length=s.length→(∀ z∈Y,P z)→s.length-a-b<F→ ∃ r,oz 5000 s a F k b Y=some r∧a≤r.1∧r.1<s.length∧r.2.length=s.length∧ ∀ z∈r.2,P z
 |0,k,b,Y,_,_,_,_,_,_,h=>by omega
 |F+1,k,b,Y,v,i,l,w,f,e,x=>by
  simp only [oz]
  have y:((s.length-a.toNat:Nat):Int)=s.length-a:=by omega
  by_cases h:b<((s.length-a.toNat:Nat):Int)
  ·have j:okA Y a (s.length-a.toNat) b:=⟨d,by omega,h,by omega⟩
   have m:okA Y a (s.length-a.toNat) (b-1):=⟨d,by omega,by omega,by omega⟩
   rw [bi h,zo j,zo (kw (by omega)),zo m]
   by_cases hd:ix Y (a+b)≠ix Y (a+(b-1))
   ·have hmem:ix Y (a+b)∈Y:=by rw [z9k];exact su (by omega)
    rw [bi hd,zo j,zo ⟨by omega,by omega⟩,zo (kw (by omega)),z3m,zo (kw (by omega))]
    obtain⟨r,n,o,p,q,t⟩:=zes (P:=P) d c g F (k+1) (b+1) (up Y k (ix Y (a+b))) (by omega) (by omega) (by omega) (by omega) (by rw [up,List.length_set];exact f) (fun z u=>by
     rcases List.mem_or_eq_of_mem_set u with h|h
     ·exact e z h
     ·rw [h];exact e _ hmem) (by omega)
    exact⟨r,n,o,p,q,t⟩
   ·rw [pq hd,z3m,zo (kw (by omega))]
    exact zes d c g F k (b+1) Y (by omega) i (by omega) (by omega) f e (by omega)
  ·rw [pq h];exact⟨_,rfl,i,by show k<s.length;omega,f,e⟩
theorem zfi{P:Int→Prop}{s:List Int}(e:s.length≤100)(b: ∀ z∈s,P z): ∃ Y,slices_Compact_int 5000 s=some Y∧Y.length≤s.length∧ ∀ z∈Y,P z:=by
 unfold slices_Compact_int
 by_cases c:(s.length:Int)<2
 ·rw [bi c];exact⟨s,rfl,Nat.le_refl _,b⟩
 ·rw [pq c]
  have f: ∀ (F:Nat) (a:Int),1≤a→a≤s.length→s.length-a<F→ ∃ q,ow 5000 s F a=some q∧(q=Ex.go ()∨ ∃ Y,q=Ex.rt Y∧Y.length≤s.length∧ ∀ z∈Y,P z):=by
   intro F
   induction F with
   |zero=>intro a _ _ h;omega
   |succ F ih=>
    intro a o c p
    simp only [ow]
    by_cases h:a<s.length
    ·rw [bi h,zo ⟨by omega,h⟩,zo (kw (by omega)),zo ⟨by omega,by omega⟩]
     by_cases he:ix s a=ix s (a-1)
     ·obtain⟨r,g,t,u,v,i⟩:=zes (P:=P) (s:=s) (a:=a) (by omega) h e 5000 a 1 s (by omega) (by omega) (by omega) (by omega) rfl b (by omega)
      have w:(z1x r.2 r.1.toNat (List.replicate (r.2.length-r.1.toNat) (0:Int))).length=r.2.length:=z5g (by rw [List.length_replicate];omega)
      rw [bi he,zo ⟨by omega,by omega,by omega⟩,qf g,zo ⟨by omega,by omega,by omega⟩,zo ⟨by omega,by omega,by omega⟩]
      have hcut:cut (z1x r.2 r.1.toNat (List.replicate (r.2.length-r.1.toNat) (0:Int))) 0 r.1=r.2.take r.1.toNat:=by
       have j:r.1.toNat≤r.2.length:=by omega
       simp only [cut,z1x]
       simp [List.take_append,j]
      rw [hcut]
      exact⟨_,rfl,.inr ⟨_,rfl,by rw [List.length_take];omega,fun z k=>i z (List.mem_of_mem_take k)⟩⟩
     ·rw [pq he,zo (kw (by omega))]
      exact ih (a+1) (by omega) (by omega) (by omega)
    ·rw [pq h];exact⟨_,rfl,.inl rfl⟩
  obtain⟨q,l,d⟩:=f 5000 1 (by omega) (by omega) (by omega)
  rw [qf l]
  rcases d with rfl|⟨Y,rfl,m,n⟩
  ·exact⟨s,rfl,Nat.le_refl _,b⟩
  ·exact⟨Y,rfl,m,n⟩
theorem zf4{P:Int→Prop}{s:List Int}{a:Int}(d:0≤a)(c:a<s.length)(g:s.length≤100): ∀ (F:Nat) (k b:Int) (Y:List Int),1≤b→a≤k→k≤a+b-1→b≤s.length-a→Y.length=s.length→(∀ z∈Y,P z)→s.length-a-b<F→ ∃ r,mo 5000 s a F k b Y=some r∧a≤r.1∧r.1<s.length∧r.2.length=s.length∧ ∀ z∈r.2,P z
 |0,k,b,Y,_,_,_,_,_,_,h=>by omega
 |F+1,k,b,Y,v,i,l,w,f,e,x=>by
  simp only [mo]
  have y:((s.length-a.toNat:Nat):Int)=s.length-a:=by omega
  by_cases h:b<((s.length-a.toNat:Nat):Int)
  ·have j:okA Y a (s.length-a.toNat) b:=⟨d,by omega,h,by omega⟩
   have m:okA Y a (s.length-a.toNat) (b-1):=⟨d,by omega,by omega,by omega⟩
   rw [bi h,zo j,zo (kw (by omega)),zo m]
   by_cases hd:ix Y (a+b)≠ix Y (a+(b-1))
   ·have hmem:ix Y (a+b)∈Y:=by rw [z9k];exact su (by omega)
    rw [bi hd,zo j,zo ⟨by omega,by omega⟩,zo (kw (by omega)),z3m,zo (kw (by omega))]
    obtain⟨r,n,o,p,q,t⟩:=zf4 (P:=P) d c g F (k+1) (b+1) (up Y k (ix Y (a+b))) (by omega) (by omega) (by omega) (by omega) (by rw [up,List.length_set];exact f) (fun z u=>by
     rcases List.mem_or_eq_of_mem_set u with h|h
     ·exact e z h
     ·rw [h];exact e _ hmem) (by omega)
    exact⟨r,n,o,p,q,t⟩
   ·rw [pq hd,z3m,zo (kw (by omega))]
    exact zf4 d c g F k (b+1) Y (by omega) i (by omega) (by omega) f e (by omega)
  ·rw [pq h];exact⟨_,rfl,i,by show k<s.length;omega,f,e⟩
theorem zfs{P:Int→Prop}{s:List Int}(e:s.length≤100)(b: ∀ z∈s,P z): ∃ Y,z0d 5000 s=some Y∧Y.length≤s.length∧ ∀ z∈Y,P z:=by
 unfold z0d
 by_cases c:(s.length:Int)<2
 ·rw [bi c];exact⟨s,rfl,Nat.le_refl _,b⟩
 ·rw [pq c]
  have f: ∀ (F:Nat) (a:Int),1≤a→a≤s.length→s.length-a<F→ ∃ q,o5 5000 s F a=some q∧(q=Ex.go ()∨ ∃ Y,q=Ex.rt Y∧Y.length≤s.length∧ ∀ z∈Y,P z):=by
   intro F
   induction F with
   |zero=>intro a _ _ h;omega
   |succ F ih=>
    intro a o c p
    simp only [o5]
    by_cases h:a<s.length
    ·rw [bi h,zo ⟨by omega,h⟩,zo (kw (by omega)),zo ⟨by omega,by omega⟩]
     by_cases he:ix s a=ix s (a-1)
     ·obtain⟨r,g,t,u,v,i⟩:=zf4 (P:=P) (s:=s) (a:=a) (by omega) h e 5000 a 1 s (by omega) (by omega) (by omega) (by omega) rfl b (by omega)
      have w:(z1x r.2 r.1.toNat (List.replicate (r.2.length-r.1.toNat) (0:Int))).length=r.2.length:=z5g (by rw [List.length_replicate];omega)
      rw [bi he,zo ⟨by omega,by omega,by omega⟩,qf g,zo ⟨by omega,by omega,by omega⟩,zo ⟨by omega,by omega,by omega⟩]
      have hcut:cut (z1x r.2 r.1.toNat (List.replicate (r.2.length-r.1.toNat) (0:Int))) 0 r.1=r.2.take r.1.toNat:=by
       have j:r.1.toNat≤r.2.length:=by omega
       simp only [cut,z1x]
       simp [List.take_append,j]
      rw [hcut]
      exact⟨_,rfl,.inr ⟨_,rfl,by rw [List.length_take];omega,fun z k=>i z (List.mem_of_mem_take k)⟩⟩
     ·rw [pq he,zo (kw (by omega))]
      exact ih (a+1) (by omega) (by omega) (by omega)
    ·rw [pq h];exact⟨_,rfl,.inl rfl⟩
  obtain⟨q,l,d⟩:=f 5000 1 (by omega) (by omega) (by omega)
  rw [qf l]
  rcases d with rfl|⟨Y,rfl,m,n⟩
  ·exact⟨s,rfl,Nat.le_refl _,b⟩
  ·exact⟨Y,rfl,m,n⟩
/-! ### taking out-/
theorem ziq{N:Nat}{s:List Int}{f:Int→Option Bool}{q:Int→Bool}(m:s.length<N)(n:s.length≤100000)(b: ∀ c∈s,f c=some (q c)): ∃ r,ak N s f=some r∧((r= -1∧s.any q=false)∨ ∃ i:Nat,r=(i:Int)∧i<s.length∧s.any q=true):=by
 have d: ∃ r,u6 N s f N 0=some r∧((∃ i:Nat,r=Ex.rt (i:Int)∧i<s.length∧s.any q=true)∨(r=Ex.go ()∧s.any q=false)):=by
  refine z0r (σ:=Unit) (fun F i _=>u6 N s f F (i:Int)) s.length (fun i _=> ∀ j,j<i→q (s.getD j default)=false) _ (fun F i u hi a=>?_) (fun F u a=>?_) N 0 () (Nat.zero_le _) (by omega) (fun j a=>absurd a (by omega))
  ·simp only [u6]
   rw [bi (by omega),zo (uy hi),tq,b _ (su hi),z3m]
   cases hq:q (s.getD i default)
   ·right
    refine⟨(),fun j hj'=>?_,?_⟩
    ·by_cases e:j=i
     ·subst e;exact hq
     ·exact a j (by omega)
    ·rw [cond_false,zo (kw (by omega))];rfl
   ·left
    exact⟨_,by rw [cond_true],.inl ⟨i,rfl,hi,List.any_eq_true.2 ⟨_,su hi,hq⟩⟩⟩
  ·simp only [u6]
   rw [pq (by omega)]
   exact⟨_,rfl,.inr ⟨rfl,by rw [←zeb];exact og.2 a⟩⟩
 obtain⟨r,g,h⟩:=d
 unfold ak
 rw [qf g]
 rcases h with⟨i,rfl,k,l⟩|⟨rfl,h⟩
 ·exact⟨_,rfl,.inr ⟨i,rfl,k,l⟩⟩
 ·exact⟨_,rfl,.inl ⟨rfl,h⟩⟩
theorem zku{P:Int→Prop}{del:Int→Option Bool}{q:Int→Bool}{n:Nat}(d:n≤100)(b: ∀ z,P z→del z=some (q z)): ∀ (F:Nat) (i j:Int) (Y:List Int),0≤i→i<j→j≤n→Y.length=n→(∀ z∈Y,P z)→n-j<F→ ∃ r,bq 5000 del F i j Y=some r∧0≤r.1∧r.1<n∧r.2.length=n∧ ∀ z∈r.2,P z
 |0,i,j,Y,_,_,_,_,_,h=>by omega
 |F+1,i,j,Y,hi,f,k,c,a,l=>by
  simp only [bq]
  by_cases h:j<(Y.length:Int)
  ·have hmem:ix Y j∈Y:=by rw [z9k];exact su (by omega)
   rw [bi h,zo ⟨by omega,h⟩,qf (b _ (a _ hmem))]
   cases hq:q (ix Y j)
   ·have e:(bif !false then(gd (okI Y i)<|gd (in64 (i+1))<|some (i+1,up Y i (ix Y j))) else some (i,Y))=some (i+1,up Y i (ix Y j)):=by
     refine(ct rfl).trans ?_
     rw [zo ⟨hi,by omega⟩,zo (kw (by omega))]
    rw [qf e,zo (kw (by omega))]
    exact zku d b F (i+1) (j+1) (up Y i (ix Y j)) (by omega) (by omega) (by omega) (by rw [up,List.length_set];exact c) (fun z g=>by
     rcases List.mem_or_eq_of_mem_set g with h|h
     ·exact a z h
     ·rw [h];exact a _ hmem) (by omega)
   ·have e:(bif !true then(gd (okI Y i)<|gd (in64 (i+1))<|some (i+1,up Y i (ix Y j))) else some (i,Y))=some (i,Y):=cf rfl
    rw [qf e,zo (kw (by omega))]
    exact zku d b F i (j+1) Y hi (by omega) (by omega) c a (by omega)
  ·rw [pq h];exact⟨_,rfl,hi,by show i<n;omega,c,a⟩
theorem zns{P:Int→Prop}{s:List Int}{del:Int→Option Bool}{q:Int→Bool}(k:s.length≤100)(a: ∀ z∈s,P z)(e: ∀ z,P z→del z=some (q z)): ∃ Y,fo 5000 s del=some Y∧(∀ z∈Y,P z)∧Y.length≤s.length∧(s.any q=true→Y.length<s.length):=by
 obtain⟨r,b,d⟩:=ziq (N:=5000) (s:=s) (f:=del) (q:=q) (by omega) (by omega) (fun c g=>e c (a c g))
 unfold fo
 rw [qf b]
 rcases d with⟨rfl,j⟩|⟨i,rfl,hi,j⟩
 ·rw [bi rfl];exact⟨s,rfl,a,Nat.le_refl _,fun h=>by rw [j] at h;cases h⟩
 ·obtain⟨r,b,p,t,u,l⟩:=zku (P:=P) (n:=s.length) k e 5000 (i:Int) ((i:Int)+1) s (by omega) (by omega) (by omega) rfl a (by omega)
  have g:(z1x r.2 r.1.toNat (List.replicate (r.2.length-r.1.toNat) (0:Int))).length=r.2.length:=z5g (by rw [List.length_replicate];omega)
  rw [pq (by omega),zo (kw (by omega)),qf b,zo ⟨by omega,by omega,by omega⟩,zo ⟨by omega,by omega,by omega⟩]
  have hcut:cut (z1x r.2 r.1.toNat (List.replicate (r.2.length-r.1.toNat) (0:Int))) 0 r.1=r.2.take r.1.toNat:=by
   have m:r.1.toNat≤r.2.length:=by omega
   simp only [cut,z1x]
   simp [List.take_append,m]
  rw [hcut]
  exact⟨_,rfl,fun z o=>l z (List.mem_of_mem_take o),by rw [List.length_take];omega,fun _=>by rw [List.length_take];omega⟩
/-! ### the best-/
theorem znj{l:List Int}(f:l.length≤4000)(b:0<l.length): ∃ m,slices_Max_int 5000 l=some m∧m∈l:=by
 have d: ∀ (F i:Nat) (m:Int),1≤i→i≤l.length→m∈l→l.length-i<F→ ∃ r,iq 5000 l F m (i:Int)=some r∧r∈l:=by
  intro F
  induction F with
  |zero=>intro i m _ _ _ h;omega
  |succ F ih=>
   intro i m g j a n
   simp only [iq]
   by_cases h:i<l.length
   ·rw [bi (by omega),zo (uy h),zo (kw (by omega)),tq]
    refine ih (i+1) _ (by omega) (by omega) ?_ (by omega)
    rcases Int.le_total m (l.getD i default) with c|c
    ·rw [Int.max_eq_right c];exact su h
    ·rw [Int.max_eq_left c];exact a
   ·rw [pq (by omega)];exact⟨m,rfl,a⟩
 obtain⟨r,e,a⟩:=d 5000 1 (l.getD 0 default) (Nat.le_refl _) b (su b) (by omega)
 unfold slices_Max_int
 rw [pq (by omega),zo (show okI l 0 from uy (k:=0) b),qf (show iq 5000 l 5000 (ix l 0) 1=_ from e)]
 exact⟨r,rfl,a⟩
theorem zl0{l:List Int}{m:Int}(n:l.length≤4000)(b:m∈l): ∃ i:Nat,slices_Index_int 5000 l m=some (i:Int)∧i<l.length∧l.getD i default=m:=by
 have c: ∃ r,ng 5000 l m 5000 0=some r∧((∃ i:Nat,r=Ex.rt (i:Int)∧i<l.length∧l.getD i default=m)∨(r=Ex.go ()∧ ∀ j,j<l.length→l.getD j default≠m)):=by
  refine z0r (σ:=Unit) (fun F i _=>ng 5000 l m F (i:Int)) l.length (fun i _=> ∀ j,j<i→l.getD j default≠m) _ (fun F i u hi a=>?_) (fun F u a=>?_) 5000 0 () (Nat.zero_le _) (by omega) (fun j a=>absurd a (by omega))
  ·simp only [ng]
   rw [bi (by omega),zo (uy hi)]
   by_cases hq:m=ix l (i:Int)
   ·left;rw [bi hq];exact⟨_,rfl,.inl ⟨i,rfl,hi,hq.symm⟩⟩
   ·right
    refine⟨(),fun j hj'=>?_,by rw [pq hq,zo (kw (by omega))];rfl⟩
    by_cases e:j=i
    ·subst e;exact fun h=>hq h.symm
    ·exact a j (by omega)
  ·simp only [ng]
   rw [pq (by omega)];exact⟨_,rfl,.inr ⟨rfl,a⟩⟩
 obtain⟨r,d,h⟩:=c
 unfold slices_Index_int
 rw [qf d]
 rcases h with⟨i,rfl,f,g⟩|⟨rfl,h⟩
 ·exact⟨i,rfl,f,g⟩
 ·obtain⟨j,a,k⟩:=List.mem_iff_getElem.1 b
  exact absurd (by rw [z8e a];exact k) (h j a)
theorem zma{l:List Int}(a:l.length≤4000): ∃ y,z2k 5000 l=some y∧(y.2=true→ ∃ i:Nat,y.1=(i:Int)∧i<l.length∧0<l.getD i default):=by
 unfold z2k
 by_cases h:(l.length:Int)=0
 ·rw [bi h];exact⟨_,rfl,fun h=>by cases h⟩
 ·obtain⟨m,b,hmem⟩:=znj a (by omega)
  obtain⟨i,hi,c,d⟩:=zl0 a hmem
  rw [pq h,qf b,qf hi]
  exact⟨_,rfl,fun h=>⟨i,rfl,c,by rw [d];simpa using h⟩⟩
theorem ziy{X:List (List Int)}(h:VX X){c:Nat}(g:c<cols X): ∀ {rows o:List Int},o.length=cols X→(∀ i∈rows,0≤i∧i<(X.length:Int))→rows.any (fun i=>z7c (X.getD i.toNat default) c)=false→(zbu X rows o).getD c default=o.getD c default:=by
 intro rows
 induction rows with
 |nil=>intro o _ _ _;rfl
 |cons i rows ih=>
  intro o b d a
  rw [List.any_cons,Bool.or_eq_false_iff] at a
  obtain⟨k,l⟩:=d i (List.mem_cons_self ..)
  have e:i.toNat<X.length:=by omega
  show (zbu X rows (addL o (kl (X.getD i.toNat default)))).getD c default=_
  rw [ih (by rw [za6];exact b) (fun j f=>d j (List.mem_cons_of_mem _ f)) a.2,zl4 (by rw [b];exact zf0 h e)]
  unfold kl
  rw [z9i,if_neg (by rw [a.1];simp)]
  simp
/-! ### Greedy,Essential-/
theorem zhw{X:List (List Int)}(h:VX X): ∀ (F:Nat) (left out:List Int),(∀ i∈left,0≤i∧i<(X.length:Int))→left.length≤100→left.length<F→out.length+left.length≤100→ ∃ o,rz 5000 ⟨X⟩ F left out=some o∧o.length≤100
 |0,left,out,_,_,h,_=>by omega
 |F+1,left,out,d,j,w,x=>by
  have A:=h.toBx.cols
  simp only [rz]
  have e:(zbu X left (List.replicate (cols X) 0)).length=cols X:=by rw [zkh,List.length_replicate]
  rw [qf (zgf h (by decide) d j)]
  obtain⟨y,m,hyok⟩:=zma (l:=zbu X left (List.replicate (cols X) 0)) (by omega)
  rw [qf m]
  cases hy2:y.2
  ·exact⟨out,rfl,by omega⟩
  ·obtain⟨c,f,a,b⟩:=hyok hy2
   rw [e] at a
   obtain⟨Y,n,p,B,r⟩:=zns (P:=fun i=>0≤i∧i<(X.length:Int)) (s:=left) (del:=fun t=>z0s 5000 t ⟨X⟩ y.1) (q:=fun i=>z7c (X.getD i.toNat default) c) j d (fun z C=>by
    obtain⟨k,rfl⟩: ∃ k:Nat,z=(k:Int):=⟨z.toNat,by omega⟩
    unfold z0s
    rw [f,qf (za0 (by omega) (by rw [h.len k (by omega)];exact a))];rfl)
   have hany:left.any (fun i=>z7c (X.getD i.toNat default) c)=true:=by
    cases ha:left.any (fun i=>z7c (X.getD i.toNat default) c) with
    |true=>rfl
    |false=>
     rw [ziy h a (List.length_replicate ..) d ha,z8e (by rw [List.length_replicate];exact a),List.getElem_replicate] at b
     exact absurd b (by decide)
   have u:=r hany
   obtain⟨o,v,g⟩:=zhw h F Y (out++[y.1]) p (by omega) (by omega) (by rw [List.length_append,List.length_singleton];omega)
   refine⟨o,(cf rfl).trans ?_,g⟩
   rw [zo ⟨by simp only [List.length_singleton];omega,by simp only [List.length_singleton];omega⟩,qf n]
   exact v
theorem zfk{X:List Int}(h:X.length≤1000):slices_Sort_int 5000 X=some (z2e X):=by
 unfold slices_Sort_int
 rw [zo (by omega)]
theorem zj6{X:List (List Int)}(h:VX X): ∃ l,au 5000 ⟨X⟩=some (l,0):=by
 have c:=h.rows
 have a:(z0y X).length≤X.length:=z3e _ _
 obtain⟨o,b,d⟩:=zhw h 5000 (z0y X) [] z6x (by omega) (by omega) (by rw [List.length_nil];omega)
 have e:=z3t o
 unfold au
 rw [qf (z4p h.toBx (by decide)),z2s h,pq (by decide),qf (zim h.toBx (by decide)),qf b,qf (zfk (by omega))]
 unfold z1l
 rw [zo (zez _),z3m]
 exact⟨_,rfl⟩
theorem zn3{X:List (List Int)}(h:VX X): ∃ l,mr 5000 ⟨X⟩=some (l,0):=by
 have g:=h.rows
 have b: ∃ o,bu 5000 ⟨X⟩ 5000 [] 0=some o∧o.length≤100:=by
  refine z0r (fun F k s=>bu 5000 ⟨X⟩ F s (k:Int)) X.length (fun k s=>s.length≤k) _ (fun F k s c a=> .inr ?_) (fun F s a=>?_) 5000 0 [] (Nat.zero_le _) (by omega) (Nat.zero_le _)
  ·simp only [bu]
   rw [bi (by omega),qf (z4c h.toBx (by decide) c)]
   by_cases hc:((kl (X.getD k default)).length:Int)=1
   ·refine⟨s++[ix (kl (X.getD k default)) 0],by rw [List.length_append,List.length_singleton];omega,?_⟩
    rw [bi hc,zo (show okI (kl (X.getD k default)) 0 from⟨by decide,by omega⟩),zo ⟨by simp only [List.length_singleton];omega,by simp only [List.length_singleton];omega⟩,z3m,zo (kw (by omega))];rfl
   ·exact⟨s,by omega,by rw [pq hc,z3m,zo (kw (by omega))];rfl⟩
  ·simp only [bu]
   rw [pq (by omega)];exact⟨s,rfl,by omega⟩
 obtain⟨o,d,i⟩:=b
 have a:=z3t o
 obtain⟨Y,e,f,_⟩:=zfi (P:=fun _=>True) (s:=z2e o) (by omega) (fun _ _=>trivial)
 unfold mr
 rw [qf (z4p h.toBx (by decide)),z2s h,pq (by decide),qf d,qf (zfk (by omega)),qf e]
 unfold z0p
 rw [zo (zez _),z3m]
 exact⟨_,rfl⟩
/-! ### Cover-/
theorem zi5{x y:Int}(c:z4u x)(d:z4u y):z4u (ior x y):=by
 refine⟨Int.natCast_nonneg _,?_⟩
 exact zc4 (k:= .u64) (f:=fun a b=>a|||b) (fun n a b e g=>Nat.or_lt_two_pow e g) ⟨c,d⟩
theorem znk{r:List Int}(f:r.length≤100)(d: ∀ c∈r,0≤c∧c<16): ∃ s,yz 5000 r 5000 0 0=some s∧z4u s:=by
 refine z0r (fun F k s=>yz 5000 r F s (k:Int)) r.length (fun k s=>z4u s) _ (fun F k s b a=> .inr ?_) (fun F s a=>?_) 5000 0 0 (Nat.zero_le _) (by omega) ⟨by decide,by decide⟩
 ·have e:=d _ (su b)
  refine⟨ior s (ib .u64 1 (r.getD k default)),zi5 a z4n,?_⟩
  simp only [yz]
  rw [bi (by omega),zo (uy b),tq,zo ⟨e.1,by show r.getD k default≤64;omega⟩,zo ⟨a,z4n⟩,zo (kw (by omega))];rfl
 ·simp only [yz]
  rw [pq (by omega)];exact⟨s,rfl,a⟩
theorem zkf{X:List (List Int)}(h:VX X)(D:cols X≤16): ∃ l,lw 5000 ⟨X⟩=some l∧l.length≤100∧ ∀ z∈l,z4u z:=by
 have E:=h.rows
 have q:(z0y X).length≤X.length:=z3e _ _
 have t: ∃ o,xc 5000 ⟨X⟩ (z0y X) 5000 [] 0=some o∧o.length≤100∧ ∀ z∈o,z4u z:=by
  refine z0r (fun F k s=>xc 5000 ⟨X⟩ (z0y X) F s (k:Int)) (z0y X).length (fun k s=>s.length=k∧ ∀ z∈s,z4u z) _ (fun F k s m d=> .inr ?_) (fun F s d=>?_) 5000 0 [] (Nat.zero_le _) (by omega) ⟨rfl,fun z a=>by cases a⟩
  ·obtain⟨G,H⟩:=z6x (X:=X) _ (su m)
   obtain⟨i,hi⟩: ∃ i:Nat,(z0y X).getD k default=(i:Int):=⟨((z0y X).getD k default).toNat,by omega⟩
   have b:i<X.length:=by omega
   have n:=zg7 (X.getD i default)
   have u:=h.len i b
   obtain⟨v,w,e⟩:=znk (r:=kl (X.getD i default)) (by omega) (fun c hc'=>by have:=zf0 h b c hc';omega)
   refine⟨s++[v],⟨by rw [List.length_append,List.length_singleton,d.1],fun z a=>?_⟩,?_⟩
   ·rcases List.mem_append.1 a with a|a
    ·exact d.2 z a
    ·rw [List.mem_singleton] at a;rw [a];exact e
   ·simp only [xc]
    rw [bi (by omega),zo (uy m),tq,hi,qf (z4c h.toBx (by decide) b),qf w,zo ⟨by simp only [List.length_singleton];omega,by simp only [List.length_singleton];omega⟩,zo (kw (by omega))];rfl
  ·simp only [xc]
   rw [pq (by omega)];exact⟨s,rfl,by omega,d.2⟩
 obtain⟨o,x,f,g⟩:=t
 obtain⟨Y,y,p⟩:=zl5 (X:=o) f
 have A:=p.length_eq
 obtain⟨Z,B,C,j⟩:=zfs (P:=z4u) (s:=Y) (by omega) (fun z a=>g z (p.mem_iff.1 a))
 unfold lw
 rw [qf (zco h.toBx (by decide)),qf x,qf y,qf B]
 exact⟨Z,rfl,by omega,j⟩
theorem zeu{s:List Int}{f:Int→Option Bool}(h:s.length≤100)(a: ∀ c∈s,∃ b,f c=some b): ∃ b,sw 5000 s f=some b:=by
 have d: ∃ r,xg 5000 s f 5000 0=some r∧True:=by
  refine z0r (σ:=Unit) (fun F i _=>xg 5000 s f F (i:Int)) s.length (fun _ _=>True) _ (fun F i u hi _=>?_) (fun F u _=>?_) 5000 0 () (Nat.zero_le _) (by omega) trivial
  ·obtain⟨b,e⟩:=a _ (su hi)
   simp only [xg]
   rw [bi (by omega),zo (uy hi),tq,qf e]
   cases b
   ·right;exact⟨(),trivial,by rw [cond_false,zo (kw (by omega))];rfl⟩
   ·left;exact⟨_,rfl,trivial⟩
  ·simp only [xg]
   rw [pq (by omega)];exact⟨_,rfl,trivial⟩
 obtain⟨r,g,_⟩:=d
 unfold sw z0m
 rw [qf g]
 cases r
 ·exact⟨_,rfl⟩
 ·exact⟨_,rfl⟩
theorem zdq{ms:List Int}{n:Nat}(m:n≤16)(k:ms.length≤100)(l: ∀ z∈ms,z4u z): ∀ (G:Nat) (s a left:Int),z4u s→0≤a→a≤17→0≤left→left≤17→left<G→ ∃ y,oo 5000 G s a left ms (n:Int)=some y∧z4u y.1
 |0,s,f,left,_,_,_,_,_,h=>by omega
 |G+1,s,f,left,d,o,p,x,A,B=>by
  simp only [oo]
  by_cases hz:left=0
  ·obtain⟨b,r⟩:=zeu (s:=ms) (f:=fun t=>z0k 5000 t s) k (fun c e=>by
    unfold z0k
    rw [zo ⟨l c e,d⟩];exact⟨_,rfl⟩)
   rw [bi hz,qf r];exact⟨_,rfl,d⟩
  ·rw [pq hz]
   have u: ∀ (F:Nat) (c:Int),0≤c→c≤18→18-c<F→ ∃ q,ig 5000 (oo 5000 G) s left ms (n:Int) F c=some q∧(q=Ex.go ()∨ ∃ y:Int×Bool,q=Ex.rt y∧z4u y.1):=by
    intro F
    induction F with
    |zero=>intro c _ _ h;omega
    |succ F ih=>
     intro c v C D
     simp only [ig]
     rw [zo (kw (by omega))]
     by_cases e:c≤(n:Int)-left
     ·obtain⟨y,g,i⟩:=zdq m k l G (ior s (ib .u64 1 c)) (c+1) (left-1) (zi5 d z4n) (by omega) (by omega) (by omega) (by omega) (by omega)
      rw [bi e,zo ⟨v,by show c≤64;omega⟩,zo ⟨d,z4n⟩,zo (kw (by omega)),zo (kw (by omega)),qf g]
      cases y.2
      ·rw [cond_false,zo (kw (by omega))]
       exact ih (c+1) (by omega) (by omega) (by omega)
      ·exact⟨_,rfl,.inr ⟨_,rfl,i⟩⟩
     ·rw [pq e];exact⟨_,rfl,.inl rfl⟩
   obtain⟨q,w,j⟩:=u 5000 f o (by omega) (by omega)
   rw [qf w]
   rcases j with rfl|⟨y,rfl,g⟩
   ·exact⟨_,rfl,by decide,by decide⟩
   ·exact⟨y,rfl,g⟩
theorem zkk{X:List (List Int)}(h:VX X): ∃ l,l8 5000 ⟨X⟩=some (l,if 16<cols X then 3 else 0)∧(16<cols X→l=[]):=by
 unfold l8
 rw [qf (z4p h.toBx (by decide)),z2s h,pq (by decide),qf (z5l h.toBx (by decide))]
 by_cases hc:16<cols X
 ·rw [bi (by omega),if_pos hc];exact⟨_,rfl,fun _=>rfl⟩
 ·obtain⟨ms,a,b,d⟩:=zkf h (by omega)
  rw [pq (by omega),if_neg hc,qf a,zo (kw (by omega))]
  have i: ∀ (F:Nat) (k:Int),0≤k→k≤(cols X:Int)+1→(cols X:Int)+1-k<F→ ∃ q,l7 5000 (cols X:Int) ms F k=some q∧(q=Ex.go ()∨ ∃ l,q=Ex.rt (l,0)):=by
   intro F
   induction F with
   |zero=>intro k _ _ h;omega
   |succ F ih=>
    intro k j u v
    simp only [l7]
    by_cases hk:k<(cols X:Int)+1
    ·obtain⟨y,m,e⟩:=zdq (ms:=ms) (n:=cols X) (by omega) b d 5000 0 0 k ⟨by decide,by decide⟩ (by omega) (by omega) j (by omega) (by omega)
     rw [bi hk,qf m]
     cases y.2
     ·rw [cond_false,zo (kw (by omega))]
      exact ih (k+1) (by omega) (by omega) (by omega)
     ·have f: ∃ o,ah 5000 (cols X:Int) y 5000 [] 0=some o∧True:=by
       refine z0r (fun F c s=>ah 5000 (cols X:Int) y F s (c:Int)) (cols X) (fun c s=>s.length≤c) _ (fun F c s hc' p=> .inr ?_) (fun F s p=>?_) 5000 0 [] (Nat.zero_le _) (by omega) (Nat.zero_le _)
       ·simp only [ah]
        rw [bi (by omega),zo ⟨by omega,by show (c:Int)≤64;omega⟩,zo ⟨zcd e,by decide,by decide⟩]
        by_cases hb:z4v (z2a y.1 (c:Int)) 1=1
        ·refine⟨s++[(c:Int)],by rw [List.length_append,List.length_singleton];omega,?_⟩
         rw [bi hb,zo ⟨by simp only [List.length_singleton];omega,by simp only [List.length_singleton];omega⟩,z3m,zo (kw (by omega))];rfl
        ·exact⟨s,by omega,by rw [pq hb,z3m,zo (kw (by omega))];rfl⟩
       ·simp only [ah]
        rw [pq (by omega)];exact⟨s,rfl,trivial⟩
      obtain⟨o,r,_⟩:=f
      rw [cond_true,qf r]
      unfold z0p
      rw [zo (zez _),z3m]
      exact⟨_,rfl,.inr ⟨_,rfl⟩⟩
    ·rw [pq hk];exact⟨_,rfl,.inl rfl⟩
  obtain⟨q,t,g⟩:=i 5000 0 (by omega) (by omega) (by omega)
  rw [qf t]
  rcases g with rfl|⟨l,rfl⟩
  ·exact⟨_,rfl,fun h=>absurd h hc⟩
  ·exact⟨l,rfl,fun h=>absurd h hc⟩
end GV
end Go.Proofs.Ytkhihcleegljhaa

namespace Go.Proofs.Ytkhihcleegljhaa
namespace GV
set_option maxRecDepth 100000
theorem zfc{X:List (List Int)}(c:X.length≤100):uz 5000 ⟨X⟩=some (cols X:Int):=by
 have a:jv 5000 ⟨X⟩ 5000 0 0=some (cols X:Int):=by
  refine z4k (fun F k s=>jv 5000 ⟨X⟩ F s (k:Int)) X.length (fun k=>(z4z X k:Int)) _ (fun F k b=>?_) (fun F=>?_) (by omega)
  ·simp only [jv]
   rw [bi (by omega),zo (uy b),zo (kw (by omega)),tq]
   congr 1
   simp only [z4z];omega
  ·simp only [jv]
   rw [pq (by omega)];rfl
 unfold uz
 rw [qf a]
theorem z9w{X:List (List Int)}(c:X.length≤100):bv 5000 ⟨X⟩=some (cols X:Int):=by
 have a:ku 5000 ⟨X⟩ 5000 0 0=some (cols X:Int):=by
  refine z4k (fun F k s=>ku 5000 ⟨X⟩ F s (k:Int)) X.length (fun k=>(z4z X k:Int)) _ (fun F k b=>?_) (fun F=>?_) (by omega)
  ·simp only [ku]
   rw [bi (by omega),zo (uy b),zo (kw (by omega)),tq]
   congr 1
   simp only [z4z];omega
  ·simp only [ku]
   rw [pq (by omega)];rfl
 unfold bv
 rw [qf a]
theorem zcc{x:Int}(h:0≤x∧x≤9223372036854775807):IntKind.i64.wrap x=x:=by
 simp [IntKind.wrap,IntKind.signed,IntKind.bits];omega
theorem zm5{X:List (List Int)}: ∀ k,k<X.length→(X.getD k default).length≤(X.map List.length).sum:=by
 induction X with
 |nil=>intro k h;simp at h
 |cons r X ih=>
  intro k a
  cases k with
  |zero=>simp
  |succ k=>
   have:=ih k (by simpa using a)
   simp only [List.map_cons,List.sum_cons]
   have e:(r::X).getD (k+1) default=X.getD k default:=by simp [List.getD_eq_getElem?_getD]
   rw [e];omega
/-! ### The reference's Check-/
def zbe(X:List (List Int))(j:Nat):Bool:=decide (((X.getD j default).length:Int)≠((X.getD 0 default).length:Int))||(List.range (X.getD j default).length).any fun i=> !z3r ((X.getD j default).getD i default)
theorem zis(v:Int):(!z3r v)=(decide (v< -1)||decide (255<v)):=by
 unfold z3r
 by_cases h1:v< -1
 ·simp [h1]
 ·by_cases h2:256≤v
  ·simp [h1,h2];omega
  ·simp [h1,h2];omega
theorem zlz{X:List (List Int)}(c: ∀ k,k<X.length→(X.getD k default).length≤9223372036854775807){k:Nat}(a:k<X.length)(b:Bool):gm 5000 ⟨X⟩ (k:Int) (5000+(X.map List.length).sum) b 0=some (b||(List.range (X.getD k default).length).any fun i=> !z3r ((X.getD k default).getD i default)):=by
 have f:=zm5 k a
 have d:=c k a
 have:=z4k (fun F i s=>gm 5000 ⟨X⟩ (k:Int) F s (i:Int)) (X.getD k default).length (fun i=>b||(List.range i).any fun i=> !z3r ((X.getD k default).getD i default)) (b||(List.range (X.getD k default).length).any fun i=> !z3r ((X.getD k default).getD i default)) (fun F i hi=>?_) (fun F=>?_) (F:=5000+(X.map List.length).sum) (by omega)
 ·simpa using this
 ·simp only [gm]
  rw [zo (uy a),bi (by rw [tq];omega),zo (fun _=>uy a),zo (fun _=>uy (by rw [tq];exact hi)),zo (fun _=>uy a),zo (fun _=>uy (by rw [tq];exact hi)),zcc (by omega)]
  have e:((b||(List.range i).any fun i=> !z3r ((X.getD k default).getD i default))||decide (ix (ix X (k:Int)) (i:Int)< -1)||decide (255<ix (ix X (k:Int)) (i:Int)))=(b||(List.range (i+1)).any fun i=> !z3r ((X.getD k default).getD i default)):=by
   rw [List.range_succ,List.any_append,List.any_cons,List.any_nil,zis,tq,tq]
   simp [Bool.or_assoc]
  rw [e];rfl
 ·simp only [gm]
  rw [zo (uy a),pq (by rw [tq];omega)]
theorem zht{X:List (List Int)}(f: ∀ k,k<X.length→(X.getD k default).length≤9223372036854775807)(d:X.length≤100): ∃ t:Int,xh 5000 ⟨X⟩ (5000+(X.map List.length).sum) 0 false 0=some (t,(List.range X.length).any (zbe X))∧(tot X≤3000→t=(tot X:Int)):=by
 have g: ∃ r,xh 5000 ⟨X⟩ (5000+(X.map List.length).sum) 0 false 0=some r∧(r.2=(List.range X.length).any (zbe X)∧(tot X≤3000→r.1=(tot X:Int))):=by
  refine z0r (σ:=Int×Bool) (fun F k s=>xh 5000 ⟨X⟩ F s.1 s.2 (k:Int)) X.length (fun k s=>s.2=(List.range k).any (zbe X)∧(tot X≤3000→s.1=(z5o X k:Int))) _ (fun F k s a b=> .inr ?_) (fun F s b=>?_) (5000+(X.map List.length).sum) 0 (0,false) (Nat.zero_le _) (by omega) ⟨rfl,fun _=>rfl⟩
  ·refine⟨(IntKind.i64.wrap (s.1+((X.getD k default).length:Int)),(List.range (k+1)).any (zbe X)),⟨rfl,fun h=>?_⟩,?_⟩
   ·have c:=b.2 h
    have j:z5o X (k+1)≤tot X:=zaz _ _ a
    have hm':z5o X (k+1)=z5o X k+(X.getD k default).length:=rfl
    show IntKind.i64.wrap (s.1+((X.getD k default).length:Int))=_
    rw [c,z1y (by omega)];omega
   ·simp only [xh]
    rw [bi (by omega),zo (uy a),zo (fun _=>uy a),zo (fun _=>show okI X 0 from uy (k:=0) (by omega)),qf (zlz f a _),z1y (x:=(k:Int)+1) (by omega)]
    have e:((s.2||decide (((ix X (k:Int)).length:Int)≠((ix X 0).length:Int)))||(List.range (X.getD k default).length).any fun i=> !z3r ((X.getD k default).getD i default))=(List.range (k+1)).any (zbe X):=by
     rw [List.range_succ,List.any_append,List.any_cons,List.any_nil,b.1]
     unfold zbe
     rw [Bool.or_false,Bool.or_assoc];rfl
    rw [e];rfl
  ·simp only [xh]
   rw [pq (by omega)]
   exact⟨_,rfl,b⟩
 obtain⟨r,d,c,l⟩:=g
 exact⟨r.1,by rw [d,←c],l⟩
theorem zjk{X:List (List Int)}:(List.range X.length).any (zbe X)= !zd6 X:=by
 have key:(∀ k,k<X.length→zbe X k=false)↔zd6 X=true:=by
  unfold zd6
  rw [List.all_eq_true]
  constructor
  ·intro h k a
   have a:=List.mem_range.1 a
   have f: ∀ j,j<X.length→(X.getD j default).length=(X.getD 0 default).length:=fun j b=>by
    have:=h j b
    unfold zbe at this
    rw [Bool.or_eq_false_iff] at this
    have:=this.1
    rw [decide_eq_false_iff_not] at this
    omega
   have g:cols X=(X.getD 0 default).length:=by
    unfold cols
    rw [zft X.length f,if_neg (by omega)]
   have d:=h k a
   unfold zbe at d
   rw [Bool.or_eq_false_iff] at d
   unfold zbm
   rw [g,decide_eq_true (f k a),Bool.true_and,List.all_eq_true]
   intro j b
   have:=og.1 d.2 j (List.mem_range.1 b)
   simpa using this
  ·intro h k a
   have c:=h k (List.mem_range.2 a)
   have e:=h 0 (List.mem_range.2 (by omega))
   unfold zbm at c e
   rw [Bool.and_eq_true,decide_eq_true_eq] at c e
   unfold zbe
   rw [Bool.or_eq_false_iff,decide_eq_false_iff_not]
   refine⟨by rw [c.1,e.1];simp,og.2 fun j b=>?_⟩
   rw [List.all_eq_true.1 c.2 j (List.mem_range.2 b)];rfl
 cases hv:zd6 X with
 |true=>exact og.2 (key.2 hv)
 |false=>
  cases ha:(List.range X.length).any (zbe X) with
  |true=>rfl
  |false=>rw [key.1 (og.1 ha)] at hv;cases hv
theorem zi7{X:List (List Int)}(h:Bx X):ou 5000 ⟨X⟩=some (zf8 X):=by
 have b:=h.rows
 have c:=h.tot
 have i:=h.cols
 obtain⟨t,d,a⟩:=zht (X:=X) (fun k f=>by have:=h.row f;omega) b
 have e:=a c
 unfold ou
 rw [qf d,zev (fun _=>z9w b)]
 have g:decide ((4096:Int)<(X.length:Int))=false:=decide_eq_false (by omega)
 rw [cf (by rw [g];show (false||decide ((4096:Int)<(cols X:Int))||decide (262144<t))=false;rw [decide_eq_false (by omega),decide_eq_false (by omega)];rfl),zjk]
 unfold zf8
 cases zd6 X<;>rfl
/-! ### Matrices that are too wide-/
theorem zkv{X:List (List Int)}(a:X.length≤100)(e:4096<cols X):w9 5000 ⟨X⟩=some 3:=by
 have b: ∃ t,xq 5000 ⟨X⟩ 5000 0 0=some t∧True:=by
  refine z0r (σ:=Int) (fun F k s=>xq 5000 ⟨X⟩ F s (k:Int)) X.length (fun _ _=>True) _ (fun F k s c _=> .inr ?_) (fun F s _=>?_) 5000 0 0 (Nat.zero_le _) (by omega) trivial
  ·refine⟨IntKind.i64.wrap (s+((ix X (k:Int)).length:Int)),trivial,?_⟩
   simp only [xq]
   rw [bi (by omega),zo (uy c),z1y (x:=(k:Int)+1) (by omega)];rfl
  ·simp only [xq]
   rw [pq (by omega)];exact⟨_,rfl,trivial⟩
 obtain⟨t,d,_⟩:=b
 unfold w9
 rw [qf (zfc a),qf d]
 exact ct (by rw [decide_eq_true (show (4096:Int)<(cols X:Int) by omega)];simp)
theorem zjc{X:List (List Int)}(b: ∀ k,k<X.length→(X.getD k default).length≤9223372036854775807)(a:X.length≤100)(e:4096<cols X):ou 5000 ⟨X⟩=some 3:=by
 obtain⟨t,c,_⟩:=zht (X:=X) b a
 unfold ou
 rw [qf c,zev (fun _=>z9w a)]
 have d:decide ((4096:Int)<(X.length:Int))=false:=decide_eq_false (by omega)
 exact ct (by rw [d];show (false||decide ((4096:Int)<(cols X:Int))||decide (262144<t))=true;rw [decide_eq_true (show (4096:Int)<(cols X:Int) by omega)];simp)
/-! ### Choices-/
theorem zgb{X:List (List Int)}{l:List Int}(h:Bx X)(f:l.length≤1000):z09 5000 ⟨X⟩ l=some (chB (cols X) l):=by
 have c:wh 5000 ⟨X⟩ l 5000 0=some (bif (List.range l.length).any (zd1 (cols X) l) then Ex.rt false else Ex.go ()):=by
  have body: ∀ F (i:Nat),i<l.length→wh 5000 ⟨X⟩ l (F+1) (i:Int)=bif zd1 (cols X) l i then some (Ex.rt false) else wh 5000 ⟨X⟩ l F ((i:Int)+1):=by
   intro F i hi
   simp only [wh]
   rw [bi (by omega),zo (uy hi),zo (fun _=>uy hi),zev (fun _=>zba h (by decide)),zo (fun _=>uy hi),zo (fun _=>kw (by omega)),zo (fun d=>by
    have g:0<i:=by
     simp only [Bool.and_eq_true,beq_iff_eq,decide_eq_true_eq] at d
     omega
    exact⟨by omega,by omega⟩),zo (kw (by omega))]
   by_cases hneg:ix l (i:Int)<0
   ·have a:decide (ix l (i:Int)<0)=true:=decide_eq_true hneg
    have e:zd1 (cols X) l i=true:=by unfold zd1;rw [a];rfl
    rw [a,e];rfl
   ·have a:decide (ix l (i:Int)<0)=false:=decide_eq_false hneg
    unfold zd1
    rw [a];rfl
  refine z4a (fun F i=>wh 5000 ⟨X⟩ l F (i:Int)) l.length _ _ _ (fun F i hi b=>?_) (fun F i hi b=>?_) (fun F=>?_) (by omega)
  ·rw [body F i hi,b];rfl
  ·rw [body F i hi,b];rfl
  ·simp only [wh]
   rw [pq (by omega)]
 unfold z09
 rw [qf c]
 unfold chB
 cases (List.range l.length).any (zd1 (cols X) l)<;>rfl
/-! ### What is not valid-/
theorem zm2{X:List (List Int)}{e:Int}(h:w9 5000 ⟨X⟩=some e)(a:e≠0):mr 5000 ⟨X⟩=some ([],e):=by unfold mr;rw [qf h,bi a]
theorem zgu{X:List (List Int)}{e:Int}(h:w9 5000 ⟨X⟩=some e)(a:e≠0):au 5000 ⟨X⟩=some ([],e):=by unfold au;rw [qf h,bi a]
theorem zgk{X:List (List Int)}{e:Int}(h:w9 5000 ⟨X⟩=some e)(a:e≠0):lm 5000 ⟨X⟩=some ([],e):=by unfold lm;rw [qf h,bi a]
theorem zgi{X:List (List Int)}{e:Int}(h:w9 5000 ⟨X⟩=some e)(a:e≠0):ll 5000 ⟨X⟩=some ([],e):=by unfold ll;rw [qf h,bi a]
theorem zj9{X:List (List Int)}{e:Int}(h:w9 5000 ⟨X⟩=some e)(a:e≠0):l8 5000 ⟨X⟩=some ([],e):=by unfold l8;rw [qf h,bi a]
theorem zh6{X:List (List Int)}{l:List Int}{e:Int}(h:w9 5000 ⟨X⟩=some e)(a:e≠0):ru 5000 ⟨X⟩ l=some (false,e):=by unfold ru;rw [qf h,bi a]
theorem z98{X:List (List Int)}{l:List Int}{t e:Int}(c:jd 5000 ⟨X⟩ (5000+X.length) 0 0=some t)(f: ¬((60<X.length∨2000<t)∨60<l.length))(h:w9 5000 ⟨X⟩=some e)(d:ou 5000 ⟨X⟩=some e)(a:e≠0):wu 5000 ⟨X⟩ l=some true:=by
 unfold wu
 rw [qf c]
 rw [cf (by rw [decide_eq_false (show¬(60:Int)<(X.length:Int) by omega),decide_eq_false (show¬(2000:Int)<t by omega),decide_eq_false (by omega)];rfl)]
 rw [qf d,qf (zgk h a),qf (zgi h a),qf (zm2 h a),qf (zgu h a),qf h]
 have b:decide (e=0)=false:=decide_eq_false a
 have dn:decide (e≠0)=true:=decide_eq_true a
 rw [cf (by simp)]
 rw [b]
 refine(qf (x:=e) rfl).trans ?_
 refine(qf (x:=e) rfl).trans ?_
 rw [qf (zj9 h a),qf (zh6 h a)]
 dsimp only
 rw [dn,b]
 refine(qf (x:=none) ?_).trans ?_
 ·refine zkw ?_
  simp
 ·refine(cf (by simp)).trans ?_
  refine(qf (x:=some true) ((zcg rfl).trans (by rw [zbv];rfl))).trans ?_
  rfl
theorem ziu{x:Sa}{l:List Int}(v:x.fB.length≤9223372036854775807)(j: ∀ k,k<x.fB.length→(x.fB.getD k default).length≤9223372036854775807):wu 5000 x l=some true:=by
 obtain⟨X⟩:=x
 have j: ∀ k,k<X.length→(X.getD k default).length≤9223372036854775807:=j
 have v:X.length≤9223372036854775807:=v
 by_cases h60:60<X.length
 ·have m: ∃ t,jd 5000 ⟨X⟩ (5000+X.length) 0 0=some t∧True:=by
   refine z0r (σ:=Int) (fun F k s=>jd 5000 ⟨X⟩ F s (k:Int)) X.length (fun k s=>True) _ (fun F k s i a=> .inr ?_) (fun F s a=>?_) (5000+X.length) 0 0 (Nat.zero_le _) (by omega) trivial
   ·refine⟨IntKind.i64.wrap (s+((X.getD k default).length:Int)),trivial,?_⟩
    simp only [jd]
    rw [bi (by omega),zo (uy i),zcc (x:=(k:Int)+1) (by omega)];rfl
   ·simp only [jd]
    rw [pq (by omega)];exact⟨s,rfl,trivial⟩
  obtain⟨t,d,_⟩:=m
  unfold wu
  rw [qf d]
  exact ct (by rw [decide_eq_true (show (60:Int)<(X.length:Int) by omega)];rfl)
 ·have m: ∃ t,jd 5000 ⟨X⟩ (5000+X.length) 0 0=some t∧(cols X≤4096→t=(tot X:Int)):=by
   have o: ∀ n,n≤X.length→cols X≤4096→z5o X n≤n*4096:=by
    intro n
    induction n with
    |zero=>intro _ _;exact Nat.le_refl _
    |succ n ih=>
     intro w c
     have:=ih (by omega) c
     have B:(X.getD n default).length≤cols X:=zde _ _ w
     unfold z5o;omega
   refine z0r (σ:=Int) (fun F k s=>jd 5000 ⟨X⟩ F s (k:Int)) X.length (fun k s=>cols X≤4096→s=(z5o X k:Int)) _ (fun F k s i a=> .inr ?_) (fun F s a=>?_) (5000+X.length) 0 0 (Nat.zero_le _) (by omega) (fun _=>rfl)
   ·refine⟨IntKind.i64.wrap (s+((X.getD k default).length:Int)),fun c=>?_,?_⟩
    ·have y:=a c
     have C:=o (k+1) i c
     have hm':z5o X (k+1)=z5o X k+(X.getD k default).length:=rfl
     rw [y,z1y (by omega)];omega
    ·simp only [jd]
     rw [bi (by omega),zo (uy i),z1y (x:=(k:Int)+1) (by omega)];rfl
   ·simp only [jd]
    rw [pq (by omega)];exact⟨s,rfl,a⟩
  obtain⟨t,d,p⟩:=m
  by_cases a:(60<X.length∨2000<t)∨60<l.length
  ·unfold wu
   rw [qf d]
   refine ct ?_
   rcases a with(h|h)|h
   ·exact absurd h h60
   ·rw [decide_eq_true (show (2000:Int)<t from h)];simp
   ·rw [decide_eq_true (show (60:Int)<(l.length:Int) by omega)];simp
  ·by_cases c:4096<cols X
   ·exact z98 d a (zkv (by omega) c) (zjc j (by omega) c) (by decide)
   ·have b:Bx X:=⟨by omega,by have:=p (by omega);omega⟩
    by_cases hv:VX X
    ·have A:=z2s hv
     obtain⟨le,q⟩:=zn3 hv
     obtain⟨lg,r⟩:=zj6 hv
     obtain⟨lc,u,e⟩:=zkk hv
     unfold wu
     rw [qf d]
     rw [cf (by rw [decide_eq_false (show¬(60:Int)<(X.length:Int) by omega),decide_eq_false (show¬(2000:Int)<t by omega),decide_eq_false (by omega)];rfl)]
     rw [qf (zi7 b),qf (zef hv (by decide)),qf (ze6 hv (by decide)),qf q,qf r,qf (z4p b (by decide)),A]
     refine(cf (by simp)).trans ?_
     rw [qf (x:=(if 16<cols X then(3:Int) else 0)) ?_]
     rotate_left
     ·refine(qf (x:=some (cols X:Int)) ((zcg rfl).trans (by rw [zba b (by decide)];rfl))).trans ?_
      by_cases h16:16<cols X
      ·rw [if_pos h16];exact ct (by show (true&&decide ((16:Int)<(cols X:Int)))=true;rw [decide_eq_true (by omega)];rfl)
      ·rw [if_neg h16];exact cf (by show (true&&decide ((16:Int)<(cols X:Int)))=false;rw [decide_eq_false (by omega)];rfl)
     rw [qf (x:=(if chB (cols X) l=true then(0:Int) else 1)) ?_]
     rotate_left
     ·refine(qf (x:=some (chB (cols X) l)) ((zcg rfl).trans (by rw [zgb b (by omega)];rfl))).trans ?_
      cases chB (cols X) l<;>rfl
     rw [qf u,qf (ze7 hv (by decide) (by omega))]
     have f: ∃ z,(if 16<cols X then(3:Int) else 0)=z:=⟨_,rfl⟩
     obtain⟨z,f⟩:=f
     have g:(decide (z≠0)&&decide ((lc.length:Int)≠0))=false:=by
      by_cases h16:16<cols X
      ·rw [e h16];simp
      ·rw [if_neg h16] at f;rw [←f];rfl
     rw [f]
     cases hch:chB (cols X) l with
     |true=>
      rw [if_pos rfl,cond_true]
      dsimp only
      rw [g]
      refine(qf (x:=some (z9z X l)) ((zcg (by simp)).trans (by rw [zh9 hv (by decide) (by omega) (zhy hch)];rfl))).trans ?_
      refine(cf (by simp)).trans ?_
      refine(qf (x:=some true) ((zcg (by simp)).trans (by rw [zbv];rfl))).trans ?_
      simp
     |false=>
      rw [if_neg (by decide),cond_false]
      dsimp only
      rw [g]
      refine(qf (x:=none) (zkw (by simp))).trans ?_
      refine(cf (by simp)).trans ?_
      refine(qf (x:=some true) ((zcg (by simp)).trans (by rw [zbv];rfl))).trans ?_
      simp
    ·exact z98 d a (by rw [z4p b (by decide),zad b hv]) (by rw [zi7 b,zad b hv]) (by decide)
end GV
end Go.Proofs.Ytkhihcleegljhaa
