import Derived.Test.YtjmlpkkbmnjhcaaHom16c
import Derived.Test.YtjmlpkkbmnjhcaaLives16
set_option linter.unusedVariables false
set_option linter.unusedSimpArgs false
set_option linter.unusedSectionVars false
namespace Go.Proofs.Ytjmlpkkbmnjhcaa
namespace GV
set_option maxRecDepth 100000
theorem zjw{p:Nat→Prop}: ∀ n,(∃ i,i<n∧p i)→ ∃ i,i<n∧p i∧ ∀ j,j<i→ ¬p j
 |0,⟨i,h,_⟩=>by omega
 |n+1,⟨i,h,b⟩=>by
  by_cases hl: ∃ i,i<n∧p i
  ·obtain⟨i,d,c⟩:=zjw n hl
   exact⟨i,by omega,c⟩
  ·refine⟨i,h,b,fun j e a=>hl ⟨j,by omega,a⟩⟩
theorem zof{N:Nat}{m:Mach}(b:CM m)(B:5000≤N){D:List (List Int)}(c:PD m D){s t a:Nat}(d:s<m.rows.length)(e:t<m.rows.length)(hi:a<nIn m)(C: -10≤ib D s t∧ib D s t≤100000)
 (f:ib D (tgt m s a) (tgt m t a)=ib D s t-1) (g: ∀ j,j<a→ib D (tgt m s j) (tgt m t j)≠ib D s t-1):xx N m D (s:Int) (t:Int) N 0=some (a:Int):=by
 have l:=b.nin
 have n:=b.ok.i2
 have hs':okI m.rows (s:Int):=wh d
 have ht':okI m.rows (t:Int):=wh e
 have step: ∀ F j,j<nIn m→xx N m D (s:Int) (t:Int) (F+1) (j:Int)=if ib D (tgt m s j) (tgt m t j)=ib D s t-1 then some (j:Int) else xx N m D (s:Int) (t:Int) F ((j+1:Nat):Int):=fun F j i=>by
  obtain⟨ts,es⟩:=b.tgt d i
  obtain⟨tt,et⟩:=b.tgt e i
  have o:(ix (ix m.rows (s:Int)) (j:Int)).to=(tgt m s j:Int):=es
  have p:(ix (ix m.rows (t:Int)) (j:Int)).to=(tgt m t j:Int):=et
  have q:okI (ix m.rows (s:Int)) (j:Int):=b.okr ⟨by omega,by omega⟩ (by omega) (by omega)
  have r:okI (ix m.rows (t:Int)) (j:Int):=b.okr ⟨by omega,by omega⟩ (by omega) (by omega)
  have u:okI D (s:Int):=wh (by rw [c.sh.len];exact d)
  have v:okI (ix D (s:Int)) (t:Int):=wh (by rw [z0o,c.sh.row s d];exact e)
  have w:okI D (tgt m s j:Int):=wh (by rw [c.sh.len];exact ts)
  have x:okI (ix D (tgt m s j:Int)) (tgt m t j:Int):=wh (by rw [z0o,c.sh.row _ ts];exact tt)
  have y:ix (ix D (s:Int)) (t:Int)=ib D s t:=rfl
  have z:ix (ix D (tgt m s j:Int)) (tgt m t j:Int)=ib D (tgt m s j) (tgt m t j):=rfl
  simp only [xx]
  rw [zk hs',zk q,o,zk w,zk ht',zk r,p,zk x,zk u,zk v,y,z,zk (jc (by omega))]
  by_cases h:ib D (tgt m s j) (tgt m t j)=ib D s t-1
  ·rw [di (by simpa using h),if_pos h]
  ·rw [ny h,if_neg h,zk (jc (by omega)),yn]
 exact zev (σ:=Unit) (fun F k _=>xx N m D (s:Int) (t:Int) F (k:Int)) a (fun _=>()) _ (fun F k A=>by rw [step F k (by omega),if_neg (g k A)]) (fun F=>by rw [step F a hi,if_pos f]) (by omega)
theorem zsu{m:Mach}{s t:Nat}(h:Lst (pnx m) peq (nIn m) ((s:Int),(t:Int)) []):s=t:=by
 have:=h.2.1
 have a:decide ((s:Int)=(t:Int))=true:=this
 have:=of_decide_eq_true a
 omega
theorem zrd{m:Mach}{s:Nat}{w:List Int}(h:Lst (pnx m) peq (nIn m) ((s:Int),(s:Int)) w):w=[]:=by
 have:=zd0 (h.2.2 [] WIn.nil (by show decide ((s:Int)=(s:Int))=true;simp))
 exact List.length_eq_zero_iff.1 (by simpa using this)
theorem zpb{N:Nat}{m:Mach}(a:CM m)(H:5000≤N){D:List (List Int)}(r:PD m D): ∀ (k s t F:Nat) (w:List Int),s<m.rows.length→t<m.rows.length→ib D s t=(k:Int)→k<F→k≤100000→w.length+k≤1000000→
 ∃ u,tq N m D F (s:Int) (t:Int) w=some (w++u)∧Lst (pnx m) peq (nIn m) ((s:Int),(t:Int)) u:=by
 intro k
 induction k with
 |zero=>
  intro s t F w f g I J _ _
  obtain⟨F,rfl⟩: ∃ F',F=F'+1:=⟨F-1,by omega⟩
  rcases r.val s t f g with⟨E,_⟩|⟨u,l,z⟩
  ·omega
  ·have C:u=[]:=List.length_eq_zero_iff.1 (by omega)
   subst C
   have:=zsu l
   subst this
   refine⟨[],?_,l⟩
   simp only [tq]
   rw [di (by simp),List.append_nil]
 |succ k ih=>
  intro s t F w f g I J K hw
  have L:=a.nin
  obtain⟨F,rfl⟩: ∃ F',F=F'+1:=⟨F-1,by omega⟩
  rcases r.val s t f g with⟨E,_⟩|⟨u,l,z⟩
  ·omega
  ·have M:s≠t:=fun e=>by subst e;rw [zrd l] at z;simp at z;omega
   have is:InS m (s:Int):=⟨by omega,by omega⟩
   have it:InS m (t:Int):=⟨by omega,by omega⟩
   have key: ∀ (j:Nat) (v:List Int),j<nIn m→WIn (nIn m) v→z2a m s ((j:Int)::v)=z2a m t ((j:Int)::v)→v.length≤k→ib D (tgt m s j) (tgt m t j)=(k:Int)∧v.length=k:=fun j v o h n A=>by
    have he':=n
    rw [z03 a f o,z03 a g o] at n
    have ts:=(a.tgt f o).1
    have tt:=(a.tgt g o).1
    have O:=zd0 (l.2.2 ((j:Int)::v) (h.cons (by omega) (by omega)) ((a.mrg is it (h.cons (by omega) (by omega))).2 he'))
    simp only [List.length_cons] at O
    rcases r.val _ _ ts tt with⟨_,G⟩|⟨x,p,P⟩
    ·exact absurd n (G v h)
    ·have its:InS m (tgt m s j:Int):=⟨by omega,by omega⟩
     have itt:InS m (tgt m t j:Int):=⟨by omega,by omega⟩
     have a2:=zd0 (p.2.2 v h ((a.mrg its itt h).2 n))
     have Q:=zd0 (l.2.2 ((j:Int)::x) (p.1.cons (by omega) (by omega)) ((a.mrg is it (p.1.cons (by omega) (by omega))).2 (by rw [z03 a f o,z03 a g o];exact(a.mrg its itt p.1).1 p.2.1)))
     simp only [List.length_cons] at Q
     omega
   obtain⟨c,b,R,hmin⟩: ∃ i,i<nIn m∧ib D (tgt m s i) (tgt m t i)=(k:Int)∧ ∀ j,j<i→ ¬ib D (tgt m s j) (tgt m t j)=(k:Int):=by
    refine zjw _ ?_
    cases u with
    |nil=>simp at z;omega
    |cons i v=>
     obtain⟨S,T⟩:=l.1.head
     obtain⟨j,rfl⟩: ∃ j:Nat,i=(j:Int):=⟨i.toNat,by omega⟩
     simp only [List.length_cons] at z
     exact⟨j,by omega,(key j v (by omega) l.1.tail ((a.mrg is it l.1).1 l.2.1) (by omega)).1⟩
   obtain⟨ts,es⟩:=a.tgt f b
   obtain⟨tt,et⟩:=a.tgt g b
   have its:InS m (tgt m s c:Int):=⟨by omega,by omega⟩
   have itt:InS m (tgt m t c:Int):=⟨by omega,by omega⟩
   obtain⟨x,p,d⟩:=ih (tgt m s c) (tgt m t c) F (w++[(c:Int)]) ts tt R (by omega) (by omega) (by simp;omega)
   have U:x.length=k:=by
    rcases r.val _ _ ts tt with⟨E,_⟩|⟨y,V,W⟩
    ·omega
    ·rw [d.unique V];omega
   refine⟨(c:Int)::x,?_,d.1.cons (by omega) (by omega),?_,fun v h X=>?_⟩
   ·have hs':okI m.rows (s:Int):=wh f
    have ht':okI m.rows (t:Int):=wh g
    have Y:(ix (ix m.rows (s:Int)) (c:Int)).to=(tgt m s c:Int):=es
    have Z:(ix (ix m.rows (t:Int)) (c:Int)).to=(tgt m t c:Int):=et
    have k1:okI (ix m.rows (s:Int)) (c:Int):=a.okr is (by omega) (by omega)
    have k2:okI (ix m.rows (t:Int)) (c:Int):=a.okr it (by omega) (by omega)
    simp only [tq]
    rw [ny (by omega),qh (zof a H r f g b (by omega) (by omega) fun j o=>by have:=hmin j o;omega),zk ⟨by simp;omega,by simp;omega⟩,zk hs',zk k1,zk ht',zk k2,Y,Z,p,List.append_assoc];rfl
   ·refine(a.mrg is it (d.1.cons (by omega) (by omega))).2 ?_
    rw [z03 a f b,z03 a g b]
    exact(a.mrg its itt d.1).1 d.2.1
   ·have n:=(a.mrg is it h).1 X
    cases v with
    |nil=>exact absurd n (by show¬(s:Int)=(t:Int);omega)
    |cons i v=>
     obtain⟨S,T⟩:=h.head
     obtain⟨j,rfl⟩: ∃ j:Nat,i=(j:Int):=⟨i.toNat,by omega⟩
     by_cases A:v.length≤k
     ·obtain⟨h3,G⟩:=key j v (by omega) h.tail n A
      rcases Nat.lt_trichotomy j c with B|B|B
      ·exact absurd h3 (hmin j B)
      ·subst B
       rw [z03 a f b,z03 a g b] at n
       rcases d.2.2 v h.tail ((a.mrg its itt h.tail).2 n) with q|q
       ·rw [q];exact .inl rfl
       ·rcases q with q|⟨_,q⟩
        ·omega
        ·exact .inr (.inr ⟨by simp only [List.length_cons];omega,.inr ⟨rfl,q⟩⟩)
      ·exact .inr (.inr ⟨by simp only [List.length_cons];omega,.inl (by omega)⟩)
     ·exact .inr (.inl (by simp only [List.length_cons];omega))
theorem zoh{N:Nat}{m:Mach}(a:CM m)(i:5000≤N){s t:Nat}(f:s<m.rows.length)(h:t<m.rows.length):
 (∃ w,Lst (pnx m) peq (nIn m) ((s:Int),(t:Int)) w∧w.length<m.rows.length*m.rows.length∧iy N m (s:Int) (t:Int)=some (w,true))∨((∀ w,WIn (nIn m) w→z2a m s w≠z2a m t w)∧iy N m (s:Int) (t:Int)=some ([],false)):=by
 obtain⟨D,j,g⟩:=zqi a i
 have b:=a.ok.r2
 have k:m.rows.length*m.rows.length≤64*64:=Nat.mul_le_mul b b
 have is:InS m (s:Int):=⟨by omega,by omega⟩
 have it:InS m (t:Int):=⟨by omega,by omega⟩
 have l:okI D (s:Int):=wh (by rw [g.sh.len];exact f)
 have n:okI (ix D (s:Int)) (t:Int):=wh (by rw [z0o,g.sh.row s f];exact h)
 have o:ix (ix D (s:Int)) (t:Int)=ib D s t:=rfl
 unfold iy
 rw [qh j,zk l,zk n,o]
 rcases g.val s t f h with⟨v,p⟩|⟨u,c,q⟩
 ·rw [ny (by omega)]
  exact .inr ⟨p,rfl⟩
 ·obtain⟨u',hu',d⟩:=a.mrg_short is it c.1 ((a.mrg is it c.1).1 c.2.1)
  rw [←c.unique hu'] at d
  obtain⟨x,r,e⟩:=zpb a i g u.length s t N [] f h q.symm (by omega) (by omega) (by simp;omega)
  rw [di (by omega),qh r]
  exact .inl ⟨x,e,by rw [e.unique c];exact d,rfl⟩
theorem zqc{N:Nat}{a b:List Int}(f:5000≤N)(c:a.length<N)(d:a.length≤1000000):z15 N ([a]:List (List Int)) [b]=some (decide (a=b)):=by
 obtain⟨N,rfl⟩: ∃ M,N=M+2:=⟨N-2,by omega⟩
 unfold z15
 rw [di (by simp)]
 by_cases h:a=b
 ·have:nu (N+2) [a] [b] (N+2) 0=some (Ex.go ()):=by
   simp only [nu]
   rw [ny (by simp),zk ⟨by omega,by simp⟩,zk ⟨by omega,by simp⟩,qh (show si (N+2) (ix [a] 0) (ix [b] 0)=some (cmpL a b) from zn0 (a:=a) (b:=b) c (by omega)),(cmpL_eq a b).2 h,di (by decide),zk (jc (by decide)),di (by simp)]
  rw [qh this,ze3,decide_eq_true h]
 ·have:nu (N+2) [a] [b] (N+2) 0=some (Ex.rt false):=by
   simp only [nu]
   rw [ny (by simp),zk ⟨by omega,by simp⟩,zk ⟨by omega,by simp⟩,qh (show si (N+2) (ix [a] 0) (ix [b] 0)=some (cmpL a b) from zn0 (a:=a) (b:=b) c (by omega)),ny (show cmpL a b≠0 from fun e=>h ((cmpL_eq a b).1 e))]
  rw [qh this,zfp,decide_eq_false h]
theorem zti{N:Nat}{a b:List Int}(d:5000≤N)(e:a.length<N)(c:a.length≤1000000):cu N a b=some (decide (a=b)):=by
 unfold cu
 rw [qh (zqc d e c),decide_eq_true (rfl:(a.length:Int)=(a.length:Int)),Bool.and_true]
theorem zt7{T:Type}[DecidableEq T]{next:T→Int→T}{isb:T→Bool}{ni g:Nat}{a:T}(h: ∀ v,WIn ni v→isb (runT next a v)=false):z6q next isb ni g [(a,[])] [a]=none:=by
 cases e:z6q next isb ni g [(a,[])] [a] with
 |none=>rfl
 |some w=>
  have:=z9e z7h e
  have b:=this.2.1
  rw [h w this.1] at b;cases b
theorem zpk{x:Sd}(n:CDOk x){s t:Int}(A:0≤s∧s≤255)(B:0≤t∧t≤255):lw 5000 x s t=some true:=by
 obtain⟨m,o,i⟩:=zqa (N:=5000) n (by omega)
 have c:=i.cm
 have C:=c.ok.r1;have j:=i.rows
 have p:m.rows.length*m.rows.length≤6*6:=Nat.mul_le_mul j j
 have q:=Int.emod_nonneg s (show (m.rows.length:Int)≠0 by omega)
 have r:=Int.emod_lt_of_pos s (show (0:Int)<(m.rows.length:Int) by omega)
 have u:=Int.emod_nonneg t (show (m.rows.length:Int)≠0 by omega)
 have y:=Int.emod_lt_of_pos t (show (0:Int)<(m.rows.length:Int) by omega)
 unfold lw
 rw [qh o,zk (jc (by omega)),zk ⟨by omega,by omega⟩,zk (jc (by omega)),zk ⟨by omega,by omega⟩]
 generalize s%(m.rows.length:Int)=a at q r⊢
 generalize t%(m.rows.length:Int)=b at u y⊢
 obtain⟨a,rfl⟩: ∃ k:Nat,a=(k:Int):=⟨a.toNat,by omega⟩
 obtain⟨b,rfl⟩: ∃ k:Nat,b=(k:Int):=⟨b.toNat,by omega⟩
 have is:InS m (a:Int):=⟨by omega,by omega⟩
 have it:InS m (b:Int):=⟨by omega,by omega⟩
 have z:z2n 5000 (⟨m.inputs,m.outputs,m.rows⟩:Mach) (a:Int) (b:Int)=_:=zq0 c (Nat.le_refl _) is it
 rw [qh z]
 rcases zoh c (Nat.le_refl 5000) (s:=a) (t:=b) (by omega) (by omega) with⟨w,d,D,f⟩|⟨h,f⟩
 ·have hr':iy 5000 (⟨m.inputs,m.outputs,m.rows⟩:Mach) (a:Int) (b:Int)=_:=f
  obtain⟨w',hw',hL'⟩:=ztu d.1 d.2.1 (g:=257) (by omega)
  rw [hL'.unique d] at hw'
  rw [qh hr',hw']
  simp only [Bool.not_true,cond_false,decide_true,Bool.true_and,beq_self_eq_true]
  rw [qh (zcu rfl (zti (Nat.le_refl _) (by omega) (by omega))),decide_eq_true (rfl:w=w)]
  simp only [Option.getD_some,Bool.true_and,beq_self_eq_true,Bool.and_true]
  rw [qh (zcu rfl zl9)];rfl
 ·have hr':iy 5000 (⟨m.inputs,m.outputs,m.rows⟩:Mach) (a:Int) (b:Int)=_:=f
  rw [qh hr',zt7 fun v l=>by
   cases e:peq (runT (pnx m) ((a:Int),(b:Int)) v) with
   |false=>rfl
   |true=>exact absurd ((c.mrg is it l).1 e) (h v l)]
  simp only [Bool.not_false,cond_true,decide_true,List.length_nil,Int.natCast_zero,Bool.and_self,Bool.true_and,beq_self_eq_true]
  rw [qh (zcu rfl zl9)];rfl
end GV
end Go.Proofs.Ytjmlpkkbmnjhcaa
