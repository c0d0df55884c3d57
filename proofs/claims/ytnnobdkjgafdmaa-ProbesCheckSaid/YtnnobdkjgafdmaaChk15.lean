import Derived.Test.YtnnobdkjgafdmaaFor15
import Derived.Test.YtnnobdkjgafdmaaLives15
set_option linter.unusedVariables false
set_option linter.unusedSimpArgs false
set_option linter.unusedSectionVars false
namespace Go.Proofs.Ytnnobdkjgafdmaa
namespace GV
set_option maxRecDepth 100000
theorem zgz{m:Mach}{t:Sb}: ∀ F now a,cu 5000 m t F now a=di 5000 m t F now a
 |0,_,_=>rfl
 |F+1,now,a=>by unfold cu di;simp only [zgz F]
theorem zh2{m:Mach}{t:Sb}: ∀ F s,dx 5000 m t F s=bg 5000 m t F s
 |0,_=>rfl
 |F+1,s=>by unfold dx bg;simp only [zh2 F,zgz]
section
variable {m : Mach} {t : Sb}
structure TF (m:Mach) (t:Sb):Prop where
 pos:0<t.fA.length
 le:t.fA.length≤1024
 ok: ∀ j,j<t.fA.length→z2m m (t.fA.getD j default)=true
 kid: ∀ j,j<t.fA.length→ ∀ k∈kids (t.fA.getD j default),(j:Int)<k∧k<(t.fA.length:Int)
theorem q2r(h:stk m t.fA 0 [0]=true)(c:t.fA.length≤1024):TF m t:=by
 obtain⟨d,b⟩:=zlj h
 have f:=d 0 (List.mem_singleton.2 rfl)
 refine⟨by omega,c,fun j a=>(b j a).1,fun j a k e=>?_⟩
 have:=(b j a).2 k e
 omega
theorem TF.step(h:TF m t){j:Nat}(a:j<t.fA.length){o:Int}(b:0≤o)(c:o<m.outputs):okI (t.fA.getD j default).fC o∧(ix (t.fA.getD j default).fC o= -1∨((j:Int)<ix (t.fA.getD j default).fC o∧ix (t.fA.getD j default).fC o<(t.fA.length:Int))):=by
 have d:=ze0 (h.ok j a)
 refine⟨⟨b,by omega⟩,?_⟩
 by_cases e:ix (t.fA.getD j default).fC o= -1
 ·exact .inl e
 ·refine .inr (h.kid j a _ (List.mem_filter.2 ⟨?_,decide_eq_true e⟩))
  exact fo (show o.toNat<_ by omega)
theorem zww(f:CM m)(h:TF m t): ∀ F (now:Int) (a:Nat),InS m now→a<t.fA.length→t.fA.length-a<F→ ∃ r:Int,cu 5000 m t (F+1) now (a:Int)=some r∧(r= -1∨(0≤r∧r<(t.fA.length:Int)))
 |0,_,_,_,_,k=>by omega
 |F+1,now,a,c,g,k=>by
  have b:=jk g
  unfold cu
  rw [zy (fun _=>b),af,decide_eq_true (show (a:Int)≠ -1 by omega),Bool.true_and]
  by_cases e:(t.fA.getD a default).fB= -1
  ·rw [bn (fun h=>h e)]
   exact⟨_,rfl,.inr ⟨by omega,by omega⟩⟩
  ·obtain⟨i,j,_⟩:=zm3 (h.ok a g) e
   obtain⟨l,n,o⟩:=f.edge c i j
   obtain⟨p,d⟩:=h.step g n o
   rw [pq e,zy ⟨c.1,c.2⟩,zy b,zy (f.okr c i j),zy b]
   refine(fun q=>Exists.imp (fun r=>And.imp_left fun h=>(zy p).trans h) q) ?_
   rcases d with d|⟨d,w⟩
   ·refine⟨-1,?_,.inl rfl⟩
    show cu 5000 m t (F+1) _ (ix (t.fA.getD a default).fC (edI m now (t.fA.getD a default).fB).out)=_
    rw [d];rfl
   ·obtain⟨q,s⟩: ∃ q:Nat,ix (t.fA.getD a default).fC (edI m now (t.fA.getD a default).fB).out=(q:Int):=⟨(ix (t.fA.getD a default).fC (edI m now (t.fA.getD a default).fB).out).toNat,by omega⟩
    obtain⟨r,u,v⟩:=zww f h F (edI m now (t.fA.getD a default).fB).to q l (by omega) (by omega)
    refine⟨r,?_,v⟩
    rw [←u,←s];rfl
theorem zve(c:CM m)(h:TF m t)(b:m.rows.length≤64): ∀ F (s:Nat),s≤m.rows.length→m.rows.length-s<F→ ∃ r,dx 5000 m t F (s:Int)=some r
 |0,s,_,d=>by omega
 |F+1,s,l,d=>by
  unfold dx
  by_cases e:s=m.rows.length
  ·rw [bn (by omega)];exact⟨_,rfl⟩
  ·rw [pq (by omega)]
   have f:=h.le
   obtain⟨r,g,a⟩:=zww c h 4999 (s:Int) 0 ⟨by omega,by omega⟩ h.pos (by omega)
   rw [qz (show cu 5000 m t 5000 (s:Int) 0=some r from g)]
   obtain⟨i,j⟩:=zve c h b F (s+1) (by omega) (by omega)
   rw [zy (fun k=>by
    rcases a with a|a
    ·subst a;simp at k
    ·exact⟨a.1,a.2⟩)]
   cases (decide (r= -1)||decide ((ix t.fA r).fD≠(s:Int))) with
   |true=>exact⟨_,rfl⟩
   |false=>exact⟨i,(cf rfl).trans (by rw [zy (jl (by omega)),zbu];exact j)⟩
theorem zsp(a:PM m)(c:t.fA.length≤1024)(h:stk m t.fA 0 [0]=false):z0b 5000 m t=some 4:=by
 unfold z0b
 have d:=a.ok.o2
 rw [qz a.ready_eq,bn (fun h=>h rfl),decide_eq_false (show¬1024<(t.fA.length:Int) by omega),qz (zk4 (b:=true&&(false==false)) rfl (zkm c d)),h];rfl
theorem zpw(c:PM m)(d:t.fA.length≤1024)(h:stk m t.fA 0 [0]=true):z0b 5000 m t=bd (dx 5000 m t 5000 0) fun a=>Ex.on a (fun e=>some 0) some:=by
 unfold z0b
 have f:=c.ok.o2
 rw [qz c.ready_eq,bn (fun h=>h rfl),decide_eq_false (show¬1024<(t.fA.length:Int) by omega),qz (zk4 (b:=true&&(false==false)) rfl (zkm d f)),h];rfl
theorem zqm(a:PM m)(d:t.fA.length≤1024): ∃ c,z0b 5000 m t=some c∧og 5000 m t=some c:=by
 have i:=a.ok.o2
 have n:=a.r6
 obtain⟨e,j,k⟩:=ztq (m:=m) d i
 have h:og 5000 m t=bif !(stk m t.fA 0 [0]) then some 4 else bd (bg 5000 m t 5000 0) fun f=>Ex.on f (fun l=>some 0) some:=by
  unfold og
  rw [decide_eq_false (show¬1024<(t.fA.length:Int) by omega),qz (zk4 (b:=true&&(false==false)) rfl j),Bool.false_or]
  rw [show ((some e:Option Int).getD default)=e from rfl,k]
 cases hs:stk m t.fA 0 [0] with
 |false=>exact⟨4,zsp a d hs,by rw [h,hs];rfl⟩
 |true=>
  obtain⟨r,g⟩:=zve a.toCM (q2r hs d) (by omega) 5000 0 (Nat.zero_le _) (by omega)
  have g:dx 5000 m t 5000 0=some r:=g
  rw [zpw a d hs,h,hs,←zh2,g]
  cases r with
  |go u=>exact⟨0,rfl,rfl⟩
  |rt c=>exact⟨c,rfl,rfl⟩
theorem q0d: ∃ e,z1a 5000 t=some e∧(e=0→t.fA.length≤40):=by
 unfold z1a
 by_cases h:40<(t.fA.length:Int)
 ·rw [pq h];exact⟨1,rfl,fun e=>by cases e⟩
 ·rw [bn h]
  have key: ∀ F (k:Nat),k≤t.fA.length→t.fA.length-k<F→ ∃ r,pz 5000 t F (k:Int)=some r:=by
   intro F
   induction F with
   |zero=>intro k _ h;omega
   |succ F ih=>
    intro k b d
    unfold pz
    by_cases e:k=t.fA.length
    ·rw [bn (by omega)];exact⟨_,rfl⟩
    ·rw [pq (by omega),zy (jk (by omega))]
     by_cases h2:20<(((ix t.fA (k:Int)).fC).length:Int)
     ·rw [pq h2];exact⟨_,rfl⟩
     ·rw [bn h2,zy (jl (by omega))]
      exact ih (k+1) (by omega) (by omega)
  obtain⟨r,a⟩:=key 5000 0 (Nat.zero_le _) (by omega)
  rw [qz (show pz 5000 t 5000 0=some r from a)]
  cases r with
  |go u=>exact⟨0,rfl,fun _=>by omega⟩
  |rt c=>exact⟨c,rfl,fun _=>by omega⟩
end
theorem ztg{x:Sj}{t:Sb}(a:CDOk x.fK):tu 5000 x t=some true:=by
 obtain⟨m,b,d,_,_⟩:=q3w a
 obtain⟨e,f,g⟩:=q0d (t:=t)
 unfold tu
 rw [qz b,qz f]
 by_cases h0:e=0
 ·obtain⟨c,i,j⟩:=zqm (t:=t) d (by have:=g h0;omega)
  rw [decide_eq_false (fun h=>h h0)]
  refine(qz (zk4 rfl (show z0b 5000 m t=some c from i))).trans ?_
  refine(qz (zk4 rfl (show og 5000 m t=some c from j))).trans ?_
  have k:decide (((some c:Option Int).getD default)=((some c:Option Int).getD default))=true:=decide_eq_true rfl
  rw [k]
  exact qz (zk4 rfl zv8)
 ·rw [decide_eq_true h0]
  refine(qz (zl1 rfl)).trans ?_
  refine(qz (zl1 rfl)).trans ?_
  exact qz (zl1 rfl)
end GV
end Go.Proofs.Ytnnobdkjgafdmaa
