import Derived.Test.YtnnobdkjgafdmaaTre15b
import Derived.Test.YtnnobdkjgafdmaaGrw15b
set_option linter.unusedVariables false
set_option linter.unusedSimpArgs false
set_option linter.unusedSectionVars false
namespace Go.Proofs.Ytnnobdkjgafdmaa
namespace GV
set_option maxRecDepth 100000
theorem Wk.lt{m:Mach}{l:List Sa}{lf s p:Nat}{os:List Int}(h:Wk m l lf s p os):p<l.length:=by
 cases h<;>assumption
section
variable {m : Mach} (hm : PM m)
include hm
theorem zsx{s i:Nat}(a:s<m.rows.length)(hi:i<nIn m):okI m.rows (s:Int)∧okI (ix m.rows (s:Int)) (i:Int)∧(ix (ix m.rows (s:Int)) (i:Int)).out=(rz m s i:Int)∧(ix (ix m.rows (s:Int)) (i:Int)).to=(tgt m s i:Int):=by
 have d:=hm.toCM.nin
 obtain⟨b,e,f⟩:=zas hm hi a
 obtain⟨g,c⟩:=hm.toCM.tgt a hi
 exact⟨qy a,hm.toCM.okr (s:=(s:Int)) (i:=(i:Int)) ⟨by omega,by omega⟩ (by omega) (by omega),b,c⟩
theorem q8y{y:Sb×Int}{lf s p:Nat}{os:List Int}(h:Wk m y.1.fA lf s p os): ∀ F (pre:List Int),os.length<F→pre.length+os.length≤1000→vz 5000 m y F pre (s:Int) (p:Int)=some (pre++os):=by
 induction h with
 |leaf b hi d=>
  intro F pre hF _
  cases F with
  |zero=>exact absurd hF (Nat.not_lt_zero _)
  |succ F=>
   unfold vz
   rw [ze (qy b),yn,um (fun h=>h hi),List.append_nil]
 | @step s p i q os b hi e c f g r ih=>
  intro F pre hF j
  cases F with
  |zero=>exact absurd hF (Nat.not_lt_zero _)
  |succ F=>
   obtain⟨k,l,n,o⟩:=zsx hm e hi
   have a:=qy b
   rw [List.length_cons] at hF j
   unfold vz
   rw [ze a,yn,c,wu (by omega),ze k,ze a,ze l,n,o,ze ⟨by rw [List.length_singleton];omega,by rw [List.length_singleton];omega⟩,ze a,ze (qy f),yn,g,ih F _ (by omega) (by rw [List.length_append,List.length_singleton];omega),List.append_assoc];rfl
theorem q0i{t:Sb}{lf s p:Nat}{os:List Int}(h:Wk m t.fA lf s p os): ∀ F,os.length<F→ ∃ r:Nat,z0e 5000 m t F (s:Int) (p:Int)=some (r:Int)∧r<t.fA.length∧(t.fA.getD r default).fE=(lf:Int):=by
 induction h with
 | @leaf s p b hi c=>
  intro F hF
  cases F with
  |zero=>exact absurd hF (Nat.not_lt_zero _)
  |succ F=>
   refine⟨p,?_,b,c⟩
   unfold z0e
   rw [ze (fun _=>qy b),yn,decide_eq_false (show¬(t.fA.getD p default).fB≠ -1 from fun h=>h hi),Bool.and_false];rfl
 | @step s p i q os b hi e d f g v ih=>
  intro F hF
  cases F with
  |zero=>exact absurd hF (Nat.not_lt_zero _)
  |succ F=>
   obtain⟨j,k,l,n⟩:=zsx hm e hi
   have a:=qy b
   rw [List.length_cons] at hF
   obtain⟨r,o,u⟩:=ih F (by omega)
   refine⟨r,?_,u⟩
   unfold z0e
   rw [ze (fun _=>a),yn,d,decide_eq_true (show (p:Int)≠ -1 by omega),decide_eq_true (show (i:Int)≠ -1 by omega)]
   refine(ct rfl).trans ?_
   rw [ze j,ze a,ze k,l,n,ze a,ze (qy f),yn,g,o]
theorem q9a{t:Sb}{outs:List Int}(A:outs.length≤1000){lf s p:Nat}{os:List Int}(h:Wk m t.fA lf s p os): ∀ F j,os.length<F→j≤outs.length→outs.drop j=os→ ∃ r:Nat,ax 5000 t outs F (p:Int) (j:Int)=some (Ex.go (r:Int))∧r<t.fA.length∧(t.fA.getD r default).fB= -1∧(t.fA.getD r default).fE=(lf:Int):=by
 induction h with
 | @leaf s p d hi e=>
  intro F j hF n b
  cases F with
  |zero=>exact absurd hF (Nat.not_lt_zero _)
  |succ F=>
   have:outs.length≤j:=List.drop_eq_nil_iff.1 b
   refine⟨p,?_,d,hi,e⟩
   unfold ax
   rw [um (by omega)]
 | @step s p i q os d hi B f o u v ih=>
  intro F j hF n b
  cases F with
  |zero=>exact absurd hF (Nat.not_lt_zero _)
  |succ F=>
   have g:=qy d
   rw [List.length_cons] at hF
   have c:j<outs.length:=by
    refine Nat.lt_of_not_le fun h=>?_
    rw [List.drop_eq_nil_iff.2 h] at b;cases b
   rw [zy0 hm c] at b
   obtain⟨w,x⟩:=List.cons.inj b
   have hqlt:=v.lt
   obtain⟨r,y,z⟩:=ih F (j+1) (by omega) (by omega) x
   refine⟨r,?_,z⟩
   unfold ax
   have k:ix outs (j:Int)=(rz m s i:Int):=by rw [yn];exact w
   have l:ix (t.fA.getD p default).fC (rz m s i:Int)=(q:Int):=by rw [yn];exact u
   have a:=qy o
   rw [wu (by omega),ze (qy c),ze g,yn t.fA,f,um (by omega),k,ze (fun _=>a),ze (fun _=>a),l,decide_eq_false (show¬(rz m s i:Int)<0 by omega),decide_eq_false (show¬((t.fA.getD p default).fC.length:Int)≤(rz m s i:Int) by omega),decide_eq_false (show¬(q:Int)<0 by omega),decide_eq_false (show¬(t.fA.length:Int)≤(q:Int) by omega)]
   refine(cf rfl).trans ?_
   rw [ze a,ze (qm (by omega)),kz,y]
theorem zyv{t:Sb}(c:TF m t):z1e 5000 t t=some true:=by
 have d:=c.le
 have f:=hm.ok.o2
 have key: ∀ F k,k≤t.fA.length→t.fA.length-k<F→oo 5000 t t F (k:Int)=some (Ex.go ()):=by
  intro F
  induction F with
  |zero=>intro k _ h;omega
  |succ F ih=>
   intro k i hF
   unfold oo
   by_cases e:k=t.fA.length
   ·rw [um (by omega)]
   ·have a:okI t.fA (k:Int):=qy (by omega)
    have g:=zdf (c.ok k (by omega))
    have b:(ix t.fA (k:Int)).fC.length≤2000:=by rw [yn];omega
    rw [wu (by omega),ze a,ze a,ze (fun _=>a),ze (fun _=>a),ze (fun _=>a),ze (fun _=>a),decide_eq_false (fun h=>h rfl),decide_eq_false (fun h=>h rfl)]
    refine(qc (zjx rfl (q2q b))).trans ?_
    rw [decide_eq_true rfl]
    refine(cf rfl).trans ?_
    rw [ze (qm (by omega)),kz]
    exact ih (k+1) (by omega) (by omega)
 unfold z1e
 rw [um (fun h=>h rfl),qc (show oo 5000 t t 5000 0=_ from key 5000 0 (Nat.zero_le _) (by omega))];rfl
section
variable (h : 0 ≤ FT m (num m.rows.length (z1t m)))
include h
theorem zl8:TF m ⟨z4o m⟩∧stk m (z4o m) 0 [0]=true:=by
 have c:=zh9 hm h
 have d:=(zej hm (z2w (n:=m.rows.length) (L:=z1t m))).2
 have b:=q90 hm 5000 (z1t m) (z1t m) 0 c (by omega) (fun s b=>List.mem_range.1 b) [] []
 rw [List.append_nil] at b
 have a:stk m (z4o m) 0 [0]=true:=b.trans rfl
 have e:=q1s hm (g:=5000) (n0:=0) c (by omega)
 exact⟨qa7 (t:=⟨z4o m⟩) a (by show (gT m 5000 (z1t m) (z1t m) 0).length≤1024;omega),a⟩
theorem zp6{s:Nat}(b:s<m.rows.length): ∃ os,Wk m (z4o m) s s 0 os∧os.length≤63:=by
 have d:=zh9 hm h
 have e:=(zej hm (z2w (n:=m.rows.length) (L:=z1t m))).2
 obtain⟨os,c,f⟩:=q6b hm 5000 (z1t m) (z1t m) 0 d (by omega) [] [] rfl s (by unfold z1t;rw [List.length_range];exact b)
 have a:(z1t m).getD s default=s:=by unfold z1t;rw [List.getD_eq_getElem?_getD,List.getElem?_range b];rfl
 rw [a,List.append_nil,List.nil_append] at c
 exact⟨os,c,by omega⟩
theorem zws:z5b 5000 m ⟨z4o m⟩=some 0:=by
 have i:=hm.r6
 obtain⟨a,b⟩:=zl8 hm h
 have key: ∀ F s,s≤m.rows.length→m.rows.length-s<F→z0d 5000 m ⟨z4o m⟩ F (s:Int)=some (Ex.go ()):=by
  intro F
  induction F with
  |zero=>intro s _ h;omega
  |succ F ih=>
   intro s j hF
   unfold z0d
   by_cases e:s=m.rows.length
   ·rw [um (by omega)]
   ·obtain⟨os,c,k⟩:=zp6 hm h (show s<m.rows.length by omega)
    obtain⟨r,d,f,g⟩:=q0i hm (t:=⟨z4o m⟩) c 5000 (by omega)
    rw [wu (by omega),qc (show z0e 5000 m ⟨z4o m⟩ 5000 (s:Int) 0=some (r:Int) from d),ze (fun _=>qy f),yn,g,decide_eq_false (show¬(r:Int)= -1 by omega),decide_eq_false (fun h=>h rfl)]
    refine(cf rfl).trans ?_
    rw [ze (qm (by omega)),kz]
    exact ih (s+1) (by omega) (by omega)
 rw [zvt hm a.le b,qc (show z0d 5000 m ⟨z4o m⟩ 5000 0=_ from key 5000 0 (Nat.zero_le _) (by omega))];rfl
theorem zrq:z1m 5000 ⟨z4o m⟩=some (FT m (num m.rows.length (z1t m))):=by
 have b:=zh9 hm h
 have c:=(zej hm (z2w (n:=m.rows.length) (L:=z1t m))).2
 have a:=q9x hm 5000 (z1t m) (z1t m) 0 b (by omega) []
 rw [List.append_nil] at a
 rw [q0p hm (zl8 hm h).1]
 exact congrArg some a
theorem zw7{y:Int}: ∀ F s,s≤m.rows.length→m.rows.length-s<F→vv 5000 m ((⟨z4o m⟩:Sb),y) F (s:Int)=some (Ex.go ()):=by
 have k:=hm.r6
 obtain⟨d,l⟩:=zl8 hm h
 intro F
 induction F with
 |zero=>intro s _ h;omega
 |succ F ih=>
  intro s n hF
  unfold vv
  by_cases e:s=m.rows.length
  ·rw [um (by omega)]
  ·obtain⟨os,c,o⟩:=zp6 hm h (show s<m.rows.length by omega)
   have a:=q8y hm (y:=((⟨z4o m⟩:Sb),y)) c 5000 [] (by omega) (by rw [List.length_nil];omega)
   rw [List.nil_append] at a
   obtain⟨r,f,g,i,j⟩:=q9a hm (t:=⟨z4o m⟩) (outs:=os) (by omega) c 5000 0 (by omega) (Nat.zero_le _) rfl
   have b:z0f 5000 ⟨z4o m⟩ os=some ((s:Int),0):=by
    have p:=d.pos
    unfold z0f
    rw [um (by omega),qc (show ax 5000 ⟨z4o m⟩ os 5000 0 0=some (Ex.go (r:Int)) from f),zgl,ze (qy g),yn,wu i,j]
   rw [wu (by omega),qc (show vz 5000 m ((⟨z4o m⟩:Sb),y) 5000 [] (s:Int) 0=some os from a),qc (show z0f 5000 (⟨((⟨z4o m⟩:Sb),y).1.fA⟩:Sb) os=some ((s:Int),0) from b)]
   dsimp only
   rw [decide_eq_false (fun h=>h rfl),decide_eq_false (fun h=>h rfl)]
   refine(cf rfl).trans ?_
   rw [ze (qm (by omega)),kz]
   exact ih (s+1) (by omega) (by omega)
end
end
theorem q2p{x:Sj}(t:CDOk x.fM):z08 5000 x=some true:=by
 obtain⟨m,u,hm,D,E⟩:=qbo t
 have F:=hm.pos
 have G:=hm.toCM.nin
 have i:=z4z hm
 have c:=zyd hm
 have v:=zej hm (z2w (n:=m.rows.length) (L:=z1t m))
 obtain⟨b,y,r⟩:=zsi hm (mo:=6) (by decide) (qd4 (by omega) (by decide))
 have j:in64 (((mpR (2^m.rows.length) (FT m)).length:Int)-1):=by
  have H:(mpR (2^m.rows.length) (FT m)).length≤64:=by rw [z5r];exact i
  exact qm (by omega)
 unfold z08
 rw [qc u,qc (show z5c 5000 (⟨m.inputs,m.outputs,m.rows⟩:Mach)=_ from zuv hm),qc (show z14 5000 (⟨m.inputs,m.outputs,m.rows⟩:Mach)=_ from zt5 hm),qc (show z2o 5000 (⟨m.inputs,m.outputs,m.rows⟩:Mach) 6=some b from y)]
 by_cases h:0≤FT m (num m.rows.length (z1t m))
 ·rw [if_pos h,if_pos h]
  obtain⟨z,I⟩:=zl8 hm h
  have k:=zyv hm z
  have l:=zws hm h
  have d:=zrq hm h
  refine(cf rfl).trans ?_
  dsimp only
  refine(qc (zjx rfl k)).trans ?_
  have A:decide (((z4o m).length:Int)≠((z4o m).length:Int))=false:=decide_eq_false fun h=>h rfl
  rw [A]
  refine(qc (zjx rfl (show z5b 5000 (⟨m.inputs,m.outputs,m.rows⟩:Mach) ⟨z4o m⟩=some 0 from l))).trans ?_
  have hend:(bd (om 5000 (⟨m.inputs,m.outputs,m.rows⟩:Mach)) fun a=>
   bd (z1m 5000 (⟨z4o m⟩:Sb)) fun e=>
   gd (in64 ((↑a.length:Int)-1))<|
   gd (okI a ((↑a.length:Int)-1))<|
   bif decide (e≠(ix a ((↑a.length:Int)-1))) then(
   some false) else(
   bd (
   vv 5000 m ((⟨z4o m⟩:Sb),0) 5000 0) fun f=>
   Ex.on f (fun s=>
   bd (z13 5000) fun g=>
   some g) some))=some true:=by
   rw [qc (show om 5000 (⟨m.inputs,m.outputs,m.rows⟩:Mach)=_ from zk2 hm),qc d,ze j,ze c.1,c.2,um (fun h=>h rfl),qc (show vv 5000 m ((⟨z4o m⟩:Sb),0) 5000 0=_ from zw7 hm h 5000 0 (Nat.zero_le _) (by omega)),zgl,qc ztz]
  rcases r with⟨w,rfl,B,o,p,_⟩|⟨rfl,_⟩
  ·have C:=q3i hm o (by omega) p
   refine(qc (zjx rfl d)).trans ?_
   have q:decide ((w.length:Int)<((some (FT m (num m.rows.length (z1t m))):Option Int).getD default))=false:=decide_eq_false (by show¬(w.length:Int)<FT m (num m.rows.length (z1t m));omega)
   rw [q]
   exact(cf rfl).trans hend
  ·refine(qc (zta rfl)).trans ?_
   exact(cf rfl).trans hend
 ·rw [if_neg h,if_neg h]
  refine(ct rfl).trans ?_
  rcases r with⟨w,rfl,B,o,p,_⟩|⟨rfl,_⟩
  ·exact absurd (q3i hm o (by omega) p).1 h
  ·exact qc (zjx rfl ztz)
end GV
end Go.Proofs.Ytnnobdkjgafdmaa
