import Derived.Test.YtnnobdkjgafdmaaVw15c
set_option linter.unusedVariables false
set_option linter.unusedSimpArgs false
set_option linter.unusedSectionVars false
namespace Go.Proofs.Ytnnobdkjgafdmaa
namespace GV
set_option maxRecDepth 100000
abbrev Vw:=Option (Arr 6 Int)
def fmL(L:List (Vw×List Int)):List Sc:=L.filterMap fun p=>p.1.map fun v=>⟨v,p.2⟩
theorem zxd(L:List (Vw×List Int)):(fmL L).length≤L.length:=List.length_filterMap_le _ _
theorem zlf{v:Arr 6 Int}{w:List Int}{L:List (Vw×List Int)}:fmL ((some v,w)::L)=⟨v,w⟩::fmL L:=rfl
theorem zwz{L:List (Vw×List Int)}{p:Vw×List Int}:fmL (L++[p])=fmL L++fmL [p]:=List.filterMap_append ..
structure RelV (s:LS Vw) (Lp:List Sc) (M:List ((Arr 6 Int)×Bool)):Prop where
 lv:Lp=fmL s.1
 seen: ∀ v,z7i false M v=true↔(some v:Vw)∈s.2
theorem zik{next:Vw→Int→Vw}{x:Vw}{w:List Int}{s:LS Vw}: ∀ k,(zac next x w s k).1.length≤s.1.length+k
 |0=>Nat.le_refl _
 |k+1=>by
  have:=zik (next:=next) (x:=x) (w:=w) (s:=s) k
  show (zin (zac next x w s k) _ _).1.length≤_
  unfold zin
  split
  ·omega
  ·show (_++[_]).length≤_
   rw [List.length_append,List.length_singleton];omega
theorem zt4{next:Vw→Int→Vw}{x:Vw}{w:List Int}{s:LS Vw}{y:Vw}(h:y∈s.2): ∀ k,y∈(zac next x w s k).2
 |0=>h
 |k+1=>by
  have:=zt4 (next:=next) (x:=x) (w:=w) h k
  show y∈(zin (zac next x w s k) _ _).2
  unfold zin
  split
  ·exact this
  ·exact List.mem_append.2 (.inl this)
theorem zjc{m:Mach}{c:Int}{w:List Int}{s:LS Vw}(h:(none:Vw)∈s.2): ∀ k,zac (nxV m c) none w s k=s
 |0=>rfl
 |k+1=>by
  show zin (zac (nxV m c) none w s k) (nxV m c none (k:Int)) _=s
  rw [zjc h k]
  show zin s none _=s
  unfold zin
  rw [if_pos h]
theorem zsz{next:Vw→Int→Vw}{ni:Nat}: ∀ {L:List (Vw×List Int)} {s:LS Vw},(zec next ni s L).1.length≤s.1.length+L.length*ni
 | [],s=>by simp [zec]
 |p::L,s=>by
  have a:=zik (next:=next) (x:=p.1) (w:=p.2) (s:=s) ni
  have b:=zsz (next:=next) (ni:=ni) (L:=L) (s:=zac next p.1 p.2 s ni)
  show (zec next ni (zac next p.1 p.2 s ni) L).1.length≤_
  rw [List.length_cons,Nat.add_mul,Nat.one_mul];omega
theorem zoj{m:Mach}{c:Int}{ni:Nat}: ∀ {L:List (Vw×List Int)} {s:LS Vw},(∀ p∈L,p.1=none)→(L≠[]→(none:Vw)∈s.2)→zec (nxV m c) ni s L=s
 | [],s,_,_=>rfl
 |p::L,s,h,a=>by
  have b:=h p (List.mem_cons_self ..)
  show zec (nxV m c) ni (zac (nxV m c) p.1 p.2 s ni) L=s
  rw [b,zjc (a (List.cons_ne_nil p L))]
  exact zoj (fun q d=>h q (List.mem_cons_of_mem _ d)) fun _=>a (List.cons_ne_nil p L)
theorem zoh{m:Mach}{c:Int}{ni:Nat}: ∀ {g:Nat} {L:List (Vw×List Int)} {S:List Vw},(∀ p∈L,p.1=none)→(∀ p∈L,p.1∈S)→zht (nxV m c) (isV c) ni g L S=none
 |0,_,_,_,_=>rfl
 |g+1,L,S,h,b=>by
  unfold zht
  by_cases hL:L=[]
  ·rw [if_pos hL]
  ·rw [if_neg hL]
   have d:L.find? (fun p=>isV c p.1)=none:=List.find?_eq_none.2 fun p a=>by rw [h p a];exact fun h=>nomatch h
   rw [d]
   have e:(none:Vw)∈S:=by
    obtain⟨p,a⟩:=List.exists_mem_of_ne_nil _ hL
    have:=b p a
    rw [h p a] at this;exact this
   show zht (nxV m c) (isV c) ni g (zec (nxV m c) ni ([],S) L).1 (zec (nxV m c) ni ([],S) L).2=none
   rw [zoj h fun _=>e]
   exact zoh (fun p a=>absurd a List.not_mem_nil) fun p a=>absurd a List.not_mem_nil
theorem q6f{L:List (Vw×List Int)}(h:fmL L=[]): ∀ p∈L,p.1=none:=fun p a=>by
 unfold fmL at h
 rw [List.filterMap_eq_nil_iff] at h
 have:=h p a
 cases hp1:p.1 with
 |none=>rfl
 |some v=>rw [hp1] at this;cases this
theorem zst{next:Vw→Int→Vw}{isb:Vw→Bool}{ni:Nat}{a:Vw}{w:List Int}: ∀ {g k:Nat} {L:List (Vw×List Int)} {S:List Vw},LI next isb ni a k L S→zht next isb ni g L S=some w→w.length<k+g
 |0,k,L,S,h,e=>by cases e
 |g+1,k,L,S,h,e=>by
  unfold zht at e
  by_cases hL:L=[]
  ·rw [if_pos hL] at e;cases e
  ·rw [if_neg hL] at e
   cases hf:L.find? (fun p=>isb p.1) with
   |some p=>
    rw [hf] at e
    obtain rfl:=Option.some.inj e
    have:=(h.wd p (List.mem_of_find?_eq_some hf)).1
    omega
   |none=>
    rw [hf] at e
    have:=zst (zks h fun p b=>by simpa using List.find?_eq_none.1 hf p b) e
    omega
section
variable {m : Mach} (hm : PM m) {c : Int} (hc : Cnt m c)
def znj(m:Mach)(c:Int)(p:Vw×List Int):Prop:=WIn (nIn m) p.2∧p.1=runT (nxV m c) (some (vw m c [])) p.2∧p.2.length≤300
include hm hc
theorem zm2{v:Arr 6 Int}{w:List Int}(h:znj m c (some v,w)):Good m c w∧v=vw m c w:=by
 obtain⟨e,d,_⟩:=h
 have d:some v=runT (nxV m c) (some (vw m c [])) w:=d
 obtain⟨a,b⟩:=zw4 hm hc _ w rfl e
 by_cases hg:Good m c w
 ·rw [a hg] at d;exact⟨hg,Option.some.inj d⟩
 ·rw [b hg] at d;cases d
theorem zh8{mo k q:Nat}{X:List Sc}{v:Arr 6 Int}{w:List Int}(t:k<mo)(p:ix X (q:Int)=⟨v,w⟩)(b:znj m c (some v,w)){s0:LS Vw}(d:s0.1.length≤1000000):
 ∀ F j Lp M,j≤nIn m→nIn m-j<F→RelV (zac (nxV m c) (some v) w s0 j) Lp M→ ∃ M' Lp',ig 5000 m c (mo:Int) X (k:Int) (q:Int) F (j:Int) M Lp=some (M',Lp')∧RelV (zac (nxV m c) (some v) w s0 (nIn m)) Lp' M'
 |0,j,_,_,_,h,_=>by omega
 |F+1,j,Lp,M,I,hF,a=>by
  have J:=hm.toCM.nin
  have B:=hm.ok.i2
  unfold ig
  by_cases e:j=nIn m
  ·subst e
   rw [um (by omega)]
   exact⟨_,_,rfl,a⟩
  ·have hj':j<nIn m:=by omega
   obtain⟨A,rfl⟩:=zm2 hm hc b
   obtain⟨r,v',C,D,g⟩:=zqu hm hc b.1 A hj'
   have i:=zyj hm hc b.1 A hj'
   have K:=zik (next:=nxV m c) (x:=some (vw m c w)) (w:=w) (s:=s0) j
   have E:=zxd (zac (nxV m c) (some (vw m c w)) w s0 j).1
   have u:=a.lv
   have G:Lp.length≤2000000:=by rw [u];omega
   have H:w.length≤300:=b.2.2
   have f:zac (nxV m c) (some (vw m c w)) w s0 (j+1)=zin (zac (nxV m c) (some (vw m c w)) w s0 j) (nxV m c (some (vw m c w)) (j:Int)) (w++[(j:Int)]):=rfl
   rw [wu (by omega),p]
   dsimp only
   rw [qc C,qc D]
   rcases g with⟨g,y⟩|⟨g,y,rfl⟩
   ·rw [g,Bool.false_and,Bool.false_and]
    have hR':RelV (zac (nxV m c) (some (vw m c w)) w s0 (j+1)) Lp M:=by
     rw [f,i.2 y]
     unfold zin
     by_cases hmem:(none:Vw)∈(zac (nxV m c) (some (vw m c w)) w s0 j).2
     ·rw [if_pos hmem];exact a
     ·rw [if_neg hmem]
      refine⟨?_,fun v=>?_⟩
      ·show Lp=fmL (_++[(none,_)])
       rw [zwz]
       show Lp=_++[]
       rw [List.append_nil];exact a.lv
      ·show _↔some v∈_++[none]
       rw [a.seen v,List.mem_append]
       exact⟨.inl,fun h=>h.resolve_right fun h=>by simp at h⟩
    obtain⟨M',Lp',l,n⟩:=zh8 t p b d F (j+1) Lp M (by omega) (by omega) hR'
    refine⟨M',Lp',?_,n⟩
    refine(qc (cf rfl)).trans ?_
    rw [ze (qm (by omega)),kz];exact l
   ·rw [g,Bool.true_and]
    have o:=i.1 y
    by_cases hmem:(some (vw m c (w++[(j:Int)])):Vw)∈(zac (nxV m c) (some (vw m c w)) w s0 j).2
    ·rw [(a.seen _).2 hmem]
     have hR':RelV (zac (nxV m c) (some (vw m c w)) w s0 (j+1)) Lp M:=by
      rw [f,o];unfold zin;rw [if_pos hmem];exact a
     obtain⟨M',Lp',l,n⟩:=zh8 t p b d F (j+1) Lp M (by omega) (by omega) hR'
     refine⟨M',Lp',?_,n⟩
     refine(qc (cf rfl)).trans ?_
     rw [ze (qm (by omega)),kz];exact l
    ·have z:z7i false M (vw m c (w++[(j:Int)]))=false:=by
      cases h:z7i false M (vw m c (w++[(j:Int)])) with
      |false=>rfl
      |true=>exact absurd ((a.seen _).1 h) hmem
     rw [z,decide_eq_true (show (k:Int)<(mo:Int) by omega)]
     have hR':RelV (zac (nxV m c) (some (vw m c w)) w s0 (j+1)) (Lp++[⟨vw m c (w++[(j:Int)]),w++[(j:Int)]⟩]) (z8z M (vw m c (w++[(j:Int)])) true):=by
      rw [f,o]
      unfold zin
      rw [if_neg hmem]
      refine⟨?_,fun v=>?_⟩
      ·show _=fmL (_++[(some _,_)])
       rw [zwz,a.lv];rfl
      ·show _↔some v∈_++[some (vw m c (w++[(j:Int)]))]
       rw [znb,List.mem_append,List.mem_singleton]
       by_cases e2:v=vw m c (w++[(j:Int)])
       ·rw [if_pos e2];exact⟨fun _=> .inr (by rw [e2]),fun _=>rfl⟩
       ·rw [if_neg e2,a.seen v]
        exact⟨.inl,fun h=>h.resolve_right fun h=>e2 (Option.some.inj h)⟩
     obtain⟨M',Lp',l,n⟩:=zh8 t p b d F (j+1) _ _ (by omega) (by omega) hR'
     refine⟨M',Lp',?_,n⟩
     refine(qc (x:=(z8z M (vw m c (w++[(j:Int)])) true,Lp++[⟨vw m c (w++[(j:Int)]),w++[(j:Int)]⟩])) ((ct rfl).trans ?_)).trans ?_
     ·rw [qc (zxr),ze (by constructor<;>simp<;>omega),ze (by constructor<;>simp<;>omega)]
     ·rw [ze (qm (by omega)),kz];exact l
theorem zmj{mo k:Nat}{X:List Sc}(g:k<mo): ∀ (L:List (Vw×List Int)) (F q:Nat) (s:LS Vw) (Lp:List Sc) (M:List ((Arr 6 Int)×Bool)),fmL L=X.drop q→q≤X.length→X.length-q<F→(∀ p∈L,znj m c p∧p.1∈s.2)→s.1.length+L.length*16≤1000000→X.length≤4096→RelV s Lp M→
 ∃ Lp' M',ma 5000 m c (mo:Int) X (k:Int) F Lp (q:Int) M=some (Lp',M')∧RelV (zec (nxV m c) (nIn m) s L) Lp' M'
 | [],F,q,s,Lp,M,a,i,hF,_,_,_,e=>by
  have o:X.length≤q:=List.drop_eq_nil_iff.1 a.symm
  cases F with
  |zero=>omega
  |succ F=>
   unfold ma
   rw [um (by omega)]
   exact⟨_,_,rfl,e⟩
 |(none,w)::L,F,q,s,Lp,M,a,i,hF,d,j,b,e=>by
  have r:=(d _ (List.mem_cons_self ..)).2
  show ∃ Lp' M',_∧RelV (zec (nxV m c) (nIn m) (zac (nxV m c) none w s (nIn m)) L) Lp' M'
  rw [zjc r]
  exact zmj g L F q s Lp M a i hF (fun p f=>d p (List.mem_cons_of_mem _ f)) (by rw [List.length_cons] at j;omega) b e
 |(some v,w)::L,F,q,s,Lp,M,a,i,hF,d,j,b,e=>by
  rw [zlf] at a
  have hq':q<X.length:=by
   by_cases h:q<X.length
   ·exact h
   ·rw [List.drop_eq_nil_of_le (by omega)] at a;cases a
  rw [z6e _ _ hq'] at a
  obtain⟨t,u⟩:=List.cons.inj a
  have y:=d _ (List.mem_cons_self ..)
  rw [List.length_cons] at j
  cases F with
  |zero=>omega
  |succ F=>
   have z:=hm.ok.i2
   have C:=hm.toCM.nin
   unfold ma
   rw [wu (by omega),ze (qy hq')]
   obtain⟨l,n,A,B⟩:=zh8 hm hc (X:=X) (q:=q) g (by rw [yn];exact t.symm) y.1 (s0:=s) (by omega) 5000 0 Lp M (Nat.zero_le _) (by omega) e
   rw [qc (show ig 5000 m c (mo:Int) X (k:Int) (q:Int) 5000 0 M Lp=some (l,n) from A),ze (qm (by omega)),kz]
   have o:(zac (nxV m c) (some v,w).1 (some v,w).2 s (nIn m)).1.length≤_:=zik (next:=nxV m c) (x:=some v) (w:=w) (s:=s) (nIn m)
   exact zmj g L F (q+1) _ n l u (by omega) (by omega) (fun p f=>⟨(d p (List.mem_cons_of_mem _ f)).1,zt4 (d p (List.mem_cons_of_mem _ f)).2 _⟩) (by omega) b B
theorem zns{X:List Sc}: ∀ (L:List (Vw×List Int)) (F q:Nat),fmL L=X.drop q→q≤X.length→X.length-q<F→(∀ p∈L,znj m c p)→X.length≤4096→
 z0b 5000 c X F (q:Int)=some (match L.find? fun p=>isV c p.1 with|some p=>Ex.rt (Ex.rt (p.2,0))|none=>Ex.go ())
 | [],F,q,a,f,hF,_,_=>by
  have r:X.length≤q:=List.drop_eq_nil_iff.1 a.symm
  cases F with
  |zero=>omega
  |succ F=>
   unfold z0b
   rw [um (by omega)];rfl
 |(none,w)::L,F,q,a,f,hF,e,d=>by
  rw [List.find?_cons,show isV c (none,w).1=false from rfl]
  exact zns L F q a f hF (fun p g=>e p (List.mem_cons_of_mem _ g)) d
 |(some v,w)::L,F,q,a,f,hF,e,d=>by
  rw [zlf] at a
  have hq':q<X.length:=by
   by_cases h:q<X.length
   ·exact h
   ·rw [List.drop_eq_nil_of_le (by omega)] at a;cases a
  rw [z6e _ _ hq'] at a
  obtain⟨k,l⟩:=List.cons.inj a
  have i:=e _ (List.mem_cons_self ..)
  cases F with
  |zero=>omega
  |succ F=>
   obtain⟨n,rfl⟩:=zm2 hm hc i
   obtain⟨b,j,s⟩:=zxw hm hc i.1 n
   unfold z0b
   rw [wu (by omega),ze (qy hq'),yn,←k]
   dsimp only
   rw [qc j,List.find?_cons]
   have o:isV c ((some (vw m c w),w):Vw×List Int).1=b:=by
    show decide (z3t 5000 (vw m c w) c=some true)=b
    rw [j]
    cases b<;>rfl
   rw [o]
   cases b with
   |true=>
    refine(ct rfl).trans ?_
    rw [qc zxr]
   |false=>
    refine(cf rfl).trans ?_
    rw [ze (qm (by omega)),kz]
    exact zns L F (q+1) l (by omega) (by omega) (fun p g=>e p (List.mem_cons_of_mem _ g)) d
theorem zp9{mo q:Nat}{X:List Sc}{v:Arr 6 Int}{w:List Int}(b:ix X (q:Int)=⟨v,w⟩)(a:znj m c (some v,w)):
 ∀ F j Lp M,j≤nIn m→nIn m-j<F→ig 5000 m c (mo:Int) X (mo:Int) (q:Int) F (j:Int) M Lp=some (M,Lp)
 |0,j,_,_,_,h=>by omega
 |F+1,j,Lp,M,k,hF=>by
  have l:=hm.toCM.nin
  have d:=hm.ok.i2
  unfold ig
  by_cases e:j=nIn m
  ·subst e
   rw [um (by omega)]
  ·have hj':j<nIn m:=by omega
   obtain⟨f,rfl⟩:=zm2 hm hc a
   obtain⟨r,v',g,i,n⟩:=zqu hm hc a.1 f hj'
   rw [wu (by omega),b]
   dsimp only
   rw [qc g,qc i,decide_eq_false (show¬(mo:Int)<(mo:Int) by omega),Bool.and_false]
   refine(qc (cf rfl)).trans ?_
   rw [ze (qm (by omega)),kz]
   exact zp9 b a F (j+1) Lp M (by omega) (by omega)
theorem zjh{mo:Nat}{X:List Sc}: ∀ (L:List (Vw×List Int)) (F q:Nat) (Lp:List Sc) (M:List ((Arr 6 Int)×Bool)),fmL L=X.drop q→q≤X.length→X.length-q<F→(∀ p∈L,znj m c p)→X.length≤4096→
 ma 5000 m c (mo:Int) X (mo:Int) F Lp (q:Int) M=some (Lp,M)
 | [],F,q,Lp,M,a,e,hF,_,_=>by
  have l:X.length≤q:=List.drop_eq_nil_iff.1 a.symm
  cases F with
  |zero=>omega
  |succ F=>
   unfold ma
   rw [um (by omega)]
 |(none,w)::L,F,q,Lp,M,a,e,hF,d,b=>zjh L F q Lp M a e hF (fun p f=>d p (List.mem_cons_of_mem _ f)) b
 |(some v,w)::L,F,q,Lp,M,a,e,hF,d,b=>by
  rw [zlf] at a
  have hq':q<X.length:=by
   by_cases h:q<X.length
   ·exact h
   ·rw [List.drop_eq_nil_of_le (by omega)] at a;cases a
  rw [z6e _ _ hq'] at a
  obtain⟨g,i⟩:=List.cons.inj a
  have j:=d _ (List.mem_cons_self ..)
  cases F with
  |zero=>omega
  |succ F=>
   have k:=hm.ok.i2
   have n:=hm.toCM.nin
   unfold ma
   rw [wu (by omega),ze (qy hq')]
   rw [qc (show ig 5000 m c (mo:Int) X (mo:Int) (q:Int) 5000 0 M Lp=some (M,Lp) from zp9 hm hc (by rw [yn];exact g.symm) j 5000 0 Lp M (Nat.zero_le _) (by omega)),ze (qm (by omega)),kz]
   exact zjh L F (q+1) Lp M i (by omega) (by omega) (fun p f=>d p (List.mem_cons_of_mem _ f)) b
theorem zrv{mo:Nat}(n:mo≤256)(o:nIn m^mo≤4096): ∀ (g k:Nat) (L:List (Vw×List Int)) (S:List Vw) (F:Nat) (Lp:List Sc) (M:List ((Arr 6 Int)×Bool)),LI (nxV m c) (isV c) (nIn m) (some (vw m c [])) k L S→k+g=mo+1→1≤g→L.length≤nIn m^k→g+1<F→RelV (L,S) Lp M→
 ∃ r,z0c 5000 m c (mo:Int) F Lp (k:Int) M=some r∧Ex.on r (fun _=>some (([]:List Int),(7:Int))) some=some (match zht (nxV m c) (isV c) (nIn m) g L S with|some w=>(w,0)|none=>([],7))
 |0,k,L,S,F,Lp,M,_,_,h,_,_,_=>by omega
 |g+1,k,L,S,0,Lp,M,_,_,_,_,h,_=>by omega
 |g+1,k,L,S,F+1,Lp,M,i,x,_,q,hF,v=>by
  have H:=hm.toCM.nin
  have y:=hm.ok.i1
  have z:=hm.ok.i2
  have f:Lp=fmL L:=v.lv
  have t: ∀ p∈L,znj m c p:=fun p l=>by
   obtain⟨a,b,d⟩:=i.wd p l
   exact⟨b,d,by omega⟩
  have A:nIn m^k≤nIn m^mo:=Nat.pow_le_pow_right (by omega) (by omega)
  have B:=zxd L
  have j:Lp.length≤4096:=by rw [f];omega
  unfold z0c
  by_cases e:Lp.length=0
  ·rw [um (by omega)]
   refine⟨_,rfl,?_⟩
   have hnil:fmL L=[]:=by rw [←f];exact List.length_eq_zero_iff.1 e
   rw [zoh (q6f hnil) i.sub];rfl
  ·rw [wu (by omega)]
   have C:L≠[]:=fun h=>e (by rw [f,h];rfl)
   rw [qc (show z0b 5000 c Lp 5000 0=_ from zns hm hc L 5000 0 (by rw [List.drop_zero];exact f.symm) (Nat.zero_le _) (by omega) t j)]
   unfold zht
   rw [if_neg C]
   cases hf:L.find? (fun p=>isV c p.1) with
   |some p=>exact⟨Ex.rt (p.2,0),rfl,rfl⟩
   |none=>
    have u: ∀ p∈L,isV c p.1=false:=fun p l=>by simpa using List.find?_eq_none.1 hf p l
    show ∃ r,Ex.on (Ex.go ()) _ _=some r∧_
    rw [zgl]
    by_cases hlast:k=mo
    ·subst hlast
     obtain rfl:g=0:=by omega
     rw [qc (show ma 5000 m c (k:Int) Lp (k:Int) 5000 [] 0 M=some ([],M) from zjh hm hc L 5000 0 [] M (by rw [List.drop_zero];exact f.symm) (Nat.zero_le _) (by omega) t j),ze (qm (by omega))]
     cases F with
     |zero=>omega
     |succ F=>
      unfold z0c
      refine⟨_,um (by simp),rfl⟩
    ·have D:k<mo:=by omega
     obtain⟨Lp',M',E,G⟩:=zmj hm hc D L 5000 0 ([],S) [] M (by rw [List.drop_zero];exact f.symm) (Nat.zero_le _) (by omega) (fun p l=>⟨t p l,i.sub p l⟩) (by simp;omega) j ⟨rfl,v.seen⟩
     rw [qc (show ma 5000 m c (mo:Int) Lp (k:Int) 5000 [] 0 M=some (Lp',M') from E),ze (qm (by omega)),kz]
     have hlen:=zsz (next:=nxV m c) (ni:=nIn m) (L:=L) (s:=([],S))
     exact zrv n o g (k+1) _ _ F Lp' M' (zks i u) (by omega) (by omega) (by
      rw [Nat.pow_succ]
      have:=Nat.mul_le_mul_right (nIn m) q
      simp only [List.length_nil,Nat.zero_add] at hlen
      omega) (by omega) G
theorem zvs{mo:Nat}(i:mo≤256)(j:nIn m^mo≤4096): ∃ r,z5e 5000 m c (mo:Int)=some r∧
 ((∃ w,r=(w,0)∧w.length≤mo∧WIn (nIn m) w∧Sep m c w∧ ∀ v,WIn (nIn m) v→Sep m c v→lle w v)∨(r=([],7)∧ ∀ v,WIn (nIn m) v→v.length≤mo→ ¬Sep m c v)):=by
 have l:=hm.r6
 have f:LI (nxV m c) (isV c) (nIn m) (some (vw m c [])) 0 [(some (vw m c []),[])] [some (vw m c [])]:=q25
 obtain⟨r,n,o⟩:=zrv hm hc i j (mo+1) 0 [(some (vw m c []),[])] [some (vw m c [])] 5000 [⟨vw m c [],[]⟩] (z8z [] (vw m c []) true) f (by omega) (by omega) (by simp) (by omega)
  ⟨rfl,fun v=>by
   rw [znb,List.mem_singleton]
   by_cases e:v=vw m c []
   ·rw [if_pos e];exact⟨fun _=>by rw [e],fun _=>rfl⟩
   ·rw [if_neg e];exact⟨fun h=>(nomatch h),fun h=>absurd (Option.some.inj h) e⟩⟩
 have hrun:z5e 5000 m c (mo:Int)=some (match zht (nxV m c) (isV c) (nIn m) (mo+1) [(some (vw m c []),[])] [some (vw m c [])] with|some w=>(w,0)|none=>([],7)):=by
  unfold z5e
  rw [qc (q20 l),qc (q8d hm hc),ze ⟨by omega,by simp⟩]
  rw [qc (show z0c 5000 m c (mo:Int) 5000 ([(⟨vw m c [],[]⟩:Sc)]:List Sc) 0 (z8z ([]:List ((Arr 6 Int)×Bool)) ((ix ([(⟨vw m c [],[]⟩:Sc)]:List Sc) 0).fI) true)=some r from n),←o]
 refine⟨_,hrun,?_⟩
 cases e:zht (nxV m c) (isV c) (nIn m) (mo+1) [(some (vw m c []),[])] [some (vw m c [])] with
 |some w=>
  obtain⟨a,b,d⟩:=zov f e
  have hlen:=zst f e
  exact .inl ⟨w,rfl,by omega,a,(q1d hm hc a).1 b,fun v g k=>d v g ((q1d hm hc g).2 k)⟩
 |none=>
  refine .inr ⟨rfl,fun v g p k=>?_⟩
  have:=zop f e v g (by omega)
  rw [(q1d hm hc g).2 k] at this;cases this
end
end GV
end Go.Proofs.Ytnnobdkjgafdmaa
