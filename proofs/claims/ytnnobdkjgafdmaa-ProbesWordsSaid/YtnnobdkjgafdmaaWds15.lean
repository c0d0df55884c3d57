import Derived.Test.YtnnobdkjgafdmaaPick15w
import Derived.Test.YtnnobdkjgafdmaaLives15
set_option linter.unusedVariables false
set_option linter.unusedSimpArgs false
set_option linter.unusedSectionVars false
namespace Go.Proofs.Ytnnobdkjgafdmaa
namespace GV
set_option maxRecDepth 100000
theorem zp9{a b:List Int}(h:a.length≤2000):ak 5000 ([a]:List (List Int)) ([b]:List (List Int))=some (decide (a=b)):=by
 have c:=q0c (N:=5000) (a:=a) (b:=b) (by omega) (by omega)
 have d:bv 5000 [a] [b] 5000 0=some (if a=b then Ex.go () else Ex.rt false):=by
  rw [bv,bq (by simp),zl ⟨by omega,by simp⟩,zl ⟨by omega,by simp⟩]
  rw [show ix [a] 0=a from rfl,show ix [b] 0=b from rfl,qg c]
  by_cases e:a=b
  ·rw [xh (fun h=>h ((cmpL_eq a b).2 e)),if_pos e,zl (by decide),bv,xh (by simp)]
  ·rw [bq (show cmpL a b≠0 from fun h=>e ((cmpL_eq a b).1 h)),if_neg e]
 unfold ak
 rw [xh (by simp),qg d]
 by_cases e:a=b
 ·rw [if_pos e,decide_eq_true e];rfl
 ·rw [if_neg e,decide_eq_false e];rfl
def zgf(m:Mach)(s:Nat)(w:List Int):Prop:= ∀ t:Nat,t<m.rows.length→t≠s→ig m (t:Int) w≠ig m (s:Int) w
section
variable {m : Mach} (hm : PM m)
include hm
theorem zzn{s:Nat}(b:s<m.rows.length){w:List Int}(a:WIn (nIn m) w)(c:w.length≤1000):fo 5000 m (s:Int) w=some (ig m (s:Int) w):=
 q0g hm.ok (.inr ⟨by omega,by omega⟩) (hm.toCM.wok.1 a) (by omega) (by omega)
theorem zg1{s t:Nat}(c:s<m.rows.length)(d:t<m.rows.length){w:List Int}(a:WIn (nIn m) w)(b:w.length≤1000):ik 5000 m w (s:Int) (t:Int)=some (!decide (ig m (s:Int) w=ig m (t:Int) w)):=by
 unfold ik
 rw [qg (zzn hm c a b),qg (zzn hm d a b),qg (zp9 (by rw [z7u];omega))]
theorem zim{s:Nat}(g:s<m.rows.length){w:List Int}(i:WIn (nIn m) w)(j:w.length≤1000): ∃ b,oo 5000 m w (s:Int)=some b∧(b=true↔zgf m s w):=by
 have o:=hm.r6
 obtain⟨r,l,n⟩:=z0m (σ:=Unit) (fun F k _=>vg 5000 m w (s:Int) F (k:Int)) m.rows.length (fun k _=> ∀ t,t<k→t≠s→ig m (t:Int) w≠ig m (s:Int) w)
  (fun r=>(r=Ex.rt false∧ ¬zgf m s w)∨(r=Ex.go ()∧zgf m s w)) (fun F k _ d hi=>by
   simp only [vg]
   rw [bq (by omega)]
   by_cases e:k=s
   ·subst e
    right
    refine⟨(),fun t c a=>?_,?_⟩
    ·exact hi t (by omega) a
    ·rw [decide_eq_false (show¬(k:Int)≠(k:Int) from fun h=>h rfl)]
     refine(qg (q2r rfl)).trans ?_
     refine(cf rfl).trans ?_
     rw [zl (j6 (by omega)),mq]
   ·rw [decide_eq_true (show (k:Int)≠(s:Int) by omega)]
    by_cases he:ig m (s:Int) w=ig m (k:Int) w
    ·left
     refine⟨Ex.rt false,?_,.inl ⟨rfl,fun h=>h k d e he.symm⟩⟩
     refine(qg (ztx rfl (zg1 hm g d i j))).trans ?_
     rw [decide_eq_true he];rfl
    ·right
     refine⟨(),fun t c a=>?_,?_⟩
     ·by_cases et:t=k
      ·subst et;exact fun h=>he h.symm
      ·exact hi t (by omega) a
     ·refine(qg (ztx rfl (zg1 hm g d i j))).trans ?_
      rw [decide_eq_false he]
      refine(cf rfl).trans ?_
      rw [zl (j6 (by omega)),mq])
  (fun F _ hi=>by
   simp only [vg]
   rw [xh (by omega)]
   exact⟨_,rfl,.inr ⟨rfl,fun t c a=>hi t c a⟩⟩) 5000 0 () (Nat.zero_le _) (by omega) (fun t c=>by omega)
 unfold oo
 rw [qg (show vg 5000 m w (s:Int) 5000 0=some r from l)]
 rcases n with⟨rfl,f⟩|⟨rfl,f⟩
 ·exact⟨false,rfl,⟨fun h=>(nomatch h),fun h=>absurd h f⟩⟩
 ·exact⟨true,rfl,⟨fun _=>f,fun _=>rfl⟩⟩
theorem zra{w:List Int}(f:WIn (nIn m) w)(g:w.length≤1000): ∃ b,z0d 5000 m w=some b∧(b=true↔ ∀ s,s<m.rows.length→zgf m s w):=by
 have n:=hm.r6
 obtain⟨r,i,j⟩:=z0m (σ:=Unit) (fun F k _=>yh 5000 m w F (k:Int)) m.rows.length (fun k _=> ∀ s,s<k→zgf m s w)
  (fun r=>(r=Ex.rt false∧ ¬ ∀ s,s<m.rows.length→zgf m s w)∨(r=Ex.go ()∧ ∀ s,s<m.rows.length→zgf m s w)) (fun F k _ c hi=>by
   simp only [yh]
   obtain⟨b,l,d⟩:=zim hm c f g
   rw [bq (by omega),qg l]
   cases b with
   |false=>exact .inl ⟨Ex.rt false,rfl,.inl ⟨rfl,fun h=>by have:=d.2 (h k c);cases this⟩⟩
   |true=>
    right
    refine⟨(),fun s o=>?_,?_⟩
    ·by_cases e:s=k
     ·subst e;exact d.1 rfl
     ·exact hi s (by omega)
    ·refine(cf rfl).trans ?_
     rw [zl (j6 (by omega)),mq])
  (fun F _ hi=>by
   simp only [yh]
   rw [xh (by omega)]
   exact⟨_,rfl,.inr ⟨rfl,hi⟩⟩) 5000 0 () (Nat.zero_le _) (by omega) (fun t p=>by omega)
 unfold z0d
 rw [qg (show yh 5000 m w 5000 0=some r from i)]
 rcases j with⟨rfl,a⟩|⟨rfl,a⟩
 ·exact⟨false,rfl,⟨fun h=>(nomatch h),fun h=>absurd h a⟩⟩
 ·exact⟨true,rfl,⟨fun _=>a,fun _=>rfl⟩⟩
/-! ### the program's words-/
theorem zzy{t s:Nat}:tb (((2^t:Nat):Nat):Int) s=decide (s=t):=by
 unfold tb
 rw [Int.toNat_natCast,Nat.testBit_two_pow]
 by_cases h:s=t
 ·rw [decide_eq_true h,decide_eq_true h.symm]
 ·rw [decide_eq_false h,decide_eq_false (fun e=>h e.symm)]
theorem zv1{s:Nat}(b:s<m.rows.length):Cnt m (l9 .u16 (1:Int) (s:Int))∧ ∀ w,Sep m (l9 .u16 (1:Int) (s:Int)) w↔zgf m s w:=by
 have c:=hm.r6
 rw [zio (by omega)]
 refine⟨⟨Int.natCast_nonneg _,Int.ofNat_lt.2 (Nat.pow_lt_pow_right (by decide) b)⟩,fun w=>⟨fun h=>h s (by rw [zzy hm];exact decide_eq_true rfl),fun h t a=>?_⟩⟩
 rw [zzy hm,decide_eq_true_iff] at a
 subst a
 exact h
theorem zv2:Cnt m (IntKind.u16.wrap ((l9 .u16 (1:Int) (m.rows.length:Int))-1))∧ ∀ w,Sep m (IntKind.u16.wrap ((l9 .u16 (1:Int) (m.rows.length:Int))-1)) w↔ ∀ s,s<m.rows.length→zgf m s w:=by
 have d:=hm.r6
 rw [zz4 _ (by omega)]
 obtain⟨a,b⟩:=z8z (fun _=>true) m.rows.length
 refine⟨⟨a,b⟩,fun w=>⟨fun h s c=>h s (by rw [zb9,decide_eq_true c];rfl),fun h s c=>?_⟩⟩
 rw [zb9,Bool.and_true,decide_eq_true_iff] at c
 exact h s c
def Told(m:Mach)(mo:Nat)(Q:List Int→Prop)(r:List Int×Int):Prop:=
 (∃ w,r=(w,0)∧w.length≤mo∧WIn (nIn m) w∧Q w∧ ∀ v,WIn (nIn m) v→Q v→lle w v)∨(r=([],7)∧ ∀ v,WIn (nIn m) v→v.length≤mo→ ¬Q v)
theorem zxh{s mo:Nat}(c:s<m.rows.length)(g:mo≤256)(i:nIn m^mo≤4096): ∃ r,z3d 5000 m (s:Int) (mo:Int)=some r∧Told m mo (zgf m s) r:=by
 have q:=hm.r6
 obtain⟨l,j⟩:=zv1 hm c
 obtain⟨r,n,o⟩:=zkt hm l g i
 refine⟨r,?_,?_⟩
 ·unfold z3d
  rw [qg hm.ready_eq,xh (fun h=>h rfl),decide_eq_false (show¬(s:Int)<0 by omega),decide_eq_false (show¬(m.rows.length:Int)≤(s:Int) by omega),decide_eq_false (show¬(mo:Int)<0 by omega),decide_eq_false (show¬(256:Int)<(mo:Int) by omega)]
  refine(cf rfl).trans ?_
  rw [zl ⟨by omega,by show (s:Int)≤16;omega⟩,qg n]
 ·rcases o with⟨w,a,b,d,e,f⟩|⟨a,b⟩
  ·exact .inl ⟨w,a,b,d,(j w).1 e,fun v k c=>f v k ((j v).2 c)⟩
  ·exact .inr ⟨a,fun v k p c=>b v k p ((j v).2 c)⟩
theorem zp1{mo:Nat}(c:mo≤256)(g:nIn m^mo≤4096): ∃ r,z0v 5000 m (mo:Int)=some r∧Told m mo (fun w=> ∀ s,s<m.rows.length→zgf m s w) r:=by
 have q:=hm.r6
 obtain⟨l,i⟩:=zv2 hm
 obtain⟨r,n,o⟩:=zkt hm l c g
 refine⟨r,?_,?_⟩
 ·unfold z0v
  rw [qg hm.ready_eq,xh (fun h=>h rfl),decide_eq_false (show¬(mo:Int)<0 by omega),decide_eq_false (show¬(256:Int)<(mo:Int) by omega)]
  refine(cf rfl).trans ?_
  rw [zl ⟨by omega,by show (m.rows.length:Int)≤16;omega⟩,qg n]
 ·rcases o with⟨w,a,b,d,e,f⟩|⟨a,b⟩
  ·exact .inl ⟨w,a,b,d,(i w).1 e,fun v j k=>f v j ((i v).2 k)⟩
  ·exact .inr ⟨a,fun v j p k=>b v j p ((i v).2 k)⟩
/-! ### the reference's words-/
def q1e(m:Mach)(mo:Nat)(Q:List Int→Prop)(r:List Int×Bool):Prop:=
 (∃ w,r=(w,true)∧w.length≤mo∧WIn (nIn m) w∧Q w∧ ∀ v,WIn (nIn m) v→Q v→lle w v)∨(r=([],false)∧ ∀ v,WIn (nIn m) v→v.length≤mo→ ¬Q v)
theorem zpa{mo:Nat}(d:mo≤6)(I:m.inputs≤3){Q:List Int→Prop}{L:Nat→Int→Option (Ex Unit (List Int×Bool))}{q:List Int→Option Bool}(x: ∀ w,WIn (nIn m) w→w.length≤1000→ ∃ b,q w=some b∧(b=true↔Q w))
 (hstep: ∀ F (j:Nat),L (F+1) (j:Int)=bif decide ((j:Int)<(((z4c (nIn m) (mo+1)).length:Nat):Int)) then(gd (okI (z4c (nIn m) (mo+1)) (j:Int))<|bd (q (ix (z4c (nIn m) (mo+1)) (j:Int))) fun f=>bif f then(gd (okI (z4c (nIn m) (mo+1)) (j:Int))<|some (Ex.rt ((ix (z4c (nIn m) (mo+1)) (j:Int)),true))) else(gd (in64 ((j:Int)+1))<|L F ((j:Int)+1))) else some (Ex.go ())):
 ∃ r,(bd (L 5000 0) fun g=>Ex.on g (fun y=>some (([]:(List Int)),false)) some)=some r∧q1e m mo Q r:=by
 have J:=hm.toCM.nin
 obtain⟨_,z⟩:=zmu (N:=5000) (ni:=nIn m) (k:=mo) (by omega) (by omega) d
 have A: ∃ r,L 5000 0=some r∧((∃ w,r=Ex.rt (w,true)∧w.length≤mo∧WIn (nIn m) w∧Q w∧ ∀ v,WIn (nIn m) v→Q v→lle w v)∨(r=Ex.go ()∧ ∀ v,WIn (nIn m) v→v.length≤mo→ ¬Q v)):=by
  refine z0m (σ:=Unit) (fun F j _=>L F (j:Int)) (z4c (nIn m) (mo+1)).length (fun j _=> ∀ i,i<j→ ¬Q ((z4c (nIn m) (mo+1)).getD i default)) _ (fun F j _ c hi=>?_) (fun F _ hi=>?_) 5000 0 () (Nat.zero_le _) (by omega) fun t K=>by omega
  ·obtain⟨M,p⟩:=zgm.1 (zea c)
   obtain⟨b,B,s⟩:=x _ p (by omega)
   simp only [hstep]
   rw [bq (by omega),zl (jf c),su,qg B]
   cases b with
   |true=>
    left
    rw [cond_true,zl (jf c)]
    refine⟨_,rfl,.inl ⟨_,rfl,by omega,p,s.1 rfl,fun v l n=>?_⟩⟩
    by_cases u:v.length<mo+1
    ·obtain⟨i,a,e⟩:=List.mem_iff_getElem.1 (zgm.2 ⟨u,l⟩)
     have e':(z4c (nIn m) (mo+1)).getD i default=v:=by rw [List.getD_eq_getElem?_getD,List.getElem?_eq_getElem a];exact e
     rcases Nat.lt_trichotomy i j with h|h|h
     ·exact absurd (by rw [e'];exact n) (hi i h)
     ·subst h;exact .inl e'
     ·right
      have:=List.pairwise_iff_getElem.1 (zvk (ni:=nIn m) (k:=mo+1)) j i c a h
      rw [List.getD_eq_getElem?_getD,List.getElem?_eq_getElem c,←e];exact this
    ·exact .inr (.inl (by omega))
   |false=>
    right
    rw [cond_false,zl (j6 (by omega)),mq]
    refine⟨(),fun i a=>?_,rfl⟩
    by_cases e:i=j
    ·subst e;exact fun h=>by have:=s.2 h;cases this
    ·exact hi i (by omega)
  ·simp only [hstep]
   rw [xh (by omega)]
   refine⟨_,rfl,.inr ⟨rfl,fun v C u D=>?_⟩⟩
   obtain⟨i,a,e⟩:=List.mem_iff_getElem.1 (zgm.2 ⟨show v.length<mo+1 by omega,C⟩)
   refine hi i a ?_
   rw [List.getD_eq_getElem?_getD,List.getElem?_eq_getElem a]
   rw [show (some ((z4c (nIn m) (mo+1))[i])).getD default=v from e];exact D
 obtain⟨r,E,G⟩:=A
 rw [qg E]
 rcases G with⟨w,rfl,H⟩|⟨rfl,o⟩
 ·exact⟨_,rfl,.inl ⟨w,rfl,H⟩⟩
 ·exact⟨_,rfl,.inr ⟨rfl,o⟩⟩
theorem zw3{s mo:Nat}(c:s<m.rows.length)(a:mo≤6)(d:m.inputs≤3): ∃ r,z0i 5000 m (s:Int) (mo:Int)=some r∧q1e m mo (zgf m s) r:=by
 have e:=hm.toCM.nin
 obtain⟨b,_⟩:=zmu (N:=5000) (ni:=nIn m) (k:=mo) (by omega) (by omega) a
 rw [e] at b
 unfold z0i
 rw [qg b]
 exact zpa hm a d (L:=fun F j=>iq 5000 m (s:Int) (z4c (nIn m) (mo+1)) F j) (fun w f g=>zim hm c f g) fun F j=>rfl
theorem zom{mo:Nat}(a:mo≤6)(c:m.inputs≤3): ∃ r,l5 5000 m (mo:Int)=some r∧q1e m mo (fun w=> ∀ s,s<m.rows.length→zgf m s w) r:=by
 have d:=hm.toCM.nin
 obtain⟨b,_⟩:=zmu (N:=5000) (ni:=nIn m) (k:=mo) (by omega) (by omega) a
 rw [d] at b
 unfold l5
 rw [qg b]
 exact zpa hm a c (L:=fun F j=>tu 5000 m (z4c (nIn m) (mo+1)) F j) (fun w e f=>zra hm e f) fun F j=>rfl
theorem zm1{mo:Nat}{Q:List Int→Prop}{r:List Int×Int}{q:List Int×Bool}(h:Told m mo Q r)(k:q1e m mo Q q):r.1=q.1∧((r.2=0∧q.2=true)∨(r.2=7∧q.2=false))∧r.1.length≤mo:=by
 rcases h with⟨w,rfl,e,f,g,l⟩|⟨rfl,a⟩
 ·rcases k with⟨v,rfl,i,c,d,j⟩|⟨rfl,b⟩
  ·exact⟨zwy (l v c d) (j w f g),.inl ⟨rfl,rfl⟩,e⟩
  ·exact absurd g (b w f e)
 ·rcases k with⟨v,rfl,i,c,d,j⟩|⟨rfl,b⟩
  ·exact absurd d (a v c i)
  ·exact⟨rfl,.inr ⟨rfl,rfl⟩,Nat.zero_le _⟩
end
theorem zx7{a b:List Int}(h:a.length≤2000):di 5000 a b=some (decide (a=b)):=by
 unfold di
 rw [qg (zp9 h)]
 have:decide ((a.length:Int)=(a.length:Int))=true:=decide_eq_true rfl
 first
  |(rw [this,Bool.and_true])
  |rfl
theorem q70{n mo:Nat}(a:n≤3)(hm:mo≤6):n^mo≤4096:=Nat.le_trans (Nat.pow_le_pow_left a mo) (Nat.le_trans (Nat.pow_le_pow_right (by decide) hm) (by decide))
theorem zpt{x:Sj}{s most:Int}(p:CDOk x.fK)(H:0≤s∧s≤255)(q:0≤most∧most≤255):og 5000 x s most=some true:=by
 obtain⟨m,r,hm,I,h⟩:=q4y p
 have J:=hm.pos
 have K:=hm.toCM.nin
 unfold og
 rw [qg r,zl (j6 (by omega)),zl ⟨by omega,by omega⟩,zl (j6 (by omega)),zl ⟨by omega,by omega⟩]
 obtain⟨k,t⟩: ∃ k:Nat,s%(m.rows.length:Int)=(k:Int):=⟨(s%(m.rows.length:Int)).toNat,by have:=Int.emod_nonneg s (show (m.rows.length:Int)≠0 by omega);omega⟩
 have f:k<m.rows.length:=by have:=Int.emod_lt_of_pos s (show (0:Int)<(m.rows.length:Int) by omega);omega
 obtain⟨n,g⟩: ∃ n:Nat,most%7=(n:Int):=⟨(most%7).toNat,by omega⟩
 have e:n≤6:=by omega
 rw [t,g]
 obtain⟨a,u,v⟩:=zxh hm f (show n≤256 by omega) (q70 (by omega) e)
 obtain⟨b,w,y⟩:=zp1 hm (show n≤256 by omega) (q70 (by omega) e)
 obtain⟨c,z,A⟩:=zw3 hm f e h
 obtain⟨d,B,C⟩:=zom hm e h
 obtain⟨D,E,L⟩:=zm1 hm v A
 obtain⟨f1,F,M⟩:=zm1 hm y C
 rw [qg (show z3d 5000 (⟨m.inputs,m.outputs,m.rows⟩:Mach) (k:Int) (n:Int)=some a from u),qg (show z0v 5000 (⟨m.inputs,m.outputs,m.rows⟩:Mach) (n:Int)=some b from w),
  qg (show z0i 5000 (⟨m.inputs,m.outputs,m.rows⟩:Mach) (k:Int) (n:Int)=some c from z),qg (show l5 5000 (⟨m.inputs,m.outputs,m.rows⟩:Mach) (n:Int)=some d from B)]
 have G:((((decide ((decide (a.2=0))≠c.2))||(decide ((decide (b.2=0))≠d.2)))||((decide (a.2≠0))&&(decide (a.2≠7))))||((decide (b.2≠0))&&(decide (b.2≠7))))=false:=by
  rcases E with⟨i,j⟩|⟨i,j⟩<;>rcases F with⟨l,o⟩|⟨l,o⟩<;>rw [i,j,l,o]<;>rfl
 rw [cf G,qg (zx7 (by omega)),decide_eq_true D]
 refine(qg (ztx rfl (zx7 (by omega)))).trans ?_
 rw [decide_eq_true f1]
 exact qg (ztx rfl q0a)
end GV
end Go.Proofs.Ytnnobdkjgafdmaa
