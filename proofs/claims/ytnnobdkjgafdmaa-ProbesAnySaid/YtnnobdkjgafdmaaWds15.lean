import Derived.Test.YtnnobdkjgafdmaaPick15w
import Derived.Test.YtnnobdkjgafdmaaLives15
set_option linter.unusedVariables false
set_option linter.unusedSimpArgs false
set_option linter.unusedSectionVars false
namespace Go.Proofs.Ytnnobdkjgafdmaa
namespace GV
set_option maxRecDepth 100000
theorem zw0{a b:List Int}(h:a.length≤2000):aj 5000 ([a]:List (List Int)) ([b]:List (List Int))=some (decide (a=b)):=by
 have c:=zyb (N:=5000) (a:=a) (b:=b) (by omega) (by omega)
 have d:bg 5000 [a] [b] 5000 0=some (if a=b then Ex.go () else Ex.rt false):=by
  rw [bg,xu (by simp),zl ⟨by omega,by simp⟩,zl ⟨by omega,by simp⟩]
  rw [show ix [a] 0=a from rfl,show ix [b] 0=b from rfl,qc c]
  by_cases e:a=b
  ·rw [yo (fun h=>h ((cmpL_eq a b).2 e)),if_pos e,zl (by decide),bg,yo (by simp)]
  ·rw [xu (show cmpL a b≠0 from fun h=>e ((cmpL_eq a b).1 h)),if_neg e]
 unfold aj
 rw [yo (by simp),qc d]
 by_cases e:a=b
 ·rw [if_pos e,decide_eq_true e];rfl
 ·rw [if_neg e,decide_eq_false e];rfl
def zeo(m:Mach)(s:Nat)(w:List Int):Prop:= ∀ t:Nat,t<m.rows.length→t≠s→z05 m (t:Int) w≠z05 m (s:Int) w
section
variable {m : Mach} (hm : PM m)
include hm
theorem zue{s:Nat}(b:s<m.rows.length){w:List Int}(a:WIn (nIn m) w)(c:w.length≤1000):si 5000 m (s:Int) w=some (z05 m (s:Int) w):=
 zxw hm.ok (.inr ⟨by omega,by omega⟩) (hm.toCM.wok.1 a) (by omega) (by omega)
theorem ze8{s t:Nat}(c:s<m.rows.length)(d:t<m.rows.length){w:List Int}(a:WIn (nIn m) w)(b:w.length≤1000):ay 5000 m w (s:Int) (t:Int)=some (!decide (z05 m (s:Int) w=z05 m (t:Int) w)):=by
 unfold ay
 rw [qc (zue hm c a b),qc (zue hm d a b),qc (zw0 (by rw [z5w];omega))]
theorem zgz{s:Nat}(g:s<m.rows.length){w:List Int}(i:WIn (nIn m) w)(j:w.length≤1000): ∃ b,dz 5000 m w (s:Int)=some b∧(b=true↔zeo m s w):=by
 have o:=hm.r6
 obtain⟨r,l,n⟩:=z4q (σ:=Unit) (fun F k _=>wm 5000 m w (s:Int) F (k:Int)) m.rows.length (fun k _=> ∀ t,t<k→t≠s→z05 m (t:Int) w≠z05 m (s:Int) w)
  (fun r=>(r=Ex.rt false∧ ¬zeo m s w)∨(r=Ex.go ()∧zeo m s w)) (fun F k _ d hi=>by
   simp only [wm]
   rw [xu (by omega)]
   by_cases e:k=s
   ·subst e
    right
    refine⟨(),fun t c a=>?_,?_⟩
    ·exact hi t (by omega) a
    ·rw [decide_eq_false (show¬(k:Int)≠(k:Int) from fun h=>h rfl)]
     refine(qc (zjs rfl)).trans ?_
     refine(cf rfl).trans ?_
     rw [zl (jb (by omega)),yt]
   ·rw [decide_eq_true (show (k:Int)≠(s:Int) by omega)]
    by_cases he:z05 m (s:Int) w=z05 m (k:Int) w
    ·left
     refine⟨Ex.rt false,?_,.inl ⟨rfl,fun h=>h k d e he.symm⟩⟩
     refine(qc (zd9 rfl (ze8 hm g d i j))).trans ?_
     rw [decide_eq_true he];rfl
    ·right
     refine⟨(),fun t c a=>?_,?_⟩
     ·by_cases et:t=k
      ·subst et;exact fun h=>he h.symm
      ·exact hi t (by omega) a
     ·refine(qc (zd9 rfl (ze8 hm g d i j))).trans ?_
      rw [decide_eq_false he]
      refine(cf rfl).trans ?_
      rw [zl (jb (by omega)),yt])
  (fun F _ hi=>by
   simp only [wm]
   rw [yo (by omega)]
   exact⟨_,rfl,.inr ⟨rfl,fun t c a=>hi t c a⟩⟩) 5000 0 () (Nat.zero_le _) (by omega) (fun t c=>by omega)
 unfold dz
 rw [qc (show wm 5000 m w (s:Int) 5000 0=some r from l)]
 rcases n with⟨rfl,f⟩|⟨rfl,f⟩
 ·exact⟨false,rfl,⟨fun h=>(nomatch h),fun h=>absurd h f⟩⟩
 ·exact⟨true,rfl,⟨fun _=>f,fun _=>rfl⟩⟩
theorem zou{w:List Int}(f:WIn (nIn m) w)(g:w.length≤1000): ∃ b,ax 5000 m w=some b∧(b=true↔ ∀ s,s<m.rows.length→zeo m s w):=by
 have n:=hm.r6
 obtain⟨r,i,j⟩:=z4q (σ:=Unit) (fun F k _=>y5 5000 m w F (k:Int)) m.rows.length (fun k _=> ∀ s,s<k→zeo m s w)
  (fun r=>(r=Ex.rt false∧ ¬ ∀ s,s<m.rows.length→zeo m s w)∨(r=Ex.go ()∧ ∀ s,s<m.rows.length→zeo m s w)) (fun F k _ c hi=>by
   simp only [y5]
   obtain⟨b,l,d⟩:=zgz hm c f g
   rw [xu (by omega),qc l]
   cases b with
   |false=>exact .inl ⟨Ex.rt false,rfl,.inl ⟨rfl,fun h=>by have:=d.2 (h k c);cases this⟩⟩
   |true=>
    right
    refine⟨(),fun s o=>?_,?_⟩
    ·by_cases e:s=k
     ·subst e;exact d.1 rfl
     ·exact hi s (by omega)
    ·refine(cf rfl).trans ?_
     rw [zl (jb (by omega)),yt])
  (fun F _ hi=>by
   simp only [y5]
   rw [yo (by omega)]
   exact⟨_,rfl,.inr ⟨rfl,hi⟩⟩) 5000 0 () (Nat.zero_le _) (by omega) (fun t p=>by omega)
 unfold ax
 rw [qc (show y5 5000 m w 5000 0=some r from i)]
 rcases j with⟨rfl,a⟩|⟨rfl,a⟩
 ·exact⟨false,rfl,⟨fun h=>(nomatch h),fun h=>absurd h a⟩⟩
 ·exact⟨true,rfl,⟨fun _=>a,fun _=>rfl⟩⟩
/-! ### the program's words-/
theorem zv5{t s:Nat}:tb (((2^t:Nat):Nat):Int) s=decide (s=t):=by
 unfold tb
 rw [Int.toNat_natCast,Nat.testBit_two_pow]
 by_cases h:s=t
 ·rw [decide_eq_true h,decide_eq_true h.symm]
 ·rw [decide_eq_false h,decide_eq_false (fun e=>h e.symm)]
theorem zsy{s:Nat}(b:s<m.rows.length):Cnt m (su .u16 (1:Int) (s:Int))∧ ∀ w,Sep m (su .u16 (1:Int) (s:Int)) w↔zeo m s w:=by
 have c:=hm.r6
 rw [z6y (by omega)]
 refine⟨⟨Int.natCast_nonneg _,Int.ofNat_lt.2 (Nat.pow_lt_pow_right (by decide) b)⟩,fun w=>⟨fun h=>h s (by rw [zv5 hm];exact decide_eq_true rfl),fun h t a=>?_⟩⟩
 rw [zv5 hm,decide_eq_true_iff] at a
 subst a
 exact h
theorem zrz:Cnt m (IntKind.u16.wrap ((su .u16 (1:Int) (m.rows.length:Int))-1))∧ ∀ w,Sep m (IntKind.u16.wrap ((su .u16 (1:Int) (m.rows.length:Int))-1)) w↔ ∀ s,s<m.rows.length→zeo m s w:=by
 have d:=hm.r6
 rw [zpc _ (by omega)]
 obtain⟨a,b⟩:=z5h (fun _=>true) m.rows.length
 refine⟨⟨a,b⟩,fun w=>⟨fun h s c=>h s (by rw [z4s,decide_eq_true c];rfl),fun h s c=>?_⟩⟩
 rw [z4s,Bool.and_true,decide_eq_true_iff] at c
 exact h s c
def Told(m:Mach)(mo:Nat)(Q:List Int→Prop)(r:List Int×Int):Prop:=
 (∃ w,r=(w,0)∧w.length≤mo∧WIn (nIn m) w∧Q w∧ ∀ v,WIn (nIn m) v→Q v→lle w v)∨(r=([],7)∧ ∀ v,WIn (nIn m) v→v.length≤mo→ ¬Q v)
theorem zwe{s mo:Nat}(c:s<m.rows.length)(g:mo≤256)(i:nIn m^mo≤4096): ∃ r,z04 5000 m (s:Int) (mo:Int)=some r∧Told m mo (zeo m s) r:=by
 have q:=hm.r6
 obtain⟨l,j⟩:=zsy hm c
 obtain⟨r,n,o⟩:=zh7 hm l g i
 refine⟨r,?_,?_⟩
 ·unfold z04
  rw [qc hm.ready_eq,yo (fun h=>h rfl),decide_eq_false (show¬(s:Int)<0 by omega),decide_eq_false (show¬(m.rows.length:Int)≤(s:Int) by omega),decide_eq_false (show¬(mo:Int)<0 by omega),decide_eq_false (show¬(256:Int)<(mo:Int) by omega)]
  refine(cf rfl).trans ?_
  rw [zl ⟨by omega,by show (s:Int)≤16;omega⟩,qc n]
 ·rcases o with⟨w,a,b,d,e,f⟩|⟨a,b⟩
  ·exact .inl ⟨w,a,b,d,(j w).1 e,fun v k c=>f v k ((j v).2 c)⟩
  ·exact .inr ⟨a,fun v k p c=>b v k p ((j v).2 c)⟩
theorem zno{mo:Nat}(c:mo≤256)(g:nIn m^mo≤4096): ∃ r,aa 5000 m (mo:Int)=some r∧Told m mo (fun w=> ∀ s,s<m.rows.length→zeo m s w) r:=by
 have q:=hm.r6
 obtain⟨l,i⟩:=zrz hm
 obtain⟨r,n,o⟩:=zh7 hm l c g
 refine⟨r,?_,?_⟩
 ·unfold aa
  rw [qc hm.ready_eq,yo (fun h=>h rfl),decide_eq_false (show¬(mo:Int)<0 by omega),decide_eq_false (show¬(256:Int)<(mo:Int) by omega)]
  refine(cf rfl).trans ?_
  rw [zl ⟨by omega,by show (m.rows.length:Int)≤16;omega⟩,qc n]
 ·rcases o with⟨w,a,b,d,e,f⟩|⟨a,b⟩
  ·exact .inl ⟨w,a,b,d,(i w).1 e,fun v j k=>f v j ((i v).2 k)⟩
  ·exact .inr ⟨a,fun v j p k=>b v j p ((i v).2 k)⟩
/-! ### the reference's words-/
end
end GV
end Go.Proofs.Ytnnobdkjgafdmaa
