import Derived.Test.YtnnobdkjgafdmaaPick15w
import Derived.Test.YtnnobdkjgafdmaaLives15
set_option linter.unusedVariables false
set_option linter.unusedSimpArgs false
set_option linter.unusedSectionVars false
namespace Go.Proofs.Ytnnobdkjgafdmaa
namespace GV
set_option maxRecDepth 100000
theorem q2q{a b:List Int}(h:a.length≤2000):z1i 5000 ([a]:List (List Int)) ([b]:List (List Int))=some (decide (a=b)):=by
 have c:=q6x (N:=5000) (a:=a) (b:=b) (by omega) (by omega)
 have d:ol 5000 [a] [b] 5000 0=some (if a=b then Ex.go () else Ex.rt false):=by
  rw [ol,wu (by simp),ze ⟨by omega,by simp⟩,ze ⟨by omega,by simp⟩]
  rw [show ix [a] 0=a from rfl,show ix [b] 0=b from rfl,qc c]
  by_cases e:a=b
  ·rw [um (fun h=>h ((cmpL_eq a b).2 e)),if_pos e,ze (by decide),ol,um (by simp)]
  ·rw [wu (show cmpL a b≠0 from fun h=>e ((cmpL_eq a b).1 h)),if_neg e]
 unfold z1i
 rw [um (by simp),qc d]
 by_cases e:a=b
 ·rw [if_pos e,decide_eq_true e];rfl
 ·rw [if_neg e,decide_eq_false e];rfl
def q8s(m:Mach)(s:Nat)(w:List Int):Prop:= ∀ t:Nat,t<m.rows.length→t≠s→z1p m (t:Int) w≠z1p m (s:Int) w
section
variable {m : Mach} (hm : PM m)
include hm
/-! ### the program's words-/
theorem zze:Cnt m (IntKind.u16.wrap ((lh .u16 (1:Int) (m.rows.length:Int))-1))∧ ∀ w,Sep m (IntKind.u16.wrap ((lh .u16 (1:Int) (m.rows.length:Int))-1)) w↔ ∀ s,s<m.rows.length→q8s m s w:=by
 have d:=hm.r6
 rw [zwo _ (by omega)]
 obtain⟨a,b⟩:=z9c (fun _=>true) m.rows.length
 refine⟨⟨a,b⟩,fun w=>⟨fun h s c=>h s (by rw [z8h,decide_eq_true c];rfl),fun h s c=>?_⟩⟩
 rw [z8h,Bool.and_true,decide_eq_true_iff] at c
 exact h s c
def Told(m:Mach)(mo:Nat)(Q:List Int→Prop)(r:List Int×Int):Prop:=
 (∃ w,r=(w,0)∧w.length≤mo∧WIn (nIn m) w∧Q w∧ ∀ v,WIn (nIn m) v→Q v→lle w v)∨(r=([],7)∧ ∀ v,WIn (nIn m) v→v.length≤mo→ ¬Q v)
theorem zsi{mo:Nat}(c:mo≤256)(g:nIn m^mo≤4096): ∃ r,z2o 5000 m (mo:Int)=some r∧Told m mo (fun w=> ∀ s,s<m.rows.length→q8s m s w) r:=by
 have q:=hm.r6
 obtain⟨l,i⟩:=zze hm
 obtain⟨r,n,o⟩:=zvs hm l c g
 refine⟨r,?_,?_⟩
 ·unfold z2o
  rw [qc hm.ready_eq,um (fun h=>h rfl),decide_eq_false (show¬(mo:Int)<0 by omega),decide_eq_false (show¬(256:Int)<(mo:Int) by omega)]
  refine(cf rfl).trans ?_
  rw [ze ⟨by omega,by show (m.rows.length:Int)≤16;omega⟩,qc n]
 ·rcases o with⟨w,a,b,d,e,f⟩|⟨a,b⟩
  ·exact .inl ⟨w,a,b,d,(i w).1 e,fun v j k=>f v j ((i v).2 k)⟩
  ·exact .inr ⟨a,fun v j p k=>b v j p ((i v).2 k)⟩
/-! ### the reference's words-/
end
theorem qd4{n mo:Nat}(a:n≤3)(hm:mo≤6):n^mo≤4096:=Nat.le_trans (Nat.pow_le_pow_left a mo) (Nat.le_trans (Nat.pow_le_pow_right (by decide) hm) (by decide))
end GV
end Go.Proofs.Ytnnobdkjgafdmaa
