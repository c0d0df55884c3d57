import Derived.Test.YtnnobdkjgafdmaaFor15
import Derived.Test.YtnnobdkjgafdmaaLives15
set_option linter.unusedVariables false
set_option linter.unusedSimpArgs false
set_option linter.unusedSectionVars false
namespace Go.Proofs.Ytnnobdkjgafdmaa
namespace GV
set_option maxRecDepth 100000
section
variable {m : Mach} {t : Sc}
structure TF (m:Mach) (t:Sc):Prop where
 pos:0<t.fA.length
 le:t.fA.length≤1024
 ok: ∀ j,j<t.fA.length→z9l m (t.fA.getD j default)=true
 kid: ∀ j,j<t.fA.length→ ∀ k∈kids (t.fA.getD j default),(j:Int)<k∧k<(t.fA.length:Int)
theorem TF.step(h:TF m t){j:Nat}(a:j<t.fA.length){o:Int}(b:0≤o)(c:o<m.outputs):okI (t.fA.getD j default).fC o∧(ix (t.fA.getD j default).fC o= -1∨((j:Int)<ix (t.fA.getD j default).fC o∧ix (t.fA.getD j default).fC o<(t.fA.length:Int))):=by
 have d:=zgm (h.ok j a)
 refine⟨⟨b,by omega⟩,?_⟩
 by_cases e:ix (t.fA.getD j default).fC o= -1
 ·exact .inl e
 ·refine .inr (h.kid j a _ (List.mem_filter.2 ⟨?_,decide_eq_true e⟩))
  exact z1o (show o.toNat<_ by omega)
theorem zsq(a:PM m)(c:t.fA.length≤1024)(h:stk m t.fA 0 [0]=false):z0f 5000 m t=some 4:=by
 unfold z0f
 have d:=a.ok.o2
 rw [qc a.ready_eq,yo (fun h=>h rfl),decide_eq_false (show¬1024<(t.fA.length:Int) by omega),qc (zd9 (b:=true&&(false==false)) rfl (zs7 c d)),h];rfl
end
end GV
end Go.Proofs.Ytnnobdkjgafdmaa
