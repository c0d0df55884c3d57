import Derived.Test.YtnnobdkjgafdmaaFor15
import Derived.Test.YtnnobdkjgafdmaaLives15
set_option linter.unusedVariables false
set_option linter.unusedSimpArgs false
set_option linter.unusedSectionVars false
namespace Go.Proofs.Ytnnobdkjgafdmaa
namespace GV
set_option maxRecDepth 100000
section
variable {m : Mach} {t : Sb}
structure TF (m:Mach) (t:Sb):Prop where
 pos:0<t.fA.length
 le:t.fA.length≤1024
 ok: ∀ j,j<t.fA.length→z6t m (t.fA.getD j default)=true
 kid: ∀ j,j<t.fA.length→ ∀ k∈kids (t.fA.getD j default),(j:Int)<k∧k<(t.fA.length:Int)
theorem qa7(h:stk m t.fA 0 [0]=true)(c:t.fA.length≤1024):TF m t:=by
 obtain⟨d,b⟩:=zp3 h
 have f:=d 0 (List.mem_singleton.2 rfl)
 refine⟨by omega,c,fun j a=>(b j a).1,fun j a k e=>?_⟩
 have:=(b j a).2 k e
 omega
theorem TF.step(h:TF m t){j:Nat}(a:j<t.fA.length){o:Int}(b:0≤o)(c:o<m.outputs):okI (t.fA.getD j default).fC o∧(ix (t.fA.getD j default).fC o= -1∨((j:Int)<ix (t.fA.getD j default).fC o∧ix (t.fA.getD j default).fC o<(t.fA.length:Int))):=by
 have d:=zdf (h.ok j a)
 refine⟨⟨b,by omega⟩,?_⟩
 by_cases e:ix (t.fA.getD j default).fC o= -1
 ·exact .inl e
 ·refine .inr (h.kid j a _ (List.mem_filter.2 ⟨?_,decide_eq_true e⟩))
  exact z19 (show o.toNat<_ by omega)
theorem zvt(c:PM m)(d:t.fA.length≤1024)(h:stk m t.fA 0 [0]=true):z5b 5000 m t=bd (z0d 5000 m t 5000 0) fun a=>Ex.on a (fun e=>some 0) some:=by
 unfold z5b
 have f:=c.ok.o2
 rw [qc c.ready_eq,um (fun h=>h rfl),decide_eq_false (show¬1024<(t.fA.length:Int) by omega),qc (zjx (b:=true&&(false==false)) rfl (zzu d f)),h];rfl
end
end GV
end Go.Proofs.Ytnnobdkjgafdmaa
