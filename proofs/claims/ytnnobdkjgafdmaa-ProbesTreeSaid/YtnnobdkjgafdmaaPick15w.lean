import Derived.Test.YtnnobdkjgafdmaaLst15
set_option linter.unusedVariables false
set_option linter.unusedSimpArgs false
set_option linter.unusedSectionVars false
namespace Go.Proofs.Ytnnobdkjgafdmaa
namespace GV
set_option maxRecDepth 100000
theorem q6x{N:Nat}{a b:List Int}(f:a.length<N)(g:a.length≤4611686018427387904):z1c N a b=some (cmpL a b):=by
 unfold z1c cmpL
 by_cases h0:a.length≠b.length
 ·rw [wu (by omega)]
  by_cases h1:a.length<b.length
  ·rw [wu (by omega),if_pos h1]
  ·rw [um (by omega),if_neg h1,if_pos (by omega)]
 ·rw [um (by omega),if_neg (by omega),if_neg (by omega)]
  have h:a.length=b.length:=by omega
  have e:xn N a b N 0=some (if zjn a b=0 then Ex.go () else Ex.rt (zjn a b)):=by
   refine ru (σ:=Unit) (fun F k _=>xn N a b F (k:Int)) a.length (fun k _=>zjn (a.drop k) (b.drop k)=zjn a b) _ (fun F k _ d hi=>?_) (fun F _ hi=>?_) N 0 () (Nat.zero_le _) (by omega) rfl
   ·simp only [xn]
    rw [wu (by omega),ze (qy d),ze (qy (by omega))]
    have c:=q0j d (show k<b.length by omega)
    rw [hi] at c
    by_cases h3:a.getD k default<b.getD k default
    ·left
     refine Eq.trans (wu h3) ?_
     rw [if_pos h3] at c;rw [c];rfl
    ·refine(show _∨_ from ?_)
     rw [if_neg h3] at c
     by_cases h4:b.getD k default<a.getD k default
     ·left
      refine Eq.trans (um h3) ?_
      rw [ze (qy d),ze (qy (by omega))]
      refine Eq.trans (wu h4) ?_
      rw [if_pos h4] at c;rw [c];rfl
     ·right
      rw [if_neg h4] at c
      refine⟨(),c.symm,Eq.trans (um h3) ?_⟩
      rw [ze (qy d),ze (qy (by omega))]
      refine Eq.trans (um h4) ?_
      rw [ze (qm (by omega))];rfl
   ·simp only [xn]
    rw [um (by omega)]
    have:zjn a b=0:=by rw [←hi,List.drop_of_length_le (Nat.le_refl _)];rfl
    rw [if_pos this]
  rw [qc e]
  by_cases h5:zjn a b=0
  ·rw [if_pos h5,h5];rfl
  ·rw [if_neg h5];rfl
end GV
end Go.Proofs.Ytnnobdkjgafdmaa
