import Derived.Test.YtnnobdkjgafdmaaLst15
set_option linter.unusedVariables false
set_option linter.unusedSimpArgs false
set_option linter.unusedSectionVars false
namespace Go.Proofs.Ytnnobdkjgafdmaa
namespace GV
set_option maxRecDepth 100000
theorem zyb{N:Nat}{a b:List Int}(f:a.length<N)(g:a.length≤4611686018427387904):rz N a b=some (cmpL a b):=by
 unfold rz cmpL
 by_cases h0:a.length≠b.length
 ·rw [xu (by omega)]
  by_cases h1:a.length<b.length
  ·rw [xu (by omega),if_pos h1]
  ·rw [yo (by omega),if_neg h1,if_pos (by omega)]
 ·rw [yo (by omega),if_neg (by omega),if_neg (by omega)]
  have h:a.length=b.length:=by omega
  have e:wh N a b N 0=some (if zeg a b=0 then Ex.go () else Ex.rt (zeg a b)):=by
   refine oh (σ:=Unit) (fun F k _=>wh N a b F (k:Int)) a.length (fun k _=>zeg (a.drop k) (b.drop k)=zeg a b) _ (fun F k _ d hi=>?_) (fun F _ hi=>?_) N 0 () (Nat.zero_le _) (by omega) rfl
   ·simp only [wh]
    rw [xu (by omega),zl (jk d),zl (jk (by omega))]
    have c:=zti d (show k<b.length by omega)
    rw [hi] at c
    by_cases h3:a.getD k default<b.getD k default
    ·left
     refine Eq.trans (xu h3) ?_
     rw [if_pos h3] at c;rw [c];rfl
    ·refine(show _∨_ from ?_)
     rw [if_neg h3] at c
     by_cases h4:b.getD k default<a.getD k default
     ·left
      refine Eq.trans (yo h3) ?_
      rw [zl (jk d),zl (jk (by omega))]
      refine Eq.trans (xu h4) ?_
      rw [if_pos h4] at c;rw [c];rfl
     ·right
      rw [if_neg h4] at c
      refine⟨(),c.symm,Eq.trans (yo h3) ?_⟩
      rw [zl (jk d),zl (jk (by omega))]
      refine Eq.trans (yo h4) ?_
      rw [zl (jb (by omega))];rfl
   ·simp only [wh]
    rw [yo (by omega)]
    have:zeg a b=0:=by rw [←hi,List.drop_of_length_le (Nat.le_refl _)];rfl
    rw [if_pos this]
  rw [qc e]
  by_cases h5:zeg a b=0
  ·rw [if_pos h5,h5];rfl
  ·rw [if_neg h5];rfl
end GV
end Go.Proofs.Ytnnobdkjgafdmaa
