import Derived.Test.YtjmlpkkbmnjhcaaGreatHom16c
import Derived.Test.YtjmlpkkbmnjhcaaGreatLives16
set_option linter.unusedVariables false
set_option linter.unusedSimpArgs false
set_option linter.unusedSectionVars false
namespace Go.Proofs.YtjmlpkkbmnjhcaaGreat
namespace GV
set_option maxRecDepth 100000
theorem zlb{N:Nat}{a b:List Int}(f:5000≤N)(c:a.length<N)(d:a.length≤1000000):z3u N ([a]:List (List Int)) [b]=some (decide (a=b)):=by
 obtain⟨N,rfl⟩: ∃ M,N=M+2:=⟨N-2,by omega⟩
 unfold z3u
 rw [ul (by simp)]
 by_cases h:a=b
 ·have:fw (N+2) [a] [b] (N+2) 0=some (Ex.go ()):=by
   simp only [fw]
   rw [ut (by simp),zm ⟨by omega,by simp⟩,zm ⟨by omega,by simp⟩,qh (show z0u (N+2) (ix [a] 0) (ix [b] 0)=some (cmpL a b) from zve (a:=a) (b:=b) c (by omega)),(cmpL_eq a b).2 h,ul (by decide),zm (j3 (by decide)),ul (by simp)]
  rw [qh this,z6z,decide_eq_true h]
 ·have:fw (N+2) [a] [b] (N+2) 0=some (Ex.rt false):=by
   simp only [fw]
   rw [ut (by simp),zm ⟨by omega,by simp⟩,zm ⟨by omega,by simp⟩,qh (show z0u (N+2) (ix [a] 0) (ix [b] 0)=some (cmpL a b) from zve (a:=a) (b:=b) c (by omega)),ut (show cmpL a b≠0 from fun e=>h ((cmpL_eq a b).1 e))]
  rw [qh this,z9e,decide_eq_false h]
theorem zkc{N:Nat}{a b:List Int}(d:5000≤N)(e:a.length<N)(c:a.length≤1000000):uq N a b=some (decide (a=b)):=by
 unfold uq
 rw [qh (zlb d e c),decide_eq_true (rfl:(a.length:Int)=(a.length:Int)),Bool.and_true]
end GV
end Go.Proofs.YtjmlpkkbmnjhcaaGreat
