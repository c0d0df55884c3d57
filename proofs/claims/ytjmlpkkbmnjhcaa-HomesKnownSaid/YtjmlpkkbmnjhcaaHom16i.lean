
import Derived.Test.YtjmlpkkbmnjhcaaHom16g
import Derived.Test.YtjmlpkkbmnjhcaaShPlain
set_option linter.unusedVariables false
set_option linter.unusedSimpArgs false
set_option linter.unusedSectionVars false
namespace Go.Proofs.Ytjmlpkkbmnjhcaa
namespace GV
set_option maxRecDepth 100000
/-! ### a list with one more number-/
structure PI (l:List Int) (n:Int) (i:Nat) (out:List Int) (done:Bool):Prop where
 len:out.length≤i+1
 ord:out.Pairwise (· < ·)
 no:done=false→out=l.take i∧ ∀ z∈out,z<n
 yes:done=true→(∀ z,z∈out↔z=n∨z∈l.take i)∧ ∀ z∈out,∀ j,i≤j→j<l.length→z<l.getD j default
/-! ### sets as lists-/
structure LS16 (n:Nat) (L:List Int):Prop where
 ord:L.Pairwise (· < ·)
 rng: ∀ z∈L,0≤z∧z<(n:Int)
theorem LS16.len{n:Nat}{L:List Int}(h:LS16 n L):L.length≤n:=by
 refine zah (fun z=>z.toNat) (h.ord.imp fun b=>by omega) (fun x a y c e=>?_) fun x a=>?_
 ·have d:=h.rng x a;have f:=h.rng y c
  have e':x.toNat=y.toNat:=e
  omega
 ·have:=h.rng x a
  show x.toNat<n
  omega
/-! ### one more step of a plan-/
/-! ### the reference's plan-/
end GV
end Go.Proofs.Ytjmlpkkbmnjhcaa

namespace Go.Proofs.Ytjmlpkkbmnjhcaa
namespace GV
set_option maxRecDepth 1000000
theorem znl:z0u 1000000=some true:=by decide+kernel
end GV
end Go.Proofs.Ytjmlpkkbmnjhcaa

namespace Go.Proofs.Ytjmlpkkbmnjhcaa
namespace GV
set_option maxRecDepth 100000
end GV
end Go.Proofs.Ytjmlpkkbmnjhcaa
