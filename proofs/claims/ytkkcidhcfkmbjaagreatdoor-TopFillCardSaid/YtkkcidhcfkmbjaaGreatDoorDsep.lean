import Derived.Test.YtkkcidhcfkmbjaaGreatDoorSepw
import Derived.Test.YtkkcidhcfkmbjaaGreatDoorJoint
set_option linter.unusedVariables false
set_option linter.unusedSimpArgs false
set_option linter.unusedSectionVars false
namespace Go.Proofs.YtkkcidhcfkmbjaaGreatDoor
namespace GV
def zg6(a b:Mach)(w:List Int):Prop:=WOk a.inputs w∧bq a 0 w≠bq b 0 w
def zdb(a b:Mach)(w:List Int):Prop:=zg6 a b w∧ ∀ v,zg6 a b v→lle w v
theorem or2{N:Nat}(a:5≤N):ax N [0,0]=some 0:=by
 obtain⟨F,rfl⟩: ∃ F,N=F+5:=⟨N-5,by omega⟩
 have h:x8 (F+5) [0,0] (F+5) 0=some (Ex.go ()):=by
  simp only [x8]
  rw [gz (by simp),zm (show okI ([0,0]:List Int) 0 from⟨by omega,by simp⟩),xz (show¬ix ([0,0]:List Int) 0≠0 by decide),zm (jm (by omega))]
  rw [gz (by simp),zm (show okI ([0,0]:List Int) (0+1) from⟨by omega,by simp⟩),xz (show¬ix ([0,0]:List Int) (0+1)≠0 by decide),zm (jm (by omega))]
  rw [xz (by simp)]
 unfold ax
 rw [q9 h];rfl
end GV
end Go.Proofs.YtkkcidhcfkmbjaaGreatDoor
