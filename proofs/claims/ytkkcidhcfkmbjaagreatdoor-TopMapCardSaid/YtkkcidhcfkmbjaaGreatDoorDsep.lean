import Derived.Test.YtkkcidhcfkmbjaaGreatDoorSepw
import Derived.Test.YtkkcidhcfkmbjaaGreatDoorPkt
set_option linter.unusedVariables false
set_option linter.unusedSimpArgs false
set_option linter.unusedSectionVars false
namespace Go.Proofs.YtkkcidhcfkmbjaaGreatDoor
namespace GV
def zmw(a b:Mach)(w:List Int):Prop:=WOk a.inputs w∧z0f a 0 w≠z0f b 0 w
def zlx(a b:Mach)(w:List Int):Prop:=zmw a b w∧ ∀ v,zmw a b v→lle w v
theorem or2{N:Nat}(a:5≤N):dz N [0,0]=some 0:=by
 obtain⟨F,rfl⟩: ∃ F,N=F+5:=⟨N-5,by omega⟩
 have h:ut (F+5) [0,0] (F+5) 0=some (Ex.go ()):=by
  simp only [ut]
  rw [bq (by simp),zi (show okI ([0,0]:List Int) 0 from⟨by omega,by simp⟩),yz (show¬ix ([0,0]:List Int) 0≠0 by decide),zi (ja (by omega))]
  rw [bq (by simp),zi (show okI ([0,0]:List Int) (0+1) from⟨by omega,by simp⟩),yz (show¬ix ([0,0]:List Int) (0+1)≠0 by decide),zi (ja (by omega))]
  rw [yz (by simp)]
 unfold dz
 rw [zu h];rfl
end GV
end Go.Proofs.YtkkcidhcfkmbjaaGreatDoor
