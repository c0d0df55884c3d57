import Derived.Test.YtkkcidhcfkmbjaaGreatDoorShTypes
import Derived.Test.YtkkcidhcfkmbjaaGreatDoorShBridge
set_option linter.unusedVariables false
set_option linter.unusedSimpArgs false
set_option linter.unusedSectionVars false
namespace Go.Proofs.YtkkcidhcfkmbjaaGreatDoor
namespace GV
open _root_.Go.Proofs.Tryz
open Go.ChangeShapes Go.WideShapes Go.ChangeAt Go.RowKit
set_option maxRecDepth 100000
def ok5(x:Int):Prop:=(Lit.int .u8 x).wf=true
theorem op5:z18 prog 5 (zo .u8) ok5:=by
 have h:=zbe underlying5 (by kernel_rfl)
 exact h
def ok4(x:Bool):Prop:=True
theorem op4:z18 prog 4 z00 ok4:=by
 have h:=zfh underlying4 (by kernel_rfl)
 exact h
def zmp(x:Int):Prop:=(Lit.int .u16 x).wf=true
theorem zpg:z18 prog 125 (zo .u16) zmp:=by
 have h:=zbe underlying125 (by kernel_rfl)
 exact h
def zob(x:(List Int)):Prop:=(∀ y∈x,zmp y)∧x.length≤maxLen
theorem zqe:z18 prog 22 (tSl false (zo .u16)) zob:=by
 have h:=ze1 underlying22 (by kernel_rfl) zpg (Nat.le_of_ble_eq_true rfl)
 exact h
def zn9(x:MDat):Prop:=ok5 x.states∧ok5 x.ins∧ok5 x.outs∧ok4 x.part∧zob x.edges
theorem zpq:z18 prog 24 (z4g false) zn9:=by
 have h:=zk6 (fun x:MDat=>(x.states,x.ins,x.outs,x.part,x.edges)) (fun a=>(⟨a.1,a.2.1,a.2.2.1,a.2.2.2.1,a.2.2.2.2⟩:MDat)) (fun _=>rfl) (zcf [(5,0),(5,1),(5,2),(4,3),(22,4)] underlying24 rfl (by kernel_rfl) (z2u op5 rfl (z2u op5 rfl (z2u op5 rfl (z2u op4 rfl (zfq zqe))))))
 exact h
theorem laid:laidOutB prog=true:=by kernel_rfl
end GV
end Go.Proofs.YtkkcidhcfkmbjaaGreatDoor
