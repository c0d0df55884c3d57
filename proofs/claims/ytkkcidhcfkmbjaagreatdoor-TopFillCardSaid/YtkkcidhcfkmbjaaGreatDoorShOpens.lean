import Derived.Test.YtkkcidhcfkmbjaaGreatDoorShTypes
import Derived.Test.YtkkcidhcfkmbjaaGreatDoorShBridge
set_option linter.unusedVariables false
set_option linter.unusedSimpArgs false
set_option linter.unusedSectionVars false
namespace Go.Proofs.YtkkcidhcfkmbjaaGreatDoor
namespace GV
open _root_.Go.Proofs.Tryz
open Go.ChangeShapes Go.WideShapes Go.ChangeAt Go.RowKit
set_option maxRecDepth 100000
def ok5(x:Int):Prop:=(Lit.int .u8 x).wf=true
theorem op5:z2x prog 5 (zw .u8) ok5:=by
 have h:=zeg underlying5 (by kernel_rfl)
 exact h
def ok4(x:Bool):Prop:=True
theorem op4:z2x prog 4 yt ok4:=by
 have h:=zie underlying4 (by kernel_rfl)
 exact h
def zq8(x:Int):Prop:=(Lit.int .u16 x).wf=true
theorem ztk:z2x prog 125 (zw .u16) zq8:=by
 have h:=zeg underlying125 (by kernel_rfl)
 exact h
def zsk(x:(List Int)):Prop:=(∀ y∈x,zq8 y)∧x.length≤maxLen
theorem zue:z2x prog 22 (tSl false (zw .u16)) zsk:=by
 have h:=zha underlying22 (by kernel_rfl) ztk (Nat.le_of_ble_eq_true rfl)
 exact h
def zr8(x:MDat):Prop:=ok5 x.states∧ok5 x.ins∧ok5 x.outs∧ok4 x.part∧zsk x.edges
theorem zuv:z2x prog 24 (z6b false) zr8:=by
 have h:=zob (fun x:MDat=>(x.states,x.ins,x.outs,x.part,x.edges)) (fun a=>(⟨a.1,a.2.1,a.2.2.1,a.2.2.2.1,a.2.2.2.2⟩:MDat)) (fun _=>rfl) (zeu [(5,0),(5,1),(5,2),(4,3),(22,4)] underlying24 rfl (by kernel_rfl) (z5e op5 rfl (z5e op5 rfl (z5e op5 rfl (z5e op4 rfl (zia zue))))))
 exact h
theorem laid:laidOutB prog=true:=by kernel_rfl
end GV
end Go.Proofs.YtkkcidhcfkmbjaaGreatDoor
