import Derived.Test.YtkkcidhcfkmbjaaGreatDoorShTypes
import Derived.Test.YtkkcidhcfkmbjaaGreatDoorShBridge
set_option linter.unusedVariables false
set_option linter.unusedSimpArgs false
set_option linter.unusedSectionVars false
namespace Go.Proofs.YtkkcidhcfkmbjaaGreatDoor
namespace GV
open _root_.Go.Proofs.Tryz
open Go.ChangeShapes Go.WideShapes Go.ChangeAt Go.RowKit
set_option maxRecDepth 100000
def ok5(x:Int):Prop:=(Lit.int .u8 x).wf=true
theorem op5:z2n prog 5 (jh .u8) ok5:=by
 have h:=ze1 underlying5 (by kernel_rfl)
 exact h
def ok4(x:Bool):Prop:=True
theorem op4:z2n prog 4 z2m ok4:=by
 have h:=zjd underlying4 (by kernel_rfl)
 exact h
def zq3(x:Int):Prop:=(Lit.int .u16 x).wf=true
theorem zsr:z2n prog 125 (jh .u16) zq3:=by
 have h:=ze1 underlying125 (by kernel_rfl)
 exact h
def zt3(x:(List Int)):Prop:=(∀ y∈x,zq3 y)∧x.length≤maxLen
theorem zuq:z2n prog 22 (tSl false (jh .u16)) zt3:=by
 have h:=zbb underlying22 (by kernel_rfl) zsr (Nat.le_of_ble_eq_true rfl)
 exact h
def zqq(x:MDat):Prop:=ok5 x.states∧ok5 x.ins∧ok5 x.outs∧ok4 x.part∧zt3 x.edges
theorem zup:z2n prog 24 (z6a false) zqq:=by
 have h:=zcx (fun x:MDat=>(x.states,x.ins,x.outs,x.part,x.edges)) (fun a=>(⟨a.1,a.2.1,a.2.2.1,a.2.2.2.1,a.2.2.2.2⟩:MDat)) (fun _=>rfl) (z6p [(5,0),(5,1),(5,2),(4,3),(22,4)] underlying24 rfl (by kernel_rfl) (z4b op5 rfl (z4b op5 rfl (z4b op5 rfl (z4b op4 rfl (z9i zuq))))))
 exact h
def zto(x:Sc):Prop:=zqq x.fD∧ok5 x.fA
theorem zv8:z2n prog 64 (gq false) zto:=by
 have h:=zcx (fun x:Sc=>(x.fD,x.fA)) (fun a=>(⟨a.1,a.2⟩:Sc)) (fun _=>rfl) (z6p [(24,0),(5,5)] underlying64 rfl (by kernel_rfl) (z4b zup rfl (z9i op5)))
 exact h
def zt2(x:(List Int)):Prop:=(∀ y∈x,ok5 y)∧x.length≤maxLen
theorem zu0:z2n prog 65 (tSl false (jh .u8)) zt2:=by
 have h:=zbb underlying65 (by kernel_rfl) op5 (Nat.le_of_ble_eq_true rfl)
 exact h
def zqx(x:WDat):Prop:=zt2 x.syms
theorem zuz:z2n prog 67 (zcn false) zqx:=by
 have h:=zcx (fun x:WDat=>x.syms) (fun a=>(⟨a⟩:WDat)) (fun _=>rfl) (z6p [(65,0)] underlying67 rfl (by kernel_rfl) (zks (z9i zu0)))
 exact h
theorem laid:laidOutB prog=true:=by kernel_rfl
end GV
end Go.Proofs.YtkkcidhcfkmbjaaGreatDoor
