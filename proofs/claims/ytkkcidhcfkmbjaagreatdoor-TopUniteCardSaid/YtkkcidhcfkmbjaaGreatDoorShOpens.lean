import Derived.Test.YtkkcidhcfkmbjaaGreatDoorShTypes
import Derived.Test.YtkkcidhcfkmbjaaGreatDoorShBridge
set_option linter.unusedVariables false
set_option linter.unusedSimpArgs false
set_option linter.unusedSectionVars false
namespace Go.Proofs.YtkkcidhcfkmbjaaGreatDoor
namespace GV
open _root_.Go.Proofs.Tryz
open Go.ChangeShapes Go.WideShapes Go.ChangeAt Go.RowKit
set_option maxRecDepth 100000
def ok5(x:Int):Prop:=(Lit.int .u8 x).wf=true
theorem op5:z16 prog 5 (qa .u8) ok5:=by
 have h:=zaj underlying5 (by kernel_rfl)
 exact h
def ok4(x:Bool):Prop:=True
theorem op4:z16 prog 4 z1s ok4:=by
 have h:=zjo underlying4 (by kernel_rfl)
 exact h
def zrt(x:Int):Prop:=(Lit.int .u16 x).wf=true
theorem zui:z16 prog 125 (qa .u16) zrt:=by
 have h:=zaj underlying125 (by kernel_rfl)
 exact h
def zul(x:(List Int)):Prop:=(∀ y∈x,zrt y)∧x.length≤maxLen
theorem zvn:z16 prog 22 (tSl false (qa .u16)) zul:=by
 have h:=zio underlying22 (by kernel_rfl) zui (Nat.le_of_ble_eq_true rfl)
 exact h
def zq6(x:MDat):Prop:=ok5 x.states∧ok5 x.ins∧ok5 x.outs∧ok4 x.part∧zul x.edges
theorem zti:z16 prog 24 (z6h false) zq6:=by
 have h:=z9q (fun x:MDat=>(x.states,x.ins,x.outs,x.part,x.edges)) (fun a=>(⟨a.1,a.2.1,a.2.2.1,a.2.2.2.1,a.2.2.2.2⟩:MDat)) (fun _=>rfl) (z5i [(5,0),(5,1),(5,2),(4,3),(22,4)] underlying24 rfl (by kernel_rfl) (ah op5 rfl (ah op5 rfl (ah op5 rfl (ah op4 rfl (z5r zvn))))))
 exact h
def zrw(x:(Int×Int)):Prop:=ok5 x.1∧ok5 x.2
theorem ztb:z16 prog 25 zah zrw:=by
 have h:=z9q (fun x:(Int×Int)=>(x.1,x.2)) (fun a=>((a.1,a.2):(Int×Int))) (fun _=>rfl) (zhi [(5,0),(5,1)] underlying25 (by kernel_rfl) (by kernel_rfl) (ah op5 rfl (z5r op5)))
 exact h
def ok3(x:Int):Prop:=(Lit.int .i64 x).wf=true
theorem op3:z16 prog 3 (qa .i64) ok3:=by
 have h:=zaj underlying3 (by kernel_rfl)
 exact h
def ztc(x:Edge):Prop:=ok3 x.to∧ok3 x.out
theorem zuy:z16 prog 27 kEdge ztc:=by
 have h:=z9q (fun x:Edge=>(x.to,x.out)) (fun a=>(⟨a.1,a.2⟩:Edge)) (fun _=>rfl) (z5i [(3,0),(3,1)] underlying27 rfl (by kernel_rfl) (ah op3 rfl (z5r op3)))
 exact h
def zrz(x:Sd):Prop:=zq6 x.fE∧zq6 x.fF∧ok4 x.fJ∧zrw x.fA∧zrw x.fD∧ztc x.fG
theorem zuv:z16 prog 29 (mo false false) zrz:=by
 have h:=z9q (fun x:Sd=>(x.fE,x.fF,x.fJ,x.fA,x.fD,x.fG)) (fun a=>(⟨a.1,a.2.1,a.2.2.1,a.2.2.2.1,a.2.2.2.2.1,a.2.2.2.2.2⟩:Sd)) (fun _=>rfl) (z5i [(24,0),(24,5),(4,10),(25,11),(25,13),(27,15)] underlying29 rfl (by kernel_rfl) (ah zti rfl (ah zti rfl (ah op4 rfl (ah ztb rfl (ah ztb rfl (z5r zuy)))))))
 exact h
theorem laid:laidOutB prog=true:=by kernel_rfl
end GV
end Go.Proofs.YtkkcidhcfkmbjaaGreatDoor
