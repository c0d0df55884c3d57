import Derived.Test.YtkkcidhcfkmbjaaGreatDoorShTypes
import Derived.Test.YtkkcidhcfkmbjaaGreatDoorShBridge
set_option linter.unusedVariables false
set_option linter.unusedSimpArgs false
set_option linter.unusedSectionVars false
namespace Go.Proofs.YtkkcidhcfkmbjaaGreatDoor
namespace GV
open _root_.Go.Proofs.Tryz
open Go.ChangeShapes Go.WideShapes Go.ChangeAt Go.RowKit
set_option maxRecDepth 100000
def ok5(x:Int):Prop:=(Lit.int .u8 x).wf=true
theorem op5:z14 prog 5 (qb .u8) ok5:=by
 have h:=zb1 underlying5 (by kernel_rfl)
 exact h
def ok4(x:Bool):Prop:=True
theorem op4:z14 prog 4 z1s ok4:=by
 have h:=zjv underlying4 (by kernel_rfl)
 exact h
def zrl(x:Int):Prop:=(Lit.int .u16 x).wf=true
theorem ztf:z14 prog 125 (qb .u16) zrl:=by
 have h:=zb1 underlying125 (by kernel_rfl)
 exact h
def zt4(x:(List Int)):Prop:=(∀ y∈x,zrl y)∧x.length≤maxLen
theorem zv5:z14 prog 22 (tSl false (qb .u16)) zt4:=by
 have h:=zi9 underlying22 (by kernel_rfl) ztf (Nat.le_of_ble_eq_true rfl)
 exact h
def zpz(x:MDat):Prop:=ok5 x.states∧ok5 x.ins∧ok5 x.outs∧ok4 x.part∧zt4 x.edges
theorem zt5:z14 prog 24 (z6g false) zpz:=by
 have h:=z9v (fun x:MDat=>(x.states,x.ins,x.outs,x.part,x.edges)) (fun a=>(⟨a.1,a.2.1,a.2.2.1,a.2.2.2.1,a.2.2.2.2⟩:MDat)) (fun _=>rfl) (z5r [(5,0),(5,1),(5,2),(4,3),(22,4)] underlying24 rfl (by kernel_rfl) (au op5 rfl (au op5 rfl (au op5 rfl (au op4 rfl (z5w zv5))))))
 exact h
def zsl(x:(Int×Int)):Prop:=ok5 x.1∧ok5 x.2
theorem zt8:z14 prog 25 zaw zsl:=by
 have h:=z9v (fun x:(Int×Int)=>(x.1,x.2)) (fun a=>((a.1,a.2):(Int×Int))) (fun _=>rfl) (zgf [(5,0),(5,1)] underlying25 (by kernel_rfl) (by kernel_rfl) (au op5 rfl (z5w op5)))
 exact h
def ok3(x:Int):Prop:=(Lit.int .i64 x).wf=true
theorem op3:z14 prog 3 (qb .i64) ok3:=by
 have h:=zb1 underlying3 (by kernel_rfl)
 exact h
def zsu(x:Edge):Prop:=ok3 x.to∧ok3 x.out
theorem zvd:z14 prog 27 kEdge zsu:=by
 have h:=z9v (fun x:Edge=>(x.to,x.out)) (fun a=>(⟨a.1,a.2⟩:Edge)) (fun _=>rfl) (z5r [(3,0),(3,1)] underlying27 rfl (by kernel_rfl) (au op3 rfl (z5w op3)))
 exact h
def zse(x:Sd):Prop:=zpz x.fE∧zpz x.fF∧ok4 x.fJ∧zsl x.fA∧zsl x.fD∧zsu x.fG
theorem zvf:z14 prog 29 (mh false false) zse:=by
 have h:=z9v (fun x:Sd=>(x.fE,x.fF,x.fJ,x.fA,x.fD,x.fG)) (fun a=>(⟨a.1,a.2.1,a.2.2.1,a.2.2.2.1,a.2.2.2.2.1,a.2.2.2.2.2⟩:Sd)) (fun _=>rfl) (z5r [(24,0),(24,5),(4,10),(25,11),(25,13),(27,15)] underlying29 rfl (by kernel_rfl) (au zt5 rfl (au zt5 rfl (au op4 rfl (au zt8 rfl (au zt8 rfl (z5w zvd)))))))
 exact h
theorem laid:laidOutB prog=true:=by kernel_rfl
end GV
end Go.Proofs.YtkkcidhcfkmbjaaGreatDoor
