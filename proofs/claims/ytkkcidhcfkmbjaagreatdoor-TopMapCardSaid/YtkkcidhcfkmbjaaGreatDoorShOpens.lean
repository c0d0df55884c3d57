import Derived.Test.YtkkcidhcfkmbjaaGreatDoorShTypes
import Derived.Test.YtkkcidhcfkmbjaaGreatDoorShBridge
set_option linter.unusedVariables false
set_option linter.unusedSimpArgs false
set_option linter.unusedSectionVars false
namespace Go.Proofs.YtkkcidhcfkmbjaaGreatDoor
namespace GV
open _root_.Go.Proofs.Tryz
open Go.ChangeShapes Go.WideShapes Go.ChangeAt Go.RowKit
set_option maxRecDepth 100000
def ok5(x:Int):Prop:=(Lit.int .u8 x).wf=true
theorem op5:z2x prog 5 (qb .u8) ok5:=by
 have h:=zdf underlying5 (by kernel_rfl)
 exact h
def ok4(x:Bool):Prop:=True
theorem op4:z2x prog 4 z1k ok4:=by
 have h:=zo6 underlying4 (by kernel_rfl)
 exact h
def zx8(x:Int):Prop:=(Lit.int .u16 x).wf=true
theorem q05:z2x prog 125 (qb .u16) zx8:=by
 have h:=zdf underlying125 (by kernel_rfl)
 exact h
def q07(x:(List Int)):Prop:=(∀ y∈x,zx8 y)∧x.length≤maxLen
theorem q0v:z2x prog 22 (tSl false (qb .u16)) q07:=by
 have h:=zkc underlying22 (by kernel_rfl) q05 (Nat.le_of_ble_eq_true rfl)
 exact h
def zw9(x:MDat):Prop:=ok5 x.states∧ok5 x.ins∧ok5 x.outs∧ok4 x.part∧q07 x.edges
theorem q0p:z2x prog 24 (z92 false) zw9:=by
 have h:=zcc (fun x:MDat=>(x.states,x.ins,x.outs,x.part,x.edges)) (fun a=>(⟨a.1,a.2.1,a.2.2.1,a.2.2.2.1,a.2.2.2.2⟩:MDat)) (fun _=>rfl) (z8c [(5,0),(5,1),(5,2),(4,3),(22,4)] underlying24 rfl (by kernel_rfl) (l5 op5 rfl (l5 op5 rfl (l5 op5 rfl (l5 op4 rfl (z8n q0v))))))
 exact h
def zxt(x:(Int×Int)):Prop:=ok5 x.1∧ok5 x.2
theorem zzo:z2x prog 25 zdc zxt:=by
 have h:=zcc (fun x:(Int×Int)=>(x.1,x.2)) (fun a=>((a.1,a.2):(Int×Int))) (fun _=>rfl) (zm9 [(5,0),(5,1)] underlying25 (by kernel_rfl) (by kernel_rfl) (l5 op5 rfl (z8n op5)))
 exact h
def ok3(x:Int):Prop:=(Lit.int .i64 x).wf=true
theorem op3:z2x prog 3 (qb .i64) ok3:=by
 have h:=zdf underlying3 (by kernel_rfl)
 exact h
def q0d(x:Edge):Prop:=ok3 x.to∧ok3 x.out
theorem q0x:z2x prog 27 kEdge q0d:=by
 have h:=zcc (fun x:Edge=>(x.to,x.out)) (fun a=>(⟨a.1,a.2⟩:Edge)) (fun _=>rfl) (z8c [(3,0),(3,1)] underlying27 rfl (by kernel_rfl) (l5 op3 rfl (z8n op3)))
 exact h
def zxs(x:Sd):Prop:=zw9 x.fE∧zw9 x.fH∧ok4 x.fM∧zxt x.fA∧zxt x.fD∧q0d x.fJ
theorem q1d:z2x prog 29 (ak false false) zxs:=by
 have h:=zcc (fun x:Sd=>(x.fE,x.fH,x.fM,x.fA,x.fD,x.fJ)) (fun a=>(⟨a.1,a.2.1,a.2.2.1,a.2.2.2.1,a.2.2.2.2.1,a.2.2.2.2.2⟩:Sd)) (fun _=>rfl) (z8c [(24,0),(24,5),(4,10),(25,11),(25,13),(27,15)] underlying29 rfl (by kernel_rfl) (l5 q0p rfl (l5 q0p rfl (l5 op4 rfl (l5 zzo rfl (l5 zzo rfl (z8n q0x)))))))
 exact h
theorem laid:laidOutB prog=true:=by kernel_rfl
end GV
end Go.Proofs.YtkkcidhcfkmbjaaGreatDoor
