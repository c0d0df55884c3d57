import Derived.Test.YtnnobdkjgafdmaaShTypes
import Derived.Test.YtnnobdkjgafdmaaShBridge
set_option linter.unusedVariables false
set_option linter.unusedSimpArgs false
set_option linter.unusedSectionVars false
namespace Go.Proofs.Ytnnobdkjgafdmaa
namespace GV
open _root_.Go.Proofs.Try
open Go.ChangeShapes Go.WideShapes Go.ChangeAt Go.RowKit
set_option maxRecDepth 100000
def ok3(x:Int):Prop:=(Lit.int .i64 x).wf=true
theorem op3:z88 prog 3 (qo .i64) ok3:=by
 have h:=zsp underlying3 (by kernel_rfl)
 exact h
def q1l(x:Edge):Prop:=ok3 x.to∧ok3 x.out
theorem q3y:z88 prog 57 kEdge q1l:=by
 have h:=zly (fun x:Edge=>(x.to,x.out)) (fun a=>(⟨a.1,a.2⟩:Edge)) (fun _=>rfl) (ze5 [(3,0),(3,1)] underlying57 rfl (by kernel_rfl) (zbz op3 rfl (zi9 op3)))
 exact h
def q2n(x:(List Edge)):Prop:=(∀ y∈x,q1l y)∧x.length≤maxLen
theorem q3j:z88 prog 58 (tSl false kEdge) q2n:=by
 have h:=zfg underlying58 (by kernel_rfl) q3y (Nat.le_of_ble_eq_true rfl)
 exact h
def q1h(x:(List (List Edge))):Prop:=(∀ y∈x,q2n y)∧x.length≤maxLen
theorem q3r:z88 prog 28 (tSl false (tSl false kEdge)) q1h:=by
 have h:=zfg underlying28 (by kernel_rfl) q3j (Nat.le_of_ble_eq_true rfl)
 exact h
def q2l(x:Mach):Prop:=ok3 x.inputs∧ok3 x.outputs∧q1h x.rows
theorem q3m:z88 prog 30 (ji false false) q2l:=by
 have h:=zly (fun x:Mach=>(x.inputs,x.outputs,x.rows)) (fun a=>(⟨a.1,a.2.1,a.2.2⟩:Mach)) (fun _=>rfl) (ze5 [(3,0),(3,1),(28,2)] underlying30 rfl (by kernel_rfl) (zbz op3 rfl (zbz op3 rfl (zi9 q3r))))
 exact h
theorem laid:laidOutB prog=true:=by kernel_rfl
end GV
end Go.Proofs.Ytnnobdkjgafdmaa
