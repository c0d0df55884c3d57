import Derived.Test.YtnnobdkjgafdmaaShTypes
import Derived.Test.YtnnobdkjgafdmaaShBridge
set_option linter.unusedVariables false
set_option linter.unusedSimpArgs false
set_option linter.unusedSectionVars false
namespace Go.Proofs.Ytnnobdkjgafdmaa
namespace GV
open _root_.Go.Proofs.Try
open Go.ChangeShapes Go.WideShapes Go.ChangeAt Go.RowKit
set_option maxRecDepth 100000
def ok5(x:Int):Prop:=(Lit.int .u8 x).wf=true
theorem op5:zb4 prog 5 (qb .u8) ok5:=by
 have h:=zpa underlying5 (by kernel_rfl)
 exact h
def qcc(x:(List Int)):Prop:=(∀ y∈x,ok5 y)∧x.length≤maxLen
theorem qdc:zb4 prog 22 (tSl false (qb .u8)) qcc:=by
 have h:=zjz underlying22 (by kernel_rfl) op5 (Nat.le_of_ble_eq_true rfl)
 exact h
def qc7(x:Int):Prop:=(Lit.int .u16 x).wf=true
theorem qd7:zb4 prog 71 (qb .u16) qc7:=by
 have h:=zpa underlying71 (by kernel_rfl)
 exact h
def qcl(x:(List Int)):Prop:=(∀ y∈x,qc7 y)∧x.length≤maxLen
theorem qdp:zb4 prog 23 (tSl false (qb .u16)) qcl:=by
 have h:=zjz underlying23 (by kernel_rfl) qd7 (Nat.le_of_ble_eq_true rfl)
 exact h
def q9n(x:Sg):Prop:=ok5 x.fG∧ok5 x.fD∧ok5 x.fF∧qcc x.fH∧qcl x.fJ
theorem qeh:zb4 prog 25 (aj false false) q9n:=by
 have h:=zue (fun x:Sg=>(x.fG,x.fD,x.fF,x.fH,x.fJ)) (fun a=>(⟨a.1,a.2.1,a.2.2.1,a.2.2.2.1,a.2.2.2.2⟩:Sg)) (fun _=>rfl) (zj0 [(5,0),(5,1),(5,2),(22,3),(23,4)] underlying25 rfl (by kernel_rfl) (zd0 op5 rfl (zd0 op5 rfl (zd0 op5 rfl (zd0 qdc rfl (zmx qdp))))))
 exact h
def qcq(x:Sj):Prop:=q9n x.fM
theorem qcw:zb4 prog 27 (z1x false false) qcq:=by
 have h:=zue (fun x:Sj=>x.fM) (fun a=>(⟨a⟩:Sj)) (fun _=>rfl) (zj0 [(25,0)] underlying27 rfl (by kernel_rfl) (zys (zmx qeh)))
 exact h
theorem laid:laidOutB prog=true:=by kernel_rfl
end GV
end Go.Proofs.Ytnnobdkjgafdmaa
