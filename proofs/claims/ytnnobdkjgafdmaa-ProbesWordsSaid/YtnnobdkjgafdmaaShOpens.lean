import Derived.Test.YtnnobdkjgafdmaaShTypes
import Derived.Test.YtnnobdkjgafdmaaShBridge
set_option linter.unusedVariables false
set_option linter.unusedSimpArgs false
set_option linter.unusedSectionVars false
namespace Go.Proofs.Ytnnobdkjgafdmaa
namespace GV
open _root_.Go.Proofs.Try
open Go.ChangeShapes Go.WideShapes Go.ChangeAt Go.RowKit
set_option maxRecDepth 100000
def ok5(x:Int):Prop:=(Lit.int .u8 x).wf=true
theorem op5:z8v prog 5 (qb .u8) ok5:=by
 have h:=zmc underlying5 (by kernel_rfl)
 exact h
def q5w(x:(List Int)):Prop:=(∀ y∈x,ok5 y)∧x.length≤maxLen
theorem q7f:z8v prog 22 (tSl false (qb .u8)) q5w:=by
 have h:=zh9 underlying22 (by kernel_rfl) op5 (Nat.le_of_ble_eq_true rfl)
 exact h
def q78(x:Int):Prop:=(Lit.int .u16 x).wf=true
theorem q89:z8v prog 71 (qb .u16) q78:=by
 have h:=zmc underlying71 (by kernel_rfl)
 exact h
def q79(x:(List Int)):Prop:=(∀ y∈x,q78 y)∧x.length≤maxLen
theorem q8k:z8v prog 23 (tSl false (qb .u16)) q79:=by
 have h:=zh9 underlying23 (by kernel_rfl) q89 (Nat.le_of_ble_eq_true rfl)
 exact h
def q3p(x:Sg):Prop:=ok5 x.fG∧ok5 x.fC∧ok5 x.fF∧q5w x.fH∧q79 x.fJ
theorem q8e:z8v prog 25 (pu false false) q3p:=by
 have h:=zpp (fun x:Sg=>(x.fG,x.fC,x.fF,x.fH,x.fJ)) (fun a=>(⟨a.1,a.2.1,a.2.2.1,a.2.2.2.1,a.2.2.2.2⟩:Sg)) (fun _=>rfl) (zfx [(5,0),(5,1),(5,2),(22,3),(23,4)] underlying25 rfl (by kernel_rfl) (zb0 op5 rfl (zb0 op5 rfl (zb0 op5 rfl (zb0 q7f rfl (zj4 q8k))))))
 exact h
def q6s(x:Sj):Prop:=q3p x.fK
theorem q8g:z8v prog 27 (z0j false false) q6s:=by
 have h:=zpp (fun x:Sj=>x.fK) (fun a=>(⟨a⟩:Sj)) (fun _=>rfl) (zfx [(25,0)] underlying27 rfl (by kernel_rfl) (zvw (zj4 q8e)))
 exact h
theorem laid:laidOutB prog=true:=by kernel_rfl
end GV
end Go.Proofs.Ytnnobdkjgafdmaa
