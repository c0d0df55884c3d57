import Derived.Test.YtjmlpkkbmnjhcaaShTypes
import Derived.Test.YtjmlpkkbmnjhcaaShBridge
set_option linter.unusedVariables false
set_option linter.unusedSimpArgs false
set_option linter.unusedSectionVars false
namespace Go.Proofs.Ytjmlpkkbmnjhcaa
namespace GV
open _root_.Go.Proofs.Try
open Go.ChangeShapes Go.WideShapes Go.ChangeAt Go.RowKit
set_option maxRecDepth 100000
def ok5(x:Int):Prop:=(Lit.int .u8 x).wf=true
theorem op5:z8d prog 5 (q8 .u8) ok5:=by
 have h:=zhu underlying5 (by kernel_rfl)
 exact h
def zwx(x:(List Int)):Prop:=(∀ y∈x,ok5 y)∧x.length≤maxLen
theorem zzz:z8d prog 22 (tSl false (q8 .u8)) zwx:=by
 have h:=zec underlying22 (by kernel_rfl) op5 (Nat.le_of_ble_eq_true rfl)
 exact h
def zwy(x:Int):Prop:=(Lit.int .u16 x).wf=true
theorem zza:z8d prog 67 (q8 .u16) zwy:=by
 have h:=zhu underlying67 (by kernel_rfl)
 exact h
def zy8(x:(List Int)):Prop:=(∀ y∈x,zwy y)∧x.length≤maxLen
theorem q0k:z8d prog 23 (tSl false (q8 .u16)) zy8:=by
 have h:=zec underlying23 (by kernel_rfl) zza (Nat.le_of_ble_eq_true rfl)
 exact h
def zt0(x:Sd):Prop:=ok5 x.fD∧ok5 x.fB∧ok5 x.fC∧zwx x.fF∧zy8 x.fI
theorem zwq:z8d prog 25 (gz false false) zt0:=by
 have h:=zsq (fun x:Sd=>(x.fD,x.fB,x.fC,x.fF,x.fI)) (fun a=>(⟨a.1,a.2.1,a.2.2.1,a.2.2.2.1,a.2.2.2.2⟩:Sd)) (fun _=>rfl) (zj3 [(5,0),(5,1),(5,2),(22,3),(23,4)] underlying25 rfl (by kernel_rfl) (z9v op5 rfl (z9v op5 rfl (z9v op5 rfl (z9v zzz rfl (zlz q0k))))))
 exact h
theorem laid:laidOutB prog=true:=by kernel_rfl
end GV
end Go.Proofs.Ytjmlpkkbmnjhcaa
