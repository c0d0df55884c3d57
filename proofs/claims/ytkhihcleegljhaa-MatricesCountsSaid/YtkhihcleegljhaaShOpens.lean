import Derived.Test.YtkhihcleegljhaaShTypes
import Derived.Test.YtkhihcleegljhaaShBridge
set_option linter.unusedVariables false
set_option linter.unusedSimpArgs false
namespace Go.Proofs.Ytkhihcleegljhaa
namespace GV
open _root_.Go.Proofs.Try
open Go.ChangeShapes Go.WideShapes Go.ChangeAt Go.RowKit
set_option maxRecDepth 100000
def ok5(x:Int):Prop:=(Lit.int .u8 x).wf=true
theorem op5:z6e prog 5 (zu .u8) ok5:=by
 have h:=zdh underlying5 (by kernel_rfl)
 exact h
def zmk(x:Int):Prop:=(Lit.int .u16 x).wf=true
theorem znh:z6e prog 54 (zu .u16) zmk:=by
 have h:=zdh underlying54 (by kernel_rfl)
 exact h
def zmv(x:(List Int)):Prop:=(∀ y∈x,zmk y)∧x.length≤maxLen
theorem zow:z6e prog 22 (tSl false (zu .u16)) zmv:=by
 have h:=zey underlying22 (by kernel_rfl) znh (Nat.le_of_ble_eq_true rfl)
 exact h
def zm6(x:Sb):Prop:=ok5 x.fE∧zmv x.fC
theorem zp1:z6e prog 24 (mh false) zm6:=by
 have h:=zj4 (fun x:Sb=>(x.fE,x.fC)) (fun a=>(⟨a.1,a.2⟩:Sb)) (fun _=>rfl) (zee [(5,0),(22,1)] underlying24 rfl (by kernel_rfl) (zgb op5 rfl (zfz zow)))
 exact h
theorem laid:laidOutB prog=true:=by kernel_rfl
end GV
end Go.Proofs.Ytkhihcleegljhaa
