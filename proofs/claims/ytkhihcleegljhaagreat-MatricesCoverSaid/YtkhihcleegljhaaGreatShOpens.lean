import Derived.Test.YtkhihcleegljhaaGreatShTypes
import Derived.Test.YtkhihcleegljhaaGreatShBridge
set_option linter.unusedVariables false
set_option linter.unusedSimpArgs false
namespace Go.Proofs.YtkhihcleegljhaaGreat
namespace GV
open _root_.Go.Proofs.Tryz
open Go.ChangeShapes Go.WideShapes Go.ChangeAt Go.RowKit
set_option maxRecDepth 100000
def ok5(x:Int):Prop:=(Lit.int .u8 x).wf=true
theorem op5:z81 prog 5 (zx .u8) ok5:=by
 have h:=zfd underlying5 (by kernel_rfl)
 exact h
def zqx(x:Int):Prop:=(Lit.int .u16 x).wf=true
theorem zrf:z81 prog 74 (zx .u16) zqx:=by
 have h:=zfd underlying74 (by kernel_rfl)
 exact h
def zqn(x:(List Int)):Prop:=(∀ y∈x,zqx y)∧x.length≤maxLen
theorem zsk:z81 prog 22 (tSl false (zx .u16)) zqn:=by
 have h:=zgq underlying22 (by kernel_rfl) zrf (Nat.le_of_ble_eq_true rfl)
 exact h
def zqr(x:Sb):Prop:=ok5 x.fE∧zqn x.fC
theorem zrz:z81 prog 60 (l7 false) zqr:=by
 have h:=zmr (fun x:Sb=>(x.fE,x.fC)) (fun a=>(⟨a.1,a.2⟩:Sb)) (fun _=>rfl) (zfq [(5,0),(22,1)] underlying60 rfl (by kernel_rfl) (zio op5 rfl (zin zsk)))
 exact h
theorem laid:laidOutB prog=true:=by kernel_rfl
end GV
end Go.Proofs.YtkhihcleegljhaaGreat
