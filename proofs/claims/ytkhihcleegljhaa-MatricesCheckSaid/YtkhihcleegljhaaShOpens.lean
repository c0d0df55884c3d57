import Derived.Test.YtkhihcleegljhaaShTypes
import Derived.Test.YtkhihcleegljhaaShBridge
set_option linter.unusedVariables false
set_option linter.unusedSimpArgs false
namespace Go.Proofs.Ytkhihcleegljhaa
namespace GV
open _root_.Go.Proofs.Try
open Go.ChangeShapes Go.WideShapes Go.ChangeAt Go.RowKit
set_option maxRecDepth 100000
def ok3(x:Int):Prop:=(Lit.int .i64 x).wf=true
theorem op3:z6r prog 3 (zx .i64) ok3:=by
 have h:=zik underlying3 (by kernel_rfl)
 exact h
def znc(x:(List Int)):Prop:=(∀ y∈x,ok3 y)∧x.length≤maxLen
theorem zoa:z6r prog 33 (tSl false (zx .i64)) znc:=by
 have h:=zb6 underlying33 (by kernel_rfl) op3 (Nat.le_of_ble_eq_true rfl)
 exact h
def zp3(x:(List (List Int))):Prop:=(∀ y∈x,znc y)∧x.length≤maxLen
theorem zpn:z6r prog 25 (tSl false (tSl false (zx .i64))) zp3:=by
 have h:=zb6 underlying25 (by kernel_rfl) zoa (Nat.le_of_ble_eq_true rfl)
 exact h
def zp2(x:Sa):Prop:=zp3 x.fB
theorem zpd:z6r prog 27 (zu false false) zp2:=by
 have h:=zjw (fun x:Sa=>x.fB) (fun a=>(⟨a⟩:Sa)) (fun _=>rfl) (zej [(25,0)] underlying27 rfl (by kernel_rfl) (ziv (zgq zpn)))
 exact h
theorem laid:laidOutB prog=true:=by kernel_rfl
end GV
end Go.Proofs.Ytkhihcleegljhaa
