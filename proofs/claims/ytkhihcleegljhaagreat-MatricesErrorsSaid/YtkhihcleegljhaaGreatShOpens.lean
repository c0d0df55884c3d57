import Derived.Test.YtkhihcleegljhaaGreatShTypes
import Derived.Test.YtkhihcleegljhaaGreatShBridge
set_option linter.unusedVariables false
set_option linter.unusedSimpArgs false
namespace Go.Proofs.YtkhihcleegljhaaGreat
namespace GV
open _root_.Go.Proofs.Tryz
open Go.ChangeShapes Go.WideShapes Go.ChangeAt Go.RowKit
set_option maxRecDepth 100000
def ok3(x:Int):Prop:=(Lit.int .i64 x).wf=true
theorem op3:z4i prog 3 (zu .i64) ok3:=by
 have h:=zje underlying3 (by kernel_rfl)
 exact h
def zo5(x:Edge):Prop:=ok3 x.to∧ok3 x.out
theorem zoy:z4i prog 76 kEdge zo5:=by
 have h:=zg3 (fun x:Edge=>(x.to,x.out)) (fun a=>(⟨a.1,a.2⟩:Edge)) (fun _=>rfl) (zay [(3,0),(3,1)] underlying76 rfl (by kernel_rfl) (zad op3 rfl (zd1 op3)))
 exact h
def znk(x:(List Edge)):Prop:=(∀ y∈x,zo5 y)∧x.length≤maxLen
theorem zpd:z4i prog 73 (tSl false kEdge) znk:=by
 have h:=z5d underlying73 (by kernel_rfl) zoy (Nat.le_of_ble_eq_true rfl)
 exact h
def zna(x:(List (List Edge))):Prop:=(∀ y∈x,znk y)∧x.length≤maxLen
theorem zqe:z4i prog 34 (tSl false (tSl false kEdge)) zna:=by
 have h:=z5d underlying34 (by kernel_rfl) zpd (Nat.le_of_ble_eq_true rfl)
 exact h
def zmj(x:Mach):Prop:=ok3 x.inputs∧ok3 x.outputs∧zna x.rows
theorem zns:z4i prog 36 (bg false false) zmj:=by
 have h:=zg3 (fun x:Mach=>(x.inputs,x.outputs,x.rows)) (fun a=>(⟨a.1,a.2.1,a.2.2⟩:Mach)) (fun _=>rfl) (zay [(3,0),(3,1),(34,2)] underlying36 rfl (by kernel_rfl) (zad op3 rfl (zad op3 rfl (zd1 zqe))))
 exact h
def znd(x:(List Mach)):Prop:=(∀ y∈x,zmj y)∧x.length≤maxLen
theorem zpq:z4i prog 42 (tSl false (bg false false)) znd:=by
 have h:=z5d underlying42 (by kernel_rfl) zns (Nat.le_of_ble_eq_true rfl)
 exact h
def zno(x:(List Int)):Prop:=(∀ y∈x,ok3 y)∧x.length≤maxLen
theorem zpe:z4i prog 40 (tSl false (zu .i64)) zno:=by
 have h:=z5d underlying40 (by kernel_rfl) op3 (Nat.le_of_ble_eq_true rfl)
 exact h
def zne(x:(List (List Int))):Prop:=(∀ y∈x,zno y)∧x.length≤maxLen
theorem zqd:z4i prog 38 (tSl false (tSl false (zu .i64))) zne:=by
 have h:=z5d underlying38 (by kernel_rfl) zpe (Nat.le_of_ble_eq_true rfl)
 exact h
theorem laid:laidOutB prog=true:=by kernel_rfl
end GV
end Go.Proofs.YtkhihcleegljhaaGreat
