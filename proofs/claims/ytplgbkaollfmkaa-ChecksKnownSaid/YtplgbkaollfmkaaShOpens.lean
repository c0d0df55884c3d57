import Derived.Test.YtplgbkaollfmkaaShTypes
import Derived.Test.YtplgbkaollfmkaaShBridge
set_option linter.unusedVariables false
set_option linter.unusedSimpArgs false
namespace Go.Proofs.Ytplgbkaollfmkaa
namespace GV
open _root_.Go.Proofs.Try
open Go.ChangeShapes Go.WideShapes Go.ChangeAt Go.RowKit
set_option maxRecDepth 100000
def ok5(x:Int):Prop:=(Lit.int .u8 x).wf=true
theorem op5:z8m prog 5 (zx .u8) ok5:=by
 have h:=zlp underlying5 (by kernel_rfl)
 exact h
def zy2(x:(List Int)):Prop:=(∀ y∈x,ok5 y)∧x.length≤maxLen
theorem q2x:z8m prog 41 (tSl false (zx .u8)) zy2:=by
 have h:=zhw underlying41 (by kernel_rfl) op5 (Nat.le_of_ble_eq_true rfl)
 exact h
def q1n(x:Int):Prop:=(Lit.int .u16 x).wf=true
theorem q4f:z8m prog 114 (zx .u16) q1n:=by
 have h:=zlp underlying114 (by kernel_rfl)
 exact h
def q3p(x:(List Int)):Prop:=(∀ y∈x,q1n y)∧x.length≤maxLen
theorem q82:z8m prog 42 (tSl false (zx .u16)) q3p:=by
 have h:=zhw underlying42 (by kernel_rfl) q4f (Nat.le_of_ble_eq_true rfl)
 exact h
def q25(x:Sb):Prop:=ok5 x.fC∧ok5 x.fA∧ok5 x.fB∧zy2 x.fH∧q3p x.fE
theorem q80:z8m prog 44 (o9 false false) q25:=by
 have h:=zk5 (fun x:Sb=>(x.fC,x.fA,x.fB,x.fH,x.fE)) (fun a=>(⟨a.1,a.2.1,a.2.2.1,a.2.2.2.1,a.2.2.2.2⟩:Sb)) (fun _=>rfl) (zbi [(5,0),(5,1),(5,2),(41,3),(42,4)] underlying44 rfl (by kernel_rfl) (z9e op5 rfl (z9e op5 rfl (z9e op5 rfl (z9e q2x rfl (zf7 q82))))))
 exact h
def q4y(x:Sk):Prop:=q25 x.fP
theorem q86:z8m prog 46 (fq false false) q4y:=by
 have h:=zk5 (fun x:Sk=>x.fP) (fun a=>(⟨a⟩:Sk)) (fun _=>rfl) (zbi [(44,0)] underlying46 rfl (by kernel_rfl) (zvf (zf7 q80)))
 exact h
def q4r(x:Sj):Prop:=q4y x.fAh∧zy2 x.fU
theorem q7u:z8m prog 48 (fo false false false) q4r:=by
 have h:=zk5 (fun x:Sj=>(x.fAh,x.fU)) (fun a=>(⟨a.1,a.2⟩:Sj)) (fun _=>rfl) (zbi [(46,0),(41,5)] underlying48 rfl (by kernel_rfl) (z9e q86 rfl (zf7 q2x)))
 exact h
theorem laid:laidOutB prog=true:=by kernel_rfl
end GV
end Go.Proofs.Ytplgbkaollfmkaa
