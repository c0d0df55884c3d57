import Derived.Test.YtplgbkaollfmkaaGreatShTypes
import Derived.Test.YtplgbkaollfmkaaGreatShBridge
set_option linter.unusedVariables false
set_option linter.unusedSimpArgs false
namespace Go.Proofs.YtplgbkaollfmkaaGreat
namespace GV
open _root_.Go.Proofs.Tryz
open Go.ChangeShapes Go.WideShapes Go.ChangeAt Go.RowKit
set_option maxRecDepth 100000
def ok5(x:Int):Prop:=(Lit.int .u8 x).wf=true
theorem op5:z8q prog 5 (zu .u8) ok5:=by
 have h:=zoo underlying5 (by kernel_rfl)
 exact h
def q2y(x:(List Int)):Prop:=(∀ y∈x,ok5 y)∧x.length≤maxLen
theorem q7d:z8q prog 22 (tSl false (zu .u8)) q2y:=by
 have h:=zf5 underlying22 (by kernel_rfl) op5 (Nat.le_of_ble_eq_true rfl)
 exact h
def q5e(x:Int):Prop:=(Lit.int .u16 x).wf=true
theorem q8o:z8q prog 123 (zu .u16) q5e:=by
 have h:=zoo underlying123 (by kernel_rfl)
 exact h
def q8e(x:(List Int)):Prop:=(∀ y∈x,q5e y)∧x.length≤maxLen
theorem qcb:z8q prog 23 (tSl false (zu .u16)) q8e:=by
 have h:=zf5 underlying23 (by kernel_rfl) q8o (Nat.le_of_ble_eq_true rfl)
 exact h
def q3y(x:Sa):Prop:=ok5 x.fB∧ok5 x.fA∧ok5 x.fC∧q2y x.fI∧q8e x.fE
theorem q99:z8q prog 25 (gm false false) q3y:=by
 have h:=zer (fun x:Sa=>(x.fB,x.fA,x.fC,x.fI,x.fE)) (fun a=>(⟨a.1,a.2.1,a.2.2.1,a.2.2.2.1,a.2.2.2.2⟩:Sa)) (fun _=>rfl) (z8s [(5,0),(5,1),(5,2),(22,3),(23,4)] underlying25 rfl (by kernel_rfl) (z5p op5 rfl (z5p op5 rfl (z5p op5 rfl (z5p q7d rfl (zbi qcb))))))
 exact h
def q9j(x:Sq):Prop:=q3y x.fAb
theorem q9w:z8q prog 27 (z0f false false) q9j:=by
 have h:=zer (fun x:Sq=>x.fAb) (fun a=>(⟨a⟩:Sq)) (fun _=>rfl) (z8s [(25,0)] underlying27 rfl (by kernel_rfl) (zx9 (zbi q99)))
 exact h
def q86(x:Sk):Prop:=q9j x.fAi∧q2y x.fAg
theorem qb7:z8q prog 29 (z0h false false false) q86:=by
 have h:=zer (fun x:Sk=>(x.fAi,x.fAg)) (fun a=>(⟨a.1,a.2⟩:Sk)) (fun _=>rfl) (z8s [(27,0),(22,5)] underlying29 rfl (by kernel_rfl) (z5p q9w rfl (zbi q7d)))
 exact h
def q5a(x:Sd):Prop:=ok5 x.fO∧ok5 x.fAd∧ok5 x.fZ
theorem q9h:z8q prog 102 uh q5a:=by
 have h:=zer (fun x:Sd=>(x.fO,x.fAd,x.fZ)) (fun a=>(⟨a.1,a.2.1,a.2.2⟩:Sd)) (fun _=>rfl) (z8s [(5,0),(5,1),(5,2)] underlying102 rfl (by kernel_rfl) (z5p op5 rfl (z5p op5 rfl (zbi op5))))
 exact h
def q88(x:(List Sd)):Prop:=(∀ y∈x,q5a y)∧x.length≤maxLen
theorem qbn:z8q prog 54 (tSl false uh) q88:=by
 have h:=zf5 underlying54 (by kernel_rfl) q9h (Nat.le_of_ble_eq_true rfl)
 exact h
def q7x(x:Sn):Prop:=q88 x.fBg∧ok5 x.fK∧q2y x.fAh
theorem qbr:z8q prog 56 (z2o false false) q7x:=by
 have h:=zer (fun x:Sn=>(x.fBg,x.fK,x.fAh)) (fun a=>(⟨a.1,a.2.1,a.2.2⟩:Sn)) (fun _=>rfl) (z8s [(54,0),(5,1),(22,2)] underlying56 rfl (by kernel_rfl) (z5p qbn rfl (z5p op5 rfl (zbi q7d))))
 exact h
theorem laid:laidOutB prog=true:=by kernel_rfl
end GV
end Go.Proofs.YtplgbkaollfmkaaGreat
