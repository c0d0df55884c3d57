import Derived.Test.YtnnobdkjgafdmaaShTypes
import Derived.Test.YtnnobdkjgafdmaaShBridge
set_option linter.unusedVariables false
set_option linter.unusedSimpArgs false
set_option linter.unusedSectionVars false
namespace Go.Proofs.Ytnnobdkjgafdmaa
namespace GV
open _root_.Go.Proofs.Try
open Go.ChangeShapes Go.WideShapes Go.ChangeAt Go.RowKit
set_option maxRecDepth 100000
def ok5(x:Int):Prop:=(Lit.int .u8 x).wf=true
theorem op5:z5b prog 5 (qf .u8) ok5:=by
 have h:=zgj underlying5 (by kernel_rfl)
 exact h
def q3n(x:(List Int)):Prop:=(∀ y∈x,ok5 y)∧x.length≤maxLen
theorem q60:z5b prog 22 (tSl false (qf .u8)) q3n:=by
 have h:=z9b underlying22 (by kernel_rfl) op5 (Nat.le_of_ble_eq_true rfl)
 exact h
def q3x(x:Int):Prop:=(Lit.int .u16 x).wf=true
theorem q4l:z5b prog 71 (qf .u16) q3x:=by
 have h:=zgj underlying71 (by kernel_rfl)
 exact h
def q1l(x:(List Int)):Prop:=(∀ y∈x,q3x y)∧x.length≤maxLen
theorem q4d:z5b prog 23 (tSl false (qf .u16)) q1l:=by
 have h:=z9b underlying23 (by kernel_rfl) q4l (Nat.le_of_ble_eq_true rfl)
 exact h
def q08(x:Sg):Prop:=ok5 x.fG∧ok5 x.fE∧ok5 x.fF∧q3n x.fH∧q1l x.fJ
theorem q4a:z5b prog 25 (pg false false) q08:=by
 have h:=zf2 (fun x:Sg=>(x.fG,x.fE,x.fF,x.fH,x.fJ)) (fun a=>(⟨a.1,a.2.1,a.2.2.1,a.2.2.2.1,a.2.2.2.2⟩:Sg)) (fun _=>rfl) (z7z [(5,0),(5,1),(5,2),(22,3),(23,4)] underlying25 rfl (by kernel_rfl) (z6h op5 rfl (z6h op5 rfl (z6h op5 rfl (z6h q60 rfl (zb4 q4d))))))
 exact h
def q2e(x:Sj):Prop:=q08 x.fK
theorem q4v:z5b prog 27 (z02 false false) q2e:=by
 have h:=zf2 (fun x:Sj=>x.fK) (fun a=>(⟨a⟩:Sj)) (fun _=>rfl) (z7z [(25,0)] underlying27 rfl (by kernel_rfl) (zl3 (zb4 q4a)))
 exact h
def ok3(x:Int):Prop:=(Lit.int .i64 x).wf=true
theorem op3:z5b prog 3 (qf .i64) ok3:=by
 have h:=zgj underlying3 (by kernel_rfl)
 exact h
def ok32(x:(List Int)):Prop:=(∀ y∈x,ok3 y)∧x.length≤maxLen
theorem q4h:z5b prog 32 (tSl false (qf .i64)) ok32:=by
 have h:=z9b underlying32 (by kernel_rfl) op3 (Nat.le_of_ble_eq_true rfl)
 exact h
def q2i(x:Sa):Prop:=ok3 x.fB∧ok3 x.fD∧ok32 x.fC
theorem q64:z5b prog 55 (q8 false) q2i:=by
 have h:=zf2 (fun x:Sa=>(x.fB,x.fD,x.fC)) (fun a=>(⟨a.1,a.2.1,a.2.2⟩:Sa)) (fun _=>rfl) (z7z [(3,0),(3,1),(32,2)] underlying55 rfl (by kernel_rfl) (z6h op3 rfl (z6h op3 rfl (zb4 q4h))))
 exact h
def q2s(x:(List Sa)):Prop:=(∀ y∈x,q2i y)∧x.length≤maxLen
theorem q52:z5b prog 43 (tSl false (q8 false)) q2s:=by
 have h:=z9b underlying43 (by kernel_rfl) q64 (Nat.le_of_ble_eq_true rfl)
 exact h
def q1k(x:Sb):Prop:=q2s x.fA
theorem q5m:z5b prog 45 (ku false false) q1k:=by
 have h:=zf2 (fun x:Sb=>x.fA) (fun a=>(⟨a⟩:Sb)) (fun _=>rfl) (z7z [(43,0)] underlying45 rfl (by kernel_rfl) (zl3 (zb4 q52)))
 exact h
theorem laid:laidOutB prog=true:=by kernel_rfl
end GV
end Go.Proofs.Ytnnobdkjgafdmaa
