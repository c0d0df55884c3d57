import Derived.Test.YtplgbkaollfmkaaGreatShTypes
import Derived.Test.YtplgbkaollfmkaaGreatShBridge
set_option linter.unusedVariables false
set_option linter.unusedSimpArgs false
namespace Go.Proofs.YtplgbkaollfmkaaGreat
namespace GV
open _root_.Go.Proofs.Tryz
open Go.ChangeShapes Go.WideShapes Go.ChangeAt Go.RowKit
set_option maxRecDepth 100000
def ok5(x:Int):Prop:=(Lit.int .u8 x).wf=true
theorem op5:z9t prog 5 (zw .u8) ok5:=by
 have h:=zok underlying5 (by kernel_rfl)
 exact h
def q0d(x:(List Int)):Prop:=(∀ y∈x,ok5 y)∧x.length≤maxLen
theorem q73:z9t prog 22 (tSl false (zw .u8)) q0d:=by
 have h:=zkp underlying22 (by kernel_rfl) op5 (Nat.le_of_ble_eq_true rfl)
 exact h
def q5t(x:Int):Prop:=(Lit.int .u16 x).wf=true
theorem q95:z9t prog 123 (zw .u16) q5t:=by
 have h:=zok underlying123 (by kernel_rfl)
 exact h
def q9k(x:(List Int)):Prop:=(∀ y∈x,q5t y)∧x.length≤maxLen
theorem qaj:z9t prog 23 (tSl false (zw .u16)) q9k:=by
 have h:=zkp underlying23 (by kernel_rfl) q95 (Nat.le_of_ble_eq_true rfl)
 exact h
def q7s(x:Sd):Prop:=ok5 x.fB∧ok5 x.fA∧ok5 x.fC∧q0d x.fI∧q9k x.fD
theorem qab:z9t prog 25 (il false false) q7s:=by
 have h:=zm5 (fun x:Sd=>(x.fB,x.fA,x.fC,x.fI,x.fD)) (fun a=>(⟨a.1,a.2.1,a.2.2.1,a.2.2.2.1,a.2.2.2.2⟩:Sd)) (fun _=>rfl) (zdb [(5,0),(5,1),(5,2),(22,3),(23,4)] underlying25 rfl (by kernel_rfl) (zaz op5 rfl (zaz op5 rfl (zaz op5 rfl (zaz q73 rfl (zhd qaj))))))
 exact h
def q8v(x:Sm):Prop:=q7s x.fO
theorem qbl:z9t prog 27 (z0n false false) q8v:=by
 have h:=zm5 (fun x:Sm=>x.fO) (fun a=>(⟨a⟩:Sm)) (fun _=>rfl) (zdb [(25,0)] underlying27 rfl (by kernel_rfl) (zzu (zhd qab)))
 exact h
def q6v(x:Sg):Prop:=q8v x.fAa∧q0d x.fU
theorem q8m:z9t prog 29 (iq false false false) q6v:=by
 have h:=zm5 (fun x:Sg=>(x.fAa,x.fU)) (fun a=>(⟨a.1,a.2⟩:Sg)) (fun _=>rfl) (zdb [(27,0),(22,5)] underlying29 rfl (by kernel_rfl) (zaz qbl rfl (zhd q73)))
 exact h
theorem laid:laidOutB prog=true:=by kernel_rfl
end GV
end Go.Proofs.YtplgbkaollfmkaaGreat
