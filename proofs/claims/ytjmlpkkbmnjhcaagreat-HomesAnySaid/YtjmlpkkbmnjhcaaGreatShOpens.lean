import Derived.Test.YtjmlpkkbmnjhcaaGreatShTypes
import Derived.Test.YtjmlpkkbmnjhcaaGreatShBridge
set_option linter.unusedVariables false
set_option linter.unusedSimpArgs false
set_option linter.unusedSectionVars false
namespace Go.Proofs.YtjmlpkkbmnjhcaaGreat
namespace GV
open _root_.Go.Proofs.Tryz
open Go.ChangeShapes Go.WideShapes Go.ChangeAt Go.RowKit
set_option maxRecDepth 100000
def ok5(x:Int):Prop:=(Lit.int .u8 x).wf=true
theorem op5:z6i prog 5 (zz .u8) ok5:=by
 have h:=zjd underlying5 (by kernel_rfl)
 exact h
def q1w(x:(List Int)):Prop:=(∀ y∈x,ok5 y)∧x.length≤maxLen
theorem q56:z6i prog 22 (tSl false (zz .u8)) q1w:=by
 have h:=zam underlying22 (by kernel_rfl) op5 (Nat.le_of_ble_eq_true rfl)
 exact h
def q7h(x:Int):Prop:=(Lit.int .u16 x).wf=true
theorem qa8:z6i prog 68 (zz .u16) q7h:=by
 have h:=zjd underlying68 (by kernel_rfl)
 exact h
def q5y(x:(List Int)):Prop:=(∀ y∈x,q7h y)∧x.length≤maxLen
theorem q8x:z6i prog 23 (tSl false (zz .u16)) q5y:=by
 have h:=zam underlying23 (by kernel_rfl) qa8 (Nat.le_of_ble_eq_true rfl)
 exact h
def q0a(x:Sd):Prop:=ok5 x.fD∧ok5 x.fB∧ok5 x.fC∧q1w x.fG∧q5y x.fM
theorem q6x:z6i prog 25 (bf false false) q0a:=by
 have h:=zd8 (fun x:Sd=>(x.fD,x.fB,x.fC,x.fG,x.fM)) (fun a=>(⟨a.1,a.2.1,a.2.2.1,a.2.2.2.1,a.2.2.2.2⟩:Sd)) (fun _=>rfl) (z9h [(5,0),(5,1),(5,2),(22,3),(23,4)] underlying25 rfl (by kernel_rfl) (z1u op5 rfl (z1u op5 rfl (z1u op5 rfl (z1u q56 rfl (za4 q8x))))))
 exact h
def q8p(x:(Int×Int)):Prop:=ok5 x.1∧ok5 x.2
theorem qap:z6i prog 41 kA2tIntu8 q8p:=by
 have h:=zd8 (fun x:(Int×Int)=>(x.1,x.2)) (fun a=>((a.1,a.2):(Int×Int))) (fun _=>rfl) (zs7 [(5,0),(5,1)] underlying41 (by kernel_rfl) (by kernel_rfl) (z1u op5 rfl (za4 op5)))
 exact h
def ok3(x:Int):Prop:=(Lit.int .i64 x).wf=true
theorem op3:z6i prog 3 (zz .i64) ok3:=by
 have h:=zjd underlying3 (by kernel_rfl)
 exact h
def q9m(x:Edge):Prop:=ok3 x.to∧ok3 x.out
theorem qad:z6i prog 66 kEdge q9m:=by
 have h:=zd8 (fun x:Edge=>(x.to,x.out)) (fun a=>(⟨a.1,a.2⟩:Edge)) (fun _=>rfl) (z9h [(3,0),(3,1)] underlying66 rfl (by kernel_rfl) (z1u op3 rfl (za4 op3)))
 exact h
def q7s(x:(List Edge)):Prop:=(∀ y∈x,q9m y)∧x.length≤maxLen
theorem qbp:z6i prog 63 (tSl false kEdge) q7s:=by
 have h:=zam underlying63 (by kernel_rfl) qad (Nat.le_of_ble_eq_true rfl)
 exact h
def q9z(x:(List (List Edge))):Prop:=(∀ y∈x,q7s y)∧x.length≤maxLen
theorem qb1:z6i prog 26 (tSl false (tSl false kEdge)) q9z:=by
 have h:=zam underlying26 (by kernel_rfl) qbp (Nat.le_of_ble_eq_true rfl)
 exact h
def q8f(x:Mach):Prop:=ok3 x.inputs∧ok3 x.outputs∧q9z x.rows
theorem qam:z6i prog 28 (kv false false) q8f:=by
 have h:=zd8 (fun x:Mach=>(x.inputs,x.outputs,x.rows)) (fun a=>(⟨a.1,a.2.1,a.2.2⟩:Mach)) (fun _=>rfl) (z9h [(3,0),(3,1),(26,2)] underlying28 rfl (by kernel_rfl) (z1u op3 rfl (z1u op3 rfl (za4 qb1))))
 exact h
def ok4(x:Bool):Prop:=True
theorem op4:z6i prog 4 z16 ok4:=by
 have h:=zsy underlying4 (by kernel_rfl)
 exact h
def q5e(x:MDat):Prop:=ok5 x.states∧ok5 x.ins∧ok5 x.outs∧ok4 x.part∧q5y x.edges
theorem qa2:z6i prog 54 (zf9 false) q5e:=by
 have h:=zd8 (fun x:MDat=>(x.states,x.ins,x.outs,x.part,x.edges)) (fun a=>(⟨a.1,a.2.1,a.2.2.1,a.2.2.2.1,a.2.2.2.2⟩:MDat)) (fun _=>rfl) (z9h [(5,0),(5,1),(5,2),(4,3),(23,4)] underlying54 rfl (by kernel_rfl) (z1u op5 rfl (z1u op5 rfl (z1u op5 rfl (z1u op4 rfl (za4 q8x))))))
 exact h
def q35(x:(List Int)):Prop:=(∀ y∈x,ok3 y)∧x.length≤maxLen
theorem q5r:z6i prog 30 (tSl false (zz .i64)) q35:=by
 have h:=zam underlying30 (by kernel_rfl) op3 (Nat.le_of_ble_eq_true rfl)
 exact h
def q7e(x:Sj):Prop:=ok3 x.fO∧ok3 x.fP∧q35 x.fI∧q35 x.fH∧q35 x.fE
theorem qa1:z6i prog 56 (z1x false false false) q7e:=by
 have h:=zd8 (fun x:Sj=>(x.fO,x.fP,x.fI,x.fH,x.fE)) (fun a=>(⟨a.1,a.2.1,a.2.2.1,a.2.2.2.1,a.2.2.2.2⟩:Sj)) (fun _=>rfl) (z9h [(3,0),(3,1),(30,2),(30,3),(30,4)] underlying56 rfl (by kernel_rfl) (z1u op3 rfl (z1u op3 rfl (z1u q5r rfl (z1u q5r rfl (za4 q5r))))))
 exact h
theorem laid:laidOutB prog=true:=by kernel_rfl
end GV
end Go.Proofs.YtjmlpkkbmnjhcaaGreat
