import Derived.Test.YtkhihcleegljhaaGreatShTypes
import Derived.Test.YtkhihcleegljhaaGreatShBridge
set_option linter.unusedVariables false
set_option linter.unusedSimpArgs false
namespace Go.Proofs.YtkhihcleegljhaaGreat
namespace GV
open _root_.Go.Proofs.Tryz
open Go.ChangeShapes Go.WideShapes Go.ChangeAt Go.RowKit
set_option maxRecDepth 100000
def ok5(x:Int):Prop:=(Lit.int .u8 x).wf=true
theorem op5:z4d prog 5 (zq .u8) ok5:=by
 have h:=zhb underlying5 (by kernel_rfl)
 exact h
def ok4(x:Bool):Prop:=True
theorem op4:z4d prog 4 z2i ok4:=by
 have h:=zka underlying4 (by kernel_rfl)
 exact h
def ztu(x:Int):Prop:=(Lit.int .u16 x).wf=true
theorem zve:z4d prog 74 (zq .u16) ztu:=by
 have h:=zhb underlying74 (by kernel_rfl)
 exact h
def zry(x:(List Int)):Prop:=(∀ y∈x,ztu y)∧x.length≤maxLen
theorem zsv:z4d prog 22 (tSl false (zq .u16)) zry:=by
 have h:=z98 underlying22 (by kernel_rfl) zve (Nat.le_of_ble_eq_true rfl)
 exact h
def ztq(x:MDat):Prop:=ok5 x.states∧ok5 x.ins∧ok5 x.outs∧ok4 x.part∧zry x.edges
theorem zux:z4d prog 24 (zb9 false) ztq:=by
 have h:=zbs (fun x:MDat=>(x.states,x.ins,x.outs,x.part,x.edges)) (fun a=>(⟨a.1,a.2.1,a.2.2.1,a.2.2.2.1,a.2.2.2.2⟩:MDat)) (fun _=>rfl) (z8c [(5,0),(5,1),(5,2),(4,3),(22,4)] underlying24 rfl (by kernel_rfl) (z2r op5 rfl (z2r op5 rfl (z2r op5 rfl (z2r op4 rfl (z8n zsv))))))
 exact h
def zrm(x:(List Int)):Prop:=(∀ y∈x,ok5 y)∧x.length≤maxLen
theorem zu1:z4d prog 28 (tSl false (zq .u8)) zrm:=by
 have h:=z98 underlying28 (by kernel_rfl) op5 (Nat.le_of_ble_eq_true rfl)
 exact h
def zty(x:(List (List Int))):Prop:=(∀ y∈x,zrm y)∧x.length≤maxLen
theorem zvc:z4d prog 25 (tSl false (tSl false (zq .u8))) zty:=by
 have h:=z98 underlying25 (by kernel_rfl) zu1 (Nat.le_of_ble_eq_true rfl)
 exact h
def ztt(x:Sc):Prop:=ok5 x.fO∧zty x.fI
theorem zvj:z4d prog 27 (bu false false) ztt:=by
 have h:=zbs (fun x:Sc=>(x.fO,x.fI)) (fun a=>(⟨a.1,a.2⟩:Sc)) (fun _=>rfl) (z8c [(5,0),(25,1)] underlying27 rfl (by kernel_rfl) (z2r op5 rfl (z8n zvc)))
 exact h
def zt0(x:(Int×Int×Int×Int)):Prop:=ok5 x.1∧ok5 x.2.1∧ok5 x.2.2.1∧ok5 x.2.2.2
theorem zuz:z4d prog 85 kA4tIntu8 zt0:=by
 have h:=zbs (fun x:(Int×Int×Int×Int)=>(x.1,x.2.1,x.2.2.1,x.2.2.2)) (fun a=>((a.1,a.2.1,a.2.2.1,a.2.2.2):(Int×Int×Int×Int))) (fun _=>rfl) (zje [(5,0),(5,1),(5,2),(5,3)] underlying85 (by kernel_rfl) (by kernel_rfl) (z2r op5 rfl (z2r op5 rfl (z2r op5 rfl (z8n op5)))))
 exact h
def ztb(x:(List (Int×Int×Int×Int))):Prop:=(∀ y∈x,zt0 y)∧x.length≤maxLen
theorem zut:z4d prog 29 (tSl false kA4tIntu8) ztb:=by
 have h:=z98 underlying29 (by kernel_rfl) zuz (Nat.le_of_ble_eq_true rfl)
 exact h
def zu7(x:Sg):Prop:=zrm x.fH∧ztb x.fD
theorem zuw:z4d prog 31 (bq false false) zu7:=by
 have h:=zbs (fun x:Sg=>(x.fH,x.fD)) (fun a=>(⟨a.1,a.2⟩:Sg)) (fun _=>rfl) (z8c [(28,0),(29,1)] underlying31 rfl (by kernel_rfl) (z2r zu1 rfl (z8n zut)))
 exact h
def zss(x:Sd):Prop:=zry x.fZ∧zu7 x.fAf
theorem zul:z4d prog 33 (z07 false false false) zss:=by
 have h:=zbs (fun x:Sd=>(x.fZ,x.fAf)) (fun a=>(⟨a.1,a.2⟩:Sd)) (fun _=>rfl) (z8c [(22,0),(31,1)] underlying33 rfl (by kernel_rfl) (z2r zsv rfl (z8n zuw)))
 exact h
theorem laid:laidOutB prog=true:=by kernel_rfl
end GV
end Go.Proofs.YtkhihcleegljhaaGreat
