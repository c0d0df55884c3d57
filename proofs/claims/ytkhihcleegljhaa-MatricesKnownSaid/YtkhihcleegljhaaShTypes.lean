import Derived.Test.YtkhihcleegljhaaShLay
import Derived.Test.YtkhihcleegljhaaShBit
set_option linter.unusedVariables false
set_option linter.unusedSimpArgs false
set_option linter.unusedSectionVars false
namespace Go.Proofs.Ytkhihcleegljhaa
namespace GV
def kEdge:Ty Edge:=(z8e (zm .i64) (zm .i64)).as fun x=>(x.to,x.out)
theorem zdr:Part kEdge 0 (zm .i64) (fun x:Edge=>x.to):=⟨by decide,fun R cs x h=>(zbc (A:=(zm .i64)) (B:=(zm .i64))).2 R cs (x.to,x.out) h⟩
theorem zdk:Part kEdge 1 (zm .i64) (fun x:Edge=>x.out):=⟨by decide,fun R cs x h=>(z9m (A:=(zm .i64)) (zcg (A:=(zm .i64)))).2 R cs (x.to,x.out) h⟩
def z3u(x:Edge):Value:= .agg #[(.int .i64 x.to),(.int .i64 x.out)]
theorem zi4{R:RH}{x:Edge}:kEdge.rep R [(.int .i64 x.to),(.int .i64 x.out)] x:=⟨_,_,rfl,rfl,rfl⟩
theorem z2g{R:RH}{v:Value}{x:Edge}:VRep kEdge R v x↔v=z3u x:=⟨fun⟨_,h,e⟩=>by
 obtain⟨_,_,rfl,rfl,rfl⟩:=h
 exact e,fun h=>⟨_,zi4,h⟩⟩
def mf(a b:Bool):Ty Mach:=(z8e (zm .i64) (z8e (zm .i64) (tSl a (tSl b kEdge)))).as fun x=>(x.inputs,x.outputs,x.rows)
theorem z5y{a b:Bool}:Part (mf a b) 0 (zm .i64) (fun x:Mach=>x.inputs):=⟨Nat.le_of_ble_eq_true rfl,fun R cs x h=>(zbc (A:=(zm .i64)) (B:=(z8e (zm .i64) (tSl a (tSl b kEdge))))).2 R cs (x.inputs,x.outputs,x.rows) h⟩
theorem zax{a b:Bool}:Part (mf a b) 1 (zm .i64) (fun x:Mach=>x.outputs):=⟨Nat.le_of_ble_eq_true rfl,fun R cs x h=>(z9m (A:=(zm .i64)) (zbc (A:=(zm .i64)) (B:=(tSl a (tSl b kEdge))))).2 R cs (x.inputs,x.outputs,x.rows) h⟩
theorem z6b{a b:Bool}:Part (mf a b) 2 (tSl a (tSl b kEdge)) (fun x:Mach=>x.rows):=⟨Nat.le_of_ble_eq_true rfl,fun R cs x h=>(z9m (A:=(zm .i64)) (z9m (A:=(zm .i64)) (zcg (A:=(tSl a (tSl b kEdge)))))).2 R cs (x.inputs,x.outputs,x.rows) h⟩
theorem zb6{a b:Bool}{R:RH}{v:Value}{x:Mach}(h:VRep (mf a b) R v x): ∃ c,v= .agg #[(.int .i64 x.inputs),(.int .i64 x.outputs),c]∧VRep (tSl a (tSl b kEdge)) R c x.rows:=by
 obtain⟨_,h,rfl⟩:=h
 obtain⟨_,_,rfl,rfl,⟨_,_,rfl,rfl,d⟩⟩:=h
 obtain⟨f,rfl,e⟩:=zf5 rfl d
 exact⟨_,rfl,e⟩
structure Sa where
 fB:(List (List Int))
 deriving DecidableEq,Inhabited
def zn(a b:Bool):Ty Sa:=(zgs (tSl a (tSl b (zm .i64)))).as fun x=>x.fB
theorem ut{a b:Bool}:Part (zn a b) 0 (tSl a (tSl b (zm .i64))) (fun x:Sa=>x.fB):=⟨Nat.le_refl _,fun R cs x h=>(zhl (A:=(tSl a (tSl b (zm .i64))))).2 R cs x.fB h⟩
theorem z0v{a b:Bool}{R:RH}{v:Value}{x:Sa}(h:VRep (zn a b) R v x): ∃ c,v= .agg #[c]∧VRep (tSl a (tSl b (zm .i64))) R c x.fB:=by
 obtain⟨_,h,rfl⟩:=h
 have d:(tSl a (tSl b (zm .i64))).rep R _ x.fB:=h
 obtain⟨f,rfl,e⟩:=zf5 rfl d
 exact⟨_,rfl,e⟩
theorem lq{a b:Bool}{R:RH}{v:Value}{x:Sa}(h:VRep (zn a b) R v x):v= .agg #[(ny v 0)]∧VRep (tSl a (tSl b (zm .i64))) R (ny v 0) x.fB:=by
 obtain⟨d,rfl,c⟩:=z0v h
 exact⟨rfl,c⟩
def zbr:List Int:=[0,1,2,2,3,3,3,3,4,4,4,4,4,4,4,4,5,5,5,5,5,5,5,5,5,5,5,5,5,5,5,5,6,6,6,6,6,6,6,6,6,6,6,6,6,6,6,6,6,6,6,6,6,6,6,6,6,6,6,6,6,6,6,6,7,7,7,7,7,7,7,7,7,7,7,7,7,7,7,7,7,7,7,7,7,7,7,7,7,7,7,7,7,7,7,7,7,7,7,7,7,7,7,7,7,7,7,7,7,7,7,7,7,7,7,7,7,7,7,7,7,7,7,7,7,7,7,7,8,8,8,8,8,8,8,8,8,8,8,8,8,8,8,8,8,8,8,8,8,8,8,8,8,8,8,8,8,8,8,8,8,8,8,8,8,8,8,8,8,8,8,8,8,8,8,8,8,8,8,8,8,8,8,8,8,8,8,8,8,8,8,8,8,8,8,8,8,8,8,8,8,8,8,8,8,8,8,8,8,8,8,8,8,8,8,8,8,8,8,8,8,8,8,8,8,8,8,8,8,8,8,8,8,8,8,8,8,8,8,8,8,8,8,8,8,8,8,8,8,8,8,8,8,8,8,8]
end GV
end Go.Proofs.Ytkhihcleegljhaa
