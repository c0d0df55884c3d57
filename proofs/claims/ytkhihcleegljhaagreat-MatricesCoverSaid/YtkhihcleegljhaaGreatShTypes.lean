import Derived.Test.YtkhihcleegljhaaGreatShLay
import Derived.Test.YtkhihcleegljhaaGreatShBit
set_option linter.unusedVariables false
set_option linter.unusedSimpArgs false
namespace Go.Proofs.YtkhihcleegljhaaGreat
namespace GV
structure Sb where
 fE:Int
 fC:(List Int)
 deriving DecidableEq,Inhabited
def l7(a:Bool):Ty Sb:=(z92 (zx .u8) (tSl a (zx .u16))).as fun x=>(x.fE,x.fC)
theorem z9m{a:Bool}:Part (l7 a) 0 (zx .u8) (fun x:Sb=>x.fE):=⟨Nat.le_of_ble_eq_true rfl,fun R cs x h=>(zb8 (A:=(zx .u8)) (B:=(tSl a (zx .u16)))).2 R cs (x.fE,x.fC) h⟩
theorem z3e{a:Bool}:Part (l7 a) 1 (tSl a (zx .u16)) (fun x:Sb=>x.fC):=⟨Nat.le_of_ble_eq_true rfl,fun R cs x h=>(z9f (A:=(zx .u8)) (zc4 (A:=(tSl a (zx .u16))))).2 R cs (x.fE,x.fC) h⟩
structure Sa where
 fB:(List (List Int))
 deriving DecidableEq,Inhabited
def zw(a b:Bool):Ty Sa:=(zph (tSl a (tSl b (zx .i64)))).as fun x=>x.fB
theorem jh{a b:Bool}:Part (zw a b) 0 (tSl a (tSl b (zx .i64))) (fun x:Sa=>x.fB):=⟨Nat.le_refl _,fun R cs x h=>(zmg (A:=(tSl a (tSl b (zx .i64))))).2 R cs x.fB h⟩
theorem z4l{a b:Bool}{R:RH}{v:Value}{x:Sa}(h:VRep (zw a b) R v x): ∃ c,v= .agg #[c]∧VRep (tSl a (tSl b (zx .i64))) R c x.fB:=by
 obtain⟨_,h,rfl⟩:=h
 have d:(tSl a (tSl b (zx .i64))).rep R _ x.fB:=h
 obtain⟨f,rfl,e⟩:=zjb rfl d
 exact⟨_,rfl,e⟩
def ze6:List Int:=[0,1,2,2,3,3,3,3,4,4,4,4,4,4,4,4,5,5,5,5,5,5,5,5,5,5,5,5,5,5,5,5,6,6,6,6,6,6,6,6,6,6,6,6,6,6,6,6,6,6,6,6,6,6,6,6,6,6,6,6,6,6,6,6,7,7,7,7,7,7,7,7,7,7,7,7,7,7,7,7,7,7,7,7,7,7,7,7,7,7,7,7,7,7,7,7,7,7,7,7,7,7,7,7,7,7,7,7,7,7,7,7,7,7,7,7,7,7,7,7,7,7,7,7,7,7,7,7,8,8,8,8,8,8,8,8,8,8,8,8,8,8,8,8,8,8,8,8,8,8,8,8,8,8,8,8,8,8,8,8,8,8,8,8,8,8,8,8,8,8,8,8,8,8,8,8,8,8,8,8,8,8,8,8,8,8,8,8,8,8,8,8,8,8,8,8,8,8,8,8,8,8,8,8,8,8,8,8,8,8,8,8,8,8,8,8,8,8,8,8,8,8,8,8,8,8,8,8,8,8,8,8,8,8,8,8,8,8,8,8,8,8,8,8,8,8,8,8,8,8,8,8,8,8,8,8]
def kEdge:Ty Edge:=(z92 (zx .i64) (zx .i64)).as fun x=>(x.to,x.out)
theorem zgz:Part kEdge 0 (zx .i64) (fun x:Edge=>x.to):=⟨by decide,fun R cs x h=>(zb8 (A:=(zx .i64)) (B:=(zx .i64))).2 R cs (x.to,x.out) h⟩
theorem zgb:Part kEdge 1 (zx .i64) (fun x:Edge=>x.out):=⟨by decide,fun R cs x h=>(z9f (A:=(zx .i64)) (zc4 (A:=(zx .i64)))).2 R cs (x.to,x.out) h⟩
def z5i(x:Edge):Value:= .agg #[(.int .i64 x.to),(.int .i64 x.out)]
theorem zlu{R:RH}{x:Edge}:kEdge.rep R [(.int .i64 x.to),(.int .i64 x.out)] x:=⟨_,_,rfl,rfl,rfl⟩
theorem z4c{R:RH}{v:Value}{x:Edge}:VRep kEdge R v x↔v=z5i x:=⟨fun⟨_,h,e⟩=>by
 obtain⟨_,_,rfl,rfl,rfl⟩:=h
 exact e,fun h=>⟨_,zlu,h⟩⟩
def z19(a b:Bool):Ty Mach:=(z92 (zx .i64) (z92 (zx .i64) (tSl a (tSl b kEdge)))).as fun x=>(x.inputs,x.outputs,x.rows)
theorem z7t{a b:Bool}:Part (z19 a b) 0 (zx .i64) (fun x:Mach=>x.inputs):=⟨Nat.le_of_ble_eq_true rfl,fun R cs x h=>(zb8 (A:=(zx .i64)) (B:=(z92 (zx .i64) (tSl a (tSl b kEdge))))).2 R cs (x.inputs,x.outputs,x.rows) h⟩
theorem zd1{a b:Bool}:Part (z19 a b) 1 (zx .i64) (fun x:Mach=>x.outputs):=⟨Nat.le_of_ble_eq_true rfl,fun R cs x h=>(z9f (A:=(zx .i64)) (zb8 (A:=(zx .i64)) (B:=(tSl a (tSl b kEdge))))).2 R cs (x.inputs,x.outputs,x.rows) h⟩
theorem z7p{a b:Bool}:Part (z19 a b) 2 (tSl a (tSl b kEdge)) (fun x:Mach=>x.rows):=⟨Nat.le_of_ble_eq_true rfl,fun R cs x h=>(z9f (A:=(zx .i64)) (z9f (A:=(zx .i64)) (zc4 (A:=(tSl a (tSl b kEdge)))))).2 R cs (x.inputs,x.outputs,x.rows) h⟩
theorem zdd{a b:Bool}{R:RH}{v:Value}{x:Mach}(h:VRep (z19 a b) R v x): ∃ c,v= .agg #[(.int .i64 x.inputs),(.int .i64 x.outputs),c]∧VRep (tSl a (tSl b kEdge)) R c x.rows:=by
 obtain⟨_,h,rfl⟩:=h
 obtain⟨_,_,rfl,rfl,⟨_,_,rfl,rfl,d⟩⟩:=h
 obtain⟨f,rfl,e⟩:=zjb rfl d
 exact⟨_,rfl,e⟩
end GV
end Go.Proofs.YtkhihcleegljhaaGreat
