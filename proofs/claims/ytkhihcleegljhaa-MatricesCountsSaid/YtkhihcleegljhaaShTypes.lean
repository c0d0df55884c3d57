import Derived.Test.YtkhihcleegljhaaShLay
import Derived.Test.YtkhihcleegljhaaShBit
set_option linter.unusedVariables false
set_option linter.unusedSimpArgs false
namespace Go.Proofs.Ytkhihcleegljhaa
namespace GV
structure Sb where
 fE:Int
 fC:(List Int)
 deriving DecidableEq,Inhabited
def mh(a:Bool):Ty Sb:=(z7j (zu .u8) (tSl a (zu .u16))).as fun x=>(x.fE,x.fC)
theorem z88{a:Bool}:Part (mh a) 0 (zu .u8) (fun x:Sb=>x.fE):=⟨Nat.le_of_ble_eq_true rfl,fun R cs x h=>(za8 (A:=(zu .u8)) (B:=(tSl a (zu .u16)))).2 R cs (x.fE,x.fC) h⟩
theorem z1j{a:Bool}:Part (mh a) 1 (tSl a (zu .u16)) (fun x:Sb=>x.fC):=⟨Nat.le_of_ble_eq_true rfl,fun R cs x h=>(z8b (A:=(zu .u8)) (zat (A:=(tSl a (zu .u16))))).2 R cs (x.fE,x.fC) h⟩
structure Sa where
 fB:(List (List Int))
 deriving DecidableEq,Inhabited
def zn(a b:Bool):Ty Sa:=(zlx (tSl a (tSl b (zu .i64)))).as fun x=>x.fB
theorem ji{a b:Bool}:Part (zn a b) 0 (tSl a (tSl b (zu .i64))) (fun x:Sa=>x.fB):=⟨Nat.le_refl _,fun R cs x h=>(zk4 (A:=(tSl a (tSl b (zu .i64))))).2 R cs x.fB h⟩
theorem z0n{a b:Bool}{R:RH}{v:Value}{x:Sa}(h:VRep (zn a b) R v x): ∃ c,v= .agg #[c]∧VRep (tSl a (tSl b (zu .i64))) R c x.fB:=by
 obtain⟨_,h,rfl⟩:=h
 have d:(tSl a (tSl b (zu .i64))).rep R _ x.fB:=h
 obtain⟨f,rfl,e⟩:=zh2 rfl d
 exact⟨_,rfl,e⟩
def kEdge:Ty Edge:=(z7j (zu .i64) (zu .i64)).as fun x=>(x.to,x.out)
theorem zf8:Part kEdge 0 (zu .i64) (fun x:Edge=>x.to):=⟨by decide,fun R cs x h=>(za8 (A:=(zu .i64)) (B:=(zu .i64))).2 R cs (x.to,x.out) h⟩
theorem zfc:Part kEdge 1 (zu .i64) (fun x:Edge=>x.out):=⟨by decide,fun R cs x h=>(z8b (A:=(zu .i64)) (zat (A:=(zu .i64)))).2 R cs (x.to,x.out) h⟩
def z4f(x:Edge):Value:= .agg #[(.int .i64 x.to),(.int .i64 x.out)]
theorem zju{R:RH}{x:Edge}:kEdge.rep R [(.int .i64 x.to),(.int .i64 x.out)] x:=⟨_,_,rfl,rfl,rfl⟩
theorem z2p{R:RH}{v:Value}{x:Edge}:VRep kEdge R v x↔v=z4f x:=⟨fun⟨_,h,e⟩=>by
 obtain⟨_,_,rfl,rfl,rfl⟩:=h
 exact e,fun h=>⟨_,zju,h⟩⟩
def z01(a b:Bool):Ty Mach:=(z7j (zu .i64) (z7j (zu .i64) (tSl a (tSl b kEdge)))).as fun x=>(x.inputs,x.outputs,x.rows)
theorem z6h{a b:Bool}:Part (z01 a b) 0 (zu .i64) (fun x:Mach=>x.inputs):=⟨Nat.le_of_ble_eq_true rfl,fun R cs x h=>(za8 (A:=(zu .i64)) (B:=(z7j (zu .i64) (tSl a (tSl b kEdge))))).2 R cs (x.inputs,x.outputs,x.rows) h⟩
theorem zcg{a b:Bool}:Part (z01 a b) 1 (zu .i64) (fun x:Mach=>x.outputs):=⟨Nat.le_of_ble_eq_true rfl,fun R cs x h=>(z8b (A:=(zu .i64)) (za8 (A:=(zu .i64)) (B:=(tSl a (tSl b kEdge))))).2 R cs (x.inputs,x.outputs,x.rows) h⟩
theorem z6l{a b:Bool}:Part (z01 a b) 2 (tSl a (tSl b kEdge)) (fun x:Mach=>x.rows):=⟨Nat.le_of_ble_eq_true rfl,fun R cs x h=>(z8b (A:=(zu .i64)) (z8b (A:=(zu .i64)) (zat (A:=(tSl a (tSl b kEdge)))))).2 R cs (x.inputs,x.outputs,x.rows) h⟩
theorem zbp{a b:Bool}{R:RH}{v:Value}{x:Mach}(h:VRep (z01 a b) R v x): ∃ c,v= .agg #[(.int .i64 x.inputs),(.int .i64 x.outputs),c]∧VRep (tSl a (tSl b kEdge)) R c x.rows:=by
 obtain⟨_,h,rfl⟩:=h
 obtain⟨_,_,rfl,rfl,⟨_,_,rfl,rfl,d⟩⟩:=h
 obtain⟨f,rfl,e⟩:=zh2 rfl d
 exact⟨_,rfl,e⟩
def zbq:List Int:=[0,1,2,2,3,3,3,3,4,4,4,4,4,4,4,4,5,5,5,5,5,5,5,5,5,5,5,5,5,5,5,5,6,6,6,6,6,6,6,6,6,6,6,6,6,6,6,6,6,6,6,6,6,6,6,6,6,6,6,6,6,6,6,6,7,7,7,7,7,7,7,7,7,7,7,7,7,7,7,7,7,7,7,7,7,7,7,7,7,7,7,7,7,7,7,7,7,7,7,7,7,7,7,7,7,7,7,7,7,7,7,7,7,7,7,7,7,7,7,7,7,7,7,7,7,7,7,7,8,8,8,8,8,8,8,8,8,8,8,8,8,8,8,8,8,8,8,8,8,8,8,8,8,8,8,8,8,8,8,8,8,8,8,8,8,8,8,8,8,8,8,8,8,8,8,8,8,8,8,8,8,8,8,8,8,8,8,8,8,8,8,8,8,8,8,8,8,8,8,8,8,8,8,8,8,8,8,8,8,8,8,8,8,8,8,8,8,8,8,8,8,8,8,8,8,8,8,8,8,8,8,8,8,8,8,8,8,8,8,8,8,8,8,8,8,8,8,8,8,8,8,8,8,8,8,8]
end GV
end Go.Proofs.Ytkhihcleegljhaa
