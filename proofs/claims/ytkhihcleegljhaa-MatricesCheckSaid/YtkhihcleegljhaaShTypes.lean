import Derived.Test.YtkhihcleegljhaaShLay
import Derived.Test.YtkhihcleegljhaaShBit
set_option linter.unusedVariables false
set_option linter.unusedSimpArgs false
namespace Go.Proofs.Ytkhihcleegljhaa
namespace GV
structure Sb where
 fH:Int
 fI:(List Int)
 deriving DecidableEq,Inhabited
structure Sa where
 fB:(List (List Int))
 deriving DecidableEq,Inhabited
def zu(a b:Bool):Ty Sa:=(zm7 (tSl a (tSl b (zx .i64)))).as fun x=>x.fB
theorem qy{a b:Bool}:Part (zu a b) 0 (tSl a (tSl b (zx .i64))) (fun x:Sa=>x.fB):=⟨Nat.le_refl _,fun R cs x h=>(zjv (A:=(tSl a (tSl b (zx .i64))))).2 R cs x.fB h⟩
theorem z7p{a b:Bool}{R:RH}{v:Value}{x:Sa}(h:VRep (zu a b) R v x): ∃ c,v= .agg #[c]∧VRep (tSl a (tSl b (zx .i64))) R c x.fB:=by
 obtain⟨_,h,rfl⟩:=h
 have d:(tSl a (tSl b (zx .i64))).rep R _ x.fB:=h
 obtain⟨f,rfl,e⟩:=zel rfl d
 exact⟨_,rfl,e⟩
def kEdge:Ty Edge:=(z9c (zx .i64) (zx .i64)).as fun x=>(x.to,x.out)
theorem zfz:Part kEdge 0 (zx .i64) (fun x:Edge=>x.to):=⟨by decide,fun R cs x h=>(zbr (A:=(zx .i64)) (B:=(zx .i64))).2 R cs (x.to,x.out) h⟩
theorem zf5:Part kEdge 1 (zx .i64) (fun x:Edge=>x.out):=⟨by decide,fun R cs x h=>(za1 (A:=(zx .i64)) (zdp (A:=(zx .i64)))).2 R cs (x.to,x.out) h⟩
def z4o(x:Edge):Value:= .agg #[(.int .i64 x.to),(.int .i64 x.out)]
theorem zjn{R:RH}{x:Edge}:kEdge.rep R [(.int .i64 x.to),(.int .i64 x.out)] x:=⟨_,_,rfl,rfl,rfl⟩
theorem z3a{R:RH}{v:Value}{x:Edge}:VRep kEdge R v x↔v=z4o x:=⟨fun⟨_,h,e⟩=>by
 obtain⟨_,_,rfl,rfl,rfl⟩:=h
 exact e,fun h=>⟨_,zjn,h⟩⟩
def z0l(a b:Bool):Ty Mach:=(z9c (zx .i64) (z9c (zx .i64) (tSl a (tSl b kEdge)))).as fun x=>(x.inputs,x.outputs,x.rows)
theorem z6u{a b:Bool}:Part (z0l a b) 0 (zx .i64) (fun x:Mach=>x.inputs):=⟨Nat.le_of_ble_eq_true rfl,fun R cs x h=>(zbr (A:=(zx .i64)) (B:=(z9c (zx .i64) (tSl a (tSl b kEdge))))).2 R cs (x.inputs,x.outputs,x.rows) h⟩
theorem zc0{a b:Bool}:Part (z0l a b) 1 (zx .i64) (fun x:Mach=>x.outputs):=⟨Nat.le_of_ble_eq_true rfl,fun R cs x h=>(za1 (A:=(zx .i64)) (zbr (A:=(zx .i64)) (B:=(tSl a (tSl b kEdge))))).2 R cs (x.inputs,x.outputs,x.rows) h⟩
theorem z6w{a b:Bool}:Part (z0l a b) 2 (tSl a (tSl b kEdge)) (fun x:Mach=>x.rows):=⟨Nat.le_of_ble_eq_true rfl,fun R cs x h=>(za1 (A:=(zx .i64)) (za1 (A:=(zx .i64)) (zdp (A:=(tSl a (tSl b kEdge)))))).2 R cs (x.inputs,x.outputs,x.rows) h⟩
theorem zcm{a b:Bool}{R:RH}{v:Value}{x:Mach}(h:VRep (z0l a b) R v x): ∃ c,v= .agg #[(.int .i64 x.inputs),(.int .i64 x.outputs),c]∧VRep (tSl a (tSl b kEdge)) R c x.rows:=by
 obtain⟨_,h,rfl⟩:=h
 obtain⟨_,_,rfl,rfl,⟨_,_,rfl,rfl,d⟩⟩:=h
 obtain⟨f,rfl,e⟩:=zel rfl d
 exact⟨_,rfl,e⟩
def zbt:List Int:=[0,1,2,2,3,3,3,3,4,4,4,4,4,4,4,4,5,5,5,5,5,5,5,5,5,5,5,5,5,5,5,5,6,6,6,6,6,6,6,6,6,6,6,6,6,6,6,6,6,6,6,6,6,6,6,6,6,6,6,6,6,6,6,6,7,7,7,7,7,7,7,7,7,7,7,7,7,7,7,7,7,7,7,7,7,7,7,7,7,7,7,7,7,7,7,7,7,7,7,7,7,7,7,7,7,7,7,7,7,7,7,7,7,7,7,7,7,7,7,7,7,7,7,7,7,7,7,7,8,8,8,8,8,8,8,8,8,8,8,8,8,8,8,8,8,8,8,8,8,8,8,8,8,8,8,8,8,8,8,8,8,8,8,8,8,8,8,8,8,8,8,8,8,8,8,8,8,8,8,8,8,8,8,8,8,8,8,8,8,8,8,8,8,8,8,8,8,8,8,8,8,8,8,8,8,8,8,8,8,8,8,8,8,8,8,8,8,8,8,8,8,8,8,8,8,8,8,8,8,8,8,8,8,8,8,8,8,8,8,8,8,8,8,8,8,8,8,8,8,8,8,8,8,8,8,8]
end GV
end Go.Proofs.Ytkhihcleegljhaa
