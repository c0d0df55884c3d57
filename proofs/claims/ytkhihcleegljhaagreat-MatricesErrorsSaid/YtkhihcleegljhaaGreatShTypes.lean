import Derived.Test.YtkhihcleegljhaaGreatShLay
import Derived.Test.YtkhihcleegljhaaGreatShBit
set_option linter.unusedVariables false
set_option linter.unusedSimpArgs false
namespace Go.Proofs.YtkhihcleegljhaaGreat
namespace GV
structure MDat where
 states:Int
 ins:Int
 outs:Int
 part:Bool
 edges:(List Int)
 deriving DecidableEq,Inhabited
structure Sd where
 fK:Int
 fP:(List (List Int))
 deriving DecidableEq,Inhabited
structure Sb where
 fM:(List Int)
 fI:(List (Int×Int×Int×Int))
 deriving DecidableEq,Inhabited
structure Sc where
 fO:(List Int)
 fQ:Sb
 deriving DecidableEq,Inhabited
def kEdge:Ty Edge:=(z8w (zu .i64) (zu .i64)).as fun x=>(x.to,x.out)
theorem zgh:Part kEdge 0 (zu .i64) (fun x:Edge=>x.to):=⟨by decide,fun R cs x h=>(zcz (A:=(zu .i64)) (B:=(zu .i64))).2 R cs (x.to,x.out) h⟩
theorem zf9:Part kEdge 1 (zu .i64) (fun x:Edge=>x.out):=⟨by decide,fun R cs x h=>(zaz (A:=(zu .i64)) (zdy (A:=(zu .i64)))).2 R cs (x.to,x.out) h⟩
def z2o(x:Edge):Value:= .agg #[(.int .i64 x.to),(.int .i64 x.out)]
theorem zjo{R:RH}{x:Edge}:kEdge.rep R [(.int .i64 x.to),(.int .i64 x.out)] x:=⟨_,_,rfl,rfl,rfl⟩
theorem z1o{R:RH}{v:Value}{x:Edge}:VRep kEdge R v x↔v=z2o x:=⟨fun⟨_,h,e⟩=>by
 obtain⟨_,_,rfl,rfl,rfl⟩:=h
 exact e,fun h=>⟨_,zjo,h⟩⟩
def bg(a b:Bool):Ty Mach:=(z8w (zu .i64) (z8w (zu .i64) (tSl a (tSl b kEdge)))).as fun x=>(x.inputs,x.outputs,x.rows)
theorem z0z{a b:Bool}:Part (bg a b) 0 (zu .i64) (fun x:Mach=>x.inputs):=⟨Nat.le_of_ble_eq_true rfl,fun R cs x h=>(zcz (A:=(zu .i64)) (B:=(z8w (zu .i64) (tSl a (tSl b kEdge))))).2 R cs (x.inputs,x.outputs,x.rows) h⟩
theorem z7u{a b:Bool}:Part (bg a b) 1 (zu .i64) (fun x:Mach=>x.outputs):=⟨Nat.le_of_ble_eq_true rfl,fun R cs x h=>(zaz (A:=(zu .i64)) (zcz (A:=(zu .i64)) (B:=(tSl a (tSl b kEdge))))).2 R cs (x.inputs,x.outputs,x.rows) h⟩
theorem z0c{a b:Bool}:Part (bg a b) 2 (tSl a (tSl b kEdge)) (fun x:Mach=>x.rows):=⟨Nat.le_of_ble_eq_true rfl,fun R cs x h=>(zaz (A:=(zu .i64)) (zaz (A:=(zu .i64)) (zdy (A:=(tSl a (tSl b kEdge)))))).2 R cs (x.inputs,x.outputs,x.rows) h⟩
theorem zd4{a b:Bool}{R:RH}{v:Value}{x:Mach}(h:VRep (bg a b) R v x): ∃ c,v= .agg #[(.int .i64 x.inputs),(.int .i64 x.outputs),c]∧VRep (tSl a (tSl b kEdge)) R c x.rows:=by
 obtain⟨_,h,rfl⟩:=h
 obtain⟨_,_,rfl,rfl,⟨_,_,rfl,rfl,d⟩⟩:=h
 obtain⟨f,rfl,e⟩:=zf5 rfl d
 exact⟨_,rfl,e⟩
structure Sg where
 fAd:Int
 deriving DecidableEq,Inhabited
structure Sk where
 fV:Int
 fT:Int
 fU:Int
 fAb:Int
 fAc:Int
 fAa:Int
 deriving DecidableEq,Inhabited
structure Sa where
 fB:(List (List Int))
 deriving DecidableEq,Inhabited
def qa(a b:Bool):Ty Sa:=(zmn (tSl a (tSl b (zu .i64)))).as fun x=>x.fB
theorem uq{a b:Bool}:Part (qa a b) 0 (tSl a (tSl b (zu .i64))) (fun x:Sa=>x.fB):=⟨Nat.le_refl _,fun R cs x h=>(zkq (A:=(tSl a (tSl b (zu .i64))))).2 R cs x.fB h⟩
theorem z4a{a b:Bool}{R:RH}{v:Value}{x:Sa}(h:VRep (qa a b) R v x): ∃ c,v= .agg #[c]∧VRep (tSl a (tSl b (zu .i64))) R c x.fB:=by
 obtain⟨_,h,rfl⟩:=h
 have d:(tSl a (tSl b (zu .i64))).rep R _ x.fB:=h
 obtain⟨f,rfl,e⟩:=zf5 rfl d
 exact⟨_,rfl,e⟩
def zck:List Int:=[0,1,2,2,3,3,3,3,4,4,4,4,4,4,4,4,5,5,5,5,5,5,5,5,5,5,5,5,5,5,5,5,6,6,6,6,6,6,6,6,6,6,6,6,6,6,6,6,6,6,6,6,6,6,6,6,6,6,6,6,6,6,6,6,7,7,7,7,7,7,7,7,7,7,7,7,7,7,7,7,7,7,7,7,7,7,7,7,7,7,7,7,7,7,7,7,7,7,7,7,7,7,7,7,7,7,7,7,7,7,7,7,7,7,7,7,7,7,7,7,7,7,7,7,7,7,7,7,8,8,8,8,8,8,8,8,8,8,8,8,8,8,8,8,8,8,8,8,8,8,8,8,8,8,8,8,8,8,8,8,8,8,8,8,8,8,8,8,8,8,8,8,8,8,8,8,8,8,8,8,8,8,8,8,8,8,8,8,8,8,8,8,8,8,8,8,8,8,8,8,8,8,8,8,8,8,8,8,8,8,8,8,8,8,8,8,8,8,8,8,8,8,8,8,8,8,8,8,8,8,8,8,8,8,8,8,8,8,8,8,8,8,8,8,8,8,8,8,8,8,8,8,8,8,8,8]
structure Sj where
 fJ:Int
 fZ:(List Int)
 deriving DecidableEq,Inhabited
end GV
end Go.Proofs.YtkhihcleegljhaaGreat
