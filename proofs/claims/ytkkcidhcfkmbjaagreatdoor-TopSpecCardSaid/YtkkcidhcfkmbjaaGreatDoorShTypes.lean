import Derived.Test.YtkkcidhcfkmbjaaGreatDoorShLay
import Derived.Test.YtkkcidhcfkmbjaaGreatDoorShAb
import Derived.Test.YtkkcidhcfkmbjaaGreatDoorShBl2
set_option linter.unusedVariables false
set_option linter.unusedSimpArgs false
set_option linter.unusedSectionVars false
namespace Go.Proofs.YtkkcidhcfkmbjaaGreatDoor
namespace GV
structure MDat where
 states:Int
 ins:Int
 outs:Int
 part:Bool
 edges:(List Int)
 deriving DecidableEq,Inhabited
def z6a(a:Bool):Ty MDat:=(mh (jh .u8) (mh (jh .u8) (mh (jh .u8) (mh z2m (tSl a (jh .u16)))))).as fun x=>(x.states,x.ins,x.outs,x.part,x.edges)
theorem znf{a:Bool}:Part (z6a a) 0 (jh .u8) (fun x:MDat=>x.states):=⟨Nat.le_of_ble_eq_true rfl,fun R cs x h=>(fu (A:=(jh .u8)) (B:=(mh (jh .u8) (mh (jh .u8) (mh z2m (tSl a (jh .u16))))))).2 R cs (x.states,x.ins,x.outs,x.part,x.edges) h⟩
theorem zmz{a:Bool}:Part (z6a a) 1 (jh .u8) (fun x:MDat=>x.ins):=⟨Nat.le_of_ble_eq_true rfl,fun R cs x h=>(yj (A:=(jh .u8)) (fu (A:=(jh .u8)) (B:=(mh (jh .u8) (mh z2m (tSl a (jh .u16))))))).2 R cs (x.states,x.ins,x.outs,x.part,x.edges) h⟩
theorem zng{a:Bool}:Part (z6a a) 2 (jh .u8) (fun x:MDat=>x.outs):=⟨Nat.le_of_ble_eq_true rfl,fun R cs x h=>(yj (A:=(jh .u8)) (yj (A:=(jh .u8)) (fu (A:=(jh .u8)) (B:=(mh z2m (tSl a (jh .u16))))))).2 R cs (x.states,x.ins,x.outs,x.part,x.edges) h⟩
theorem zno{a:Bool}:Part (z6a a) 3 z2m (fun x:MDat=>x.part):=⟨Nat.le_of_ble_eq_true rfl,fun R cs x h=>(yj (A:=(jh .u8)) (yj (A:=(jh .u8)) (yj (A:=(jh .u8)) (fu (A:=z2m) (B:=(tSl a (jh .u16))))))).2 R cs (x.states,x.ins,x.outs,x.part,x.edges) h⟩
theorem zhf{a:Bool}:Part (z6a a) 4 (tSl a (jh .u16)) (fun x:MDat=>x.edges):=⟨Nat.le_of_ble_eq_true rfl,fun R cs x h=>(yj (A:=(jh .u8)) (yj (A:=(jh .u8)) (yj (A:=(jh .u8)) (yj (A:=z2m) (z6e (A:=(tSl a (jh .u16)))))))).2 R cs (x.states,x.ins,x.outs,x.part,x.edges) h⟩
structure Sc where
 fD:MDat
 fA:Int
 deriving DecidableEq,Inhabited
def gq(a:Bool):Ty Sc:=(mh (z6a a) (jh .u8)).as fun x=>(x.fD,x.fA)
theorem z8c{a:Bool}:Part (gq a) 0 (z6a a) (fun x:Sc=>x.fD):=⟨Nat.le_of_ble_eq_true rfl,fun R cs x h=>(fu (A:=(z6a a)) (B:=(jh .u8))).2 R cs (x.fD,x.fA) h⟩
theorem rz{a:Bool}:Part (gq a) 5 (jh .u8) (fun x:Sc=>x.fA):=⟨Nat.le_of_ble_eq_true rfl,fun R cs x h=>(yj (A:=(z6a a)) (z6e (A:=(jh .u8)))).2 R cs (x.fD,x.fA) h⟩
structure WDat where
 syms:(List Int)
 deriving DecidableEq,Inhabited
def zcn(a:Bool):Ty WDat:=(zpx (tSl a (jh .u8))).as fun x=>x.syms
theorem zhc{a:Bool}:Part (zcn a) 0 (tSl a (jh .u8)) (fun x:WDat=>x.syms):=⟨Nat.le_refl _,fun R cs x h=>(zob (A:=(tSl a (jh .u8)))).2 R cs x.syms h⟩
def kEdge:Ty Edge:=(mh (jh .i64) (jh .i64)).as fun x=>(x.to,x.out)
theorem zcq:Part kEdge 0 (jh .i64) (fun x:Edge=>x.to):=⟨by decide,fun R cs x h=>(fu (A:=(jh .i64)) (B:=(jh .i64))).2 R cs (x.to,x.out) h⟩
theorem zhp:Part kEdge 1 (jh .i64) (fun x:Edge=>x.out):=⟨by decide,fun R cs x h=>(yj (A:=(jh .i64)) (z6e (A:=(jh .i64)))).2 R cs (x.to,x.out) h⟩
def z1m(x:Edge):Value:= .agg #[(.int .i64 x.to),(.int .i64 x.out)]
theorem zn3{R:RH}{x:Edge}:kEdge.rep R [(.int .i64 x.to),(.int .i64 x.out)] x:=⟨_,_,rfl,rfl,rfl⟩
theorem lc{R:RH}{v:Value}{x:Edge}:VRep kEdge R v x↔v=z1m x:=⟨fun⟨_,h,e⟩=>by
 obtain⟨_,_,rfl,rfl,rfl⟩:=h
 exact e,fun h=>⟨_,zn3,h⟩⟩
def il(a b:Bool):Ty Mach:=(mh (jh .i64) (mh (jh .i64) (tSl a (tSl b kEdge)))).as fun x=>(x.inputs,x.outputs,x.rows)
theorem z6d{a b:Bool}:Part (il a b) 0 (jh .i64) (fun x:Mach=>x.inputs):=⟨Nat.le_of_ble_eq_true rfl,fun R cs x h=>(fu (A:=(jh .i64)) (B:=(mh (jh .i64) (tSl a (tSl b kEdge))))).2 R cs (x.inputs,x.outputs,x.rows) h⟩
theorem z8b{a b:Bool}:Part (il a b) 1 (jh .i64) (fun x:Mach=>x.outputs):=⟨Nat.le_of_ble_eq_true rfl,fun R cs x h=>(yj (A:=(jh .i64)) (fu (A:=(jh .i64)) (B:=(tSl a (tSl b kEdge))))).2 R cs (x.inputs,x.outputs,x.rows) h⟩
theorem z1z{a b:Bool}:Part (il a b) 2 (tSl a (tSl b kEdge)) (fun x:Mach=>x.rows):=⟨Nat.le_of_ble_eq_true rfl,fun R cs x h=>(yj (A:=(jh .i64)) (yj (A:=(jh .i64)) (z6e (A:=(tSl a (tSl b kEdge)))))).2 R cs (x.inputs,x.outputs,x.rows) h⟩
theorem zi6{a b:Bool}{R:RH}{v:Value}{x:Mach}(h:VRep (il a b) R v x): ∃ c,v= .agg #[(.int .i64 x.inputs),(.int .i64 x.outputs),c]∧VRep (tSl a (tSl b kEdge)) R c x.rows:=by
 obtain⟨_,h,rfl⟩:=h
 obtain⟨_,_,rfl,rfl,⟨_,_,rfl,rfl,d⟩⟩:=h
 obtain⟨f,rfl,e⟩:=z9v rfl d
 exact⟨_,rfl,e⟩
structure Sb where
 fA:(List UInt8)
 fD:Mach
 fG:(List (List UInt8))
 fF:(List (List UInt8))
 fC:(List (List UInt8))
 deriving DecidableEq,Inhabited
def jo(a b c d e:Bool):Ty Sb:=(mh ql (mh (il a b) (mh (tSl c ql) (mh (tSl d ql) (tSl e ql))))).as fun x=>(x.fA,x.fD,x.fG,x.fF,x.fC)
theorem z6w{a b c d e:Bool}:Part (jo a b c d e) 0 ql (fun x:Sb=>x.fA):=⟨Nat.le_of_ble_eq_true rfl,fun R cs x h=>(fu (A:=ql) (B:=(mh (il a b) (mh (tSl c ql) (mh (tSl d ql) (tSl e ql)))))).2 R cs (x.fA,x.fD,x.fG,x.fF,x.fC) h⟩
theorem ai{a b c d e:Bool}:Part (jo a b c d e) 1 (il a b) (fun x:Sb=>x.fD):=⟨Nat.le_of_ble_eq_true rfl,fun R cs x h=>(yj (A:=ql) (fu (A:=(il a b)) (B:=(mh (tSl c ql) (mh (tSl d ql) (tSl e ql)))))).2 R cs (x.fA,x.fD,x.fG,x.fF,x.fC) h⟩
theorem rf{b c a d e:Bool}:Part (jo b c a d e) 4 (tSl a ql) (fun x:Sb=>x.fG):=⟨Nat.le_of_ble_eq_true rfl,fun R cs x h=>(yj (A:=ql) (yj (A:=(il b c)) (fu (A:=(tSl a ql)) (B:=(mh (tSl d ql) (tSl e ql)))))).2 R cs (x.fA,x.fD,x.fG,x.fF,x.fC) h⟩
theorem z0e{b c d a e:Bool}:Part (jo b c d a e) 5 (tSl a ql) (fun x:Sb=>x.fF):=⟨Nat.le_of_ble_eq_true rfl,fun R cs x h=>(yj (A:=ql) (yj (A:=(il b c)) (yj (A:=(tSl d ql)) (fu (A:=(tSl a ql)) (B:=(tSl e ql)))))).2 R cs (x.fA,x.fD,x.fG,x.fF,x.fC) h⟩
theorem z0b{b c d e a:Bool}:Part (jo b c d e a) 6 (tSl a ql) (fun x:Sb=>x.fC):=⟨Nat.le_of_ble_eq_true rfl,fun R cs x h=>(yj (A:=ql) (yj (A:=(il b c)) (yj (A:=(tSl d ql)) (yj (A:=(tSl e ql)) (z6e (A:=(tSl a ql))))))).2 R cs (x.fA,x.fD,x.fG,x.fF,x.fC) h⟩
theorem z4y{a b c d e:Bool}{R:RH}{v:Value}{x:Sb}(h:VRep (jo a b c d e) R v x): ∃ f g i j,v= .agg #[(zb x.fA),(.int .i64 x.fD.inputs),(.int .i64 x.fD.outputs),f,g,i,j]∧VRep (tSl a (tSl b kEdge)) R f x.fD.rows∧VRep (tSl c ql) R g x.fG∧VRep (tSl d ql) R i x.fF∧VRep (tSl e ql) R j x.fC:=by
 obtain⟨_,h,rfl⟩:=h
 obtain⟨_,_,rfl,rfl,⟨_,_,rfl,⟨_,_,rfl,rfl,⟨_,_,rfl,rfl,q1_2⟩⟩,⟨_,_,rfl,k,⟨_,_,rfl,l,m⟩⟩⟩⟩:=h
 obtain⟨w1_2,rfl,k1_2⟩:=z9v (T:=(tSl a (tSl b kEdge))) (x:=x.fD.rows) rfl q1_2
 obtain⟨q,rfl,n⟩:=z9v rfl k
 obtain⟨r,rfl,o⟩:=z9v rfl l
 obtain⟨s,rfl,p⟩:=z9v rfl m
 exact⟨_,_,_,_,rfl,k1_2,n,o,p⟩
structure Sa where
 fI:Int
 fH:(List UInt8)
 fM:Int
 fJ:Int
 deriving DecidableEq,Inhabited
def kSlexemes_Token:Ty Sa:=(mh (jh .u8) (mh ql (mh (jh .i64) (jh .i64)))).as fun x=>(x.fI,x.fH,x.fM,x.fJ)
theorem z99:Part kSlexemes_Token 0 (jh .u8) (fun x:Sa=>x.fI):=⟨by decide,fun R cs x h=>(fu (A:=(jh .u8)) (B:=(mh ql (mh (jh .i64) (jh .i64))))).2 R cs (x.fI,x.fH,x.fM,x.fJ) h⟩
theorem z04:Part kSlexemes_Token 1 ql (fun x:Sa=>x.fH):=⟨by decide,fun R cs x h=>(yj (A:=(jh .u8)) (fu (A:=ql) (B:=(mh (jh .i64) (jh .i64))))).2 R cs (x.fI,x.fH,x.fM,x.fJ) h⟩
def ym(x:Sa):Value:= .agg #[(.int .u8 x.fI),(zb x.fH),(.int .i64 x.fM),(.int .i64 x.fJ)]
theorem z95{R:RH}{x:Sa}:kSlexemes_Token.rep R [(.int .u8 x.fI),(zb x.fH),(.int .i64 x.fM),(.int .i64 x.fJ)] x:=⟨_,_,rfl,rfl,⟨_,_,rfl,rfl,⟨_,_,rfl,rfl,rfl⟩⟩⟩
theorem z3t{R:RH}{v:Value}{x:Sa}:VRep kSlexemes_Token R v x↔v=ym x:=⟨fun⟨_,h,e⟩=>by
 obtain⟨_,_,rfl,rfl,⟨_,_,rfl,rfl,⟨_,_,rfl,rfl,rfl⟩⟩⟩:=h
 exact e,fun h=>⟨_,z95,h⟩⟩
def zff:Ty (Arr 5 (List UInt8)):=zsz 5 ql
def zf2(x:(Arr 5 (List UInt8))):List Value:=z9w (fun x:List UInt8=>[zb x]) x
theorem zez:CellsOf zff zf2:=zl0 zlg
def zj6(x:(Arr 5 (List UInt8))):Value:= .agg (zf2 x).toArray
theorem zgi{R:RH}{v:Value}{x:(Arr 5 (List UInt8))}:VRep zff R v x↔v=zj6 x:=zpd zez rfl
def zc5:List Int:=[0,1,2,2,3,3,3,3,4,4,4,4,4,4,4,4,5,5,5,5,5,5,5,5,5,5,5,5,5,5,5,5,6,6,6,6,6,6,6,6,6,6,6,6,6,6,6,6,6,6,6,6,6,6,6,6,6,6,6,6,6,6,6,6,7,7,7,7,7,7,7,7,7,7,7,7,7,7,7,7,7,7,7,7,7,7,7,7,7,7,7,7,7,7,7,7,7,7,7,7,7,7,7,7,7,7,7,7,7,7,7,7,7,7,7,7,7,7,7,7,7,7,7,7,7,7,7,7,8,8,8,8,8,8,8,8,8,8,8,8,8,8,8,8,8,8,8,8,8,8,8,8,8,8,8,8,8,8,8,8,8,8,8,8,8,8,8,8,8,8,8,8,8,8,8,8,8,8,8,8,8,8,8,8,8,8,8,8,8,8,8,8,8,8,8,8,8,8,8,8,8,8,8,8,8,8,8,8,8,8,8,8,8,8,8,8,8,8,8,8,8,8,8,8,8,8,8,8,8,8,8,8,8,8,8,8,8,8,8,8,8,8,8,8,8,8,8,8,8,8,8,8,8,8,8,8]
structure Sd where
 fAb:(List Sa)
 fAa:Int
 fZ:Sb
 deriving DecidableEq,Inhabited
end GV
end Go.Proofs.YtkkcidhcfkmbjaaGreatDoor
