import Derived.Test.YtkhihcleegljhaaGreatShLay
import Derived.Test.YtkhihcleegljhaaGreatShBit
set_option linter.unusedVariables false
set_option linter.unusedSimpArgs false
namespace Go.Proofs.YtkhihcleegljhaaGreat
namespace GV
structure MDat where
 states:Int
 ins:Int
 outs:Int
 part:Bool
 edges:(List Int)
 deriving DecidableEq,Inhabited
def zb9(a:Bool):Ty MDat:=(l7 (zq .u8) (l7 (zq .u8) (l7 (zq .u8) (l7 z2i (tSl a (zq .u16)))))).as fun x=>(x.states,x.ins,x.outs,x.part,x.edges)
theorem zo6{a:Bool}:Part (zb9 a) 0 (zq .u8) (fun x:MDat=>x.states):=⟨Nat.le_of_ble_eq_true rfl,fun R cs x h=>(z1v (A:=(zq .u8)) (B:=(l7 (zq .u8) (l7 (zq .u8) (l7 z2i (tSl a (zq .u16))))))).2 R cs (x.states,x.ins,x.outs,x.part,x.edges) h⟩
theorem zpm{a:Bool}:Part (zb9 a) 1 (zq .u8) (fun x:MDat=>x.ins):=⟨Nat.le_of_ble_eq_true rfl,fun R cs x h=>(gu (A:=(zq .u8)) (z1v (A:=(zq .u8)) (B:=(l7 (zq .u8) (l7 z2i (tSl a (zq .u16))))))).2 R cs (x.states,x.ins,x.outs,x.part,x.edges) h⟩
theorem zp7{a:Bool}:Part (zb9 a) 2 (zq .u8) (fun x:MDat=>x.outs):=⟨Nat.le_of_ble_eq_true rfl,fun R cs x h=>(gu (A:=(zq .u8)) (gu (A:=(zq .u8)) (z1v (A:=(zq .u8)) (B:=(l7 z2i (tSl a (zq .u16))))))).2 R cs (x.states,x.ins,x.outs,x.part,x.edges) h⟩
theorem znu{a:Bool}:Part (zb9 a) 3 z2i (fun x:MDat=>x.part):=⟨Nat.le_of_ble_eq_true rfl,fun R cs x h=>(gu (A:=(zq .u8)) (gu (A:=(zq .u8)) (gu (A:=(zq .u8)) (z1v (A:=z2i) (B:=(tSl a (zq .u16))))))).2 R cs (x.states,x.ins,x.outs,x.part,x.edges) h⟩
theorem zjn{a:Bool}:Part (zb9 a) 4 (tSl a (zq .u16)) (fun x:MDat=>x.edges):=⟨Nat.le_of_ble_eq_true rfl,fun R cs x h=>(gu (A:=(zq .u8)) (gu (A:=(zq .u8)) (gu (A:=(zq .u8)) (gu (A:=z2i) (z6p (A:=(tSl a (zq .u16)))))))).2 R cs (x.states,x.ins,x.outs,x.part,x.edges) h⟩
structure Sc where
 fO:Int
 fI:(List (List Int))
 deriving DecidableEq,Inhabited
def bu(a b:Bool):Ty Sc:=(l7 (zq .u8) (tSl a (tSl b (zq .u8)))).as fun x=>(x.fO,x.fI)
theorem zbv{a b:Bool}:Part (bu a b) 0 (zq .u8) (fun x:Sc=>x.fO):=⟨Nat.le_of_ble_eq_true rfl,fun R cs x h=>(z1v (A:=(zq .u8)) (B:=(tSl a (tSl b (zq .u8))))).2 R cs (x.fO,x.fI) h⟩
theorem z4j{a b:Bool}:Part (bu a b) 1 (tSl a (tSl b (zq .u8))) (fun x:Sc=>x.fI):=⟨Nat.le_of_ble_eq_true rfl,fun R cs x h=>(gu (A:=(zq .u8)) (z6p (A:=(tSl a (tSl b (zq .u8)))))).2 R cs (x.fO,x.fI) h⟩
def kA4tIntu8:Ty (Int×Int×Int×Int):=(l7 (zq .u8) (l7 (zq .u8) (l7 (zq .u8) (zq .u8)))).as fun x=>(x.1,x.2.1,x.2.2.1,x.2.2.2)
def zi5(x:(Int×Int×Int×Int)):Value:= .agg #[(.int .u8 x.1),(.int .u8 x.2.1),(.int .u8 x.2.2.1),(.int .u8 x.2.2.2)]
theorem zie{R:RH}{x:(Int×Int×Int×Int)}:kA4tIntu8.rep R [(.int .u8 x.1),(.int .u8 x.2.1),(.int .u8 x.2.2.1),(.int .u8 x.2.2.2)] x:=⟨_,_,rfl,rfl,⟨_,_,rfl,rfl,⟨_,_,rfl,rfl,rfl⟩⟩⟩
theorem zgl{R:RH}{v:Value}{x:(Int×Int×Int×Int)}:VRep kA4tIntu8 R v x↔v=zi5 x:=⟨fun⟨_,h,e⟩=>by
 obtain⟨_,_,rfl,rfl,⟨_,_,rfl,rfl,⟨_,_,rfl,rfl,rfl⟩⟩⟩:=h
 exact e,fun h=>⟨_,zie,h⟩⟩
structure Sg where
 fH:(List Int)
 fD:(List (Int×Int×Int×Int))
 deriving DecidableEq,Inhabited
def bq(a b:Bool):Ty Sg:=(l7 (tSl a (zq .u8)) (tSl b kA4tIntu8)).as fun x=>(x.fH,x.fD)
theorem z7j{a b:Bool}:Part (bq a b) 0 (tSl a (zq .u8)) (fun x:Sg=>x.fH):=⟨Nat.le_of_ble_eq_true rfl,fun R cs x h=>(z1v (A:=(tSl a (zq .u8))) (B:=(tSl b kA4tIntu8))).2 R cs (x.fH,x.fD) h⟩
theorem z7e{b a:Bool}:Part (bq b a) 1 (tSl a kA4tIntu8) (fun x:Sg=>x.fD):=⟨Nat.le_of_ble_eq_true rfl,fun R cs x h=>(gu (A:=(tSl b (zq .u8))) (z6p (A:=(tSl a kA4tIntu8)))).2 R cs (x.fH,x.fD) h⟩
structure Sd where
 fZ:(List Int)
 fAf:Sg
 deriving DecidableEq,Inhabited
def z07(a b c:Bool):Ty Sd:=(l7 (tSl a (zq .u16)) (bq b c)).as fun x=>(x.fZ,x.fAf)
theorem z8s{a b c:Bool}:Part (z07 a b c) 0 (tSl a (zq .u16)) (fun x:Sd=>x.fZ):=⟨Nat.le_of_ble_eq_true rfl,fun R cs x h=>(z1v (A:=(tSl a (zq .u16))) (B:=(bq b c))).2 R cs (x.fZ,x.fAf) h⟩
theorem z8r{c a b:Bool}:Part (z07 c a b) 1 (bq a b) (fun x:Sd=>x.fAf):=⟨Nat.le_of_ble_eq_true rfl,fun R cs x h=>(gu (A:=(tSl c (zq .u16))) (z6p (A:=(bq a b)))).2 R cs (x.fZ,x.fAf) h⟩
def kEdge:Ty Edge:=(l7 (zq .i64) (zq .i64)).as fun x=>(x.to,x.out)
theorem zfp:Part kEdge 0 (zq .i64) (fun x:Edge=>x.to):=⟨by decide,fun R cs x h=>(z1v (A:=(zq .i64)) (B:=(zq .i64))).2 R cs (x.to,x.out) h⟩
theorem zg6:Part kEdge 1 (zq .i64) (fun x:Edge=>x.out):=⟨by decide,fun R cs x h=>(gu (A:=(zq .i64)) (z6p (A:=(zq .i64)))).2 R cs (x.to,x.out) h⟩
def z3p(x:Edge):Value:= .agg #[(.int .i64 x.to),(.int .i64 x.out)]
theorem znd{R:RH}{x:Edge}:kEdge.rep R [(.int .i64 x.to),(.int .i64 x.out)] x:=⟨_,_,rfl,rfl,rfl⟩
theorem z1s{R:RH}{v:Value}{x:Edge}:VRep kEdge R v x↔v=z3p x:=⟨fun⟨_,h,e⟩=>by
 obtain⟨_,_,rfl,rfl,rfl⟩:=h
 exact e,fun h=>⟨_,znd,h⟩⟩
def wh(a b:Bool):Ty Mach:=(l7 (zq .i64) (l7 (zq .i64) (tSl a (tSl b kEdge)))).as fun x=>(x.inputs,x.outputs,x.rows)
theorem z3o{a b:Bool}:Part (wh a b) 0 (zq .i64) (fun x:Mach=>x.inputs):=⟨Nat.le_of_ble_eq_true rfl,fun R cs x h=>(z1v (A:=(zq .i64)) (B:=(l7 (zq .i64) (tSl a (tSl b kEdge))))).2 R cs (x.inputs,x.outputs,x.rows) h⟩
theorem z5s{a b:Bool}:Part (wh a b) 1 (zq .i64) (fun x:Mach=>x.outputs):=⟨Nat.le_of_ble_eq_true rfl,fun R cs x h=>(gu (A:=(zq .i64)) (z1v (A:=(zq .i64)) (B:=(tSl a (tSl b kEdge))))).2 R cs (x.inputs,x.outputs,x.rows) h⟩
theorem ah{a b:Bool}:Part (wh a b) 2 (tSl a (tSl b kEdge)) (fun x:Mach=>x.rows):=⟨Nat.le_of_ble_eq_true rfl,fun R cs x h=>(gu (A:=(zq .i64)) (gu (A:=(zq .i64)) (z6p (A:=(tSl a (tSl b kEdge)))))).2 R cs (x.inputs,x.outputs,x.rows) h⟩
theorem zal{a b:Bool}{R:RH}{v:Value}{x:Mach}(h:VRep (wh a b) R v x): ∃ c,v= .agg #[(.int .i64 x.inputs),(.int .i64 x.outputs),c]∧VRep (tSl a (tSl b kEdge)) R c x.rows:=by
 obtain⟨_,h,rfl⟩:=h
 obtain⟨_,_,rfl,rfl,⟨_,_,rfl,rfl,d⟩⟩:=h
 obtain⟨f,rfl,e⟩:=zla rfl d
 exact⟨_,rfl,e⟩
structure Sj where
 fAa:Int
 deriving DecidableEq,Inhabited
def kSgauntletlaw19_F:Ty Sj:=(zq9 (zq .u16)).as fun x=>x.fAa
theorem zbh:Part kSgauntletlaw19_F 0 (zq .u16) (fun x:Sj=>x.fAa):=⟨Nat.le_refl _,fun R cs x h=>(zju (A:=(zq .u16))).2 R cs x.fAa h⟩
def z4c(x:Sj):Value:= .agg #[(.int .u16 x.fAa)]
theorem zbw{R:RH}{x:Sj}:kSgauntletlaw19_F.rep R [(.int .u16 x.fAa)] x:=rfl
theorem zat{R:RH}{v:Value}{x:Sj}:VRep kSgauntletlaw19_F R v x↔v=z4c x:=⟨fun⟨_,h,e⟩=>by
 obtain rfl:=h
 exact e,fun h=>⟨_,zbw,h⟩⟩
structure Sb where
 fK:Int
 fB:Int
 fC:Int
 fG:Int
 fJ:Int
 fF:Int
 deriving DecidableEq,Inhabited
def kSfaults_Fault:Ty Sb:=(l7 (zq .i64) (l7 (zq .i64) (l7 (zq .i64) (l7 (zq .i64) (l7 (zq .i64) (zq .i64)))))).as fun x=>(x.fK,x.fB,x.fC,x.fG,x.fJ,x.fF)
theorem z9b:Part kSfaults_Fault 0 (zq .i64) (fun x:Sb=>x.fK):=⟨by decide,fun R cs x h=>(z1v (A:=(zq .i64)) (B:=(l7 (zq .i64) (l7 (zq .i64) (l7 (zq .i64) (l7 (zq .i64) (zq .i64))))))).2 R cs (x.fK,x.fB,x.fC,x.fG,x.fJ,x.fF) h⟩
theorem z3w:Part kSfaults_Fault 1 (zq .i64) (fun x:Sb=>x.fB):=⟨by decide,fun R cs x h=>(gu (A:=(zq .i64)) (z1v (A:=(zq .i64)) (B:=(l7 (zq .i64) (l7 (zq .i64) (l7 (zq .i64) (zq .i64))))))).2 R cs (x.fK,x.fB,x.fC,x.fG,x.fJ,x.fF) h⟩
theorem z3x:Part kSfaults_Fault 2 (zq .i64) (fun x:Sb=>x.fC):=⟨by decide,fun R cs x h=>(gu (A:=(zq .i64)) (gu (A:=(zq .i64)) (z1v (A:=(zq .i64)) (B:=(l7 (zq .i64) (l7 (zq .i64) (zq .i64))))))).2 R cs (x.fK,x.fB,x.fC,x.fG,x.fJ,x.fF) h⟩
theorem l8:Part kSfaults_Fault 3 (zq .i64) (fun x:Sb=>x.fG):=⟨by decide,fun R cs x h=>(gu (A:=(zq .i64)) (gu (A:=(zq .i64)) (gu (A:=(zq .i64)) (z1v (A:=(zq .i64)) (B:=(l7 (zq .i64) (zq .i64))))))).2 R cs (x.fK,x.fB,x.fC,x.fG,x.fJ,x.fF) h⟩
theorem z0m:Part kSfaults_Fault 4 (zq .i64) (fun x:Sb=>x.fJ):=⟨by decide,fun R cs x h=>(gu (A:=(zq .i64)) (gu (A:=(zq .i64)) (gu (A:=(zq .i64)) (gu (A:=(zq .i64)) (z1v (A:=(zq .i64)) (B:=(zq .i64))))))).2 R cs (x.fK,x.fB,x.fC,x.fG,x.fJ,x.fF) h⟩
theorem ic:Part kSfaults_Fault 5 (zq .i64) (fun x:Sb=>x.fF):=⟨by decide,fun R cs x h=>(gu (A:=(zq .i64)) (gu (A:=(zq .i64)) (gu (A:=(zq .i64)) (gu (A:=(zq .i64)) (gu (A:=(zq .i64)) (z6p (A:=(zq .i64)))))))).2 R cs (x.fK,x.fB,x.fC,x.fG,x.fJ,x.fF) h⟩
def av(x:Sb):Value:= .agg #[(.int .i64 x.fK),(.int .i64 x.fB),(.int .i64 x.fC),(.int .i64 x.fG),(.int .i64 x.fJ),(.int .i64 x.fF)]
theorem zde{R:RH}{x:Sb}:kSfaults_Fault.rep R [(.int .i64 x.fK),(.int .i64 x.fB),(.int .i64 x.fC),(.int .i64 x.fG),(.int .i64 x.fJ),(.int .i64 x.fF)] x:=⟨_,_,rfl,rfl,⟨_,_,rfl,rfl,⟨_,_,rfl,rfl,⟨_,_,rfl,rfl,⟨_,_,rfl,rfl,rfl⟩⟩⟩⟩⟩
theorem z5d{R:RH}{v:Value}{x:Sb}:VRep kSfaults_Fault R v x↔v=av x:=⟨fun⟨_,h,e⟩=>by
 obtain⟨_,_,rfl,rfl,⟨_,_,rfl,rfl,⟨_,_,rfl,rfl,⟨_,_,rfl,rfl,⟨_,_,rfl,rfl,rfl⟩⟩⟩⟩⟩:=h
 exact e,fun h=>⟨_,zde,h⟩⟩
structure Sa where
 fE:(List (List Int))
 deriving DecidableEq,Inhabited
def qa(a b:Bool):Ty Sa:=(zq9 (tSl a (tSl b (zq .i64)))).as fun x=>x.fE
theorem uu{a b:Bool}:Part (qa a b) 0 (tSl a (tSl b (zq .i64))) (fun x:Sa=>x.fE):=⟨Nat.le_refl _,fun R cs x h=>(zju (A:=(tSl a (tSl b (zq .i64))))).2 R cs x.fE h⟩
theorem z6l{a b:Bool}{R:RH}{v:Value}{x:Sa}(h:VRep (qa a b) R v x): ∃ c,v= .agg #[c]∧VRep (tSl a (tSl b (zq .i64))) R c x.fE:=by
 obtain⟨_,h,rfl⟩:=h
 have d:(tSl a (tSl b (zq .i64))).rep R _ x.fE:=h
 obtain⟨f,rfl,e⟩:=zla rfl d
 exact⟨_,rfl,e⟩
def zf9:List Int:=[0,1,2,2,3,3,3,3,4,4,4,4,4,4,4,4,5,5,5,5,5,5,5,5,5,5,5,5,5,5,5,5,6,6,6,6,6,6,6,6,6,6,6,6,6,6,6,6,6,6,6,6,6,6,6,6,6,6,6,6,6,6,6,6,7,7,7,7,7,7,7,7,7,7,7,7,7,7,7,7,7,7,7,7,7,7,7,7,7,7,7,7,7,7,7,7,7,7,7,7,7,7,7,7,7,7,7,7,7,7,7,7,7,7,7,7,7,7,7,7,7,7,7,7,7,7,7,7,8,8,8,8,8,8,8,8,8,8,8,8,8,8,8,8,8,8,8,8,8,8,8,8,8,8,8,8,8,8,8,8,8,8,8,8,8,8,8,8,8,8,8,8,8,8,8,8,8,8,8,8,8,8,8,8,8,8,8,8,8,8,8,8,8,8,8,8,8,8,8,8,8,8,8,8,8,8,8,8,8,8,8,8,8,8,8,8,8,8,8,8,8,8,8,8,8,8,8,8,8,8,8,8,8,8,8,8,8,8,8,8,8,8,8,8,8,8,8,8,8,8,8,8,8,8,8,8]
structure Sk where
 fBc:Int
 fBd:(List Int)
 deriving DecidableEq,Inhabited
end GV
end Go.Proofs.YtkhihcleegljhaaGreat
