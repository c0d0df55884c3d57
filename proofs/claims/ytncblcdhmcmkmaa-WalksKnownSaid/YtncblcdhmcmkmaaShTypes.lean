import Derived.Test.YtncblcdhmcmkmaaShLay
import Derived.Test.YtncblcdhmcmkmaaShDrw
set_option linter.unusedVariables false
set_option linter.unusedSimpArgs false
namespace Go.Proofs.Ytncblcdhmcmkmaa
namespace GV
structure MDat where
 states:Int
 ins:Int
 outs:Int
 part:Bool
 edges:(List Int)
 deriving DecidableEq,Inhabited
def z1v(a:Bool):Ty MDat:=(z0j (zw .u8) (z0j (zw .u8) (z0j (zw .u8) (z0j bn (tSl a (zw .u16)))))).as fun x=>(x.states,x.ins,x.outs,x.part,x.edges)
theorem zpd{a:Bool}:Part (z1v a) 0 (zw .u8) (fun x:MDat=>x.states):=⟨Nat.le_of_ble_eq_true rfl,fun R cs x h=>(z2g (A:=(zw .u8)) (B:=(z0j (zw .u8) (z0j (zw .u8) (z0j bn (tSl a (zw .u16))))))).2 R cs (x.states,x.ins,x.outs,x.part,x.edges) h⟩
theorem zqa{a:Bool}:Part (z1v a) 1 (zw .u8) (fun x:MDat=>x.ins):=⟨Nat.le_of_ble_eq_true rfl,fun R cs x h=>(ol (A:=(zw .u8)) (z2g (A:=(zw .u8)) (B:=(z0j (zw .u8) (z0j bn (tSl a (zw .u16))))))).2 R cs (x.states,x.ins,x.outs,x.part,x.edges) h⟩
theorem zpo{a:Bool}:Part (z1v a) 2 (zw .u8) (fun x:MDat=>x.outs):=⟨Nat.le_of_ble_eq_true rfl,fun R cs x h=>(ol (A:=(zw .u8)) (ol (A:=(zw .u8)) (z2g (A:=(zw .u8)) (B:=(z0j bn (tSl a (zw .u16))))))).2 R cs (x.states,x.ins,x.outs,x.part,x.edges) h⟩
theorem zod{a:Bool}:Part (z1v a) 3 bn (fun x:MDat=>x.part):=⟨Nat.le_of_ble_eq_true rfl,fun R cs x h=>(ol (A:=(zw .u8)) (ol (A:=(zw .u8)) (ol (A:=(zw .u8)) (z2g (A:=bn) (B:=(tSl a (zw .u16))))))).2 R cs (x.states,x.ins,x.outs,x.part,x.edges) h⟩
theorem zj9{a:Bool}:Part (z1v a) 4 (tSl a (zw .u16)) (fun x:MDat=>x.edges):=⟨Nat.le_of_ble_eq_true rfl,fun R cs x h=>(ol (A:=(zw .u8)) (ol (A:=(zw .u8)) (ol (A:=(zw .u8)) (ol (A:=bn) (z7t (A:=(tSl a (zw .u16)))))))).2 R cs (x.states,x.ins,x.outs,x.part,x.edges) h⟩
def kEdge:Ty Edge:=(z0j (zw .i64) (zw .i64)).as fun x=>(x.to,x.out)
theorem z5j:Part kEdge 0 (zw .i64) (fun x:Edge=>x.to):=⟨by decide,fun R cs x h=>(z2g (A:=(zw .i64)) (B:=(zw .i64))).2 R cs (x.to,x.out) h⟩
theorem zex:Part kEdge 1 (zw .i64) (fun x:Edge=>x.out):=⟨by decide,fun R cs x h=>(ol (A:=(zw .i64)) (z7t (A:=(zw .i64)))).2 R cs (x.to,x.out) h⟩
def uz(x:Edge):Value:= .agg #[(.int .i64 x.to),(.int .i64 x.out)]
theorem zql{R:RH}{x:Edge}:kEdge.rep R [(.int .i64 x.to),(.int .i64 x.out)] x:=⟨_,_,rfl,rfl,rfl⟩
theorem rq{R:RH}{v:Value}{x:Edge}:VRep kEdge R v x↔v=uz x:=⟨fun⟨_,h,e⟩=>by
 obtain⟨_,_,rfl,rfl,rfl⟩:=h
 exact e,fun h=>⟨_,zql,h⟩⟩
def qy(a b:Bool):Ty Mach:=(z0j (zw .i64) (z0j (zw .i64) (tSl a (tSl b kEdge)))).as fun x=>(x.inputs,x.outputs,x.rows)
theorem lv{a b:Bool}:Part (qy a b) 0 (zw .i64) (fun x:Mach=>x.inputs):=⟨Nat.le_of_ble_eq_true rfl,fun R cs x h=>(z2g (A:=(zw .i64)) (B:=(z0j (zw .i64) (tSl a (tSl b kEdge))))).2 R cs (x.inputs,x.outputs,x.rows) h⟩
theorem z2e{a b:Bool}:Part (qy a b) 1 (zw .i64) (fun x:Mach=>x.outputs):=⟨Nat.le_of_ble_eq_true rfl,fun R cs x h=>(ol (A:=(zw .i64)) (z2g (A:=(zw .i64)) (B:=(tSl a (tSl b kEdge))))).2 R cs (x.inputs,x.outputs,x.rows) h⟩
theorem uq{a b:Bool}:Part (qy a b) 2 (tSl a (tSl b kEdge)) (fun x:Mach=>x.rows):=⟨Nat.le_of_ble_eq_true rfl,fun R cs x h=>(ol (A:=(zw .i64)) (ol (A:=(zw .i64)) (z7t (A:=(tSl a (tSl b kEdge)))))).2 R cs (x.inputs,x.outputs,x.rows) h⟩
theorem o9{a b:Bool}{R:RH}{v:Value}{x:Mach}(h:VRep (qy a b) R v x): ∃ c,v= .agg #[(.int .i64 x.inputs),(.int .i64 x.outputs),c]∧VRep (tSl a (tSl b kEdge)) R c x.rows:=by
 obtain⟨_,h,rfl⟩:=h
 obtain⟨_,_,rfl,rfl,⟨_,_,rfl,rfl,d⟩⟩:=h
 obtain⟨f,rfl,e⟩:=zqr rfl d
 exact⟨_,rfl,e⟩
structure Sa where
 fB:Int
 fH:Int
 fG:Int
 deriving DecidableEq,Inhabited
def kSwalks_arrival:Ty Sa:=(z0j (zw .i64) (z0j (zw .i64) (zw .i64))).as fun x=>(x.fB,x.fH,x.fG)
def z6a(x:Sa):Value:= .agg #[(.int .i64 x.fB),(.int .i64 x.fH),(.int .i64 x.fG)]
theorem zb7{R:RH}{x:Sa}:kSwalks_arrival.rep R [(.int .i64 x.fB),(.int .i64 x.fH),(.int .i64 x.fG)] x:=⟨_,_,rfl,rfl,⟨_,_,rfl,rfl,rfl⟩⟩
theorem zah{R:RH}{v:Value}{x:Sa}:VRep kSwalks_arrival R v x↔v=z6a x:=⟨fun⟨_,h,e⟩=>by
 obtain⟨_,_,rfl,rfl,⟨_,_,rfl,rfl,rfl⟩⟩:=h
 exact e,fun h=>⟨_,zb7,h⟩⟩
structure WDat where
 syms:(List Int)
 deriving DecidableEq,Inhabited
def zak(a:Bool):Ty WDat:=(ztr (tSl a (zw .u8))).as fun x=>x.syms
theorem zid{a:Bool}:Part (zak a) 0 (tSl a (zw .u8)) (fun x:WDat=>x.syms):=⟨Nat.le_refl _,fun R cs x h=>(zq6 (A:=(tSl a (zw .u8)))).2 R cs x.syms h⟩
def kA2tIntu8:Ty (Int×Int):=(z0j (zw .u8) (zw .u8)).as fun x=>(x.1,x.2)
theorem zbv:Part kA2tIntu8 0 (zw .u8) (fun x:(Int×Int)=>x.1):=⟨by decide,fun R cs x h=>(z2g (A:=(zw .u8)) (B:=(zw .u8))).2 R cs (x.1,x.2) h⟩
theorem zhb:Part kA2tIntu8 1 (zw .u8) (fun x:(Int×Int)=>x.2):=⟨by decide,fun R cs x h=>(ol (A:=(zw .u8)) (z7t (A:=(zw .u8)))).2 R cs (x.1,x.2) h⟩
def z8u(x:(Int×Int)):Value:= .agg #[(.int .u8 x.1),(.int .u8 x.2)]
theorem zhh{R:RH}{x:(Int×Int)}:kA2tIntu8.rep R [(.int .u8 x.1),(.int .u8 x.2)] x:=⟨_,_,rfl,rfl,rfl⟩
theorem zfr{R:RH}{v:Value}{x:(Int×Int)}:VRep kA2tIntu8 R v x↔v=z8u x:=⟨fun⟨_,h,e⟩=>by
 obtain⟨_,_,rfl,rfl,rfl⟩:=h
 exact e,fun h=>⟨_,zhh,h⟩⟩
structure Sb where
 fF:Int
 fA:Int
 fD:Int
 fJ:(List Int)
 fM:(List Int)
 deriving DecidableEq,Inhabited
def dx(a b:Bool):Ty Sb:=(z0j (zw .u8) (z0j (zw .u8) (z0j (zw .u8) (z0j (tSl a (zw .u8)) (tSl b (zw .u16)))))).as fun x=>(x.fF,x.fA,x.fD,x.fJ,x.fM)
theorem z9j{a b:Bool}:Part (dx a b) 0 (zw .u8) (fun x:Sb=>x.fF):=⟨Nat.le_of_ble_eq_true rfl,fun R cs x h=>(z2g (A:=(zw .u8)) (B:=(z0j (zw .u8) (z0j (zw .u8) (z0j (tSl a (zw .u8)) (tSl b (zw .u16))))))).2 R cs (x.fF,x.fA,x.fD,x.fJ,x.fM) h⟩
theorem z9y{a b:Bool}:Part (dx a b) 1 (zw .u8) (fun x:Sb=>x.fA):=⟨Nat.le_of_ble_eq_true rfl,fun R cs x h=>(ol (A:=(zw .u8)) (z2g (A:=(zw .u8)) (B:=(z0j (zw .u8) (z0j (tSl a (zw .u8)) (tSl b (zw .u16))))))).2 R cs (x.fF,x.fA,x.fD,x.fJ,x.fM) h⟩
theorem z9a{a b:Bool}:Part (dx a b) 2 (zw .u8) (fun x:Sb=>x.fD):=⟨Nat.le_of_ble_eq_true rfl,fun R cs x h=>(ol (A:=(zw .u8)) (ol (A:=(zw .u8)) (z2g (A:=(zw .u8)) (B:=(z0j (tSl a (zw .u8)) (tSl b (zw .u16))))))).2 R cs (x.fF,x.fA,x.fD,x.fJ,x.fM) h⟩
theorem z5c{a b:Bool}:Part (dx a b) 3 (tSl a (zw .u8)) (fun x:Sb=>x.fJ):=⟨Nat.le_of_ble_eq_true rfl,fun R cs x h=>(ol (A:=(zw .u8)) (ol (A:=(zw .u8)) (ol (A:=(zw .u8)) (z2g (A:=(tSl a (zw .u8))) (B:=(tSl b (zw .u16))))))).2 R cs (x.fF,x.fA,x.fD,x.fJ,x.fM) h⟩
theorem z5f{b a:Bool}:Part (dx b a) 4 (tSl a (zw .u16)) (fun x:Sb=>x.fM):=⟨Nat.le_of_ble_eq_true rfl,fun R cs x h=>(ol (A:=(zw .u8)) (ol (A:=(zw .u8)) (ol (A:=(zw .u8)) (ol (A:=(tSl b (zw .u8))) (z7t (A:=(tSl a (zw .u16)))))))).2 R cs (x.fF,x.fA,x.fD,x.fJ,x.fM) h⟩
end GV
end Go.Proofs.Ytncblcdhmcmkmaa
