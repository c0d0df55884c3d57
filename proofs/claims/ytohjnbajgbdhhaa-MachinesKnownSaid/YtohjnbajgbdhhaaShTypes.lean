import Derived.Test.YtohjnbajgbdhhaaShDrw
set_option linter.unusedVariables false
set_option linter.unusedSimpArgs false
namespace Go.Proofs.Ytohjnbajgbdhhaa
namespace GV
structure MDat where
 states:Int
 ins:Int
 outs:Int
 part:Bool
 edges:(List Int)
 deriving DecidableEq,Inhabited
def z0j(a:Bool):Ty MDat:=(z19 (j3 .u8) (z19 (j3 .u8) (z19 (j3 .u8) (z19 fe (tSl a (j3 .u16)))))).as fun x=>(x.states,x.ins,x.outs,x.part,x.edges)
theorem zlj{a:Bool}:Part (z0j a) 0 (j3 .u8) (fun x:MDat=>x.states):=⟨Nat.le_of_ble_eq_true rfl,fun R cs x h=>(z1z (A:=(j3 .u8)) (B:=(z19 (j3 .u8) (z19 (j3 .u8) (z19 fe (tSl a (j3 .u16))))))).2 R cs (x.states,x.ins,x.outs,x.part,x.edges) h⟩
theorem zk9{a:Bool}:Part (z0j a) 1 (j3 .u8) (fun x:MDat=>x.ins):=⟨Nat.le_of_ble_eq_true rfl,fun R cs x h=>(l9 (A:=(j3 .u8)) (z1z (A:=(j3 .u8)) (B:=(z19 (j3 .u8) (z19 fe (tSl a (j3 .u16))))))).2 R cs (x.states,x.ins,x.outs,x.part,x.edges) h⟩
theorem zk4{a:Bool}:Part (z0j a) 2 (j3 .u8) (fun x:MDat=>x.outs):=⟨Nat.le_of_ble_eq_true rfl,fun R cs x h=>(l9 (A:=(j3 .u8)) (l9 (A:=(j3 .u8)) (z1z (A:=(j3 .u8)) (B:=(z19 fe (tSl a (j3 .u16))))))).2 R cs (x.states,x.ins,x.outs,x.part,x.edges) h⟩
theorem zl4{a:Bool}:Part (z0j a) 3 fe (fun x:MDat=>x.part):=⟨Nat.le_of_ble_eq_true rfl,fun R cs x h=>(l9 (A:=(j3 .u8)) (l9 (A:=(j3 .u8)) (l9 (A:=(j3 .u8)) (z1z (A:=fe) (B:=(tSl a (j3 .u16))))))).2 R cs (x.states,x.ins,x.outs,x.part,x.edges) h⟩
theorem zf4{a:Bool}:Part (z0j a) 4 (tSl a (j3 .u16)) (fun x:MDat=>x.edges):=⟨Nat.le_of_ble_eq_true rfl,fun R cs x h=>(l9 (A:=(j3 .u8)) (l9 (A:=(j3 .u8)) (l9 (A:=(j3 .u8)) (l9 (A:=fe) (z4n (A:=(tSl a (j3 .u16)))))))).2 R cs (x.states,x.ins,x.outs,x.part,x.edges) h⟩
def kEdge:Ty Edge:=(z19 (j3 .i64) (j3 .i64)).as fun x=>(x.to,x.out)
theorem z9i:Part kEdge 0 (j3 .i64) (fun x:Edge=>x.to):=⟨by decide,fun R cs x h=>(z1z (A:=(j3 .i64)) (B:=(j3 .i64))).2 R cs (x.to,x.out) h⟩
theorem zem:Part kEdge 1 (j3 .i64) (fun x:Edge=>x.out):=⟨by decide,fun R cs x h=>(l9 (A:=(j3 .i64)) (z4n (A:=(j3 .i64)))).2 R cs (x.to,x.out) h⟩
def qx(x:Edge):Value:= .agg #[(.int .i64 x.to),(.int .i64 x.out)]
theorem zl8{R:RH}{x:Edge}:kEdge.rep R [(.int .i64 x.to),(.int .i64 x.out)] x:=⟨_,_,rfl,rfl,rfl⟩
theorem uy{R:RH}{v:Value}{x:Edge}:VRep kEdge R v x↔v=qx x:=⟨fun⟨_,h,e⟩=>by
 obtain⟨_,_,rfl,rfl,rfl⟩:=h
 exact e,fun h=>⟨_,zl8,h⟩⟩
def qm(a b:Bool):Ty Mach:=(z19 (j3 .i64) (z19 (j3 .i64) (tSl a (tSl b kEdge)))).as fun x=>(x.inputs,x.outputs,x.rows)
theorem p9{a b:Bool}:Part (qm a b) 0 (j3 .i64) (fun x:Mach=>x.inputs):=⟨Nat.le_of_ble_eq_true rfl,fun R cs x h=>(z1z (A:=(j3 .i64)) (B:=(z19 (j3 .i64) (tSl a (tSl b kEdge))))).2 R cs (x.inputs,x.outputs,x.rows) h⟩
theorem z09{a b:Bool}:Part (qm a b) 1 (j3 .i64) (fun x:Mach=>x.outputs):=⟨Nat.le_of_ble_eq_true rfl,fun R cs x h=>(l9 (A:=(j3 .i64)) (z1z (A:=(j3 .i64)) (B:=(tSl a (tSl b kEdge))))).2 R cs (x.inputs,x.outputs,x.rows) h⟩
theorem kw{a b:Bool}:Part (qm a b) 2 (tSl a (tSl b kEdge)) (fun x:Mach=>x.rows):=⟨Nat.le_of_ble_eq_true rfl,fun R cs x h=>(l9 (A:=(j3 .i64)) (l9 (A:=(j3 .i64)) (z4n (A:=(tSl a (tSl b kEdge)))))).2 R cs (x.inputs,x.outputs,x.rows) h⟩
theorem z0s{a b:Bool}{R:RH}{v:Value}{x:Mach}(h:VRep (qm a b) R v x): ∃ c,v= .agg #[(.int .i64 x.inputs),(.int .i64 x.outputs),c]∧VRep (tSl a (tSl b kEdge)) R c x.rows:=by
 obtain⟨_,h,rfl⟩:=h
 obtain⟨_,_,rfl,rfl,⟨_,_,rfl,rfl,d⟩⟩:=h
 obtain⟨f,rfl,e⟩:=zhs rfl d
 exact⟨_,rfl,e⟩
theorem z1k{a b:Bool}{R:RH}{v:Value}{x:Mach}(h:VRep (qm a b) R v x):v= .agg #[(.int .i64 x.inputs),(.int .i64 x.outputs),(z0v v 2)]∧VRep (tSl a (tSl b kEdge)) R (z0v v 2) x.rows:=by
 obtain⟨d,rfl,c⟩:=z0s h
 exact⟨rfl,c⟩
def kA2tInti64:Ty (Int×Int):=(z19 (j3 .i64) (j3 .i64)).as fun x=>(x.1,x.2)
theorem z3n:Part kA2tInti64 0 (j3 .i64) (fun x:(Int×Int)=>x.1):=⟨by decide,fun R cs x h=>(z1z (A:=(j3 .i64)) (B:=(j3 .i64))).2 R cs (x.1,x.2) h⟩
theorem z3m:Part kA2tInti64 1 (j3 .i64) (fun x:(Int×Int)=>x.2):=⟨by decide,fun R cs x h=>(l9 (A:=(j3 .i64)) (z4n (A:=(j3 .i64)))).2 R cs (x.1,x.2) h⟩
def z1y(x:(Int×Int)):Value:= .agg #[(.int .i64 x.1),(.int .i64 x.2)]
theorem zcr{R:RH}{x:(Int×Int)}:kA2tInti64.rep R [(.int .i64 x.1),(.int .i64 x.2)] x:=⟨_,_,rfl,rfl,rfl⟩
theorem z7l{R:RH}{v:Value}{x:(Int×Int)}:VRep kA2tInti64 R v x↔v=z1y x:=⟨fun⟨_,h,e⟩=>by
 obtain⟨_,_,rfl,rfl,rfl⟩:=h
 exact e,fun h=>⟨_,zcr,h⟩⟩
structure WDat where
 syms:(List Int)
 deriving DecidableEq,Inhabited
def z15(a:Bool):Ty WDat:=(zkz (tSl a (j3 .u8))).as fun x=>x.syms
theorem zfd{a:Bool}:Part (z15 a) 0 (tSl a (j3 .u8)) (fun x:WDat=>x.syms):=⟨Nat.le_refl _,fun R cs x h=>(zle (A:=(tSl a (j3 .u8)))).2 R cs x.syms h⟩
theorem zh3{a:Bool}{R:RH}{v:Value}{x:WDat}(h:VRep (z15 a) R v x): ∃ b,v= .agg #[b]∧VRep (tSl a (j3 .u8)) R b x.syms:=by
 obtain⟨_,h,rfl⟩:=h
 have c:(tSl a (j3 .u8)).rep R _ x.syms:=h
 obtain⟨e,rfl,d⟩:=zhs rfl c
 exact⟨_,rfl,d⟩
theorem zc5{a:Bool}{R:RH}{v:Value}{x:WDat}(h:VRep (z15 a) R v x):v= .agg #[(z0v v 0)]∧VRep (tSl a (j3 .u8)) R (z0v v 0) x.syms:=by
 obtain⟨c,rfl,b⟩:=zh3 h
 exact⟨rfl,b⟩
def z6u(a b:Bool):Ty (WDat×WDat):=(z19 (z15 a) (z15 b)).as fun x=>(x.1,x.2)
theorem zg9{a b:Bool}:Part (z6u a b) 0 (z15 a) (fun x:(WDat×WDat)=>x.1):=⟨Nat.le_of_ble_eq_true rfl,fun R cs x h=>(z1z (A:=(z15 a)) (B:=(z15 b))).2 R cs (x.1,x.2) h⟩
theorem zge{b a:Bool}:Part (z6u b a) 1 (z15 a) (fun x:(WDat×WDat)=>x.2):=⟨Nat.le_of_ble_eq_true rfl,fun R cs x h=>(l9 (A:=(z15 b)) (z4n (A:=(z15 a)))).2 R cs (x.1,x.2) h⟩
def kA2tIntu8:Ty (Int×Int):=(z19 (j3 .u8) (j3 .u8)).as fun x=>(x.1,x.2)
theorem zdt:Part kA2tIntu8 0 (j3 .u8) (fun x:(Int×Int)=>x.1):=⟨by decide,fun R cs x h=>(z1z (A:=(j3 .u8)) (B:=(j3 .u8))).2 R cs (x.1,x.2) h⟩
theorem ze0:Part kA2tIntu8 1 (j3 .u8) (fun x:(Int×Int)=>x.2):=⟨by decide,fun R cs x h=>(l9 (A:=(j3 .u8)) (z4n (A:=(j3 .u8)))).2 R cs (x.1,x.2) h⟩
def z6m(x:(Int×Int)):Value:= .agg #[(.int .u8 x.1),(.int .u8 x.2)]
theorem zdp{R:RH}{x:(Int×Int)}:kA2tIntu8.rep R [(.int .u8 x.1),(.int .u8 x.2)] x:=⟨_,_,rfl,rfl,rfl⟩
theorem zcu{R:RH}{v:Value}{x:(Int×Int)}:VRep kA2tIntu8 R v x↔v=z6m x:=⟨fun⟨_,h,e⟩=>by
 obtain⟨_,_,rfl,rfl,rfl⟩:=h
 exact e,fun h=>⟨_,zdp,h⟩⟩
end GV
end Go.Proofs.Ytohjnbajgbdhhaa
