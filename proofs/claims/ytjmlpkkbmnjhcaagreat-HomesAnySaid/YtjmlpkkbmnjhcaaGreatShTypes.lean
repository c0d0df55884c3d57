import Derived.Test.YtjmlpkkbmnjhcaaGreatShLay
import Derived.Test.YtjmlpkkbmnjhcaaGreatShStr
set_option linter.unusedVariables false
set_option linter.unusedSimpArgs false
set_option linter.unusedSectionVars false
namespace Go.Proofs.YtjmlpkkbmnjhcaaGreat
namespace GV
structure Sd where
 fD:Int
 fB:Int
 fC:Int
 fG:(List Int)
 fM:(List Int)
 deriving DecidableEq,Inhabited
def bf(a b:Bool):Ty Sd:=(z1m (zz .u8) (z1m (zz .u8) (z1m (zz .u8) (z1m (tSl a (zz .u8)) (tSl b (zz .u16)))))).as fun x=>(x.fD,x.fB,x.fC,x.fG,x.fM)
theorem zfz{a b:Bool}:Part (bf a b) 0 (zz .u8) (fun x:Sd=>x.fD):=⟨Nat.le_of_ble_eq_true rfl,fun R cs x h=>(z4d (A:=(zz .u8)) (B:=(z1m (zz .u8) (z1m (zz .u8) (z1m (tSl a (zz .u8)) (tSl b (zz .u16))))))).2 R cs (x.fD,x.fB,x.fC,x.fG,x.fM) h⟩
theorem zfk{a b:Bool}:Part (bf a b) 1 (zz .u8) (fun x:Sd=>x.fB):=⟨Nat.le_of_ble_eq_true rfl,fun R cs x h=>(dw (A:=(zz .u8)) (z4d (A:=(zz .u8)) (B:=(z1m (zz .u8) (z1m (tSl a (zz .u8)) (tSl b (zz .u16))))))).2 R cs (x.fD,x.fB,x.fC,x.fG,x.fM) h⟩
theorem zg1{a b:Bool}:Part (bf a b) 2 (zz .u8) (fun x:Sd=>x.fC):=⟨Nat.le_of_ble_eq_true rfl,fun R cs x h=>(dw (A:=(zz .u8)) (dw (A:=(zz .u8)) (z4d (A:=(zz .u8)) (B:=(z1m (tSl a (zz .u8)) (tSl b (zz .u16))))))).2 R cs (x.fD,x.fB,x.fC,x.fG,x.fM) h⟩
theorem zaq{a b:Bool}:Part (bf a b) 3 (tSl a (zz .u8)) (fun x:Sd=>x.fG):=⟨Nat.le_of_ble_eq_true rfl,fun R cs x h=>(dw (A:=(zz .u8)) (dw (A:=(zz .u8)) (dw (A:=(zz .u8)) (z4d (A:=(tSl a (zz .u8))) (B:=(tSl b (zz .u16))))))).2 R cs (x.fD,x.fB,x.fC,x.fG,x.fM) h⟩
theorem zas{b a:Bool}:Part (bf b a) 4 (tSl a (zz .u16)) (fun x:Sd=>x.fM):=⟨Nat.le_of_ble_eq_true rfl,fun R cs x h=>(dw (A:=(zz .u8)) (dw (A:=(zz .u8)) (dw (A:=(zz .u8)) (dw (A:=(tSl b (zz .u8))) (z9z (A:=(tSl a (zz .u16)))))))).2 R cs (x.fD,x.fB,x.fC,x.fG,x.fM) h⟩
def kEdge:Ty Edge:=(z1m (zz .i64) (zz .i64)).as fun x=>(x.to,x.out)
theorem z7t:Part kEdge 0 (zz .i64) (fun x:Edge=>x.to):=⟨by decide,fun R cs x h=>(z4d (A:=(zz .i64)) (B:=(zz .i64))).2 R cs (x.to,x.out) h⟩
theorem zko:Part kEdge 1 (zz .i64) (fun x:Edge=>x.out):=⟨by decide,fun R cs x h=>(dw (A:=(zz .i64)) (z9z (A:=(zz .i64)))).2 R cs (x.to,x.out) h⟩
def z5i(x:Edge):Value:= .agg #[(.int .i64 x.to),(.int .i64 x.out)]
theorem zzj{R:RH}{x:Edge}:kEdge.rep R [(.int .i64 x.to),(.int .i64 x.out)] x:=⟨_,_,rfl,rfl,rfl⟩
theorem z6p{R:RH}{v:Value}{x:Edge}:VRep kEdge R v x↔v=z5i x:=⟨fun⟨_,h,e⟩=>by
 obtain⟨_,_,rfl,rfl,rfl⟩:=h
 exact e,fun h=>⟨_,zzj,h⟩⟩
def kv(a b:Bool):Ty Mach:=(z1m (zz .i64) (z1m (zz .i64) (tSl a (tSl b kEdge)))).as fun x=>(x.inputs,x.outputs,x.rows)
theorem z2g{a b:Bool}:Part (kv a b) 0 (zz .i64) (fun x:Mach=>x.inputs):=⟨Nat.le_of_ble_eq_true rfl,fun R cs x h=>(z4d (A:=(zz .i64)) (B:=(z1m (zz .i64) (tSl a (tSl b kEdge))))).2 R cs (x.inputs,x.outputs,x.rows) h⟩
theorem zdf{a b:Bool}:Part (kv a b) 1 (zz .i64) (fun x:Mach=>x.outputs):=⟨Nat.le_of_ble_eq_true rfl,fun R cs x h=>(dw (A:=(zz .i64)) (z4d (A:=(zz .i64)) (B:=(tSl a (tSl b kEdge))))).2 R cs (x.inputs,x.outputs,x.rows) h⟩
theorem wm{a b:Bool}:Part (kv a b) 2 (tSl a (tSl b kEdge)) (fun x:Mach=>x.rows):=⟨Nat.le_of_ble_eq_true rfl,fun R cs x h=>(dw (A:=(zz .i64)) (dw (A:=(zz .i64)) (z9z (A:=(tSl a (tSl b kEdge)))))).2 R cs (x.inputs,x.outputs,x.rows) h⟩
theorem z5l{a b:Bool}{R:RH}{v:Value}{x:Mach}(h:VRep (kv a b) R v x): ∃ c,v= .agg #[(.int .i64 x.inputs),(.int .i64 x.outputs),c]∧VRep (tSl a (tSl b kEdge)) R c x.rows:=by
 obtain⟨_,h,rfl⟩:=h
 obtain⟨_,_,rfl,rfl,⟨_,_,rfl,rfl,d⟩⟩:=h
 obtain⟨f,rfl,e⟩:=zg9 rfl d
 exact⟨_,rfl,e⟩
def kA2tInti64:Ty (Int×Int):=(z1m (zz .i64) (zz .i64)).as fun x=>(x.1,x.2)
theorem zcd:Part kA2tInti64 0 (zz .i64) (fun x:(Int×Int)=>x.1):=⟨by decide,fun R cs x h=>(z4d (A:=(zz .i64)) (B:=(zz .i64))).2 R cs (x.1,x.2) h⟩
theorem zck:Part kA2tInti64 1 (zz .i64) (fun x:(Int×Int)=>x.2):=⟨by decide,fun R cs x h=>(dw (A:=(zz .i64)) (z9z (A:=(zz .i64)))).2 R cs (x.1,x.2) h⟩
def z1l(x:(Int×Int)):Value:= .agg #[(.int .i64 x.1),(.int .i64 x.2)]
theorem zmp{R:RH}{x:(Int×Int)}:kA2tInti64.rep R [(.int .i64 x.1),(.int .i64 x.2)] x:=⟨_,_,rfl,rfl,rfl⟩
theorem rf{R:RH}{v:Value}{x:(Int×Int)}:VRep kA2tInti64 R v x↔v=z1l x:=⟨fun⟨_,h,e⟩=>by
 obtain⟨_,_,rfl,rfl,rfl⟩:=h
 exact e,fun h=>⟨_,zmp,h⟩⟩
structure Sb where
 fJ:Int
 fQ:(List Int)
 deriving DecidableEq,Inhabited
def yf(a:Bool):Ty Sb:=(z1m (zz .u16) (tSl a (zz .i64))).as fun x=>(x.fJ,x.fQ)
theorem zc3{a:Bool}{R:RH}{v:Value}{x:Sb}(h:VRep (yf a) R v x): ∃ b,v= .agg #[(.int .u16 x.fJ),b]∧VRep (tSl a (zz .i64)) R b x.fQ:=by
 obtain⟨_,h,rfl⟩:=h
 obtain⟨_,_,rfl,rfl,c⟩:=h
 obtain⟨e,rfl,d⟩:=zg9 rfl c
 exact⟨_,rfl,d⟩
structure Sg where
 fK:Mach
 deriving DecidableEq,Inhabited
def z2h(a b:Bool):Ty Sg:=(q5a (kv a b)).as fun x=>x.fK
theorem z88{a b:Bool}:Part (z2h a b) 0 (kv a b) (fun x:Sg=>x.fK):=⟨Nat.le_refl _,fun R cs x h=>(zyj (A:=(kv a b))).2 R cs x.fK h⟩
def strT1:List Int:=[0,1,1,2,1,2,2,3,1,2,2,3,2,3,3,4,1,2,2,3,2,3,3,4,2,3,3,4,3,4,4,5,1,2,2,3,2,3,3,4,2,3,3,4,3,4,4,5,2,3,3,4,3,4,4,5,3,4,4,5,4,5,5,6,1,2,2,3,2,3,3,4,2,3,3,4,3,4,4,5,2,3,3,4,3,4,4,5,3,4,4,5,4,5,5,6,2,3,3,4,3,4,4,5,3,4,4,5,4,5,5,6,3,4,4,5,4,5,5,6,4,5,5,6,5,6,6,7,1,2,2,3,2,3,3,4,2,3,3,4,3,4,4,5,2,3,3,4,3,4,4,5,3,4,4,5,4,5,5,6,2,3,3,4,3,4,4,5,3,4,4,5,4,5,5,6,3,4,4,5,4,5,5,6,4,5,5,6,5,6,6,7,2,3,3,4,3,4,4,5,3,4,4,5,4,5,5,6,3,4,4,5,4,5,5,6,4,5,5,6,5,6,6,7,3,4,4,5,4,5,5,6,4,5,5,6,5,6,6,7,4,5,5,6,5,6,6,7,5,6,6,7,6,7,7,8]
structure Sa where
 fJ:(List Int)
 fQ:(List Int)
 deriving DecidableEq,Inhabited
def w9(a b:Bool):Ty Sa:=(z1m (tSl a (zz .u16)) (tSl b (zz .i64))).as fun x=>(x.fJ,x.fQ)
theorem zby{a b:Bool}{R:RH}{v:Value}{x:Sa}(h:VRep (w9 a b) R v x): ∃ c d,v= .agg #[c,d]∧VRep (tSl a (zz .u16)) R c x.fJ∧VRep (tSl b (zz .i64)) R d x.fQ:=by
 obtain⟨_,h,rfl⟩:=h
 obtain⟨_,_,rfl,e,f⟩:=h
 obtain⟨w0,rfl,g⟩:=zg9 rfl e
 obtain⟨j,rfl,i⟩:=zg9 rfl f
 exact⟨_,_,rfl,g,i⟩
def zq9:Ty (Arr 16 Int):=q7z 16 (zz .u16)
def z6e(x:(Arr 16 Int)):List Value:=z92 (fun x:Int=>[Value.int .u16 x]) x
theorem co_A16tIntu16:CellsOf zq9 z6e:=zxa cells_int
def zlm(x:(Arr 16 Int)):Value:= .agg (z6e x).toArray
def zma:List Int:=[0,1,2,2,3,3,3,3,4,4,4,4,4,4,4,4,5,5,5,5,5,5,5,5,5,5,5,5,5,5,5,5,6,6,6,6,6,6,6,6,6,6,6,6,6,6,6,6,6,6,6,6,6,6,6,6,6,6,6,6,6,6,6,6,7,7,7,7,7,7,7,7,7,7,7,7,7,7,7,7,7,7,7,7,7,7,7,7,7,7,7,7,7,7,7,7,7,7,7,7,7,7,7,7,7,7,7,7,7,7,7,7,7,7,7,7,7,7,7,7,7,7,7,7,7,7,7,7,8,8,8,8,8,8,8,8,8,8,8,8,8,8,8,8,8,8,8,8,8,8,8,8,8,8,8,8,8,8,8,8,8,8,8,8,8,8,8,8,8,8,8,8,8,8,8,8,8,8,8,8,8,8,8,8,8,8,8,8,8,8,8,8,8,8,8,8,8,8,8,8,8,8,8,8,8,8,8,8,8,8,8,8,8,8,8,8,8,8,8,8,8,8,8,8,8,8,8,8,8,8,8,8,8,8,8,8,8,8,8,8,8,8,8,8,8,8,8,8,8,8,8,8,8,8,8,8]
structure Sc where
 fJ:(Int×Int)
 fQ:(List Int)
 deriving DecidableEq,Inhabited
def uz(a:Bool):Ty Sc:=(z1m kA2tInti64 (tSl a (zz .i64))).as fun x=>(x.fJ,x.fQ)
theorem zcf{a:Bool}{R:RH}{v:Value}{x:Sc}(h:VRep (uz a) R v x): ∃ b,v= .agg #[(.int .i64 x.fJ.1),(.int .i64 x.fJ.2),b]∧VRep (tSl a (zz .i64)) R b x.fQ:=by
 obtain⟨_,h,rfl⟩:=h
 obtain⟨_,_,rfl,⟨_,_,rfl,rfl,rfl⟩,c⟩:=h
 obtain⟨e,rfl,d⟩:=zg9 rfl c
 exact⟨_,rfl,d⟩
def kA2tIntu8:Ty (Int×Int):=(z1m (zz .u8) (zz .u8)).as fun x=>(x.1,x.2)
theorem zp1:Part kA2tIntu8 0 (zz .u8) (fun x:(Int×Int)=>x.1):=⟨by decide,fun R cs x h=>(z4d (A:=(zz .u8)) (B:=(zz .u8))).2 R cs (x.1,x.2) h⟩
theorem zhw:Part kA2tIntu8 1 (zz .u8) (fun x:(Int×Int)=>x.2):=⟨by decide,fun R cs x h=>(dw (A:=(zz .u8)) (z9z (A:=(zz .u8)))).2 R cs (x.1,x.2) h⟩
def ze6(x:(Int×Int)):Value:= .agg #[(.int .u8 x.1),(.int .u8 x.2)]
theorem zpc{R:RH}{x:(Int×Int)}:kA2tIntu8.rep R [(.int .u8 x.1),(.int .u8 x.2)] x:=⟨_,_,rfl,rfl,rfl⟩
theorem zgm{R:RH}{v:Value}{x:(Int×Int)}:VRep kA2tIntu8 R v x↔v=ze6 x:=⟨fun⟨_,h,e⟩=>by
 obtain⟨_,_,rfl,rfl,rfl⟩:=h
 exact e,fun h=>⟨_,zpc,h⟩⟩
structure MDat where
 states:Int
 ins:Int
 outs:Int
 part:Bool
 edges:(List Int)
 deriving DecidableEq,Inhabited
def zf9(a:Bool):Ty MDat:=(z1m (zz .u8) (z1m (zz .u8) (z1m (zz .u8) (z1m z16 (tSl a (zz .u16)))))).as fun x=>(x.states,x.ins,x.outs,x.part,x.edges)
theorem q0m{a:Bool}:Part (zf9 a) 0 (zz .u8) (fun x:MDat=>x.states):=⟨Nat.le_of_ble_eq_true rfl,fun R cs x h=>(z4d (A:=(zz .u8)) (B:=(z1m (zz .u8) (z1m (zz .u8) (z1m z16 (tSl a (zz .u16))))))).2 R cs (x.states,x.ins,x.outs,x.part,x.edges) h⟩
theorem q0o{a:Bool}:Part (zf9 a) 1 (zz .u8) (fun x:MDat=>x.ins):=⟨Nat.le_of_ble_eq_true rfl,fun R cs x h=>(dw (A:=(zz .u8)) (z4d (A:=(zz .u8)) (B:=(z1m (zz .u8) (z1m z16 (tSl a (zz .u16))))))).2 R cs (x.states,x.ins,x.outs,x.part,x.edges) h⟩
theorem zzr{a:Bool}:Part (zf9 a) 2 (zz .u8) (fun x:MDat=>x.outs):=⟨Nat.le_of_ble_eq_true rfl,fun R cs x h=>(dw (A:=(zz .u8)) (dw (A:=(zz .u8)) (z4d (A:=(zz .u8)) (B:=(z1m z16 (tSl a (zz .u16))))))).2 R cs (x.states,x.ins,x.outs,x.part,x.edges) h⟩
theorem zy6{a:Bool}:Part (zf9 a) 3 z16 (fun x:MDat=>x.part):=⟨Nat.le_of_ble_eq_true rfl,fun R cs x h=>(dw (A:=(zz .u8)) (dw (A:=(zz .u8)) (dw (A:=(zz .u8)) (z4d (A:=z16) (B:=(tSl a (zz .u16))))))).2 R cs (x.states,x.ins,x.outs,x.part,x.edges) h⟩
theorem zrx{a:Bool}:Part (zf9 a) 4 (tSl a (zz .u16)) (fun x:MDat=>x.edges):=⟨Nat.le_of_ble_eq_true rfl,fun R cs x h=>(dw (A:=(zz .u8)) (dw (A:=(zz .u8)) (dw (A:=(zz .u8)) (dw (A:=z16) (z9z (A:=(tSl a (zz .u16)))))))).2 R cs (x.states,x.ins,x.outs,x.part,x.edges) h⟩
structure Sj where
 fO:Int
 fP:Int
 fI:(List Int)
 fH:(List Int)
 fE:(List Int)
 deriving DecidableEq,Inhabited
def z1x(a b b2:Bool):Ty Sj:=(z1m (zz .i64) (z1m (zz .i64) (z1m (tSl a (zz .i64)) (z1m (tSl b (zz .i64)) (tSl b2 (zz .i64)))))).as fun x=>(x.fO,x.fP,x.fI,x.fH,x.fE)
theorem z7v{a b b2:Bool}:Part (z1x a b b2) 0 (zz .i64) (fun x:Sj=>x.fO):=⟨Nat.le_of_ble_eq_true rfl,fun R cs x h=>(z4d (A:=(zz .i64)) (B:=(z1m (zz .i64) (z1m (tSl a (zz .i64)) (z1m (tSl b (zz .i64)) (tSl b2 (zz .i64))))))).2 R cs (x.fO,x.fP,x.fI,x.fH,x.fE) h⟩
theorem z7s{a b b2:Bool}:Part (z1x a b b2) 1 (zz .i64) (fun x:Sj=>x.fP):=⟨Nat.le_of_ble_eq_true rfl,fun R cs x h=>(dw (A:=(zz .i64)) (z4d (A:=(zz .i64)) (B:=(z1m (tSl a (zz .i64)) (z1m (tSl b (zz .i64)) (tSl b2 (zz .i64))))))).2 R cs (x.fO,x.fP,x.fI,x.fH,x.fE) h⟩
theorem z5z{a b b2:Bool}:Part (z1x a b b2) 2 (tSl a (zz .i64)) (fun x:Sj=>x.fI):=⟨Nat.le_of_ble_eq_true rfl,fun R cs x h=>(dw (A:=(zz .i64)) (dw (A:=(zz .i64)) (z4d (A:=(tSl a (zz .i64))) (B:=(z1m (tSl b (zz .i64)) (tSl b2 (zz .i64))))))).2 R cs (x.fO,x.fP,x.fI,x.fH,x.fE) h⟩
theorem z1i{b a b2:Bool}:Part (z1x b a b2) 3 (tSl a (zz .i64)) (fun x:Sj=>x.fH):=⟨Nat.le_of_ble_eq_true rfl,fun R cs x h=>(dw (A:=(zz .i64)) (dw (A:=(zz .i64)) (dw (A:=(tSl b (zz .i64))) (z4d (A:=(tSl a (zz .i64))) (B:=(tSl b2 (zz .i64))))))).2 R cs (x.fO,x.fP,x.fI,x.fH,x.fE) h⟩
theorem z5v{a b b2:Bool}:Part (z1x a b b2) 4 (tSl b2 (zz .i64)) (fun x:Sj=>x.fE):=⟨Nat.le_of_ble_eq_true rfl,fun R cs x h=>(dw (A:=(zz .i64)) (dw (A:=(zz .i64)) (dw (A:=(tSl a (zz .i64))) (dw (A:=(tSl b (zz .i64))) (z9z (A:=(tSl b2 (zz .i64)))))))).2 R cs (x.fO,x.fP,x.fI,x.fH,x.fE) h⟩
end GV
end Go.Proofs.YtjmlpkkbmnjhcaaGreat
