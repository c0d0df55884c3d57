import Derived.Test.YtjmlpkkbmnjhcaaShLay
import Derived.Test.YtjmlpkkbmnjhcaaShStr
set_option linter.unusedVariables false
set_option linter.unusedSimpArgs false
set_option linter.unusedSectionVars false
namespace Go.Proofs.Ytjmlpkkbmnjhcaa
namespace GV
structure Sd where
 fD:Int
 fB:Int
 fC:Int
 fF:(List Int)
 fI:(List Int)
 deriving DecidableEq,Inhabited
def gz(a b:Bool):Ty Sd:=(z2v (q8 .u8) (z2v (q8 .u8) (z2v (q8 .u8) (z2v (tSl a (q8 .u8)) (tSl b (q8 .u16)))))).as fun x=>(x.fD,x.fB,x.fC,x.fF,x.fI)
theorem zay{a b:Bool}:Part (gz a b) 0 (q8 .u8) (fun x:Sd=>x.fD):=⟨Nat.le_of_ble_eq_true rfl,fun R cs x h=>(z6o (A:=(q8 .u8)) (B:=(z2v (q8 .u8) (z2v (q8 .u8) (z2v (tSl a (q8 .u8)) (tSl b (q8 .u16))))))).2 R cs (x.fD,x.fB,x.fC,x.fF,x.fI) h⟩
theorem zbb{a b:Bool}:Part (gz a b) 1 (q8 .u8) (fun x:Sd=>x.fB):=⟨Nat.le_of_ble_eq_true rfl,fun R cs x h=>(z19 (A:=(q8 .u8)) (z6o (A:=(q8 .u8)) (B:=(z2v (q8 .u8) (z2v (tSl a (q8 .u8)) (tSl b (q8 .u16))))))).2 R cs (x.fD,x.fB,x.fC,x.fF,x.fI) h⟩
theorem zbh{a b:Bool}:Part (gz a b) 2 (q8 .u8) (fun x:Sd=>x.fC):=⟨Nat.le_of_ble_eq_true rfl,fun R cs x h=>(z19 (A:=(q8 .u8)) (z19 (A:=(q8 .u8)) (z6o (A:=(q8 .u8)) (B:=(z2v (tSl a (q8 .u8)) (tSl b (q8 .u16))))))).2 R cs (x.fD,x.fB,x.fC,x.fF,x.fI) h⟩
theorem z6i{a b:Bool}:Part (gz a b) 3 (tSl a (q8 .u8)) (fun x:Sd=>x.fF):=⟨Nat.le_of_ble_eq_true rfl,fun R cs x h=>(z19 (A:=(q8 .u8)) (z19 (A:=(q8 .u8)) (z19 (A:=(q8 .u8)) (z6o (A:=(tSl a (q8 .u8))) (B:=(tSl b (q8 .u16))))))).2 R cs (x.fD,x.fB,x.fC,x.fF,x.fI) h⟩
theorem z6l{b a:Bool}:Part (gz b a) 4 (tSl a (q8 .u16)) (fun x:Sd=>x.fI):=⟨Nat.le_of_ble_eq_true rfl,fun R cs x h=>(z19 (A:=(q8 .u8)) (z19 (A:=(q8 .u8)) (z19 (A:=(q8 .u8)) (z19 (A:=(tSl b (q8 .u8))) (zbp (A:=(tSl a (q8 .u16)))))))).2 R cs (x.fD,x.fB,x.fC,x.fF,x.fI) h⟩
def kEdge:Ty Edge:=(z2v (q8 .i64) (q8 .i64)).as fun x=>(x.to,x.out)
theorem z1h:Part kEdge 0 (q8 .i64) (fun x:Edge=>x.to):=⟨by decide,fun R cs x h=>(z6o (A:=(q8 .i64)) (B:=(q8 .i64))).2 R cs (x.to,x.out) h⟩
theorem zcw:Part kEdge 1 (q8 .i64) (fun x:Edge=>x.out):=⟨by decide,fun R cs x h=>(z19 (A:=(q8 .i64)) (zbp (A:=(q8 .i64)))).2 R cs (x.to,x.out) h⟩
def z4c(x:Edge):Value:= .agg #[(.int .i64 x.to),(.int .i64 x.out)]
theorem zr5{R:RH}{x:Edge}:kEdge.rep R [(.int .i64 x.to),(.int .i64 x.out)] x:=⟨_,_,rfl,rfl,rfl⟩
theorem z3s{R:RH}{v:Value}{x:Edge}:VRep kEdge R v x↔v=z4c x:=⟨fun⟨_,h,e⟩=>by
 obtain⟨_,_,rfl,rfl,rfl⟩:=h
 exact e,fun h=>⟨_,zr5,h⟩⟩
def wz(a b:Bool):Ty Mach:=(z2v (q8 .i64) (z2v (q8 .i64) (tSl a (tSl b kEdge)))).as fun x=>(x.inputs,x.outputs,x.rows)
theorem z1z{a b:Bool}:Part (wz a b) 0 (q8 .i64) (fun x:Mach=>x.inputs):=⟨Nat.le_of_ble_eq_true rfl,fun R cs x h=>(z6o (A:=(q8 .i64)) (B:=(z2v (q8 .i64) (tSl a (tSl b kEdge))))).2 R cs (x.inputs,x.outputs,x.rows) h⟩
theorem zd9{a b:Bool}:Part (wz a b) 1 (q8 .i64) (fun x:Mach=>x.outputs):=⟨Nat.le_of_ble_eq_true rfl,fun R cs x h=>(z19 (A:=(q8 .i64)) (z6o (A:=(q8 .i64)) (B:=(tSl a (tSl b kEdge))))).2 R cs (x.inputs,x.outputs,x.rows) h⟩
theorem yz{a b:Bool}:Part (wz a b) 2 (tSl a (tSl b kEdge)) (fun x:Mach=>x.rows):=⟨Nat.le_of_ble_eq_true rfl,fun R cs x h=>(z19 (A:=(q8 .i64)) (z19 (A:=(q8 .i64)) (zbp (A:=(tSl a (tSl b kEdge)))))).2 R cs (x.inputs,x.outputs,x.rows) h⟩
theorem z3m{a b:Bool}{R:RH}{v:Value}{x:Mach}(h:VRep (wz a b) R v x): ∃ c,v= .agg #[(.int .i64 x.inputs),(.int .i64 x.outputs),c]∧VRep (tSl a (tSl b kEdge)) R c x.rows:=by
 obtain⟨_,h,rfl⟩:=h
 obtain⟨_,_,rfl,rfl,⟨_,_,rfl,rfl,d⟩⟩:=h
 obtain⟨f,rfl,e⟩:=zdf rfl d
 exact⟨_,rfl,e⟩
def kA2tInti64:Ty (Int×Int):=(z2v (q8 .i64) (q8 .i64)).as fun x=>(x.1,x.2)
theorem z8m:Part kA2tInti64 0 (q8 .i64) (fun x:(Int×Int)=>x.1):=⟨by decide,fun R cs x h=>(z6o (A:=(q8 .i64)) (B:=(q8 .i64))).2 R cs (x.1,x.2) h⟩
theorem z8n:Part kA2tInti64 1 (q8 .i64) (fun x:(Int×Int)=>x.2):=⟨by decide,fun R cs x h=>(z19 (A:=(q8 .i64)) (zbp (A:=(q8 .i64)))).2 R cs (x.1,x.2) h⟩
def fo(x:(Int×Int)):Value:= .agg #[(.int .i64 x.1),(.int .i64 x.2)]
theorem zgy{R:RH}{x:(Int×Int)}:kA2tInti64.rep R [(.int .i64 x.1),(.int .i64 x.2)] x:=⟨_,_,rfl,rfl,rfl⟩
theorem cz{R:RH}{v:Value}{x:(Int×Int)}:VRep kA2tInti64 R v x↔v=fo x:=⟨fun⟨_,h,e⟩=>by
 obtain⟨_,_,rfl,rfl,rfl⟩:=h
 exact e,fun h=>⟨_,zgy,h⟩⟩
structure Sg where
 fG:Mach
 deriving DecidableEq,Inhabited
def lv(a b:Bool):Ty Sg:=(zvk (wz a b)).as fun x=>x.fG
theorem z3p{a b:Bool}:Part (lv a b) 0 (wz a b) (fun x:Sg=>x.fG):=⟨Nat.le_refl _,fun R cs x h=>(zs2 (A:=(wz a b))).2 R cs x.fG h⟩
structure Sb where
 fH:(Int×Int)
 fJ:(List Int)
 deriving DecidableEq,Inhabited
def kv(a:Bool):Ty Sb:=(z2v kA2tInti64 (tSl a (q8 .i64))).as fun x=>(x.fH,x.fJ)
theorem z8p{a:Bool}{R:RH}{v:Value}{x:Sb}(h:VRep (kv a) R v x): ∃ b,v= .agg #[(.int .i64 x.fH.1),(.int .i64 x.fH.2),b]∧VRep (tSl a (q8 .i64)) R b x.fJ:=by
 obtain⟨_,h,rfl⟩:=h
 obtain⟨_,_,rfl,⟨_,_,rfl,rfl,rfl⟩,c⟩:=h
 obtain⟨e,rfl,d⟩:=zdf rfl c
 exact⟨_,rfl,d⟩
structure Sa where
 fH:(List Int)
 fJ:(List Int)
 deriving DecidableEq,Inhabited
def kw(a b:Bool):Ty Sa:=(z2v (tSl a (q8 .u16)) (tSl b (q8 .i64))).as fun x=>(x.fH,x.fJ)
theorem z7w{a b:Bool}{R:RH}{v:Value}{x:Sa}(h:VRep (kw a b) R v x): ∃ c d,v= .agg #[c,d]∧VRep (tSl a (q8 .u16)) R c x.fH∧VRep (tSl b (q8 .i64)) R d x.fJ:=by
 obtain⟨_,h,rfl⟩:=h
 obtain⟨_,_,rfl,e,f⟩:=h
 obtain⟨w0,rfl,g⟩:=zdf rfl e
 obtain⟨j,rfl,i⟩:=zdf rfl f
 exact⟨_,_,rfl,g,i⟩
def zkr:Ty (Arr 16 Int):=zya 16 (q8 .u16)
def z1u(x:(Arr 16 Int)):List Value:=z4u (fun x:Int=>[Value.int .u16 x]) x
theorem co_A16tIntu16:CellsOf zkr z1u:=zor cells_int
def zgm(x:(Arr 16 Int)):Value:= .agg (z1u x).toArray
def strT1:List Int:=[0,1,1,2,1,2,2,3,1,2,2,3,2,3,3,4,1,2,2,3,2,3,3,4,2,3,3,4,3,4,4,5,1,2,2,3,2,3,3,4,2,3,3,4,3,4,4,5,2,3,3,4,3,4,4,5,3,4,4,5,4,5,5,6,1,2,2,3,2,3,3,4,2,3,3,4,3,4,4,5,2,3,3,4,3,4,4,5,3,4,4,5,4,5,5,6,2,3,3,4,3,4,4,5,3,4,4,5,4,5,5,6,3,4,4,5,4,5,5,6,4,5,5,6,5,6,6,7,1,2,2,3,2,3,3,4,2,3,3,4,3,4,4,5,2,3,3,4,3,4,4,5,3,4,4,5,4,5,5,6,2,3,3,4,3,4,4,5,3,4,4,5,4,5,5,6,3,4,4,5,4,5,5,6,4,5,5,6,5,6,6,7,2,3,3,4,3,4,4,5,3,4,4,5,4,5,5,6,3,4,4,5,4,5,5,6,4,5,5,6,5,6,6,7,3,4,4,5,4,5,5,6,4,5,5,6,5,6,6,7,4,5,5,6,5,6,6,7,5,6,6,7,6,7,7,8]
def zfz:List Int:=[0,1,2,2,3,3,3,3,4,4,4,4,4,4,4,4,5,5,5,5,5,5,5,5,5,5,5,5,5,5,5,5,6,6,6,6,6,6,6,6,6,6,6,6,6,6,6,6,6,6,6,6,6,6,6,6,6,6,6,6,6,6,6,6,7,7,7,7,7,7,7,7,7,7,7,7,7,7,7,7,7,7,7,7,7,7,7,7,7,7,7,7,7,7,7,7,7,7,7,7,7,7,7,7,7,7,7,7,7,7,7,7,7,7,7,7,7,7,7,7,7,7,7,7,7,7,7,7,8,8,8,8,8,8,8,8,8,8,8,8,8,8,8,8,8,8,8,8,8,8,8,8,8,8,8,8,8,8,8,8,8,8,8,8,8,8,8,8,8,8,8,8,8,8,8,8,8,8,8,8,8,8,8,8,8,8,8,8,8,8,8,8,8,8,8,8,8,8,8,8,8,8,8,8,8,8,8,8,8,8,8,8,8,8,8,8,8,8,8,8,8,8,8,8,8,8,8,8,8,8,8,8,8,8,8,8,8,8,8,8,8,8,8,8,8,8,8,8,8,8,8,8,8,8,8,8]
structure Sc where
 fH:Int
 fJ:(List Int)
 deriving DecidableEq,Inhabited
def uh(a:Bool):Ty Sc:=(z2v (q8 .u16) (tSl a (q8 .i64))).as fun x=>(x.fH,x.fJ)
theorem z81{a:Bool}{R:RH}{v:Value}{x:Sc}(h:VRep (uh a) R v x): ∃ b,v= .agg #[(.int .u16 x.fH),b]∧VRep (tSl a (q8 .i64)) R b x.fJ:=by
 obtain⟨_,h,rfl⟩:=h
 obtain⟨_,_,rfl,rfl,c⟩:=h
 obtain⟨e,rfl,d⟩:=zdf rfl c
 exact⟨_,rfl,d⟩
end GV
end Go.Proofs.Ytjmlpkkbmnjhcaa
