import Derived.Test.YtjmlpkkbmnjhcaaShLay
import Derived.Test.YtjmlpkkbmnjhcaaShStr
set_option linter.unusedVariables false
set_option linter.unusedSimpArgs false
set_option linter.unusedSectionVars false
namespace Go.Proofs.Ytjmlpkkbmnjhcaa
namespace GV
structure Sg where
 fM:Int
 fO:Int
 fK:Int
 fP:(List Int)
 fJ:(List Int)
 deriving DecidableEq,Inhabited
def kEdge:Ty Edge:=(z7a (qa .i64) (qa .i64)).as fun x=>(x.to,x.out)
theorem z7w:Part kEdge 0 (qa .i64) (fun x:Edge=>x.to):=⟨by decide,fun R cs x h=>(zcm (A:=(qa .i64)) (B:=(qa .i64))).2 R cs (x.to,x.out) h⟩
theorem zfi:Part kEdge 1 (qa .i64) (fun x:Edge=>x.out):=⟨by decide,fun R cs x h=>(z9l (A:=(qa .i64)) (zd2 (A:=(qa .i64)))).2 R cs (x.to,x.out) h⟩
def z0x(x:Edge):Value:= .agg #[(.int .i64 x.to),(.int .i64 x.out)]
theorem zp2{R:RH}{x:Edge}:kEdge.rep R [(.int .i64 x.to),(.int .i64 x.out)] x:=⟨_,_,rfl,rfl,rfl⟩
theorem z1g{R:RH}{v:Value}{x:Edge}:VRep kEdge R v x↔v=z0x x:=⟨fun⟨_,h,e⟩=>by
 obtain⟨_,_,rfl,rfl,rfl⟩:=h
 exact e,fun h=>⟨_,zp2,h⟩⟩
def uw(a b:Bool):Ty Mach:=(z7a (qa .i64) (z7a (qa .i64) (tSl a (tSl b kEdge)))).as fun x=>(x.inputs,x.outputs,x.rows)
theorem z1p{a b:Bool}:Part (uw a b) 0 (qa .i64) (fun x:Mach=>x.inputs):=⟨Nat.le_of_ble_eq_true rfl,fun R cs x h=>(zcm (A:=(qa .i64)) (B:=(z7a (qa .i64) (tSl a (tSl b kEdge))))).2 R cs (x.inputs,x.outputs,x.rows) h⟩
theorem zfe{a b:Bool}:Part (uw a b) 1 (qa .i64) (fun x:Mach=>x.outputs):=⟨Nat.le_of_ble_eq_true rfl,fun R cs x h=>(z9l (A:=(qa .i64)) (zcm (A:=(qa .i64)) (B:=(tSl a (tSl b kEdge))))).2 R cs (x.inputs,x.outputs,x.rows) h⟩
theorem ai{a b:Bool}:Part (uw a b) 2 (tSl a (tSl b kEdge)) (fun x:Mach=>x.rows):=⟨Nat.le_of_ble_eq_true rfl,fun R cs x h=>(z9l (A:=(qa .i64)) (z9l (A:=(qa .i64)) (zd2 (A:=(tSl a (tSl b kEdge)))))).2 R cs (x.inputs,x.outputs,x.rows) h⟩
theorem z4m{a b:Bool}{R:RH}{v:Value}{x:Mach}(h:VRep (uw a b) R v x): ∃ c,v= .agg #[(.int .i64 x.inputs),(.int .i64 x.outputs),c]∧VRep (tSl a (tSl b kEdge)) R c x.rows:=by
 obtain⟨_,h,rfl⟩:=h
 obtain⟨_,_,rfl,rfl,⟨_,_,rfl,rfl,d⟩⟩:=h
 obtain⟨f,rfl,e⟩:=zca rfl d
 exact⟨_,rfl,e⟩
def kA2tInti64:Ty (Int×Int):=(z7a (qa .i64) (qa .i64)).as fun x=>(x.1,x.2)
theorem z7d:Part kA2tInti64 0 (qa .i64) (fun x:(Int×Int)=>x.1):=⟨by decide,fun R cs x h=>(zcm (A:=(qa .i64)) (B:=(qa .i64))).2 R cs (x.1,x.2) h⟩
theorem z7e:Part kA2tInti64 1 (qa .i64) (fun x:(Int×Int)=>x.2):=⟨by decide,fun R cs x h=>(z9l (A:=(qa .i64)) (zd2 (A:=(qa .i64)))).2 R cs (x.1,x.2) h⟩
def ak(x:(Int×Int)):Value:= .agg #[(.int .i64 x.1),(.int .i64 x.2)]
theorem zg4{R:RH}{x:(Int×Int)}:kA2tInti64.rep R [(.int .i64 x.1),(.int .i64 x.2)] x:=⟨_,_,rfl,rfl,rfl⟩
theorem bv{R:RH}{v:Value}{x:(Int×Int)}:VRep kA2tInti64 R v x↔v=ak x:=⟨fun⟨_,h,e⟩=>by
 obtain⟨_,_,rfl,rfl,rfl⟩:=h
 exact e,fun h=>⟨_,zg4,h⟩⟩
structure Sd where
 fD:Mach
 deriving DecidableEq,Inhabited
def iw(a b:Bool):Ty Sd:=(zvh (uw a b)).as fun x=>x.fD
theorem z2f{a b:Bool}:Part (iw a b) 0 (uw a b) (fun x:Sd=>x.fD):=⟨Nat.le_refl _,fun R cs x h=>(zp1 (A:=(uw a b))).2 R cs x.fD h⟩
structure Sc where
 fC:(Int×Int)
 fG:(List Int)
 deriving DecidableEq,Inhabited
def kg(a:Bool):Ty Sc:=(z7a kA2tInti64 (tSl a (qa .i64))).as fun x=>(x.fC,x.fG)
theorem z7k{a:Bool}{R:RH}{v:Value}{x:Sc}(h:VRep (kg a) R v x): ∃ b,v= .agg #[(.int .i64 x.fC.1),(.int .i64 x.fC.2),b]∧VRep (tSl a (qa .i64)) R b x.fG:=by
 obtain⟨_,h,rfl⟩:=h
 obtain⟨_,_,rfl,⟨_,_,rfl,rfl,rfl⟩,c⟩:=h
 obtain⟨e,rfl,d⟩:=zca rfl c
 exact⟨_,rfl,d⟩
structure Sa where
 fC:(List Int)
 fG:(List Int)
 deriving DecidableEq,Inhabited
def ko(a b:Bool):Ty Sa:=(z7a (tSl a (qa .u16)) (tSl b (qa .i64))).as fun x=>(x.fC,x.fG)
theorem z6b{a b:Bool}{R:RH}{v:Value}{x:Sa}(h:VRep (ko a b) R v x): ∃ c d,v= .agg #[c,d]∧VRep (tSl a (qa .u16)) R c x.fC∧VRep (tSl b (qa .i64)) R d x.fG:=by
 obtain⟨_,h,rfl⟩:=h
 obtain⟨_,_,rfl,e,f⟩:=h
 obtain⟨w0,rfl,g⟩:=zca rfl e
 obtain⟨j,rfl,i⟩:=zca rfl f
 exact⟨_,_,rfl,g,i⟩
def zjg:Ty (Arr 16 Int):=zwx 16 (qa .u16)
def z0o(x:(Arr 16 Int)):List Value:=z3e (fun x:Int=>[Value.int .u16 x]) x
theorem co_A16tIntu16:CellsOf zjg z0o:=zon cells_int
def zeb(x:(Arr 16 Int)):Value:= .agg (z0o x).toArray
def strT1:List Int:=[0,1,1,2,1,2,2,3,1,2,2,3,2,3,3,4,1,2,2,3,2,3,3,4,2,3,3,4,3,4,4,5,1,2,2,3,2,3,3,4,2,3,3,4,3,4,4,5,2,3,3,4,3,4,4,5,3,4,4,5,4,5,5,6,1,2,2,3,2,3,3,4,2,3,3,4,3,4,4,5,2,3,3,4,3,4,4,5,3,4,4,5,4,5,5,6,2,3,3,4,3,4,4,5,3,4,4,5,4,5,5,6,3,4,4,5,4,5,5,6,4,5,5,6,5,6,6,7,1,2,2,3,2,3,3,4,2,3,3,4,3,4,4,5,2,3,3,4,3,4,4,5,3,4,4,5,4,5,5,6,2,3,3,4,3,4,4,5,3,4,4,5,4,5,5,6,3,4,4,5,4,5,5,6,4,5,5,6,5,6,6,7,2,3,3,4,3,4,4,5,3,4,4,5,4,5,5,6,3,4,4,5,4,5,5,6,4,5,5,6,5,6,6,7,3,4,4,5,4,5,5,6,4,5,5,6,5,6,6,7,4,5,5,6,5,6,6,7,5,6,6,7,6,7,7,8]
def zf1:List Int:=[0,1,2,2,3,3,3,3,4,4,4,4,4,4,4,4,5,5,5,5,5,5,5,5,5,5,5,5,5,5,5,5,6,6,6,6,6,6,6,6,6,6,6,6,6,6,6,6,6,6,6,6,6,6,6,6,6,6,6,6,6,6,6,6,7,7,7,7,7,7,7,7,7,7,7,7,7,7,7,7,7,7,7,7,7,7,7,7,7,7,7,7,7,7,7,7,7,7,7,7,7,7,7,7,7,7,7,7,7,7,7,7,7,7,7,7,7,7,7,7,7,7,7,7,7,7,7,7,8,8,8,8,8,8,8,8,8,8,8,8,8,8,8,8,8,8,8,8,8,8,8,8,8,8,8,8,8,8,8,8,8,8,8,8,8,8,8,8,8,8,8,8,8,8,8,8,8,8,8,8,8,8,8,8,8,8,8,8,8,8,8,8,8,8,8,8,8,8,8,8,8,8,8,8,8,8,8,8,8,8,8,8,8,8,8,8,8,8,8,8,8,8,8,8,8,8,8,8,8,8,8,8,8,8,8,8,8,8,8,8,8,8,8,8,8,8,8,8,8,8,8,8,8,8,8,8]
structure Sb where
 fC:Int
 fG:(List Int)
 deriving DecidableEq,Inhabited
def kz(a:Bool):Ty Sb:=(z7a (qa .u16) (tSl a (qa .i64))).as fun x=>(x.fC,x.fG)
theorem z6q{a:Bool}{R:RH}{v:Value}{x:Sb}(h:VRep (kz a) R v x): ∃ b,v= .agg #[(.int .u16 x.fC),b]∧VRep (tSl a (qa .i64)) R b x.fG:=by
 obtain⟨_,h,rfl⟩:=h
 obtain⟨_,_,rfl,rfl,c⟩:=h
 obtain⟨e,rfl,d⟩:=zca rfl c
 exact⟨_,rfl,d⟩
end GV
end Go.Proofs.Ytjmlpkkbmnjhcaa
