import Derived.Test.YtkkcidhcfkmbjaaGreatDoorShLay
import Derived.Test.YtkkcidhcfkmbjaaGreatDoorShCpk
set_option linter.unusedVariables false
set_option linter.unusedSimpArgs false
set_option linter.unusedSectionVars false
namespace Go.Proofs.YtkkcidhcfkmbjaaGreatDoor
namespace GV
structure MDat where
 states:Int
 ins:Int
 outs:Int
 part:Bool
 edges:(List Int)
 deriving DecidableEq,Inhabited
def z6b(a:Bool):Ty MDat:=(rq (zw .u8) (rq (zw .u8) (rq (zw .u8) (rq yt (tSl a (zw .u16)))))).as fun x=>(x.states,x.ins,x.outs,x.part,x.edges)
theorem znx{a:Bool}:Part (z6b a) 0 (zw .u8) (fun x:MDat=>x.states):=⟨Nat.le_of_ble_eq_true rfl,fun R cs x h=>(z0d (A:=(zw .u8)) (B:=(rq (zw .u8) (rq (zw .u8) (rq yt (tSl a (zw .u16))))))).2 R cs (x.states,x.ins,x.outs,x.part,x.edges) h⟩
theorem zmx{a:Bool}:Part (z6b a) 1 (zw .u8) (fun x:MDat=>x.ins):=⟨Nat.le_of_ble_eq_true rfl,fun R cs x h=>(bf (A:=(zw .u8)) (z0d (A:=(zw .u8)) (B:=(rq (zw .u8) (rq yt (tSl a (zw .u16))))))).2 R cs (x.states,x.ins,x.outs,x.part,x.edges) h⟩
theorem zmw{a:Bool}:Part (z6b a) 2 (zw .u8) (fun x:MDat=>x.outs):=⟨Nat.le_of_ble_eq_true rfl,fun R cs x h=>(bf (A:=(zw .u8)) (bf (A:=(zw .u8)) (z0d (A:=(zw .u8)) (B:=(rq yt (tSl a (zw .u16))))))).2 R cs (x.states,x.ins,x.outs,x.part,x.edges) h⟩
theorem zoe{a:Bool}:Part (z6b a) 3 yt (fun x:MDat=>x.part):=⟨Nat.le_of_ble_eq_true rfl,fun R cs x h=>(bf (A:=(zw .u8)) (bf (A:=(zw .u8)) (bf (A:=(zw .u8)) (z0d (A:=yt) (B:=(tSl a (zw .u16))))))).2 R cs (x.states,x.ins,x.outs,x.part,x.edges) h⟩
theorem zgr{a:Bool}:Part (z6b a) 4 (tSl a (zw .u16)) (fun x:MDat=>x.edges):=⟨Nat.le_of_ble_eq_true rfl,fun R cs x h=>(bf (A:=(zw .u8)) (bf (A:=(zw .u8)) (bf (A:=(zw .u8)) (bf (A:=yt) (z4o (A:=(tSl a (zw .u16)))))))).2 R cs (x.states,x.ins,x.outs,x.part,x.edges) h⟩
def kEdge:Ty Edge:=(rq (zw .i64) (zw .i64)).as fun x=>(x.to,x.out)
theorem z8y:Part kEdge 0 (zw .i64) (fun x:Edge=>x.to):=⟨by decide,fun R cs x h=>(z0d (A:=(zw .i64)) (B:=(zw .i64))).2 R cs (x.to,x.out) h⟩
theorem zcs:Part kEdge 1 (zw .i64) (fun x:Edge=>x.out):=⟨by decide,fun R cs x h=>(bf (A:=(zw .i64)) (z4o (A:=(zw .i64)))).2 R cs (x.to,x.out) h⟩
def yo(x:Edge):Value:= .agg #[(.int .i64 x.to),(.int .i64 x.out)]
theorem zly{R:RH}{x:Edge}:kEdge.rep R [(.int .i64 x.to),(.int .i64 x.out)] x:=⟨_,_,rfl,rfl,rfl⟩
theorem xq{R:RH}{v:Value}{x:Edge}:VRep kEdge R v x↔v=yo x:=⟨fun⟨_,h,e⟩=>by
 obtain⟨_,_,rfl,rfl,rfl⟩:=h
 exact e,fun h=>⟨_,zly,h⟩⟩
def qp(a b:Bool):Ty Mach:=(rq (zw .i64) (rq (zw .i64) (tSl a (tSl b kEdge)))).as fun x=>(x.inputs,x.outputs,x.rows)
theorem rf{a b:Bool}:Part (qp a b) 0 (zw .i64) (fun x:Mach=>x.inputs):=⟨Nat.le_of_ble_eq_true rfl,fun R cs x h=>(z0d (A:=(zw .i64)) (B:=(rq (zw .i64) (tSl a (tSl b kEdge))))).2 R cs (x.inputs,x.outputs,x.rows) h⟩
theorem z4k{a b:Bool}:Part (qp a b) 1 (zw .i64) (fun x:Mach=>x.outputs):=⟨Nat.le_of_ble_eq_true rfl,fun R cs x h=>(bf (A:=(zw .i64)) (z0d (A:=(zw .i64)) (B:=(tSl a (tSl b kEdge))))).2 R cs (x.inputs,x.outputs,x.rows) h⟩
theorem bg{a b:Bool}:Part (qp a b) 2 (tSl a (tSl b kEdge)) (fun x:Mach=>x.rows):=⟨Nat.le_of_ble_eq_true rfl,fun R cs x h=>(bf (A:=(zw .i64)) (bf (A:=(zw .i64)) (z4o (A:=(tSl a (tSl b kEdge)))))).2 R cs (x.inputs,x.outputs,x.rows) h⟩
theorem sw{a b:Bool}{R:RH}{v:Value}{x:Mach}(h:VRep (qp a b) R v x): ∃ c,v= .agg #[(.int .i64 x.inputs),(.int .i64 x.outputs),c]∧VRep (tSl a (tSl b kEdge)) R c x.rows:=by
 obtain⟨_,h,rfl⟩:=h
 obtain⟨_,_,rfl,rfl,⟨_,_,rfl,rfl,d⟩⟩:=h
 obtain⟨f,rfl,e⟩:=zpz rfl d
 exact⟨_,rfl,e⟩
theorem zcm{a b:Bool}{R:RH}{v:Value}{x:Mach}(h:VRep (qp a b) R v x):v= .agg #[(.int .i64 x.inputs),(.int .i64 x.outputs),(zh7 v 2)]∧VRep (tSl a (tSl b kEdge)) R (zh7 v 2) x.rows:=by
 obtain⟨d,rfl,c⟩:=sw h
 exact⟨rfl,c⟩
structure Sb where
 fC:Int
 fH:Int
 fG:Int
 deriving DecidableEq,Inhabited
def kSwalks_arrival:Ty Sb:=(rq (zw .i64) (rq (zw .i64) (zw .i64))).as fun x=>(x.fC,x.fH,x.fG)
def z3b(x:Sb):Value:= .agg #[(.int .i64 x.fC),(.int .i64 x.fH),(.int .i64 x.fG)]
theorem z8c{R:RH}{x:Sb}:kSwalks_arrival.rep R [(.int .i64 x.fC),(.int .i64 x.fH),(.int .i64 x.fG)] x:=⟨_,_,rfl,rfl,⟨_,_,rfl,rfl,rfl⟩⟩
theorem z7j{R:RH}{v:Value}{x:Sb}:VRep kSwalks_arrival R v x↔v=z3b x:=⟨fun⟨_,h,e⟩=>by
 obtain⟨_,_,rfl,rfl,⟨_,_,rfl,rfl,rfl⟩⟩:=h
 exact e,fun h=>⟨_,z8c,h⟩⟩
def kA2tInti64:Ty (Int×Int):=(rq (zw .i64) (zw .i64)).as fun x=>(x.1,x.2)
theorem zdt:Part kA2tInti64 0 (zw .i64) (fun x:(Int×Int)=>x.1):=⟨by decide,fun R cs x h=>(z0d (A:=(zw .i64)) (B:=(zw .i64))).2 R cs (x.1,x.2) h⟩
theorem zdx:Part kA2tInti64 1 (zw .i64) (fun x:(Int×Int)=>x.2):=⟨by decide,fun R cs x h=>(bf (A:=(zw .i64)) (z4o (A:=(zw .i64)))).2 R cs (x.1,x.2) h⟩
def wu(x:(Int×Int)):Value:= .agg #[(.int .i64 x.1),(.int .i64 x.2)]
theorem ze1{R:RH}{x:(Int×Int)}:kA2tInti64.rep R [(.int .i64 x.1),(.int .i64 x.2)] x:=⟨_,_,rfl,rfl,rfl⟩
theorem l8{R:RH}{v:Value}{x:(Int×Int)}:VRep kA2tInti64 R v x↔v=wu x:=⟨fun⟨_,h,e⟩=>by
 obtain⟨_,_,rfl,rfl,rfl⟩:=h
 exact e,fun h=>⟨_,ze1,h⟩⟩
structure Sc where
 fO:Int
 fG:Int
 fI:Edge
 fK:Edge
 deriving DecidableEq,Inhabited
def za5(x:Sc):Value:= .agg #[(.int .i64 x.fO),(.int .i64 x.fG),(.int .i64 x.fI.to),(.int .i64 x.fI.out),(.int .i64 x.fK.to),(.int .i64 x.fK.out)]
structure Sa where
 fA:(Int×Int)
 fH:Int
 fG:Int
 deriving DecidableEq,Inhabited
def qh:Ty Sa:=(rq kA2tInti64 (rq (zw .i64) (zw .i64))).as fun x=>(x.fA,x.fH,x.fG)
theorem z1y:Part qh 0 kA2tInti64 (fun x:Sa=>x.fA):=⟨by decide,fun R cs x h=>(z0d (A:=kA2tInti64) (B:=(rq (zw .i64) (zw .i64)))).2 R cs (x.fA,x.fH,x.fG) h⟩
theorem z2a:Part qh 2 (zw .i64) (fun x:Sa=>x.fH):=⟨by decide,fun R cs x h=>(bf (A:=kA2tInti64) (z0d (A:=(zw .i64)) (B:=(zw .i64)))).2 R cs (x.fA,x.fH,x.fG) h⟩
theorem z7i:Part qh 3 (zw .i64) (fun x:Sa=>x.fG):=⟨by decide,fun R cs x h=>(bf (A:=kA2tInti64) (bf (A:=(zw .i64)) (z4o (A:=(zw .i64))))).2 R cs (x.fA,x.fH,x.fG) h⟩
def lu(x:(Int×Int)):List Value:=[(.int .i64 x.1),(.int .i64 x.2)]
theorem zfl(x:(Int×Int)): ∀ v∈lu x,zf7 v:=by
 intro v a
 simp only [lu,List.mem_cons,List.not_mem_nil,or_false] at a
 rcases a with rfl|rfl
 ·exact .inl ⟨_,_,rfl⟩
 ·exact .inl ⟨_,_,rfl⟩
theorem zf1(x y:(Int×Int))(h:lu x=lu y):x=y:=by
 simp only [lu,List.cons.injEq,Value.int.injEq,Value.bool.injEq,true_and,and_true] at h
 rcases x with⟨⟩;rcases y with⟨⟩
 simp_all [Prod.ext_iff]
end GV
end Go.Proofs.YtkkcidhcfkmbjaaGreatDoor
