import Derived.Test.YtdhccodneoebpaaShGet
set_option linter.unusedVariables false
set_option linter.unusedSimpArgs false
set_option linter.unusedSectionVars false
namespace Go.Proofs.Ytdhccodneoebpaa
namespace GV
structure MDat where
 states:Int
 ins:Int
 outs:Int
 part:Bool
 edges:(List Int)
 deriving DecidableEq,Inhabited
def zax(a:Bool):Ty MDat:=(oq (q9 .u8) (oq (q9 .u8) (oq (q9 .u8) (oq vw (tSl a (q9 .u16)))))).as fun x=>(x.states,x.ins,x.outs,x.part,x.edges)
theorem zrs{a:Bool}:Part (zax a) 0 (q9 .u8) (fun x:MDat=>x.states):=⟨Nat.le_of_ble_eq_true rfl,fun R cs x h=>(z0w (A:=(q9 .u8)) (B:=(oq (q9 .u8) (oq (q9 .u8) (oq vw (tSl a (q9 .u16))))))).2 R cs (x.states,x.ins,x.outs,x.part,x.edges) h⟩
theorem zrv{a:Bool}:Part (zax a) 1 (q9 .u8) (fun x:MDat=>x.ins):=⟨Nat.le_of_ble_eq_true rfl,fun R cs x h=>(p9 (A:=(q9 .u8)) (z0w (A:=(q9 .u8)) (B:=(oq (q9 .u8) (oq vw (tSl a (q9 .u16))))))).2 R cs (x.states,x.ins,x.outs,x.part,x.edges) h⟩
theorem zre{a:Bool}:Part (zax a) 2 (q9 .u8) (fun x:MDat=>x.outs):=⟨Nat.le_of_ble_eq_true rfl,fun R cs x h=>(p9 (A:=(q9 .u8)) (p9 (A:=(q9 .u8)) (z0w (A:=(q9 .u8)) (B:=(oq vw (tSl a (q9 .u16))))))).2 R cs (x.states,x.ins,x.outs,x.part,x.edges) h⟩
theorem zr9{a:Bool}:Part (zax a) 3 vw (fun x:MDat=>x.part):=⟨Nat.le_of_ble_eq_true rfl,fun R cs x h=>(p9 (A:=(q9 .u8)) (p9 (A:=(q9 .u8)) (p9 (A:=(q9 .u8)) (z0w (A:=vw) (B:=(tSl a (q9 .u16))))))).2 R cs (x.states,x.ins,x.outs,x.part,x.edges) h⟩
theorem zk5{a:Bool}:Part (zax a) 4 (tSl a (q9 .u16)) (fun x:MDat=>x.edges):=⟨Nat.le_of_ble_eq_true rfl,fun R cs x h=>(p9 (A:=(q9 .u8)) (p9 (A:=(q9 .u8)) (p9 (A:=(q9 .u8)) (p9 (A:=vw) (z4y (A:=(tSl a (q9 .u16)))))))).2 R cs (x.states,x.ins,x.outs,x.part,x.edges) h⟩
def kEdge:Ty Edge:=(oq (q9 .i64) (q9 .i64)).as fun x=>(x.to,x.out)
theorem z9c:Part kEdge 0 (q9 .i64) (fun x:Edge=>x.to):=⟨by decide,fun R cs x h=>(z0w (A:=(q9 .i64)) (B:=(q9 .i64))).2 R cs (x.to,x.out) h⟩
theorem zjw:Part kEdge 1 (q9 .i64) (fun x:Edge=>x.out):=⟨by decide,fun R cs x h=>(p9 (A:=(q9 .i64)) (z4y (A:=(q9 .i64)))).2 R cs (x.to,x.out) h⟩
def z2k(x:Edge):Value:= .agg #[(.int .i64 x.to),(.int .i64 x.out)]
theorem zqx{R:RH}{x:Edge}:kEdge.rep R [(.int .i64 x.to),(.int .i64 x.out)] x:=⟨_,_,rfl,rfl,rfl⟩
theorem z16{R:RH}{v:Value}{x:Edge}:VRep kEdge R v x↔v=z2k x:=⟨fun⟨_,h,e⟩=>by
 obtain⟨_,_,rfl,rfl,rfl⟩:=h
 exact e,fun h=>⟨_,zqx,h⟩⟩
def jl(a b:Bool):Ty Mach:=(oq (q9 .i64) (oq (q9 .i64) (tSl a (tSl b kEdge)))).as fun x=>(x.inputs,x.outputs,x.rows)
theorem eu{a b:Bool}:Part (jl a b) 0 (q9 .i64) (fun x:Mach=>x.inputs):=⟨Nat.le_of_ble_eq_true rfl,fun R cs x h=>(z0w (A:=(q9 .i64)) (B:=(oq (q9 .i64) (tSl a (tSl b kEdge))))).2 R cs (x.inputs,x.outputs,x.rows) h⟩
theorem z8a{a b:Bool}:Part (jl a b) 1 (q9 .i64) (fun x:Mach=>x.outputs):=⟨Nat.le_of_ble_eq_true rfl,fun R cs x h=>(p9 (A:=(q9 .i64)) (z0w (A:=(q9 .i64)) (B:=(tSl a (tSl b kEdge))))).2 R cs (x.inputs,x.outputs,x.rows) h⟩
theorem ug{a b:Bool}:Part (jl a b) 2 (tSl a (tSl b kEdge)) (fun x:Mach=>x.rows):=⟨Nat.le_of_ble_eq_true rfl,fun R cs x h=>(p9 (A:=(q9 .i64)) (p9 (A:=(q9 .i64)) (z4y (A:=(tSl a (tSl b kEdge)))))).2 R cs (x.inputs,x.outputs,x.rows) h⟩
theorem z5z{a b:Bool}{R:RH}{v:Value}{x:Mach}(h:VRep (jl a b) R v x): ∃ c,v= .agg #[(.int .i64 x.inputs),(.int .i64 x.outputs),c]∧VRep (tSl a (tSl b kEdge)) R c x.rows:=by
 obtain⟨_,h,rfl⟩:=h
 obtain⟨_,_,rfl,rfl,⟨_,_,rfl,rfl,d⟩⟩:=h
 obtain⟨f,rfl,e⟩:=zn9 rfl d
 exact⟨_,rfl,e⟩
structure Sb where
 fA:Int
 fB:Int
 deriving DecidableEq,Inhabited
def kStours_step:Ty Sb:=(oq (q9 .i64) (q9 .i64)).as fun x=>(x.fA,x.fB)
def z4l(x:Sb):Value:= .agg #[(.int .i64 x.fA),(.int .i64 x.fB)]
theorem zev{R:RH}{x:Sb}:kStours_step.rep R [(.int .i64 x.fA),(.int .i64 x.fB)] x:=⟨_,_,rfl,rfl,rfl⟩
theorem zea{R:RH}{v:Value}{x:Sb}:VRep kStours_step R v x↔v=z4l x:=⟨fun⟨_,h,e⟩=>by
 obtain⟨_,_,rfl,rfl,rfl⟩:=h
 exact e,fun h=>⟨_,zev,h⟩⟩
structure Sc where
 fD:Mach
 fE:(List (List Int))
 fI:Int
 deriving DecidableEq,Inhabited
def gz(a b c d:Bool):Ty Sc:=(oq (jl a b) (oq (tSl c (tSl d (q9 .i64))) (q9 .i64))).as fun x=>(x.fD,x.fE,x.fI)
theorem zex{a b c d:Bool}:Part (gz a b c d) 0 (jl a b) (fun x:Sc=>x.fD):=⟨Nat.le_of_ble_eq_true rfl,fun R cs x h=>(z0w (A:=(jl a b)) (B:=(oq (tSl c (tSl d (q9 .i64))) (q9 .i64)))).2 R cs (x.fD,x.fE,x.fI) h⟩
theorem z1b{c d a b:Bool}:Part (gz c d a b) 3 (tSl a (tSl b (q9 .i64))) (fun x:Sc=>x.fE):=⟨Nat.le_of_ble_eq_true rfl,fun R cs x h=>(p9 (A:=(jl c d)) (z0w (A:=(tSl a (tSl b (q9 .i64)))) (B:=(q9 .i64)))).2 R cs (x.fD,x.fE,x.fI) h⟩
theorem zf0{a b c d:Bool}:Part (gz a b c d) 4 (q9 .i64) (fun x:Sc=>x.fI):=⟨Nat.le_of_ble_eq_true rfl,fun R cs x h=>(p9 (A:=(jl a b)) (p9 (A:=(tSl c (tSl d (q9 .i64)))) (z4y (A:=(q9 .i64))))).2 R cs (x.fD,x.fE,x.fI) h⟩
structure Sj where
 fD:Mach
 fAg:(List (List Int))
 fBa:(List Int)
 deriving DecidableEq,Inhabited
def z5p(a b c d e:Bool):Ty Sj:=(oq (jl a b) (oq (tSl c (tSl d (q9 .i64))) (tSl e (q9 .i64)))).as fun x=>(x.fD,x.fAg,x.fBa)
theorem zew{c d a b e:Bool}:Part (z5p c d a b e) 3 (tSl a (tSl b (q9 .i64))) (fun x:Sj=>x.fAg):=⟨Nat.le_of_ble_eq_true rfl,fun R cs x h=>(p9 (A:=(jl c d)) (z0w (A:=(tSl a (tSl b (q9 .i64)))) (B:=(tSl e (q9 .i64))))).2 R cs (x.fD,x.fAg,x.fBa) h⟩
structure Sa where
 fG:Int
 fA:Int
 fAa:Bool
 fC:Int
 deriving DecidableEq,Inhabited
def kStours_hop:Ty Sa:=(oq (q9 .i64) (oq (q9 .i64) (oq vw (q9 .i64)))).as fun x=>(x.fG,x.fA,x.fAa,x.fC)
theorem zfi:Part kStours_hop 0 (q9 .i64) (fun x:Sa=>x.fG):=⟨by decide,fun R cs x h=>(z0w (A:=(q9 .i64)) (B:=(oq (q9 .i64) (oq vw (q9 .i64))))).2 R cs (x.fG,x.fA,x.fAa,x.fC) h⟩
theorem z03:Part kStours_hop 3 (q9 .i64) (fun x:Sa=>x.fC):=⟨by decide,fun R cs x h=>(p9 (A:=(q9 .i64)) (p9 (A:=(q9 .i64)) (p9 (A:=vw) (z4y (A:=(q9 .i64)))))).2 R cs (x.fG,x.fA,x.fAa,x.fC) h⟩
def z7o(x:Sa):Value:= .agg #[(.int .i64 x.fG),(.int .i64 x.fA),(.bool x.fAa),(.int .i64 x.fC)]
theorem zh1{R:RH}{x:Sa}:kStours_hop.rep R [(.int .i64 x.fG),(.int .i64 x.fA),(.bool x.fAa),(.int .i64 x.fC)] x:=⟨_,_,rfl,rfl,⟨_,_,rfl,rfl,⟨_,_,rfl,rfl,rfl⟩⟩⟩
theorem z2m{R:RH}{v:Value}{x:Sa}:VRep kStours_hop R v x↔v=z7o x:=⟨fun⟨_,h,e⟩=>by
 obtain⟨_,_,rfl,rfl,⟨_,_,rfl,rfl,⟨_,_,rfl,rfl,rfl⟩⟩⟩:=h
 exact e,fun h=>⟨_,zh1,h⟩⟩
def kA4tInti64:Ty (Int×Int×Int×Int):=(oq (q9 .i64) (oq (q9 .i64) (oq (q9 .i64) (q9 .i64)))).as fun x=>(x.1,x.2.1,x.2.2.1,x.2.2.2)
def z6m(x:(Int×Int×Int×Int)):Value:= .agg #[(.int .i64 x.1),(.int .i64 x.2.1),(.int .i64 x.2.2.1),(.int .i64 x.2.2.2)]
theorem zh6{R:RH}{x:(Int×Int×Int×Int)}:kA4tInti64.rep R [(.int .i64 x.1),(.int .i64 x.2.1),(.int .i64 x.2.2.1),(.int .i64 x.2.2.2)] x:=⟨_,_,rfl,rfl,⟨_,_,rfl,rfl,⟨_,_,rfl,rfl,rfl⟩⟩⟩
theorem zas{R:RH}{v:Value}{x:(Int×Int×Int×Int)}:VRep kA4tInti64 R v x↔v=z6m x:=⟨fun⟨_,h,e⟩=>by
 obtain⟨_,_,rfl,rfl,⟨_,_,rfl,rfl,⟨_,_,rfl,rfl,rfl⟩⟩⟩:=h
 exact e,fun h=>⟨_,zh6,h⟩⟩
def kA2tInti64:Ty (Int×Int):=(oq (q9 .i64) (q9 .i64)).as fun x=>(x.1,x.2)
theorem zh7:Part kA2tInti64 0 (q9 .i64) (fun x:(Int×Int)=>x.1):=⟨by decide,fun R cs x h=>(z0w (A:=(q9 .i64)) (B:=(q9 .i64))).2 R cs (x.1,x.2) h⟩
theorem zhd:Part kA2tInti64 1 (q9 .i64) (fun x:(Int×Int)=>x.2):=⟨by decide,fun R cs x h=>(p9 (A:=(q9 .i64)) (z4y (A:=(q9 .i64)))).2 R cs (x.1,x.2) h⟩
def z2q(x:(Int×Int)):Value:= .agg #[(.int .i64 x.1),(.int .i64 x.2)]
theorem zhm{R:RH}{x:(Int×Int)}:kA2tInti64.rep R [(.int .i64 x.1),(.int .i64 x.2)] x:=⟨_,_,rfl,rfl,rfl⟩
theorem zfu{R:RH}{v:Value}{x:(Int×Int)}:VRep kA2tInti64 R v x↔v=z2q x:=⟨fun⟨_,h,e⟩=>by
 obtain⟨_,_,rfl,rfl,rfl⟩:=h
 exact e,fun h=>⟨_,zhm,h⟩⟩
def z3x(x:(Int×Int)):List Value:=[(.int .i64 x.1),(.int .i64 x.2)]
theorem zjj(x:(Int×Int)): ∀ v∈z3x x,zj6 v:=by
 intro v a
 simp only [z3x,List.mem_cons,List.not_mem_nil,or_false] at a
 rcases a with rfl|rfl
 ·exact .inl ⟨_,_,rfl⟩
 ·exact .inl ⟨_,_,rfl⟩
theorem zit(x y:(Int×Int))(h:z3x x=z3x y):x=y:=by
 simp only [z3x,List.cons.injEq,Value.int.injEq,Value.bool.injEq,true_and,and_true] at h
 rcases x with⟨⟩;rcases y with⟨⟩
 simp_all [Prod.ext_iff]
structure Sg where
 fG:Int
 fA:Int
 deriving DecidableEq,Inhabited
def ah:Ty Sg:=(oq (q9 .i64) (q9 .i64)).as fun x=>(x.fG,x.fA)
theorem zg1:Part ah 0 (q9 .i64) (fun x:Sg=>x.fG):=⟨by decide,fun R cs x h=>(z0w (A:=(q9 .i64)) (B:=(q9 .i64))).2 R cs (x.fG,x.fA) h⟩
theorem zgc:Part ah 1 (q9 .i64) (fun x:Sg=>x.fA):=⟨by decide,fun R cs x h=>(p9 (A:=(q9 .i64)) (z4y (A:=(q9 .i64)))).2 R cs (x.fG,x.fA) h⟩
def z5s(x:(Int×Int×Int×Int)):List Value:=[(.int .i64 x.1),(.int .i64 x.2.1),(.int .i64 x.2.2.1),(.int .i64 x.2.2.2)]
theorem zjk(x y:(Int×Int×Int×Int))(h:z5s x=z5s y):x=y:=by
 simp only [z5s,List.cons.injEq,Value.int.injEq,Value.bool.injEq,true_and,and_true] at h
 rcases x with⟨⟩;rcases y with⟨⟩
 simp_all [Prod.ext_iff]
structure Sd where
 fAc:Int
 fK:Int
 fU:(List Int)
 deriving DecidableEq,Inhabited
def ng(a:Bool):Ty Sd:=(oq (q9 .u8) (oq (q9 .u8) (tSl a (q9 .u8)))).as fun x=>(x.fAc,x.fK,x.fU)
theorem zaw{a:Bool}:Part (ng a) 0 (q9 .u8) (fun x:Sd=>x.fAc):=⟨Nat.le_of_ble_eq_true rfl,fun R cs x h=>(z0w (A:=(q9 .u8)) (B:=(oq (q9 .u8) (tSl a (q9 .u8))))).2 R cs (x.fAc,x.fK,x.fU) h⟩
theorem zba{a:Bool}:Part (ng a) 1 (q9 .u8) (fun x:Sd=>x.fK):=⟨Nat.le_of_ble_eq_true rfl,fun R cs x h=>(p9 (A:=(q9 .u8)) (z0w (A:=(q9 .u8)) (B:=(tSl a (q9 .u8))))).2 R cs (x.fAc,x.fK,x.fU) h⟩
theorem z1j{a:Bool}:Part (ng a) 2 (tSl a (q9 .u8)) (fun x:Sd=>x.fU):=⟨Nat.le_of_ble_eq_true rfl,fun R cs x h=>(p9 (A:=(q9 .u8)) (p9 (A:=(q9 .u8)) (z4y (A:=(tSl a (q9 .u8)))))).2 R cs (x.fAc,x.fK,x.fU) h⟩
structure Sk where
 fBc:Int
 fBd:Int
 fG:Int
 fA:Int
 deriving DecidableEq,Inhabited
end GV
end Go.Proofs.Ytdhccodneoebpaa
