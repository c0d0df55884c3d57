import Derived.Test.YtdhccodneoebpaaShGet
set_option linter.unusedVariables false
set_option linter.unusedSimpArgs false
set_option linter.unusedSectionVars false
namespace Go.Proofs.Ytdhccodneoebpaa
namespace GV
structure MDat where
 states:Int
 ins:Int
 outs:Int
 part:Bool
 edges:(List Int)
 deriving DecidableEq,Inhabited
def zcf(a:Bool):Ty MDat:=(oo (zy .u8) (oo (zy .u8) (oo (zy .u8) (oo ww (tSl a (zy .u16)))))).as fun x=>(x.states,x.ins,x.outs,x.part,x.edges)
theorem zx9{a:Bool}:Part (zcf a) 0 (zy .u8) (fun x:MDat=>x.states):=⟨Nat.le_of_ble_eq_true rfl,fun R cs x h=>(z0t (A:=(zy .u8)) (B:=(oo (zy .u8) (oo (zy .u8) (oo ww (tSl a (zy .u16))))))).2 R cs (x.states,x.ins,x.outs,x.part,x.edges) h⟩
theorem zxk{a:Bool}:Part (zcf a) 1 (zy .u8) (fun x:MDat=>x.ins):=⟨Nat.le_of_ble_eq_true rfl,fun R cs x h=>(xe (A:=(zy .u8)) (z0t (A:=(zy .u8)) (B:=(oo (zy .u8) (oo ww (tSl a (zy .u16))))))).2 R cs (x.states,x.ins,x.outs,x.part,x.edges) h⟩
theorem zvo{a:Bool}:Part (zcf a) 2 (zy .u8) (fun x:MDat=>x.outs):=⟨Nat.le_of_ble_eq_true rfl,fun R cs x h=>(xe (A:=(zy .u8)) (xe (A:=(zy .u8)) (z0t (A:=(zy .u8)) (B:=(oo ww (tSl a (zy .u16))))))).2 R cs (x.states,x.ins,x.outs,x.part,x.edges) h⟩
theorem zxc{a:Bool}:Part (zcf a) 3 ww (fun x:MDat=>x.part):=⟨Nat.le_of_ble_eq_true rfl,fun R cs x h=>(xe (A:=(zy .u8)) (xe (A:=(zy .u8)) (xe (A:=(zy .u8)) (z0t (A:=ww) (B:=(tSl a (zy .u16))))))).2 R cs (x.states,x.ins,x.outs,x.part,x.edges) h⟩
theorem zp3{a:Bool}:Part (zcf a) 4 (tSl a (zy .u16)) (fun x:MDat=>x.edges):=⟨Nat.le_of_ble_eq_true rfl,fun R cs x h=>(xe (A:=(zy .u8)) (xe (A:=(zy .u8)) (xe (A:=(zy .u8)) (xe (A:=ww) (z4w (A:=(tSl a (zy .u16)))))))).2 R cs (x.states,x.ins,x.outs,x.part,x.edges) h⟩
def kEdge:Ty Edge:=(oo (zy .i64) (zy .i64)).as fun x=>(x.to,x.out)
theorem zb4:Part kEdge 0 (zy .i64) (fun x:Edge=>x.to):=⟨by decide,fun R cs x h=>(z0t (A:=(zy .i64)) (B:=(zy .i64))).2 R cs (x.to,x.out) h⟩
theorem zo6:Part kEdge 1 (zy .i64) (fun x:Edge=>x.out):=⟨by decide,fun R cs x h=>(xe (A:=(zy .i64)) (z4w (A:=(zy .i64)))).2 R cs (x.to,x.out) h⟩
def z3h(x:Edge):Value:= .agg #[(.int .i64 x.to),(.int .i64 x.out)]
theorem zv3{R:RH}{x:Edge}:kEdge.rep R [(.int .i64 x.to),(.int .i64 x.out)] x:=⟨_,_,rfl,rfl,rfl⟩
theorem z2t{R:RH}{v:Value}{x:Edge}:VRep kEdge R v x↔v=z3h x:=⟨fun⟨_,h,e⟩=>by
 obtain⟨_,_,rfl,rfl,rfl⟩:=h
 exact e,fun h=>⟨_,zv3,h⟩⟩
def jg(a b:Bool):Ty Mach:=(oo (zy .i64) (oo (zy .i64) (tSl a (tSl b kEdge)))).as fun x=>(x.inputs,x.outputs,x.rows)
theorem z1s{a b:Bool}:Part (jg a b) 0 (zy .i64) (fun x:Mach=>x.inputs):=⟨Nat.le_of_ble_eq_true rfl,fun R cs x h=>(z0t (A:=(zy .i64)) (B:=(oo (zy .i64) (tSl a (tSl b kEdge))))).2 R cs (x.inputs,x.outputs,x.rows) h⟩
theorem zeh{a b:Bool}:Part (jg a b) 1 (zy .i64) (fun x:Mach=>x.outputs):=⟨Nat.le_of_ble_eq_true rfl,fun R cs x h=>(xe (A:=(zy .i64)) (z0t (A:=(zy .i64)) (B:=(tSl a (tSl b kEdge))))).2 R cs (x.inputs,x.outputs,x.rows) h⟩
theorem vw{a b:Bool}:Part (jg a b) 2 (tSl a (tSl b kEdge)) (fun x:Mach=>x.rows):=⟨Nat.le_of_ble_eq_true rfl,fun R cs x h=>(xe (A:=(zy .i64)) (xe (A:=(zy .i64)) (z4w (A:=(tSl a (tSl b kEdge)))))).2 R cs (x.inputs,x.outputs,x.rows) h⟩
theorem z6q{a b:Bool}{R:RH}{v:Value}{x:Mach}(h:VRep (jg a b) R v x): ∃ c,v= .agg #[(.int .i64 x.inputs),(.int .i64 x.outputs),c]∧VRep (tSl a (tSl b kEdge)) R c x.rows:=by
 obtain⟨_,h,rfl⟩:=h
 obtain⟨_,_,rfl,rfl,⟨_,_,rfl,rfl,d⟩⟩:=h
 obtain⟨f,rfl,e⟩:=zzk rfl d
 exact⟨_,rfl,e⟩
structure Sb where
 fA:Int
 fB:Int
 deriving DecidableEq,Inhabited
def kStours_step:Ty Sb:=(oo (zy .i64) (zy .i64)).as fun x=>(x.fA,x.fB)
def z5g(x:Sb):Value:= .agg #[(.int .i64 x.fA),(.int .i64 x.fB)]
theorem zh2{R:RH}{x:Sb}:kStours_step.rep R [(.int .i64 x.fA),(.int .i64 x.fB)] x:=⟨_,_,rfl,rfl,rfl⟩
theorem zfv{R:RH}{v:Value}{x:Sb}:VRep kStours_step R v x↔v=z5g x:=⟨fun⟨_,h,e⟩=>by
 obtain⟨_,_,rfl,rfl,rfl⟩:=h
 exact e,fun h=>⟨_,zh2,h⟩⟩
structure Sd where
 fE:Mach
 fF:(List (List Int))
 fJ:Int
 deriving DecidableEq,Inhabited
def bn(a b c d:Bool):Ty Sd:=(oo (jg a b) (oo (tSl c (tSl d (zy .i64))) (zy .i64))).as fun x=>(x.fE,x.fF,x.fJ)
theorem zh3{a b c d:Bool}:Part (bn a b c d) 0 (jg a b) (fun x:Sd=>x.fE):=⟨Nat.le_of_ble_eq_true rfl,fun R cs x h=>(z0t (A:=(jg a b)) (B:=(oo (tSl c (tSl d (zy .i64))) (zy .i64)))).2 R cs (x.fE,x.fF,x.fJ) h⟩
theorem z1q{c d a b:Bool}:Part (bn c d a b) 3 (tSl a (tSl b (zy .i64))) (fun x:Sd=>x.fF):=⟨Nat.le_of_ble_eq_true rfl,fun R cs x h=>(xe (A:=(jg c d)) (z0t (A:=(tSl a (tSl b (zy .i64)))) (B:=(zy .i64)))).2 R cs (x.fE,x.fF,x.fJ) h⟩
theorem zgv{a b c d:Bool}:Part (bn a b c d) 4 (zy .i64) (fun x:Sd=>x.fJ):=⟨Nat.le_of_ble_eq_true rfl,fun R cs x h=>(xe (A:=(jg a b)) (xe (A:=(tSl c (tSl d (zy .i64)))) (z4w (A:=(zy .i64))))).2 R cs (x.fE,x.fF,x.fJ) h⟩
structure Sk where
 fE:Mach
 fAi:(List (List Int))
 fBc:(List Int)
 deriving DecidableEq,Inhabited
def z6c(a b c d e:Bool):Ty Sk:=(oo (jg a b) (oo (tSl c (tSl d (zy .i64))) (tSl e (zy .i64)))).as fun x=>(x.fE,x.fAi,x.fBc)
theorem zgz{c d a b e:Bool}:Part (z6c c d a b e) 3 (tSl a (tSl b (zy .i64))) (fun x:Sk=>x.fAi):=⟨Nat.le_of_ble_eq_true rfl,fun R cs x h=>(xe (A:=(jg c d)) (z0t (A:=(tSl a (tSl b (zy .i64)))) (B:=(tSl e (zy .i64))))).2 R cs (x.fE,x.fAi,x.fBc) h⟩
structure Sa where
 fD:Int
 fA:Int
 fAb:Bool
 fC:Int
 deriving DecidableEq,Inhabited
def kStours_hop:Ty Sa:=(oo (zy .i64) (oo (zy .i64) (oo ww (zy .i64)))).as fun x=>(x.fD,x.fA,x.fAb,x.fC)
theorem zhm:Part kStours_hop 0 (zy .i64) (fun x:Sa=>x.fD):=⟨by decide,fun R cs x h=>(z0t (A:=(zy .i64)) (B:=(oo (zy .i64) (oo ww (zy .i64))))).2 R cs (x.fD,x.fA,x.fAb,x.fC) h⟩
theorem z0k:Part kStours_hop 3 (zy .i64) (fun x:Sa=>x.fC):=⟨by decide,fun R cs x h=>(xe (A:=(zy .i64)) (xe (A:=(zy .i64)) (xe (A:=ww) (z4w (A:=(zy .i64)))))).2 R cs (x.fD,x.fA,x.fAb,x.fC) h⟩
def z96(x:Sa):Value:= .agg #[(.int .i64 x.fD),(.int .i64 x.fA),(.bool x.fAb),(.int .i64 x.fC)]
theorem zhi{R:RH}{x:Sa}:kStours_hop.rep R [(.int .i64 x.fD),(.int .i64 x.fA),(.bool x.fAb),(.int .i64 x.fC)] x:=⟨_,_,rfl,rfl,⟨_,_,rfl,rfl,⟨_,_,rfl,rfl,rfl⟩⟩⟩
theorem z3e{R:RH}{v:Value}{x:Sa}:VRep kStours_hop R v x↔v=z96 x:=⟨fun⟨_,h,e⟩=>by
 obtain⟨_,_,rfl,rfl,⟨_,_,rfl,rfl,⟨_,_,rfl,rfl,rfl⟩⟩⟩:=h
 exact e,fun h=>⟨_,zhi,h⟩⟩
def kA4tInti64:Ty (Int×Int×Int×Int):=(oo (zy .i64) (oo (zy .i64) (oo (zy .i64) (zy .i64)))).as fun x=>(x.1,x.2.1,x.2.2.1,x.2.2.2)
def z7g(x:(Int×Int×Int×Int)):Value:= .agg #[(.int .i64 x.1),(.int .i64 x.2.1),(.int .i64 x.2.2.1),(.int .i64 x.2.2.2)]
theorem zk4{R:RH}{x:(Int×Int×Int×Int)}:kA4tInti64.rep R [(.int .i64 x.1),(.int .i64 x.2.1),(.int .i64 x.2.2.1),(.int .i64 x.2.2.2)] x:=⟨_,_,rfl,rfl,⟨_,_,rfl,rfl,⟨_,_,rfl,rfl,rfl⟩⟩⟩
theorem zc1{R:RH}{v:Value}{x:(Int×Int×Int×Int)}:VRep kA4tInti64 R v x↔v=z7g x:=⟨fun⟨_,h,e⟩=>by
 obtain⟨_,_,rfl,rfl,⟨_,_,rfl,rfl,⟨_,_,rfl,rfl,rfl⟩⟩⟩:=h
 exact e,fun h=>⟨_,zk4,h⟩⟩
def kA2tInti64:Ty (Int×Int):=(oo (zy .i64) (zy .i64)).as fun x=>(x.1,x.2)
theorem zki:Part kA2tInti64 0 (zy .i64) (fun x:(Int×Int)=>x.1):=⟨by decide,fun R cs x h=>(z0t (A:=(zy .i64)) (B:=(zy .i64))).2 R cs (x.1,x.2) h⟩
theorem zk3:Part kA2tInti64 1 (zy .i64) (fun x:(Int×Int)=>x.2):=⟨by decide,fun R cs x h=>(xe (A:=(zy .i64)) (z4w (A:=(zy .i64)))).2 R cs (x.1,x.2) h⟩
def z3l(x:(Int×Int)):Value:= .agg #[(.int .i64 x.1),(.int .i64 x.2)]
theorem zk6{R:RH}{x:(Int×Int)}:kA2tInti64.rep R [(.int .i64 x.1),(.int .i64 x.2)] x:=⟨_,_,rfl,rfl,rfl⟩
theorem zcb{R:RH}{v:Value}{x:(Int×Int)}:VRep kA2tInti64 R v x↔v=z3l x:=⟨fun⟨_,h,e⟩=>by
 obtain⟨_,_,rfl,rfl,rfl⟩:=h
 exact e,fun h=>⟨_,zk6,h⟩⟩
def z4k(x:(Int×Int)):List Value:=[(.int .i64 x.1),(.int .i64 x.2)]
theorem zmn(x:(Int×Int)): ∀ v∈z4k x,zmo v:=by
 intro v a
 simp only [z4k,List.mem_cons,List.not_mem_nil,or_false] at a
 rcases a with rfl|rfl
 ·exact .inl ⟨_,_,rfl⟩
 ·exact .inl ⟨_,_,rfl⟩
theorem zmx(x y:(Int×Int))(h:z4k x=z4k y):x=y:=by
 simp only [z4k,List.cons.injEq,Value.int.injEq,Value.bool.injEq,true_and,and_true] at h
 rcases x with⟨⟩;rcases y with⟨⟩
 simp_all [Prod.ext_iff]
structure Sj where
 fD:Int
 fA:Int
 deriving DecidableEq,Inhabited
def sw:Ty Sj:=(oo (zy .i64) (zy .i64)).as fun x=>(x.fD,x.fA)
theorem zhu:Part sw 0 (zy .i64) (fun x:Sj=>x.fD):=⟨by decide,fun R cs x h=>(z0t (A:=(zy .i64)) (B:=(zy .i64))).2 R cs (x.fD,x.fA) h⟩
theorem zi8:Part sw 1 (zy .i64) (fun x:Sj=>x.fA):=⟨by decide,fun R cs x h=>(xe (A:=(zy .i64)) (z4w (A:=(zy .i64)))).2 R cs (x.fD,x.fA) h⟩
def z6b(x:(Int×Int×Int×Int)):List Value:=[(.int .i64 x.1),(.int .i64 x.2.1),(.int .i64 x.2.2.1),(.int .i64 x.2.2.2)]
theorem zmb(x y:(Int×Int×Int×Int))(h:z6b x=z6b y):x=y:=by
 simp only [z6b,List.cons.injEq,Value.int.injEq,Value.bool.injEq,true_and,and_true] at h
 rcases x with⟨⟩;rcases y with⟨⟩
 simp_all [Prod.ext_iff]
structure Sg where
 fAe:Int
 fO:Int
 fZ:(List Int)
 deriving DecidableEq,Inhabited
def mh(a:Bool):Ty Sg:=(oo (zy .u8) (oo (zy .u8) (tSl a (zy .u8)))).as fun x=>(x.fAe,x.fO,x.fZ)
theorem zci{a:Bool}:Part (mh a) 0 (zy .u8) (fun x:Sg=>x.fAe):=⟨Nat.le_of_ble_eq_true rfl,fun R cs x h=>(z0t (A:=(zy .u8)) (B:=(oo (zy .u8) (tSl a (zy .u8))))).2 R cs (x.fAe,x.fO,x.fZ) h⟩
theorem zcq{a:Bool}:Part (mh a) 1 (zy .u8) (fun x:Sg=>x.fO):=⟨Nat.le_of_ble_eq_true rfl,fun R cs x h=>(xe (A:=(zy .u8)) (z0t (A:=(zy .u8)) (B:=(tSl a (zy .u8))))).2 R cs (x.fAe,x.fO,x.fZ) h⟩
theorem z1y{a:Bool}:Part (mh a) 2 (tSl a (zy .u8)) (fun x:Sg=>x.fZ):=⟨Nat.le_of_ble_eq_true rfl,fun R cs x h=>(xe (A:=(zy .u8)) (xe (A:=(zy .u8)) (z4w (A:=(tSl a (zy .u8)))))).2 R cs (x.fAe,x.fO,x.fZ) h⟩
structure Sc where
 fG:Int
 fI:Int
 fD:Int
 fA:Int
 deriving DecidableEq,Inhabited
def kSgauntletref38_spot:Ty Sc:=(oo (zy .i64) (oo (zy .i64) (oo (zy .i64) (zy .i64)))).as fun x=>(x.fG,x.fI,x.fD,x.fA)
theorem z5x:Part kSgauntletref38_spot 2 (zy .i64) (fun x:Sc=>x.fD):=⟨by decide,fun R cs x h=>(xe (A:=(zy .i64)) (xe (A:=(zy .i64)) (z0t (A:=(zy .i64)) (B:=(zy .i64))))).2 R cs (x.fG,x.fI,x.fD,x.fA) h⟩
theorem zaf:Part kSgauntletref38_spot 3 (zy .i64) (fun x:Sc=>x.fA):=⟨by decide,fun R cs x h=>(xe (A:=(zy .i64)) (xe (A:=(zy .i64)) (xe (A:=(zy .i64)) (z4w (A:=(zy .i64)))))).2 R cs (x.fG,x.fI,x.fD,x.fA) h⟩
def zaw(x:Sc):Value:= .agg #[(.int .i64 x.fG),(.int .i64 x.fI),(.int .i64 x.fD),(.int .i64 x.fA)]
theorem zab{R:RH}{x:Sc}:kSgauntletref38_spot.rep R [(.int .i64 x.fG),(.int .i64 x.fI),(.int .i64 x.fD),(.int .i64 x.fA)] x:=⟨_,_,rfl,rfl,⟨_,_,rfl,rfl,⟨_,_,rfl,rfl,rfl⟩⟩⟩
theorem za0{R:RH}{v:Value}{x:Sc}:VRep kSgauntletref38_spot R v x↔v=zaw x:=⟨fun⟨_,h,e⟩=>by
 obtain⟨_,_,rfl,rfl,⟨_,_,rfl,rfl,⟨_,_,rfl,rfl,rfl⟩⟩⟩:=h
 exact e,fun h=>⟨_,zab,h⟩⟩
end GV
end Go.Proofs.Ytdhccodneoebpaa
