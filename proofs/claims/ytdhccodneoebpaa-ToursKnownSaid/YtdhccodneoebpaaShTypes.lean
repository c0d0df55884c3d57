import Derived.Test.YtdhccodneoebpaaShGet
set_option linter.unusedVariables false
set_option linter.unusedSimpArgs false
set_option linter.unusedSectionVars false
namespace Go.Proofs.Ytdhccodneoebpaa
namespace GV
structure MDat where
 states:Int
 ins:Int
 outs:Int
 part:Bool
 edges:(List Int)
 deriving DecidableEq,Inhabited
def kEdge:Ty Edge:=(z19 (qb .i64) (qb .i64)).as fun x=>(x.to,x.out)
theorem zdt:Part kEdge 0 (qb .i64) (fun x:Edge=>x.to):=⟨by decide,fun R cs x h=>(z4s (A:=(qb .i64)) (B:=(qb .i64))).2 R cs (x.to,x.out) h⟩
theorem zkn:Part kEdge 1 (qb .i64) (fun x:Edge=>x.out):=⟨by decide,fun R cs x h=>(z1e (A:=(qb .i64)) (z6s (A:=(qb .i64)))).2 R cs (x.to,x.out) h⟩
def z3f(x:Edge):Value:= .agg #[(.int .i64 x.to),(.int .i64 x.out)]
theorem ztn{R:RH}{x:Edge}:kEdge.rep R [(.int .i64 x.to),(.int .i64 x.out)] x:=⟨_,_,rfl,rfl,rfl⟩
theorem z1d{R:RH}{v:Value}{x:Edge}:VRep kEdge R v x↔v=z3f x:=⟨fun⟨_,h,e⟩=>by
 obtain⟨_,_,rfl,rfl,rfl⟩:=h
 exact e,fun h=>⟨_,ztn,h⟩⟩
def jm(a b:Bool):Ty Mach:=(z19 (qb .i64) (z19 (qb .i64) (tSl a (tSl b kEdge)))).as fun x=>(x.inputs,x.outputs,x.rows)
theorem z2q{a b:Bool}:Part (jm a b) 0 (qb .i64) (fun x:Mach=>x.inputs):=⟨Nat.le_of_ble_eq_true rfl,fun R cs x h=>(z4s (A:=(qb .i64)) (B:=(z19 (qb .i64) (tSl a (tSl b kEdge))))).2 R cs (x.inputs,x.outputs,x.rows) h⟩
theorem zac{a b:Bool}:Part (jm a b) 1 (qb .i64) (fun x:Mach=>x.outputs):=⟨Nat.le_of_ble_eq_true rfl,fun R cs x h=>(z1e (A:=(qb .i64)) (z4s (A:=(qb .i64)) (B:=(tSl a (tSl b kEdge))))).2 R cs (x.inputs,x.outputs,x.rows) h⟩
theorem yg{a b:Bool}:Part (jm a b) 2 (tSl a (tSl b kEdge)) (fun x:Mach=>x.rows):=⟨Nat.le_of_ble_eq_true rfl,fun R cs x h=>(z1e (A:=(qb .i64)) (z1e (A:=(qb .i64)) (z6s (A:=(tSl a (tSl b kEdge)))))).2 R cs (x.inputs,x.outputs,x.rows) h⟩
theorem zcf{a b:Bool}{R:RH}{v:Value}{x:Mach}(h:VRep (jm a b) R v x): ∃ c,v= .agg #[(.int .i64 x.inputs),(.int .i64 x.outputs),c]∧VRep (tSl a (tSl b kEdge)) R c x.rows:=by
 obtain⟨_,h,rfl⟩:=h
 obtain⟨_,_,rfl,rfl,⟨_,_,rfl,rfl,d⟩⟩:=h
 obtain⟨f,rfl,e⟩:=zve rfl d
 exact⟨_,rfl,e⟩
structure Sb where
 fA:Int
 fB:Int
 deriving DecidableEq,Inhabited
def kStours_step:Ty Sb:=(z19 (qb .i64) (qb .i64)).as fun x=>(x.fA,x.fB)
def z3j(x:Sb):Value:= .agg #[(.int .i64 x.fA),(.int .i64 x.fB)]
theorem zez{R:RH}{x:Sb}:kStours_step.rep R [(.int .i64 x.fA),(.int .i64 x.fB)] x:=⟨_,_,rfl,rfl,rfl⟩
theorem ze5{R:RH}{v:Value}{x:Sb}:VRep kStours_step R v x↔v=z3j x:=⟨fun⟨_,h,e⟩=>by
 obtain⟨_,_,rfl,rfl,rfl⟩:=h
 exact e,fun h=>⟨_,zez,h⟩⟩
structure Sc where
 fD:Mach
 fF:(List (List Int))
 fI:Int
 deriving DecidableEq,Inhabited
def yx(a b c d:Bool):Ty Sc:=(z19 (jm a b) (z19 (tSl c (tSl d (qb .i64))) (qb .i64))).as fun x=>(x.fD,x.fF,x.fI)
theorem zeu{a b c d:Bool}:Part (yx a b c d) 0 (jm a b) (fun x:Sc=>x.fD):=⟨Nat.le_of_ble_eq_true rfl,fun R cs x h=>(z4s (A:=(jm a b)) (B:=(z19 (tSl c (tSl d (qb .i64))) (qb .i64)))).2 R cs (x.fD,x.fF,x.fI) h⟩
theorem z0q{c d a b:Bool}:Part (yx c d a b) 3 (tSl a (tSl b (qb .i64))) (fun x:Sc=>x.fF):=⟨Nat.le_of_ble_eq_true rfl,fun R cs x h=>(z1e (A:=(jm c d)) (z4s (A:=(tSl a (tSl b (qb .i64)))) (B:=(qb .i64)))).2 R cs (x.fD,x.fF,x.fI) h⟩
theorem zey{a b c d:Bool}:Part (yx a b c d) 4 (qb .i64) (fun x:Sc=>x.fI):=⟨Nat.le_of_ble_eq_true rfl,fun R cs x h=>(z1e (A:=(jm a b)) (z1e (A:=(tSl c (tSl d (qb .i64)))) (z6s (A:=(qb .i64))))).2 R cs (x.fD,x.fF,x.fI) h⟩
structure Sg where
 fD:Mach
 fAg:(List (List Int))
 fBa:(List Int)
 deriving DecidableEq,Inhabited
def z4q(a b c d e:Bool):Ty Sg:=(z19 (jm a b) (z19 (tSl c (tSl d (qb .i64))) (tSl e (qb .i64)))).as fun x=>(x.fD,x.fAg,x.fBa)
theorem zew{c d a b e:Bool}:Part (z4q c d a b e) 3 (tSl a (tSl b (qb .i64))) (fun x:Sg=>x.fAg):=⟨Nat.le_of_ble_eq_true rfl,fun R cs x h=>(z1e (A:=(jm c d)) (z4s (A:=(tSl a (tSl b (qb .i64)))) (B:=(tSl e (qb .i64))))).2 R cs (x.fD,x.fAg,x.fBa) h⟩
structure Sa where
 fG:Int
 fA:Int
 fZ:Bool
 fC:Int
 deriving DecidableEq,Inhabited
def kStours_hop:Ty Sa:=(z19 (qb .i64) (z19 (qb .i64) (z19 dm (qb .i64)))).as fun x=>(x.fG,x.fA,x.fZ,x.fC)
theorem zfh:Part kStours_hop 0 (qb .i64) (fun x:Sa=>x.fG):=⟨by decide,fun R cs x h=>(z4s (A:=(qb .i64)) (B:=(z19 (qb .i64) (z19 dm (qb .i64))))).2 R cs (x.fG,x.fA,x.fZ,x.fC) h⟩
theorem l6:Part kStours_hop 3 (qb .i64) (fun x:Sa=>x.fC):=⟨by decide,fun R cs x h=>(z1e (A:=(qb .i64)) (z1e (A:=(qb .i64)) (z1e (A:=dm) (z6s (A:=(qb .i64)))))).2 R cs (x.fG,x.fA,x.fZ,x.fC) h⟩
def z7k(x:Sa):Value:= .agg #[(.int .i64 x.fG),(.int .i64 x.fA),(.bool x.fZ),(.int .i64 x.fC)]
theorem zgk{R:RH}{x:Sa}:kStours_hop.rep R [(.int .i64 x.fG),(.int .i64 x.fA),(.bool x.fZ),(.int .i64 x.fC)] x:=⟨_,_,rfl,rfl,⟨_,_,rfl,rfl,⟨_,_,rfl,rfl,rfl⟩⟩⟩
theorem z1x{R:RH}{v:Value}{x:Sa}:VRep kStours_hop R v x↔v=z7k x:=⟨fun⟨_,h,e⟩=>by
 obtain⟨_,_,rfl,rfl,⟨_,_,rfl,rfl,⟨_,_,rfl,rfl,rfl⟩⟩⟩:=h
 exact e,fun h=>⟨_,zgk,h⟩⟩
def kA4tInti64:Ty (Int×Int×Int×Int):=(z19 (qb .i64) (z19 (qb .i64) (z19 (qb .i64) (qb .i64)))).as fun x=>(x.1,x.2.1,x.2.2.1,x.2.2.2)
def z5p(x:(Int×Int×Int×Int)):Value:= .agg #[(.int .i64 x.1),(.int .i64 x.2.1),(.int .i64 x.2.2.1),(.int .i64 x.2.2.2)]
theorem zhj{R:RH}{x:(Int×Int×Int×Int)}:kA4tInti64.rep R [(.int .i64 x.1),(.int .i64 x.2.1),(.int .i64 x.2.2.1),(.int .i64 x.2.2.2)] x:=⟨_,_,rfl,rfl,⟨_,_,rfl,rfl,⟨_,_,rfl,rfl,rfl⟩⟩⟩
theorem z9y{R:RH}{v:Value}{x:(Int×Int×Int×Int)}:VRep kA4tInti64 R v x↔v=z5p x:=⟨fun⟨_,h,e⟩=>by
 obtain⟨_,_,rfl,rfl,⟨_,_,rfl,rfl,⟨_,_,rfl,rfl,rfl⟩⟩⟩:=h
 exact e,fun h=>⟨_,zhj,h⟩⟩
def kA2tInti64:Ty (Int×Int):=(z19 (qb .i64) (qb .i64)).as fun x=>(x.1,x.2)
theorem zhc:Part kA2tInti64 0 (qb .i64) (fun x:(Int×Int)=>x.1):=⟨by decide,fun R cs x h=>(z4s (A:=(qb .i64)) (B:=(qb .i64))).2 R cs (x.1,x.2) h⟩
theorem zhn:Part kA2tInti64 1 (qb .i64) (fun x:(Int×Int)=>x.2):=⟨by decide,fun R cs x h=>(z1e (A:=(qb .i64)) (z6s (A:=(qb .i64)))).2 R cs (x.1,x.2) h⟩
def z2e(x:(Int×Int)):Value:= .agg #[(.int .i64 x.1),(.int .i64 x.2)]
theorem zhm{R:RH}{x:(Int×Int)}:kA2tInti64.rep R [(.int .i64 x.1),(.int .i64 x.2)] x:=⟨_,_,rfl,rfl,rfl⟩
theorem zfg{R:RH}{v:Value}{x:(Int×Int)}:VRep kA2tInti64 R v x↔v=z2e x:=⟨fun⟨_,h,e⟩=>by
 obtain⟨_,_,rfl,rfl,rfl⟩:=h
 exact e,fun h=>⟨_,zhm,h⟩⟩
def z3a(x:(Int×Int)):List Value:=[(.int .i64 x.1),(.int .i64 x.2)]
theorem zj5(x:(Int×Int)): ∀ v∈z3a x,zjd v:=by
 intro v a
 simp only [z3a,List.mem_cons,List.not_mem_nil,or_false] at a
 rcases a with rfl|rfl
 ·exact .inl ⟨_,_,rfl⟩
 ·exact .inl ⟨_,_,rfl⟩
theorem zjo(x y:(Int×Int))(h:z3a x=z3a y):x=y:=by
 simp only [z3a,List.cons.injEq,Value.int.injEq,Value.bool.injEq,true_and,and_true] at h
 rcases x with⟨⟩;rcases y with⟨⟩
 simp_all [Prod.ext_iff]
structure Sd where
 fG:Int
 fA:Int
 deriving DecidableEq,Inhabited
def oh:Ty Sd:=(z19 (qb .i64) (qb .i64)).as fun x=>(x.fG,x.fA)
theorem zfp:Part oh 0 (qb .i64) (fun x:Sd=>x.fG):=⟨by decide,fun R cs x h=>(z4s (A:=(qb .i64)) (B:=(qb .i64))).2 R cs (x.fG,x.fA) h⟩
theorem zgn:Part oh 1 (qb .i64) (fun x:Sd=>x.fA):=⟨by decide,fun R cs x h=>(z1e (A:=(qb .i64)) (z6s (A:=(qb .i64)))).2 R cs (x.fG,x.fA) h⟩
def z4h(x:(Int×Int×Int×Int)):List Value:=[(.int .i64 x.1),(.int .i64 x.2.1),(.int .i64 x.2.2.1),(.int .i64 x.2.2.2)]
theorem zjb(x y:(Int×Int×Int×Int))(h:z4h x=z4h y):x=y:=by
 simp only [z4h,List.cons.injEq,Value.int.injEq,Value.bool.injEq,true_and,and_true] at h
 rcases x with⟨⟩;rcases y with⟨⟩
 simp_all [Prod.ext_iff]
structure Sj where
 fBd:Int
 fBe:Int
 fBb:(List Int)
 deriving DecidableEq,Inhabited
structure Sk where
 fBf:Int
 fBg:Int
 fG:Int
 fA:Int
 deriving DecidableEq,Inhabited
end GV
end Go.Proofs.Ytdhccodneoebpaa
