import Derived.Test.YtdhccodneoebpaaShGet
set_option linter.unusedVariables false
set_option linter.unusedSimpArgs false
set_option linter.unusedSectionVars false
namespace Go.Proofs.Ytdhccodneoebpaa
namespace GV
structure MDat where
 states:Int
 ins:Int
 outs:Int
 part:Bool
 edges:(List Int)
 deriving DecidableEq,Inhabited
def kEdge:Ty Edge:=(z06 (zz .i64) (zz .i64)).as fun x=>(x.to,x.out)
theorem z7b:Part kEdge 0 (zz .i64) (fun x:Edge=>x.to):=⟨by decide,fun R cs x h=>(z2q (A:=(zz .i64)) (B:=(zz .i64))).2 R cs (x.to,x.out) h⟩
theorem zo2:Part kEdge 1 (zz .i64) (fun x:Edge=>x.out):=⟨by decide,fun R cs x h=>(oz (A:=(zz .i64)) (z5b (A:=(zz .i64)))).2 R cs (x.to,x.out) h⟩
def z2r(x:Edge):Value:= .agg #[(.int .i64 x.to),(.int .i64 x.out)]
theorem zuv{R:RH}{x:Edge}:kEdge.rep R [(.int .i64 x.to),(.int .i64 x.out)] x:=⟨_,_,rfl,rfl,rfl⟩
theorem z2e{R:RH}{v:Value}{x:Edge}:VRep kEdge R v x↔v=z2r x:=⟨fun⟨_,h,e⟩=>by
 obtain⟨_,_,rfl,rfl,rfl⟩:=h
 exact e,fun h=>⟨_,zuv,h⟩⟩
def jf(a b:Bool):Ty Mach:=(z06 (zz .i64) (z06 (zz .i64) (tSl a (tSl b kEdge)))).as fun x=>(x.inputs,x.outputs,x.rows)
theorem z1d{a b:Bool}:Part (jf a b) 0 (zz .i64) (fun x:Mach=>x.inputs):=⟨Nat.le_of_ble_eq_true rfl,fun R cs x h=>(z2q (A:=(zz .i64)) (B:=(z06 (zz .i64) (tSl a (tSl b kEdge))))).2 R cs (x.inputs,x.outputs,x.rows) h⟩
theorem zez{a b:Bool}:Part (jf a b) 1 (zz .i64) (fun x:Mach=>x.outputs):=⟨Nat.le_of_ble_eq_true rfl,fun R cs x h=>(oz (A:=(zz .i64)) (z2q (A:=(zz .i64)) (B:=(tSl a (tSl b kEdge))))).2 R cs (x.inputs,x.outputs,x.rows) h⟩
theorem vv{a b:Bool}:Part (jf a b) 2 (tSl a (tSl b kEdge)) (fun x:Mach=>x.rows):=⟨Nat.le_of_ble_eq_true rfl,fun R cs x h=>(oz (A:=(zz .i64)) (oz (A:=(zz .i64)) (z5b (A:=(tSl a (tSl b kEdge)))))).2 R cs (x.inputs,x.outputs,x.rows) h⟩
theorem z6h{a b:Bool}{R:RH}{v:Value}{x:Mach}(h:VRep (jf a b) R v x): ∃ c,v= .agg #[(.int .i64 x.inputs),(.int .i64 x.outputs),c]∧VRep (tSl a (tSl b kEdge)) R c x.rows:=by
 obtain⟨_,h,rfl⟩:=h
 obtain⟨_,_,rfl,rfl,⟨_,_,rfl,rfl,d⟩⟩:=h
 obtain⟨f,rfl,e⟩:=zym rfl d
 exact⟨_,rfl,e⟩
structure Sc where
 fA:Int
 fB:Int
 deriving DecidableEq,Inhabited
def kStours_step:Ty Sc:=(z06 (zz .i64) (zz .i64)).as fun x=>(x.fA,x.fB)
def z4q(x:Sc):Value:= .agg #[(.int .i64 x.fA),(.int .i64 x.fB)]
theorem zgk{R:RH}{x:Sc}:kStours_step.rep R [(.int .i64 x.fA),(.int .i64 x.fB)] x:=⟨_,_,rfl,rfl,rfl⟩
theorem zfs{R:RH}{v:Value}{x:Sc}:VRep kStours_step R v x↔v=z4q x:=⟨fun⟨_,h,e⟩=>by
 obtain⟨_,_,rfl,rfl,rfl⟩:=h
 exact e,fun h=>⟨_,zgk,h⟩⟩
structure Sd where
 fD:Mach
 fF:(List (List Int))
 fJ:Int
 deriving DecidableEq,Inhabited
def bf(a b c d:Bool):Ty Sd:=(z06 (jf a b) (z06 (tSl c (tSl d (zz .i64))) (zz .i64))).as fun x=>(x.fD,x.fF,x.fJ)
theorem zgn{a b c d:Bool}:Part (bf a b c d) 0 (jf a b) (fun x:Sd=>x.fD):=⟨Nat.le_of_ble_eq_true rfl,fun R cs x h=>(z2q (A:=(jf a b)) (B:=(z06 (tSl c (tSl d (zz .i64))) (zz .i64)))).2 R cs (x.fD,x.fF,x.fJ) h⟩
theorem z1o{c d a b:Bool}:Part (bf c d a b) 3 (tSl a (tSl b (zz .i64))) (fun x:Sd=>x.fF):=⟨Nat.le_of_ble_eq_true rfl,fun R cs x h=>(oz (A:=(jf c d)) (z2q (A:=(tSl a (tSl b (zz .i64)))) (B:=(zz .i64)))).2 R cs (x.fD,x.fF,x.fJ) h⟩
theorem zgl{a b c d:Bool}:Part (bf a b c d) 4 (zz .i64) (fun x:Sd=>x.fJ):=⟨Nat.le_of_ble_eq_true rfl,fun R cs x h=>(oz (A:=(jf a b)) (oz (A:=(tSl c (tSl d (zz .i64)))) (z5b (A:=(zz .i64))))).2 R cs (x.fD,x.fF,x.fJ) h⟩
structure Sk where
 fD:Mach
 fAi:(List (List Int))
 fBc:(List Int)
 deriving DecidableEq,Inhabited
def z5x(a b c d e:Bool):Ty Sk:=(z06 (jf a b) (z06 (tSl c (tSl d (zz .i64))) (tSl e (zz .i64)))).as fun x=>(x.fD,x.fAi,x.fBc)
theorem zgm{c d a b e:Bool}:Part (z5x c d a b e) 3 (tSl a (tSl b (zz .i64))) (fun x:Sk=>x.fAi):=⟨Nat.le_of_ble_eq_true rfl,fun R cs x h=>(oz (A:=(jf c d)) (z2q (A:=(tSl a (tSl b (zz .i64)))) (B:=(tSl e (zz .i64))))).2 R cs (x.fD,x.fAi,x.fBc) h⟩
structure Sb where
 fE:Int
 fA:Int
 fAc:Bool
 fC:Int
 deriving DecidableEq,Inhabited
def kStours_hop:Ty Sb:=(z06 (zz .i64) (z06 (zz .i64) (z06 x9 (zz .i64)))).as fun x=>(x.fE,x.fA,x.fAc,x.fC)
theorem zhm:Part kStours_hop 0 (zz .i64) (fun x:Sb=>x.fE):=⟨by decide,fun R cs x h=>(z2q (A:=(zz .i64)) (B:=(z06 (zz .i64) (z06 x9 (zz .i64))))).2 R cs (x.fE,x.fA,x.fAc,x.fC) h⟩
theorem z02:Part kStours_hop 3 (zz .i64) (fun x:Sb=>x.fC):=⟨by decide,fun R cs x h=>(oz (A:=(zz .i64)) (oz (A:=(zz .i64)) (oz (A:=x9) (z5b (A:=(zz .i64)))))).2 R cs (x.fE,x.fA,x.fAc,x.fC) h⟩
def z8c(x:Sb):Value:= .agg #[(.int .i64 x.fE),(.int .i64 x.fA),(.bool x.fAc),(.int .i64 x.fC)]
theorem zhj{R:RH}{x:Sb}:kStours_hop.rep R [(.int .i64 x.fE),(.int .i64 x.fA),(.bool x.fAc),(.int .i64 x.fC)] x:=⟨_,_,rfl,rfl,⟨_,_,rfl,rfl,⟨_,_,rfl,rfl,rfl⟩⟩⟩
theorem z2x{R:RH}{v:Value}{x:Sb}:VRep kStours_hop R v x↔v=z8c x:=⟨fun⟨_,h,e⟩=>by
 obtain⟨_,_,rfl,rfl,⟨_,_,rfl,rfl,⟨_,_,rfl,rfl,rfl⟩⟩⟩:=h
 exact e,fun h=>⟨_,zhj,h⟩⟩
def kA4tInti64:Ty (Int×Int×Int×Int):=(z06 (zz .i64) (z06 (zz .i64) (z06 (zz .i64) (zz .i64)))).as fun x=>(x.1,x.2.1,x.2.2.1,x.2.2.2)
def z6r(x:(Int×Int×Int×Int)):Value:= .agg #[(.int .i64 x.1),(.int .i64 x.2.1),(.int .i64 x.2.2.1),(.int .i64 x.2.2.2)]
theorem zjd{R:RH}{x:(Int×Int×Int×Int)}:kA4tInti64.rep R [(.int .i64 x.1),(.int .i64 x.2.1),(.int .i64 x.2.2.1),(.int .i64 x.2.2.2)] x:=⟨_,_,rfl,rfl,⟨_,_,rfl,rfl,⟨_,_,rfl,rfl,rfl⟩⟩⟩
theorem zcg{R:RH}{v:Value}{x:(Int×Int×Int×Int)}:VRep kA4tInti64 R v x↔v=z6r x:=⟨fun⟨_,h,e⟩=>by
 obtain⟨_,_,rfl,rfl,⟨_,_,rfl,rfl,⟨_,_,rfl,rfl,rfl⟩⟩⟩:=h
 exact e,fun h=>⟨_,zjd,h⟩⟩
def kA2tInti64:Ty (Int×Int):=(z06 (zz .i64) (zz .i64)).as fun x=>(x.1,x.2)
theorem z9u:Part kA2tInti64 0 (zz .i64) (fun x:(Int×Int)=>x.1):=⟨by decide,fun R cs x h=>(z2q (A:=(zz .i64)) (B:=(zz .i64))).2 R cs (x.1,x.2) h⟩
theorem zdd:Part kA2tInti64 1 (zz .i64) (fun x:(Int×Int)=>x.2):=⟨by decide,fun R cs x h=>(oz (A:=(zz .i64)) (z5b (A:=(zz .i64)))).2 R cs (x.1,x.2) h⟩
def z3d(x:(Int×Int)):Value:= .agg #[(.int .i64 x.1),(.int .i64 x.2)]
theorem zjm{R:RH}{x:(Int×Int)}:kA2tInti64.rep R [(.int .i64 x.1),(.int .i64 x.2)] x:=⟨_,_,rfl,rfl,rfl⟩
theorem zbx{R:RH}{v:Value}{x:(Int×Int)}:VRep kA2tInti64 R v x↔v=z3d x:=⟨fun⟨_,h,e⟩=>by
 obtain⟨_,_,rfl,rfl,rfl⟩:=h
 exact e,fun h=>⟨_,zjm,h⟩⟩
def z3z(x:(Int×Int)):List Value:=[(.int .i64 x.1),(.int .i64 x.2)]
theorem zma(x:(Int×Int)): ∀ v∈z3z x,zlw v:=by
 intro v a
 simp only [z3z,List.mem_cons,List.not_mem_nil,or_false] at a
 rcases a with rfl|rfl
 ·exact .inl ⟨_,_,rfl⟩
 ·exact .inl ⟨_,_,rfl⟩
theorem zlf(x y:(Int×Int))(h:z3z x=z3z y):x=y:=by
 simp only [z3z,List.cons.injEq,Value.int.injEq,Value.bool.injEq,true_and,and_true] at h
 rcases x with⟨⟩;rcases y with⟨⟩
 simp_all [Prod.ext_iff]
structure Sj where
 fE:Int
 fA:Int
 deriving DecidableEq,Inhabited
def ak:Ty Sj:=(z06 (zz .i64) (zz .i64)).as fun x=>(x.fE,x.fA)
theorem zj3:Part ak 0 (zz .i64) (fun x:Sj=>x.fE):=⟨by decide,fun R cs x h=>(z2q (A:=(zz .i64)) (B:=(zz .i64))).2 R cs (x.fE,x.fA) h⟩
theorem ziv:Part ak 1 (zz .i64) (fun x:Sj=>x.fA):=⟨by decide,fun R cs x h=>(oz (A:=(zz .i64)) (z5b (A:=(zz .i64)))).2 R cs (x.fE,x.fA) h⟩
def z5m(x:(Int×Int×Int×Int)):List Value:=[(.int .i64 x.1),(.int .i64 x.2.1),(.int .i64 x.2.2.1),(.int .i64 x.2.2.2)]
theorem zlc(x y:(Int×Int×Int×Int))(h:z5m x=z5m y):x=y:=by
 simp only [z5m,List.cons.injEq,Value.int.injEq,Value.bool.injEq,true_and,and_true] at h
 rcases x with⟨⟩;rcases y with⟨⟩
 simp_all [Prod.ext_iff]
structure Sg where
 fAe:Int
 fO:Int
 fZ:(List Int)
 deriving DecidableEq,Inhabited
def gq(a:Bool):Ty Sg:=(z06 (zz .u8) (z06 (zz .u8) (tSl a (zz .u8)))).as fun x=>(x.fAe,x.fO,x.fZ)
theorem zc1{a:Bool}:Part (gq a) 0 (zz .u8) (fun x:Sg=>x.fAe):=⟨Nat.le_of_ble_eq_true rfl,fun R cs x h=>(z2q (A:=(zz .u8)) (B:=(z06 (zz .u8) (tSl a (zz .u8))))).2 R cs (x.fAe,x.fO,x.fZ) h⟩
theorem zcm{a:Bool}:Part (gq a) 1 (zz .u8) (fun x:Sg=>x.fO):=⟨Nat.le_of_ble_eq_true rfl,fun R cs x h=>(oz (A:=(zz .u8)) (z2q (A:=(zz .u8)) (B:=(tSl a (zz .u8))))).2 R cs (x.fAe,x.fO,x.fZ) h⟩
theorem z1v{a:Bool}:Part (gq a) 2 (tSl a (zz .u8)) (fun x:Sg=>x.fZ):=⟨Nat.le_of_ble_eq_true rfl,fun R cs x h=>(oz (A:=(zz .u8)) (oz (A:=(zz .u8)) (z5b (A:=(tSl a (zz .u8)))))).2 R cs (x.fAe,x.fO,x.fZ) h⟩
structure Sa where
 fG:Int
 fI:Int
 fE:Int
 fA:Int
 deriving DecidableEq,Inhabited
def kSgauntletref38_spot:Ty Sa:=(z06 (zz .i64) (z06 (zz .i64) (z06 (zz .i64) (zz .i64)))).as fun x=>(x.fG,x.fI,x.fE,x.fA)
theorem z5g:Part kSgauntletref38_spot 2 (zz .i64) (fun x:Sa=>x.fE):=⟨by decide,fun R cs x h=>(oz (A:=(zz .i64)) (oz (A:=(zz .i64)) (z2q (A:=(zz .i64)) (B:=(zz .i64))))).2 R cs (x.fG,x.fI,x.fE,x.fA) h⟩
theorem z9w:Part kSgauntletref38_spot 3 (zz .i64) (fun x:Sa=>x.fA):=⟨by decide,fun R cs x h=>(oz (A:=(zz .i64)) (oz (A:=(zz .i64)) (oz (A:=(zz .i64)) (z5b (A:=(zz .i64)))))).2 R cs (x.fG,x.fI,x.fE,x.fA) h⟩
def za5(x:Sa):Value:= .agg #[(.int .i64 x.fG),(.int .i64 x.fI),(.int .i64 x.fE),(.int .i64 x.fA)]
theorem zae{R:RH}{x:Sa}:kSgauntletref38_spot.rep R [(.int .i64 x.fG),(.int .i64 x.fI),(.int .i64 x.fE),(.int .i64 x.fA)] x:=⟨_,_,rfl,rfl,⟨_,_,rfl,rfl,⟨_,_,rfl,rfl,rfl⟩⟩⟩
theorem z9s{R:RH}{v:Value}{x:Sa}:VRep kSgauntletref38_spot R v x↔v=za5 x:=⟨fun⟨_,h,e⟩=>by
 obtain⟨_,_,rfl,rfl,⟨_,_,rfl,rfl,⟨_,_,rfl,rfl,rfl⟩⟩⟩:=h
 exact e,fun h=>⟨_,zae,h⟩⟩
end GV
end Go.Proofs.Ytdhccodneoebpaa
