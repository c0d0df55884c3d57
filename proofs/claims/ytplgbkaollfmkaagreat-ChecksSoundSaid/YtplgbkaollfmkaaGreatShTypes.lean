import Derived.Test.YtplgbkaollfmkaaGreatShDrw
set_option linter.unusedVariables false
set_option linter.unusedSimpArgs false
namespace Go.Proofs.YtplgbkaollfmkaaGreat
namespace GV
structure Sa where
 fB:Int
 fA:Int
 fC:Int
 fI:(List Int)
 fE:(List Int)
 deriving DecidableEq,Inhabited
def gm(a b:Bool):Ty Sa:=(z0a (zu .u8) (z0a (zu .u8) (z0a (zu .u8) (z0a (tSl a (zu .u8)) (tSl b (zu .u16)))))).as fun x=>(x.fB,x.fA,x.fC,x.fI,x.fE)
theorem zfc{a b:Bool}:Part (gm a b) 0 (zu .u8) (fun x:Sa=>x.fB):=⟨Nat.le_of_ble_eq_true rfl,fun R cs x h=>(z19 (A:=(zu .u8)) (B:=(z0a (zu .u8) (z0a (zu .u8) (z0a (tSl a (zu .u8)) (tSl b (zu .u16))))))).2 R cs (x.fB,x.fA,x.fC,x.fI,x.fE) h⟩
theorem zei{a b:Bool}:Part (gm a b) 1 (zu .u8) (fun x:Sa=>x.fA):=⟨Nat.le_of_ble_eq_true rfl,fun R cs x h=>(yz (A:=(zu .u8)) (z19 (A:=(zu .u8)) (B:=(z0a (zu .u8) (z0a (tSl a (zu .u8)) (tSl b (zu .u16))))))).2 R cs (x.fB,x.fA,x.fC,x.fI,x.fE) h⟩
theorem zex{a b:Bool}:Part (gm a b) 2 (zu .u8) (fun x:Sa=>x.fC):=⟨Nat.le_of_ble_eq_true rfl,fun R cs x h=>(yz (A:=(zu .u8)) (yz (A:=(zu .u8)) (z19 (A:=(zu .u8)) (B:=(z0a (tSl a (zu .u8)) (tSl b (zu .u16))))))).2 R cs (x.fB,x.fA,x.fC,x.fI,x.fE) h⟩
theorem za5{a b:Bool}:Part (gm a b) 3 (tSl a (zu .u8)) (fun x:Sa=>x.fI):=⟨Nat.le_of_ble_eq_true rfl,fun R cs x h=>(yz (A:=(zu .u8)) (yz (A:=(zu .u8)) (yz (A:=(zu .u8)) (z19 (A:=(tSl a (zu .u8))) (B:=(tSl b (zu .u16))))))).2 R cs (x.fB,x.fA,x.fC,x.fI,x.fE) h⟩
theorem zaf{b a:Bool}:Part (gm b a) 4 (tSl a (zu .u16)) (fun x:Sa=>x.fE):=⟨Nat.le_of_ble_eq_true rfl,fun R cs x h=>(yz (A:=(zu .u8)) (yz (A:=(zu .u8)) (yz (A:=(zu .u8)) (yz (A:=(tSl b (zu .u8))) (z6y (A:=(tSl a (zu .u16)))))))).2 R cs (x.fB,x.fA,x.fC,x.fI,x.fE) h⟩
structure Sq where
 fAb:Sa
 deriving DecidableEq,Inhabited
def z0f(a b:Bool):Ty Sq:=(q7y (gm a b)).as fun x=>x.fAb
theorem zd6{a b:Bool}{R:RH}{v:Value}{x:Sq}(h:VRep (z0f a b) R v x): ∃ c d,v= .agg #[(.int .u8 x.fAb.fB),(.int .u8 x.fAb.fA),(.int .u8 x.fAb.fC),c,d]∧VRep (tSl a (zu .u8)) R c x.fAb.fI∧VRep (tSl b (zu .u16)) R d x.fAb.fE:=by
 obtain⟨_,h,rfl⟩:=h
 obtain⟨_,_,rfl,rfl,⟨_,_,rfl,rfl,⟨_,_,rfl,rfl,⟨_,_,rfl,q0_3,q0_4⟩⟩⟩⟩:=h
 obtain⟨w0_3,rfl,k0_3⟩:=zi3 rfl q0_3
 obtain⟨w0_4,rfl,k0_4⟩:=zi3 rfl q0_4
 exact⟨_,_,rfl,k0_3,k0_4⟩
structure Sk where
 fAi:Sq
 fAg:(List Int)
 deriving DecidableEq,Inhabited
def z0h(a b c:Bool):Ty Sk:=(z0a (z0f a b) (tSl c (zu .u8))).as fun x=>(x.fAi,x.fAg)
theorem zev{a b c:Bool}:Part (z0h a b c) 0 (z0f a b) (fun x:Sk=>x.fAi):=⟨Nat.le_of_ble_eq_true rfl,fun R cs x h=>(z19 (A:=(z0f a b)) (B:=(tSl c (zu .u8)))).2 R cs (x.fAi,x.fAg) h⟩
theorem zf6{b c a:Bool}:Part (z0h b c a) 5 (tSl a (zu .u8)) (fun x:Sk=>x.fAg):=⟨Nat.le_of_ble_eq_true rfl,fun R cs x h=>(yz (A:=(z0f b c)) (z6y (A:=(tSl a (zu .u8))))).2 R cs (x.fAi,x.fAg) h⟩
def kEdge:Ty Edge:=(z0a (zu .i64) (zu .i64)).as fun x=>(x.to,x.out)
theorem z6u:Part kEdge 0 (zu .i64) (fun x:Edge=>x.to):=⟨by decide,fun R cs x h=>(z19 (A:=(zu .i64)) (B:=(zu .i64))).2 R cs (x.to,x.out) h⟩
theorem zs7:Part kEdge 1 (zu .i64) (fun x:Edge=>x.out):=⟨by decide,fun R cs x h=>(yz (A:=(zu .i64)) (z6y (A:=(zu .i64)))).2 R cs (x.to,x.out) h⟩
def z0s(x:Edge):Value:= .agg #[(.int .i64 x.to),(.int .i64 x.out)]
theorem q12{R:RH}{x:Edge}:kEdge.rep R [(.int .i64 x.to),(.int .i64 x.out)] x:=⟨_,_,rfl,rfl,rfl⟩
theorem ax{R:RH}{v:Value}{x:Edge}:VRep kEdge R v x↔v=z0s x:=⟨fun⟨_,h,e⟩=>by
 obtain⟨_,_,rfl,rfl,rfl⟩:=h
 exact e,fun h=>⟨_,q12,h⟩⟩
def ja(a b:Bool):Ty Mach:=(z0a (zu .i64) (z0a (zu .i64) (tSl a (tSl b kEdge)))).as fun x=>(x.inputs,x.outputs,x.rows)
theorem nz{a b:Bool}:Part (ja a b) 0 (zu .i64) (fun x:Mach=>x.inputs):=⟨Nat.le_of_ble_eq_true rfl,fun R cs x h=>(z19 (A:=(zu .i64)) (B:=(z0a (zu .i64) (tSl a (tSl b kEdge))))).2 R cs (x.inputs,x.outputs,x.rows) h⟩
theorem z6o{a b:Bool}:Part (ja a b) 1 (zu .i64) (fun x:Mach=>x.outputs):=⟨Nat.le_of_ble_eq_true rfl,fun R cs x h=>(yz (A:=(zu .i64)) (z19 (A:=(zu .i64)) (B:=(tSl a (tSl b kEdge))))).2 R cs (x.inputs,x.outputs,x.rows) h⟩
theorem ko{a b:Bool}:Part (ja a b) 2 (tSl a (tSl b kEdge)) (fun x:Mach=>x.rows):=⟨Nat.le_of_ble_eq_true rfl,fun R cs x h=>(yz (A:=(zu .i64)) (yz (A:=(zu .i64)) (z6y (A:=(tSl a (tSl b kEdge)))))).2 R cs (x.inputs,x.outputs,x.rows) h⟩
theorem z6r{a b:Bool}{R:RH}{v:Value}{x:Mach}(h:VRep (ja a b) R v x): ∃ c,v= .agg #[(.int .i64 x.inputs),(.int .i64 x.outputs),c]∧VRep (tSl a (tSl b kEdge)) R c x.rows:=by
 obtain⟨_,h,rfl⟩:=h
 obtain⟨_,_,rfl,rfl,⟨_,_,rfl,rfl,d⟩⟩:=h
 obtain⟨f,rfl,e⟩:=zi3 rfl d
 exact⟨_,rfl,e⟩
def kA2tInti64:Ty (Int×Int):=(z0a (zu .i64) (zu .i64)).as fun x=>(x.1,x.2)
def z1x(x:(Int×Int)):Value:= .agg #[(.int .i64 x.1),(.int .i64 x.2)]
theorem zgf{R:RH}{x:(Int×Int)}:kA2tInti64.rep R [(.int .i64 x.1),(.int .i64 x.2)] x:=⟨_,_,rfl,rfl,rfl⟩
theorem zf1{R:RH}{v:Value}{x:(Int×Int)}:VRep kA2tInti64 R v x↔v=z1x x:=⟨fun⟨_,h,e⟩=>by
 obtain⟨_,_,rfl,rfl,rfl⟩:=h
 exact e,fun h=>⟨_,zgf,h⟩⟩
structure Sc where
 fF:Bool
 fB:(List Int)
 fE:(List (Int×Int))
 deriving DecidableEq,Inhabited
def xc(a b:Bool):Ty Sc:=(z0a jl (z0a (tSl a (zu .i64)) (tSl b kA2tInti64))).as fun x=>(x.fF,x.fB,x.fE)
theorem z81{a b:Bool}:Part (xc a b) 0 jl (fun x:Sc=>x.fF):=⟨Nat.le_of_ble_eq_true rfl,fun R cs x h=>(z19 (A:=jl) (B:=(z0a (tSl a (zu .i64)) (tSl b kA2tInti64)))).2 R cs (x.fF,x.fB,x.fE) h⟩
theorem z7w{a b:Bool}:Part (xc a b) 1 (tSl a (zu .i64)) (fun x:Sc=>x.fB):=⟨Nat.le_of_ble_eq_true rfl,fun R cs x h=>(yz (A:=jl) (z19 (A:=(tSl a (zu .i64))) (B:=(tSl b kA2tInti64)))).2 R cs (x.fF,x.fB,x.fE) h⟩
theorem z1s{b a:Bool}:Part (xc b a) 2 (tSl a kA2tInti64) (fun x:Sc=>x.fE):=⟨Nat.le_of_ble_eq_true rfl,fun R cs x h=>(yz (A:=jl) (yz (A:=(tSl b (zu .i64))) (z6y (A:=(tSl a kA2tInti64))))).2 R cs (x.fF,x.fB,x.fE) h⟩
theorem za1{a b:Bool}{R:RH}{v:Value}{x:Sc}(h:VRep (xc a b) R v x): ∃ c d,v= .agg #[(.bool x.fF),c,d]∧VRep (tSl a (zu .i64)) R c x.fB∧VRep (tSl b kA2tInti64) R d x.fE:=by
 obtain⟨_,h,rfl⟩:=h
 obtain⟨_,_,rfl,rfl,⟨_,_,rfl,e,f⟩⟩:=h
 obtain⟨j,rfl,g⟩:=zi3 rfl e
 obtain⟨k,rfl,i⟩:=zi3 rfl f
 exact⟨_,_,rfl,g,i⟩
structure Sj where
 fBh:Mach
 fAe:(List Int)
 fQ:(List Int)
 fAj:(List Bool)
 fJ:(List Bool)
 deriving DecidableEq,Inhabited
def z15(a b c d e f:Bool):Ty Sj:=(z0a (ja a b) (z0a (tSl c (zu .i64)) (z0a (tSl d (zu .i64)) (z0a (tSl e jl) (tSl f jl))))).as fun x=>(x.fBh,x.fAe,x.fQ,x.fAj,x.fJ)
theorem zby{b c d a e f:Bool}:Part (z15 b c d a e f) 4 (tSl a (zu .i64)) (fun x:Sj=>x.fQ):=⟨Nat.le_of_ble_eq_true rfl,fun R cs x h=>(yz (A:=(ja b c)) (yz (A:=(tSl d (zu .i64))) (z19 (A:=(tSl a (zu .i64))) (B:=(z0a (tSl e jl) (tSl f jl)))))).2 R cs (x.fBh,x.fAe,x.fQ,x.fAj,x.fJ) h⟩
theorem zc2{b c d e a f:Bool}:Part (z15 b c d e a f) 5 (tSl a jl) (fun x:Sj=>x.fAj):=⟨Nat.le_of_ble_eq_true rfl,fun R cs x h=>(yz (A:=(ja b c)) (yz (A:=(tSl d (zu .i64))) (yz (A:=(tSl e (zu .i64))) (z19 (A:=(tSl a jl)) (B:=(tSl f jl)))))).2 R cs (x.fBh,x.fAe,x.fQ,x.fAj,x.fJ) h⟩
theorem z6l{b c d e f a:Bool}:Part (z15 b c d e f a) 6 (tSl a jl) (fun x:Sj=>x.fJ):=⟨Nat.le_of_ble_eq_true rfl,fun R cs x h=>(yz (A:=(ja b c)) (yz (A:=(tSl d (zu .i64))) (yz (A:=(tSl e (zu .i64))) (yz (A:=(tSl f jl)) (z6y (A:=(tSl a jl))))))).2 R cs (x.fBh,x.fAe,x.fQ,x.fAj,x.fJ) h⟩
def z1w(x:(Int×Int)):List Value:=[(.int .i64 x.1),(.int .i64 x.2)]
theorem co_A2tInti64:CellsOf kA2tInti64 z1w:=⟨fun _=>rfl,fun R cs x=>⟨fun h=>by
 obtain⟨_,_,rfl,rfl,rfl⟩:=h
 rfl,fun h=>by subst h;exact zgf⟩⟩
theorem zhr(x:(Int×Int)): ∀ v∈z1w x,zc9 v:=by
 intro v a
 simp only [z1w,List.mem_cons,List.not_mem_nil,or_false] at a
 rcases a with rfl|rfl
 ·exact .inl ⟨_,_,rfl⟩
 ·exact .inl ⟨_,_,rfl⟩
theorem zhe(x y:(Int×Int))(h:z1w x=z1w y):x=y:=by
 simp only [z1w,List.cons.injEq,Value.int.injEq,Value.bool.injEq,true_and,and_true] at h
 rcases x with⟨⟩;rcases y with⟨⟩
 simp_all [Prod.ext_iff]
def zge:Ty (Arr 16 (Int×Int)):=q8d 16 kA2tInti64
def ym(x:(Arr 16 (Int×Int))):List Value:=z7g z1w x
theorem co_A16A2tInti64:CellsOf zge ym:=zys co_A2tInti64
def z7a(x:(Arr 16 (Int×Int))):Value:= .agg (ym x).toArray
theorem zdz(x:(Arr 16 (Int×Int))): ∀ v∈ym x,zc9 v:=q1i zhr x
theorem zku(x y:(Arr 16 (Int×Int)))(h:ym x=ym y):x=y:=zyt co_A2tInti64.len zhe h
structure Sb where
 fBi:Int
 fBb:(Arr 16 (Int×Int))
 deriving DecidableEq,Inhabited
def zo2:Ty Sb:=(z0a (zu .i64) zge).as fun x=>(x.fBi,x.fBb)
def ow(x:Sb):List Value:=[(.int .i64 x.fBi)]++(ym x.fBb)
theorem co_Srefines_key:CellsOf zo2 ow:=q25 (zui cells_int co_A16A2tInti64)
def z0u(x:Sb):Value:= .agg (ow x).toArray
theorem ze2(x:Sb): ∀ v∈ow x,zc9 v:=by
 intro v a
 unfold ow at a
 rcases List.mem_append.1 a with a|a
 ·exact pl_int _ v a
 exact zdz _ v a
theorem zkv(x y:Sb)(h:ow x=ow y):x=y:=by
 obtain⟨c,h⟩:=List.append_inj h ((cells_int.len _).trans (cells_int.len _).symm)
 have a:=q6f _ _ c
 have b:=zku _ _ h
 cases x;cases y;simp only at a b;rw [a,b]
structure Su where
 fAf:Int
 fT:Int
 deriving DecidableEq,Inhabited
def zkr(x:Su):Value:= .agg #[(.int .i64 x.fAf),(.int .i64 x.fT)]
structure Sg where
 fV:Int
 fAe:(List Int)
 deriving DecidableEq,Inhabited
def pu(a:Bool):Ty Sg:=(z0a (zu .i64) (tSl a (zu .i64))).as fun x=>(x.fV,x.fAe)
theorem zbb{a:Bool}:Part (pu a) 0 (zu .i64) (fun x:Sg=>x.fV):=⟨Nat.le_of_ble_eq_true rfl,fun R cs x h=>(z19 (A:=(zu .i64)) (B:=(tSl a (zu .i64)))).2 R cs (x.fV,x.fAe) h⟩
theorem zbg{a:Bool}:Part (pu a) 1 (tSl a (zu .i64)) (fun x:Sg=>x.fAe):=⟨Nat.le_of_ble_eq_true rfl,fun R cs x h=>(yz (A:=(zu .i64)) (z6y (A:=(tSl a (zu .i64))))).2 R cs (x.fV,x.fAe) h⟩
structure Sm where
 fBh:Mach
 fCb:(List Int)
 fAe:(List Int)
 fV:Int
 deriving DecidableEq,Inhabited
def z6g(a b c d:Bool):Ty Sm:=(z0a (ja a b) (z0a (tSl c (zu .i64)) (z0a (tSl d (zu .i64)) (zu .i64)))).as fun x=>(x.fBh,x.fCb,x.fAe,x.fV)
theorem zcc{a b c d:Bool}:Part (z6g a b c d) 0 (ja a b) (fun x:Sm=>x.fBh):=⟨Nat.le_of_ble_eq_true rfl,fun R cs x h=>(z19 (A:=(ja a b)) (B:=(z0a (tSl c (zu .i64)) (z0a (tSl d (zu .i64)) (zu .i64))))).2 R cs (x.fBh,x.fCb,x.fAe,x.fV) h⟩
theorem zch{b c d a:Bool}:Part (z6g b c d a) 4 (tSl a (zu .i64)) (fun x:Sm=>x.fAe):=⟨Nat.le_of_ble_eq_true rfl,fun R cs x h=>(yz (A:=(ja b c)) (yz (A:=(tSl d (zu .i64))) (z19 (A:=(tSl a (zu .i64))) (B:=(zu .i64))))).2 R cs (x.fBh,x.fCb,x.fAe,x.fV) h⟩
structure Sd where
 fO:Int
 fAd:Int
 fZ:Int
 deriving DecidableEq,Inhabited
def uh:Ty Sd:=(z0a (zu .u8) (z0a (zu .u8) (zu .u8))).as fun x=>(x.fO,x.fAd,x.fZ)
theorem zbn:Part uh 0 (zu .u8) (fun x:Sd=>x.fO):=⟨by decide,fun R cs x h=>(z19 (A:=(zu .u8)) (B:=(z0a (zu .u8) (zu .u8)))).2 R cs (x.fO,x.fAd,x.fZ) h⟩
theorem zbq:Part uh 1 (zu .u8) (fun x:Sd=>x.fAd):=⟨by decide,fun R cs x h=>(yz (A:=(zu .u8)) (z19 (A:=(zu .u8)) (B:=(zu .u8)))).2 R cs (x.fO,x.fAd,x.fZ) h⟩
theorem zbl:Part uh 2 (zu .u8) (fun x:Sd=>x.fZ):=⟨by decide,fun R cs x h=>(yz (A:=(zu .u8)) (yz (A:=(zu .u8)) (z6y (A:=(zu .u8))))).2 R cs (x.fO,x.fAd,x.fZ) h⟩
structure Sn where
 fBg:(List Sd)
 fK:Int
 fAh:(List Int)
 deriving DecidableEq,Inhabited
def z2o(a b:Bool):Ty Sn:=(z0a (tSl a uh) (z0a (zu .u8) (tSl b (zu .u8)))).as fun x=>(x.fBg,x.fK,x.fAh)
theorem zf4{a b:Bool}:Part (z2o a b) 0 (tSl a uh) (fun x:Sn=>x.fBg):=⟨Nat.le_of_ble_eq_true rfl,fun R cs x h=>(z19 (A:=(tSl a uh)) (B:=(z0a (zu .u8) (tSl b (zu .u8))))).2 R cs (x.fBg,x.fK,x.fAh) h⟩
theorem zfe{a b:Bool}:Part (z2o a b) 1 (zu .u8) (fun x:Sn=>x.fK):=⟨Nat.le_of_ble_eq_true rfl,fun R cs x h=>(yz (A:=(tSl a uh)) (z19 (A:=(zu .u8)) (B:=(tSl b (zu .u8))))).2 R cs (x.fBg,x.fK,x.fAh) h⟩
theorem zf0{b a:Bool}:Part (z2o b a) 2 (tSl a (zu .u8)) (fun x:Sn=>x.fAh):=⟨Nat.le_of_ble_eq_true rfl,fun R cs x h=>(yz (A:=(tSl b uh)) (yz (A:=(zu .u8)) (z6y (A:=(tSl a (zu .u8)))))).2 R cs (x.fBg,x.fK,x.fAh) h⟩
end GV
end Go.Proofs.YtplgbkaollfmkaaGreat
