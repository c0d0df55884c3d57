import Derived.Test.YtplgbkaollfmkaaGreatShDrw
set_option linter.unusedVariables false
set_option linter.unusedSimpArgs false
namespace Go.Proofs.YtplgbkaollfmkaaGreat
namespace GV
structure Sd where
 fB:Int
 fA:Int
 fC:Int
 fI:(List Int)
 fD:(List Int)
 deriving DecidableEq,Inhabited
def il(a b:Bool):Ty Sd:=(z1i (zw .u8) (z1i (zw .u8) (z1i (zw .u8) (z1i (tSl a (zw .u8)) (tSl b (zw .u16)))))).as fun x=>(x.fB,x.fA,x.fC,x.fI,x.fD)
theorem zfb{a b:Bool}:Part (il a b) 0 (zw .u8) (fun x:Sd=>x.fB):=⟨Nat.le_of_ble_eq_true rfl,fun R cs x h=>(z4e (A:=(zw .u8)) (B:=(z1i (zw .u8) (z1i (zw .u8) (z1i (tSl a (zw .u8)) (tSl b (zw .u16))))))).2 R cs (x.fB,x.fA,x.fC,x.fI,x.fD) h⟩
theorem zf7{a b:Bool}:Part (il a b) 1 (zw .u8) (fun x:Sd=>x.fA):=⟨Nat.le_of_ble_eq_true rfl,fun R cs x h=>(o5 (A:=(zw .u8)) (z4e (A:=(zw .u8)) (B:=(z1i (zw .u8) (z1i (tSl a (zw .u8)) (tSl b (zw .u16))))))).2 R cs (x.fB,x.fA,x.fC,x.fI,x.fD) h⟩
theorem zet{a b:Bool}:Part (il a b) 2 (zw .u8) (fun x:Sd=>x.fC):=⟨Nat.le_of_ble_eq_true rfl,fun R cs x h=>(o5 (A:=(zw .u8)) (o5 (A:=(zw .u8)) (z4e (A:=(zw .u8)) (B:=(z1i (tSl a (zw .u8)) (tSl b (zw .u16))))))).2 R cs (x.fB,x.fA,x.fC,x.fI,x.fD) h⟩
theorem za0{a b:Bool}:Part (il a b) 3 (tSl a (zw .u8)) (fun x:Sd=>x.fI):=⟨Nat.le_of_ble_eq_true rfl,fun R cs x h=>(o5 (A:=(zw .u8)) (o5 (A:=(zw .u8)) (o5 (A:=(zw .u8)) (z4e (A:=(tSl a (zw .u8))) (B:=(tSl b (zw .u16))))))).2 R cs (x.fB,x.fA,x.fC,x.fI,x.fD) h⟩
theorem z9w{b a:Bool}:Part (il b a) 4 (tSl a (zw .u16)) (fun x:Sd=>x.fD):=⟨Nat.le_of_ble_eq_true rfl,fun R cs x h=>(o5 (A:=(zw .u8)) (o5 (A:=(zw .u8)) (o5 (A:=(zw .u8)) (o5 (A:=(tSl b (zw .u8))) (z9a (A:=(tSl a (zw .u16)))))))).2 R cs (x.fB,x.fA,x.fC,x.fI,x.fD) h⟩
structure Sm where
 fO:Sd
 deriving DecidableEq,Inhabited
def z0n(a b:Bool):Ty Sm:=(q8s (il a b)).as fun x=>x.fO
theorem zdl{a b:Bool}{R:RH}{v:Value}{x:Sm}(h:VRep (z0n a b) R v x): ∃ c d,v= .agg #[(.int .u8 x.fO.fB),(.int .u8 x.fO.fA),(.int .u8 x.fO.fC),c,d]∧VRep (tSl a (zw .u8)) R c x.fO.fI∧VRep (tSl b (zw .u16)) R d x.fO.fD:=by
 obtain⟨_,h,rfl⟩:=h
 obtain⟨_,_,rfl,rfl,⟨_,_,rfl,rfl,⟨_,_,rfl,rfl,⟨_,_,rfl,q0_3,q0_4⟩⟩⟩⟩:=h
 obtain⟨w0_3,rfl,k0_3⟩:=zfu rfl q0_3
 obtain⟨w0_4,rfl,k0_4⟩:=zfu rfl q0_4
 exact⟨_,_,rfl,k0_3,k0_4⟩
structure Sg where
 fAa:Sm
 fU:(List Int)
 deriving DecidableEq,Inhabited
def iq(a b c:Bool):Ty Sg:=(z1i (z0n a b) (tSl c (zw .u8))).as fun x=>(x.fAa,x.fU)
theorem zes{a b c:Bool}:Part (iq a b c) 0 (z0n a b) (fun x:Sg=>x.fAa):=⟨Nat.le_of_ble_eq_true rfl,fun R cs x h=>(z4e (A:=(z0n a b)) (B:=(tSl c (zw .u8)))).2 R cs (x.fAa,x.fU) h⟩
theorem zfg{b c a:Bool}:Part (iq b c a) 5 (tSl a (zw .u8)) (fun x:Sg=>x.fU):=⟨Nat.le_of_ble_eq_true rfl,fun R cs x h=>(o5 (A:=(z0n b c)) (z9a (A:=(tSl a (zw .u8))))).2 R cs (x.fAa,x.fU) h⟩
def kEdge:Ty Edge:=(z1i (zw .i64) (zw .i64)).as fun x=>(x.to,x.out)
theorem z5w:Part kEdge 0 (zw .i64) (fun x:Edge=>x.to):=⟨by decide,fun R cs x h=>(z4e (A:=(zw .i64)) (B:=(zw .i64))).2 R cs (x.to,x.out) h⟩
theorem zs3:Part kEdge 1 (zw .i64) (fun x:Edge=>x.out):=⟨by decide,fun R cs x h=>(o5 (A:=(zw .i64)) (z9a (A:=(zw .i64)))).2 R cs (x.to,x.out) h⟩
def z2o(x:Edge):Value:= .agg #[(.int .i64 x.to),(.int .i64 x.out)]
theorem q1s{R:RH}{x:Edge}:kEdge.rep R [(.int .i64 x.to),(.int .i64 x.out)] x:=⟨_,_,rfl,rfl,rfl⟩
theorem z0c{R:RH}{v:Value}{x:Edge}:VRep kEdge R v x↔v=z2o x:=⟨fun⟨_,h,e⟩=>by
 obtain⟨_,_,rfl,rfl,rfl⟩:=h
 exact e,fun h=>⟨_,q1s,h⟩⟩
def je(a b:Bool):Ty Mach:=(z1i (zw .i64) (z1i (zw .i64) (tSl a (tSl b kEdge)))).as fun x=>(x.inputs,x.outputs,x.rows)
theorem lh{a b:Bool}:Part (je a b) 0 (zw .i64) (fun x:Mach=>x.inputs):=⟨Nat.le_of_ble_eq_true rfl,fun R cs x h=>(z4e (A:=(zw .i64)) (B:=(z1i (zw .i64) (tSl a (tSl b kEdge))))).2 R cs (x.inputs,x.outputs,x.rows) h⟩
theorem zbf{a b:Bool}:Part (je a b) 1 (zw .i64) (fun x:Mach=>x.outputs):=⟨Nat.le_of_ble_eq_true rfl,fun R cs x h=>(o5 (A:=(zw .i64)) (z4e (A:=(zw .i64)) (B:=(tSl a (tSl b kEdge))))).2 R cs (x.inputs,x.outputs,x.rows) h⟩
theorem u6{a b:Bool}:Part (je a b) 2 (tSl a (tSl b kEdge)) (fun x:Mach=>x.rows):=⟨Nat.le_of_ble_eq_true rfl,fun R cs x h=>(o5 (A:=(zw .i64)) (o5 (A:=(zw .i64)) (z9a (A:=(tSl a (tSl b kEdge)))))).2 R cs (x.inputs,x.outputs,x.rows) h⟩
theorem z6u{a b:Bool}{R:RH}{v:Value}{x:Mach}(h:VRep (je a b) R v x): ∃ c,v= .agg #[(.int .i64 x.inputs),(.int .i64 x.outputs),c]∧VRep (tSl a (tSl b kEdge)) R c x.rows:=by
 obtain⟨_,h,rfl⟩:=h
 obtain⟨_,_,rfl,rfl,⟨_,_,rfl,rfl,d⟩⟩:=h
 obtain⟨f,rfl,e⟩:=zfu rfl d
 exact⟨_,rfl,e⟩
def kA2tInti64:Ty (Int×Int):=(z1i (zw .i64) (zw .i64)).as fun x=>(x.1,x.2)
def z2i(x:(Int×Int)):Value:= .agg #[(.int .i64 x.1),(.int .i64 x.2)]
theorem zgl{R:RH}{x:(Int×Int)}:kA2tInti64.rep R [(.int .i64 x.1),(.int .i64 x.2)] x:=⟨_,_,rfl,rfl,rfl⟩
theorem zej{R:RH}{v:Value}{x:(Int×Int)}:VRep kA2tInti64 R v x↔v=z2i x:=⟨fun⟨_,h,e⟩=>by
 obtain⟨_,_,rfl,rfl,rfl⟩:=h
 exact e,fun h=>⟨_,zgl,h⟩⟩
structure Sa where
 fF:Bool
 fB:(List Int)
 fD:(List (Int×Int))
 deriving DecidableEq,Inhabited
def uw(a b:Bool):Ty Sa:=(z1i jl (z1i (tSl a (zw .i64)) (tSl b kA2tInti64))).as fun x=>(x.fF,x.fB,x.fD)
theorem z7s{a b:Bool}:Part (uw a b) 0 jl (fun x:Sa=>x.fF):=⟨Nat.le_of_ble_eq_true rfl,fun R cs x h=>(z4e (A:=jl) (B:=(z1i (tSl a (zw .i64)) (tSl b kA2tInti64)))).2 R cs (x.fF,x.fB,x.fD) h⟩
theorem z7r{a b:Bool}:Part (uw a b) 1 (tSl a (zw .i64)) (fun x:Sa=>x.fB):=⟨Nat.le_of_ble_eq_true rfl,fun R cs x h=>(o5 (A:=jl) (z4e (A:=(tSl a (zw .i64))) (B:=(tSl b kA2tInti64)))).2 R cs (x.fF,x.fB,x.fD) h⟩
theorem z2f{b a:Bool}:Part (uw b a) 2 (tSl a kA2tInti64) (fun x:Sa=>x.fD):=⟨Nat.le_of_ble_eq_true rfl,fun R cs x h=>(o5 (A:=jl) (o5 (A:=(tSl b (zw .i64))) (z9a (A:=(tSl a kA2tInti64))))).2 R cs (x.fF,x.fB,x.fD) h⟩
theorem z6q{a b:Bool}{R:RH}{v:Value}{x:Sa}(h:VRep (uw a b) R v x): ∃ c d,v= .agg #[(.bool x.fF),c,d]∧VRep (tSl a (zw .i64)) R c x.fB∧VRep (tSl b kA2tInti64) R d x.fD:=by
 obtain⟨_,h,rfl⟩:=h
 obtain⟨_,_,rfl,rfl,⟨_,_,rfl,e,f⟩⟩:=h
 obtain⟨j,rfl,g⟩:=zfu rfl e
 obtain⟨k,rfl,i⟩:=zfu rfl f
 exact⟨_,_,rfl,g,i⟩
structure Sj where
 fAi:Mach
 fV:(List Int)
 fM:(List Int)
 fAb:(List Bool)
 fJ:(List Bool)
 deriving DecidableEq,Inhabited
def z1c(a b c d e f:Bool):Ty Sj:=(z1i (je a b) (z1i (tSl c (zw .i64)) (z1i (tSl d (zw .i64)) (z1i (tSl e jl) (tSl f jl))))).as fun x=>(x.fAi,x.fV,x.fM,x.fAb,x.fJ)
theorem zbs{b c d a e f:Bool}:Part (z1c b c d a e f) 4 (tSl a (zw .i64)) (fun x:Sj=>x.fM):=⟨Nat.le_of_ble_eq_true rfl,fun R cs x h=>(o5 (A:=(je b c)) (o5 (A:=(tSl d (zw .i64))) (z4e (A:=(tSl a (zw .i64))) (B:=(z1i (tSl e jl) (tSl f jl)))))).2 R cs (x.fAi,x.fV,x.fM,x.fAb,x.fJ) h⟩
theorem zc3{b c d e a f:Bool}:Part (z1c b c d e a f) 5 (tSl a jl) (fun x:Sj=>x.fAb):=⟨Nat.le_of_ble_eq_true rfl,fun R cs x h=>(o5 (A:=(je b c)) (o5 (A:=(tSl d (zw .i64))) (o5 (A:=(tSl e (zw .i64))) (z4e (A:=(tSl a jl)) (B:=(tSl f jl)))))).2 R cs (x.fAi,x.fV,x.fM,x.fAb,x.fJ) h⟩
theorem z6g{b c d e f a:Bool}:Part (z1c b c d e f a) 6 (tSl a jl) (fun x:Sj=>x.fJ):=⟨Nat.le_of_ble_eq_true rfl,fun R cs x h=>(o5 (A:=(je b c)) (o5 (A:=(tSl d (zw .i64))) (o5 (A:=(tSl e (zw .i64))) (o5 (A:=(tSl f jl)) (z9a (A:=(tSl a jl))))))).2 R cs (x.fAi,x.fV,x.fM,x.fAb,x.fJ) h⟩
def z2g(x:(Int×Int)):List Value:=[(.int .i64 x.1),(.int .i64 x.2)]
theorem co_A2tInti64:CellsOf kA2tInti64 z2g:=⟨fun _=>rfl,fun R cs x=>⟨fun h=>by
 obtain⟨_,_,rfl,rfl,rfl⟩:=h
 rfl,fun h=>by subst h;exact zgl⟩⟩
theorem zii(x:(Int×Int)): ∀ v∈z2g x,zc5 v:=by
 intro v a
 simp only [z2g,List.mem_cons,List.not_mem_nil,or_false] at a
 rcases a with rfl|rfl
 ·exact .inl ⟨_,_,rfl⟩
 ·exact .inl ⟨_,_,rfl⟩
theorem zhu(x y:(Int×Int))(h:z2g x=z2g y):x=y:=by
 simp only [z2g,List.cons.injEq,Value.int.injEq,Value.bool.injEq,true_and,and_true] at h
 rcases x with⟨⟩;rcases y with⟨⟩
 simp_all [Prod.ext_iff]
def zgo:Ty (Arr 16 (Int×Int)):=q9r 16 kA2tInti64
def yh(x:(Arr 16 (Int×Int))):List Value:=z7f z2g x
theorem co_A16A2tInti64:CellsOf zgo yh:=zxg co_A2tInti64
def z6z(x:(Arr 16 (Int×Int))):Value:= .agg (yh x).toArray
theorem ze6(x:(Arr 16 (Int×Int))): ∀ v∈yh x,zc5 v:=q0w zii x
theorem zkv(x y:(Arr 16 (Int×Int)))(h:yh x=yh y):x=y:=zzk co_A2tInti64.len zhu h
structure Sb where
 fAj:Int
 fAd:(Arr 16 (Int×Int))
 deriving DecidableEq,Inhabited
def znt:Ty Sb:=(z1i (zw .i64) zgo).as fun x=>(x.fAj,x.fAd)
def oh(x:Sb):List Value:=[(.int .i64 x.fAj)]++(yh x.fAd)
theorem co_Srefines_key:CellsOf znt oh:=q1l (zv4 cells_int co_A16A2tInti64)
def z0z(x:Sb):Value:= .agg (oh x).toArray
theorem ze4(x:Sb): ∀ v∈oh x,zc5 v:=by
 intro v a
 unfold oh at a
 rcases List.mem_append.1 a with a|a
 ·exact pl_int _ v a
 exact ze6 _ v a
theorem zkx(x y:Sb)(h:oh x=oh y):x=y:=by
 obtain⟨c,h⟩:=List.append_inj h ((cells_int.len _).trans (cells_int.len _).symm)
 have a:=q7r _ _ c
 have b:=zkv _ _ h
 cases x;cases y;simp only at a b;rw [a,b]
structure Sn where
 fZ:Int
 fP:Int
 deriving DecidableEq,Inhabited
def zky(x:Sn):Value:= .agg #[(.int .i64 x.fZ),(.int .i64 x.fP)]
structure Sc where
 fQ:Int
 fV:(List Int)
 deriving DecidableEq,Inhabited
def p9(a:Bool):Ty Sc:=(z1i (zw .i64) (tSl a (zw .i64))).as fun x=>(x.fQ,x.fV)
theorem zb1{a:Bool}:Part (p9 a) 0 (zw .i64) (fun x:Sc=>x.fQ):=⟨Nat.le_of_ble_eq_true rfl,fun R cs x h=>(z4e (A:=(zw .i64)) (B:=(tSl a (zw .i64)))).2 R cs (x.fQ,x.fV) h⟩
theorem zb4{a:Bool}:Part (p9 a) 1 (tSl a (zw .i64)) (fun x:Sc=>x.fV):=⟨Nat.le_of_ble_eq_true rfl,fun R cs x h=>(o5 (A:=(zw .i64)) (z9a (A:=(tSl a (zw .i64))))).2 R cs (x.fQ,x.fV) h⟩
structure Sk where
 fAi:Mach
 fBf:(List Int)
 fV:(List Int)
 fQ:Int
 deriving DecidableEq,Inhabited
def z6e(a b c d:Bool):Ty Sk:=(z1i (je a b) (z1i (tSl c (zw .i64)) (z1i (tSl d (zw .i64)) (zw .i64)))).as fun x=>(x.fAi,x.fBf,x.fV,x.fQ)
theorem zc9{a b c d:Bool}:Part (z6e a b c d) 0 (je a b) (fun x:Sk=>x.fAi):=⟨Nat.le_of_ble_eq_true rfl,fun R cs x h=>(z4e (A:=(je a b)) (B:=(z1i (tSl c (zw .i64)) (z1i (tSl d (zw .i64)) (zw .i64))))).2 R cs (x.fAi,x.fBf,x.fV,x.fQ) h⟩
theorem zcb{b c d a:Bool}:Part (z6e b c d a) 4 (tSl a (zw .i64)) (fun x:Sk=>x.fV):=⟨Nat.le_of_ble_eq_true rfl,fun R cs x h=>(o5 (A:=(je b c)) (o5 (A:=(tSl d (zw .i64))) (z4e (A:=(tSl a (zw .i64))) (B:=(zw .i64))))).2 R cs (x.fAi,x.fBf,x.fV,x.fQ) h⟩
structure Sq where
 fBd:Int
 fBe:Int
 fBb:Int
 deriving DecidableEq,Inhabited
structure Su where
 fBh:(List Sq)
 fBg:Int
 fBi:(List Int)
 deriving DecidableEq,Inhabited
end GV
end Go.Proofs.YtplgbkaollfmkaaGreat
