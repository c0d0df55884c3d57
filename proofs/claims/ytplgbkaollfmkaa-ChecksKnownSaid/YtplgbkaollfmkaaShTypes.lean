import Derived.Test.YtplgbkaollfmkaaShDrw
set_option linter.unusedVariables false
set_option linter.unusedSimpArgs false
namespace Go.Proofs.Ytplgbkaollfmkaa
namespace GV
def kEdge:Ty Edge:=(z19 (zx .i64) (zx .i64)).as fun x=>(x.to,x.out)
theorem z4u:Part kEdge 0 (zx .i64) (fun x:Edge=>x.to):=⟨by decide,fun R cs x h=>(z3v (A:=(zx .i64)) (B:=(zx .i64))).2 R cs (x.to,x.out) h⟩
theorem zp9:Part kEdge 1 (zx .i64) (fun x:Edge=>x.out):=⟨by decide,fun R cs x h=>(mh (A:=(zx .i64)) (z7u (A:=(zx .i64)))).2 R cs (x.to,x.out) h⟩
def z15(x:Edge):Value:= .agg #[(.int .i64 x.to),(.int .i64 x.out)]
theorem zyx{R:RH}{x:Edge}:kEdge.rep R [(.int .i64 x.to),(.int .i64 x.out)] x:=⟨_,_,rfl,rfl,rfl⟩
theorem sw{R:RH}{v:Value}{x:Edge}:VRep kEdge R v x↔v=z15 x:=⟨fun⟨_,h,e⟩=>by
 obtain⟨_,_,rfl,rfl,rfl⟩:=h
 exact e,fun h=>⟨_,zyx,h⟩⟩
def je(a b:Bool):Ty Mach:=(z19 (zx .i64) (z19 (zx .i64) (tSl a (tSl b kEdge)))).as fun x=>(x.inputs,x.outputs,x.rows)
theorem l5{a b:Bool}:Part (je a b) 0 (zx .i64) (fun x:Mach=>x.inputs):=⟨Nat.le_of_ble_eq_true rfl,fun R cs x h=>(z3v (A:=(zx .i64)) (B:=(z19 (zx .i64) (tSl a (tSl b kEdge))))).2 R cs (x.inputs,x.outputs,x.rows) h⟩
theorem z9p{a b:Bool}:Part (je a b) 1 (zx .i64) (fun x:Mach=>x.outputs):=⟨Nat.le_of_ble_eq_true rfl,fun R cs x h=>(mh (A:=(zx .i64)) (z3v (A:=(zx .i64)) (B:=(tSl a (tSl b kEdge))))).2 R cs (x.inputs,x.outputs,x.rows) h⟩
theorem ky{a b:Bool}:Part (je a b) 2 (tSl a (tSl b kEdge)) (fun x:Mach=>x.rows):=⟨Nat.le_of_ble_eq_true rfl,fun R cs x h=>(mh (A:=(zx .i64)) (mh (A:=(zx .i64)) (z7u (A:=(tSl a (tSl b kEdge)))))).2 R cs (x.inputs,x.outputs,x.rows) h⟩
theorem z7x{a b:Bool}{R:RH}{v:Value}{x:Mach}(h:VRep (je a b) R v x): ∃ c,v= .agg #[(.int .i64 x.inputs),(.int .i64 x.outputs),c]∧VRep (tSl a (tSl b kEdge)) R c x.rows:=by
 obtain⟨_,h,rfl⟩:=h
 obtain⟨_,_,rfl,rfl,⟨_,_,rfl,rfl,d⟩⟩:=h
 obtain⟨f,rfl,e⟩:=ze2 rfl d
 exact⟨_,rfl,e⟩
def kA2tInti64:Ty (Int×Int):=(z19 (zx .i64) (zx .i64)).as fun x=>(x.1,x.2)
def z0s(x:(Int×Int)):Value:= .agg #[(.int .i64 x.1),(.int .i64 x.2)]
theorem zen{R:RH}{x:(Int×Int)}:kA2tInti64.rep R [(.int .i64 x.1),(.int .i64 x.2)] x:=⟨_,_,rfl,rfl,rfl⟩
theorem zd5{R:RH}{v:Value}{x:(Int×Int)}:VRep kA2tInti64 R v x↔v=z0s x:=⟨fun⟨_,h,e⟩=>by
 obtain⟨_,_,rfl,rfl,rfl⟩:=h
 exact e,fun h=>⟨_,zen,h⟩⟩
def z0q(x:(Int×Int)):List Value:=[(.int .i64 x.1),(.int .i64 x.2)]
theorem co_A2tInti64:CellsOf kA2tInti64 z0q:=⟨fun _=>rfl,fun R cs x=>⟨fun h=>by
 obtain⟨_,_,rfl,rfl,rfl⟩:=h
 rfl,fun h=>by subst h;exact zen⟩⟩
theorem zgi(x:(Int×Int)): ∀ v∈z0q x,zad v:=by
 intro v a
 simp only [z0q,List.mem_cons,List.not_mem_nil,or_false] at a
 rcases a with rfl|rfl
 ·exact .inl ⟨_,_,rfl⟩
 ·exact .inl ⟨_,_,rfl⟩
theorem zft(x y:(Int×Int))(h:z0q x=z0q y):x=y:=by
 simp only [z0q,List.cons.injEq,Value.int.injEq,Value.bool.injEq,true_and,and_true] at h
 rcases x with⟨⟩;rcases y with⟨⟩
 simp_all [Prod.ext_iff]
def zem:Ty (Arr 16 (Int×Int)):=q4w 16 kA2tInti64
def vg(x:(Arr 16 (Int×Int))):List Value:=z5t z0q x
theorem co_A16A2tInti64:CellsOf zem vg:=zu6 co_A2tInti64
def z5s(x:(Arr 16 (Int×Int))):Value:= .agg (vg x).toArray
theorem zc8(x:(Arr 16 (Int×Int))): ∀ v∈vg x,zad v:=zxs zgi x
theorem zib(x y:(Arr 16 (Int×Int)))(h:vg x=vg y):x=y:=zvi co_A2tInti64.len zft h
structure Sa where
 fAi:Int
 fAc:(Arr 16 (Int×Int))
 deriving DecidableEq,Inhabited
def zli:Ty Sa:=(z19 (zx .i64) zem).as fun x=>(x.fAi,x.fAc)
def cz(x:Sa):List Value:=[(.int .i64 x.fAi)]++(vg x.fAc)
theorem co_Srefines_key:CellsOf zli cz:=zz3 (zqv cells_int co_A16A2tInti64)
def lg(x:Sa):Value:= .agg (cz x).toArray
theorem zcc(x:Sa): ∀ v∈cz x,zad v:=by
 intro v a
 unfold cz at a
 rcases List.mem_append.1 a with a|a
 ·exact pl_int _ v a
 exact zc8 _ v a
theorem zie(x y:Sa)(h:cz x=cz y):x=y:=by
 obtain⟨c,h⟩:=List.append_inj h ((cells_int.len _).trans (cells_int.len _).symm)
 have a:=q20 _ _ c
 have b:=zib _ _ h
 cases x;cases y;simp only at a b;rw [a,b]
structure Sm where
 fT:Int
 fO:Int
 deriving DecidableEq,Inhabited
def zij(x:Sm):Value:= .agg #[(.int .i64 x.fT),(.int .i64 x.fO)]
structure Sd where
 fQ:Int
 fZ:(List Int)
 deriving DecidableEq,Inhabited
def gp(a:Bool):Ty Sd:=(z19 (zx .i64) (tSl a (zx .i64))).as fun x=>(x.fQ,x.fZ)
theorem z9g{a:Bool}:Part (gp a) 0 (zx .i64) (fun x:Sd=>x.fQ):=⟨Nat.le_of_ble_eq_true rfl,fun R cs x h=>(z3v (A:=(zx .i64)) (B:=(tSl a (zx .i64)))).2 R cs (x.fQ,x.fZ) h⟩
theorem z9m{a:Bool}:Part (gp a) 1 (tSl a (zx .i64)) (fun x:Sd=>x.fZ):=⟨Nat.le_of_ble_eq_true rfl,fun R cs x h=>(mh (A:=(zx .i64)) (z7u (A:=(tSl a (zx .i64))))).2 R cs (x.fQ,x.fZ) h⟩
structure Sg where
 fBa:Mach
 fZ:(List Int)
 fK:(List Int)
 fAa:(List Bool)
 fI:(List Bool)
 deriving DecidableEq,Inhabited
def z00(a b c d e f:Bool):Ty Sg:=(z19 (je a b) (z19 (tSl c (zx .i64)) (z19 (tSl d (zx .i64)) (z19 (tSl e jh) (tSl f jh))))).as fun x=>(x.fBa,x.fZ,x.fK,x.fAa,x.fI)
theorem za8{b c d a e f:Bool}:Part (z00 b c d a e f) 4 (tSl a (zx .i64)) (fun x:Sg=>x.fK):=⟨Nat.le_of_ble_eq_true rfl,fun R cs x h=>(mh (A:=(je b c)) (mh (A:=(tSl d (zx .i64))) (z3v (A:=(tSl a (zx .i64))) (B:=(z19 (tSl e jh) (tSl f jh)))))).2 R cs (x.fBa,x.fZ,x.fK,x.fAa,x.fI) h⟩
theorem za9{b c d e a f:Bool}:Part (z00 b c d e a f) 5 (tSl a jh) (fun x:Sg=>x.fAa):=⟨Nat.le_of_ble_eq_true rfl,fun R cs x h=>(mh (A:=(je b c)) (mh (A:=(tSl d (zx .i64))) (mh (A:=(tSl e (zx .i64))) (z3v (A:=(tSl a jh)) (B:=(tSl f jh)))))).2 R cs (x.fBa,x.fZ,x.fK,x.fAa,x.fI) h⟩
theorem z5c{b c d e f a:Bool}:Part (z00 b c d e f a) 6 (tSl a jh) (fun x:Sg=>x.fI):=⟨Nat.le_of_ble_eq_true rfl,fun R cs x h=>(mh (A:=(je b c)) (mh (A:=(tSl d (zx .i64))) (mh (A:=(tSl e (zx .i64))) (mh (A:=(tSl f jh)) (z7u (A:=(tSl a jh))))))).2 R cs (x.fBa,x.fZ,x.fK,x.fAa,x.fI) h⟩
structure Sc where
 fJ:Bool
 fC:(List Int)
 fE:(List (Int×Int))
 deriving DecidableEq,Inhabited
def cu(a b:Bool):Ty Sc:=(z19 jh (z19 (tSl a (zx .i64)) (tSl b kA2tInti64))).as fun x=>(x.fJ,x.fC,x.fE)
theorem z9s{a b:Bool}:Part (cu a b) 0 jh (fun x:Sc=>x.fJ):=⟨Nat.le_of_ble_eq_true rfl,fun R cs x h=>(z3v (A:=jh) (B:=(z19 (tSl a (zx .i64)) (tSl b kA2tInti64)))).2 R cs (x.fJ,x.fC,x.fE) h⟩
theorem z9n{a b:Bool}:Part (cu a b) 1 (tSl a (zx .i64)) (fun x:Sc=>x.fC):=⟨Nat.le_of_ble_eq_true rfl,fun R cs x h=>(mh (A:=jh) (z3v (A:=(tSl a (zx .i64))) (B:=(tSl b kA2tInti64)))).2 R cs (x.fJ,x.fC,x.fE) h⟩
theorem z2n{b a:Bool}:Part (cu b a) 2 (tSl a kA2tInti64) (fun x:Sc=>x.fE):=⟨Nat.le_of_ble_eq_true rfl,fun R cs x h=>(mh (A:=jh) (mh (A:=(tSl b (zx .i64))) (z7u (A:=(tSl a kA2tInti64))))).2 R cs (x.fJ,x.fC,x.fE) h⟩
theorem zdl{a b:Bool}{R:RH}{v:Value}{x:Sc}(h:VRep (cu a b) R v x): ∃ c d,v= .agg #[(.bool x.fJ),c,d]∧VRep (tSl a (zx .i64)) R c x.fC∧VRep (tSl b kA2tInti64) R d x.fE:=by
 obtain⟨_,h,rfl⟩:=h
 obtain⟨_,_,rfl,rfl,⟨_,_,rfl,e,f⟩⟩:=h
 obtain⟨j,rfl,g⟩:=ze2 rfl e
 obtain⟨k,rfl,i⟩:=ze2 rfl f
 exact⟨_,_,rfl,g,i⟩
structure Sb where
 fC:Int
 fA:Int
 fB:Int
 fH:(List Int)
 fE:(List Int)
 deriving DecidableEq,Inhabited
def o9(a b:Bool):Ty Sb:=(z19 (zx .u8) (z19 (zx .u8) (z19 (zx .u8) (z19 (tSl a (zx .u8)) (tSl b (zx .u16)))))).as fun x=>(x.fC,x.fA,x.fB,x.fH,x.fE)
theorem zdm{a b:Bool}:Part (o9 a b) 0 (zx .u8) (fun x:Sb=>x.fC):=⟨Nat.le_of_ble_eq_true rfl,fun R cs x h=>(z3v (A:=(zx .u8)) (B:=(z19 (zx .u8) (z19 (zx .u8) (z19 (tSl a (zx .u8)) (tSl b (zx .u16))))))).2 R cs (x.fC,x.fA,x.fB,x.fH,x.fE) h⟩
theorem zd6{a b:Bool}:Part (o9 a b) 1 (zx .u8) (fun x:Sb=>x.fA):=⟨Nat.le_of_ble_eq_true rfl,fun R cs x h=>(mh (A:=(zx .u8)) (z3v (A:=(zx .u8)) (B:=(z19 (zx .u8) (z19 (tSl a (zx .u8)) (tSl b (zx .u16))))))).2 R cs (x.fC,x.fA,x.fB,x.fH,x.fE) h⟩
theorem zcz{a b:Bool}:Part (o9 a b) 2 (zx .u8) (fun x:Sb=>x.fB):=⟨Nat.le_of_ble_eq_true rfl,fun R cs x h=>(mh (A:=(zx .u8)) (mh (A:=(zx .u8)) (z3v (A:=(zx .u8)) (B:=(z19 (tSl a (zx .u8)) (tSl b (zx .u16))))))).2 R cs (x.fC,x.fA,x.fB,x.fH,x.fE) h⟩
theorem z8i{a b:Bool}:Part (o9 a b) 3 (tSl a (zx .u8)) (fun x:Sb=>x.fH):=⟨Nat.le_of_ble_eq_true rfl,fun R cs x h=>(mh (A:=(zx .u8)) (mh (A:=(zx .u8)) (mh (A:=(zx .u8)) (z3v (A:=(tSl a (zx .u8))) (B:=(tSl b (zx .u16))))))).2 R cs (x.fC,x.fA,x.fB,x.fH,x.fE) h⟩
theorem z8f{b a:Bool}:Part (o9 b a) 4 (tSl a (zx .u16)) (fun x:Sb=>x.fE):=⟨Nat.le_of_ble_eq_true rfl,fun R cs x h=>(mh (A:=(zx .u8)) (mh (A:=(zx .u8)) (mh (A:=(zx .u8)) (mh (A:=(tSl b (zx .u8))) (z7u (A:=(tSl a (zx .u16)))))))).2 R cs (x.fC,x.fA,x.fB,x.fH,x.fE) h⟩
structure Sk where
 fP:Sb
 deriving DecidableEq,Inhabited
def fq(a b:Bool):Ty Sk:=(q55 (o9 a b)).as fun x=>x.fP
theorem zb9{a b:Bool}{R:RH}{v:Value}{x:Sk}(h:VRep (fq a b) R v x): ∃ c d,v= .agg #[(.int .u8 x.fP.fC),(.int .u8 x.fP.fA),(.int .u8 x.fP.fB),c,d]∧VRep (tSl a (zx .u8)) R c x.fP.fH∧VRep (tSl b (zx .u16)) R d x.fP.fE:=by
 obtain⟨_,h,rfl⟩:=h
 obtain⟨_,_,rfl,rfl,⟨_,_,rfl,rfl,⟨_,_,rfl,rfl,⟨_,_,rfl,q0_3,q0_4⟩⟩⟩⟩:=h
 obtain⟨w0_3,rfl,k0_3⟩:=ze2 rfl q0_3
 obtain⟨w0_4,rfl,k0_4⟩:=ze2 rfl q0_4
 exact⟨_,_,rfl,k0_3,k0_4⟩
structure Sj where
 fAh:Sk
 fU:(List Int)
 deriving DecidableEq,Inhabited
def fo(a b c:Bool):Ty Sj:=(z19 (fq a b) (tSl c (zx .u8))).as fun x=>(x.fAh,x.fU)
theorem zdn{a b c:Bool}:Part (fo a b c) 0 (fq a b) (fun x:Sj=>x.fAh):=⟨Nat.le_of_ble_eq_true rfl,fun R cs x h=>(z3v (A:=(fq a b)) (B:=(tSl c (zx .u8)))).2 R cs (x.fAh,x.fU) h⟩
theorem zcu{b c a:Bool}:Part (fo b c a) 5 (tSl a (zx .u8)) (fun x:Sj=>x.fU):=⟨Nat.le_of_ble_eq_true rfl,fun R cs x h=>(mh (A:=(fq b c)) (z7u (A:=(tSl a (zx .u8))))).2 R cs (x.fAh,x.fU) h⟩
end GV
end Go.Proofs.Ytplgbkaollfmkaa
