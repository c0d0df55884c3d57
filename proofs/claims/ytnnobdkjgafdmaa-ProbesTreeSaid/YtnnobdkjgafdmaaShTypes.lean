import Derived.Test.YtnnobdkjgafdmaaShRow
set_option linter.unusedVariables false
set_option linter.unusedSimpArgs false
set_option linter.unusedSectionVars false
namespace Go.Proofs.Ytnnobdkjgafdmaa
namespace GV
structure Sg where
 fG:Int
 fD:Int
 fF:Int
 fH:(List Int)
 fJ:(List Int)
 deriving DecidableEq,Inhabited
def aj(a b:Bool):Ty Sg:=(z2p (qb .u8) (z2p (qb .u8) (z2p (qb .u8) (z2p (tSl a (qb .u8)) (tSl b (qb .u16)))))).as fun x=>(x.fG,x.fD,x.fF,x.fH,x.fJ)
theorem zef{a b:Bool}:Part (aj a b) 0 (qb .u8) (fun x:Sg=>x.fG):=⟨Nat.le_of_ble_eq_true rfl,fun R cs x h=>(z6v (A:=(qb .u8)) (B:=(z2p (qb .u8) (z2p (qb .u8) (z2p (tSl a (qb .u8)) (tSl b (qb .u16))))))).2 R cs (x.fG,x.fD,x.fF,x.fH,x.fJ) h⟩
theorem zfa{a b:Bool}:Part (aj a b) 1 (qb .u8) (fun x:Sg=>x.fD):=⟨Nat.le_of_ble_eq_true rfl,fun R cs x h=>(z1r (A:=(qb .u8)) (z6v (A:=(qb .u8)) (B:=(z2p (qb .u8) (z2p (tSl a (qb .u8)) (tSl b (qb .u16))))))).2 R cs (x.fG,x.fD,x.fF,x.fH,x.fJ) h⟩
theorem zf9{a b:Bool}:Part (aj a b) 2 (qb .u8) (fun x:Sg=>x.fF):=⟨Nat.le_of_ble_eq_true rfl,fun R cs x h=>(z1r (A:=(qb .u8)) (z1r (A:=(qb .u8)) (z6v (A:=(qb .u8)) (B:=(z2p (tSl a (qb .u8)) (tSl b (qb .u16))))))).2 R cs (x.fG,x.fD,x.fF,x.fH,x.fJ) h⟩
theorem z9s{a b:Bool}:Part (aj a b) 3 (tSl a (qb .u8)) (fun x:Sg=>x.fH):=⟨Nat.le_of_ble_eq_true rfl,fun R cs x h=>(z1r (A:=(qb .u8)) (z1r (A:=(qb .u8)) (z1r (A:=(qb .u8)) (z6v (A:=(tSl a (qb .u8))) (B:=(tSl b (qb .u16))))))).2 R cs (x.fG,x.fD,x.fF,x.fH,x.fJ) h⟩
theorem z9p{b a:Bool}:Part (aj b a) 4 (tSl a (qb .u16)) (fun x:Sg=>x.fJ):=⟨Nat.le_of_ble_eq_true rfl,fun R cs x h=>(z1r (A:=(qb .u8)) (z1r (A:=(qb .u8)) (z1r (A:=(qb .u8)) (z1r (A:=(tSl b (qb .u8))) (zfj (A:=(tSl a (qb .u16)))))))).2 R cs (x.fG,x.fD,x.fF,x.fH,x.fJ) h⟩
structure Sj where
 fM:Sg
 deriving DecidableEq,Inhabited
def z1x(a b:Bool):Ty Sj:=(q1m (aj a b)).as fun x=>x.fM
theorem zde{a b:Bool}{R:RH}{v:Value}{x:Sj}(h:VRep (z1x a b) R v x): ∃ u0 c,v= .agg #[(.int .u8 x.fM.fG),(.int .u8 x.fM.fD),(.int .u8 x.fM.fF),u0,c]∧VRep (tSl a (qb .u8)) R u0 x.fM.fH∧VRep (tSl b (qb .u16)) R c x.fM.fJ:=by
 obtain⟨_,h,rfl⟩:=h
 obtain⟨_,_,rfl,rfl,⟨_,_,rfl,rfl,⟨_,_,rfl,rfl,⟨_,_,rfl,q0_3,q0_4⟩⟩⟩⟩:=h
 obtain⟨w0_3,rfl,k0_3⟩:=zfn (T:=(tSl a (qb .u8))) (x:=x.fM.fH) rfl q0_3
 obtain⟨w0_4,rfl,k0_4⟩:=zfn (T:=(tSl b (qb .u16))) (x:=x.fM.fJ) rfl q0_4
 exact⟨_,_,rfl,k0_3,k0_4⟩
def kEdge:Ty Edge:=(z2p (qb .i64) (qb .i64)).as fun x=>(x.to,x.out)
theorem zbb:Part kEdge 0 (qb .i64) (fun x:Edge=>x.to):=⟨by decide,fun R cs x h=>(z6v (A:=(qb .i64)) (B:=(qb .i64))).2 R cs (x.to,x.out) h⟩
theorem zhb:Part kEdge 1 (qb .i64) (fun x:Edge=>x.out):=⟨by decide,fun R cs x h=>(z1r (A:=(qb .i64)) (zfj (A:=(qb .i64)))).2 R cs (x.to,x.out) h⟩
def z0l(x:Edge):Value:= .agg #[(.int .i64 x.to),(.int .i64 x.out)]
theorem q2w{R:RH}{x:Edge}:kEdge.rep R [(.int .i64 x.to),(.int .i64 x.out)] x:=⟨_,_,rfl,rfl,rfl⟩
theorem fq{R:RH}{v:Value}{x:Edge}:VRep kEdge R v x↔v=z0l x:=⟨fun⟨_,h,e⟩=>by
 obtain⟨_,_,rfl,rfl,rfl⟩:=h
 exact e,fun h=>⟨_,q2w,h⟩⟩
def jy(a b:Bool):Ty Mach:=(z2p (qb .i64) (z2p (qb .i64) (tSl a (tSl b kEdge)))).as fun x=>(x.inputs,x.outputs,x.rows)
theorem z5g{a b:Bool}:Part (jy a b) 0 (qb .i64) (fun x:Mach=>x.inputs):=⟨Nat.le_of_ble_eq_true rfl,fun R cs x h=>(z6v (A:=(qb .i64)) (B:=(z2p (qb .i64) (tSl a (tSl b kEdge))))).2 R cs (x.inputs,x.outputs,x.rows) h⟩
theorem z8e{a b:Bool}:Part (jy a b) 1 (qb .i64) (fun x:Mach=>x.outputs):=⟨Nat.le_of_ble_eq_true rfl,fun R cs x h=>(z1r (A:=(qb .i64)) (z6v (A:=(qb .i64)) (B:=(tSl a (tSl b kEdge))))).2 R cs (x.inputs,x.outputs,x.rows) h⟩
theorem uy{a b:Bool}:Part (jy a b) 2 (tSl a (tSl b kEdge)) (fun x:Mach=>x.rows):=⟨Nat.le_of_ble_eq_true rfl,fun R cs x h=>(z1r (A:=(qb .i64)) (z1r (A:=(qb .i64)) (zfj (A:=(tSl a (tSl b kEdge)))))).2 R cs (x.inputs,x.outputs,x.rows) h⟩
theorem zgw{a b:Bool}{R:RH}{v:Value}{x:Mach}(h:VRep (jy a b) R v x): ∃ u0,v= .agg #[(.int .i64 x.inputs),(.int .i64 x.outputs),u0]∧VRep (tSl a (tSl b kEdge)) R u0 x.rows:=by
 obtain⟨_,h,rfl⟩:=h
 obtain⟨_,_,rfl,rfl,⟨_,_,rfl,rfl,c⟩⟩:=h
 obtain⟨e,rfl,d⟩:=zfn rfl c
 exact⟨_,rfl,d⟩
def kA2tInti64:Ty (Int×Int):=(z2p (qb .i64) (qb .i64)).as fun x=>(x.1,x.2)
def zod(x:(Int×Int)):Value:= .agg #[(.int .i64 x.1),(.int .i64 x.2)]
theorem zny{R:RH}{x:(Int×Int)}:kA2tInti64.rep R [(.int .i64 x.1),(.int .i64 x.2)] x:=⟨_,_,rfl,rfl,rfl⟩
def z1n(x:(Int×Int)):List Value:=[(.int .i64 x.1),(.int .i64 x.2)]
theorem co_A2tInti64:CellsOf kA2tInti64 z1n:=⟨fun _=>rfl,fun R cs x=>⟨fun h=>by
 obtain⟨_,_,rfl,rfl,rfl⟩:=h
 rfl,fun h=>by subst h;exact zny⟩⟩
theorem zqp(x:(Int×Int)): ∀ v∈z1n x,z94 v:=by
 intro v a
 simp only [z1n,List.mem_cons,List.not_mem_nil,or_false] at a
 rcases a with rfl|rfl
 ·exact .inl ⟨_,_,rfl⟩
 ·exact .inl ⟨_,_,rfl⟩
theorem zpx(x y:(Int×Int))(h:z1n x=z1n y):x=y:=by
 simp only [z1n,List.cons.injEq,Value.int.injEq,Value.bool.injEq,true_and,and_true] at h
 rcases x with⟨⟩;rcases y with⟨⟩
 simp_all [Prod.ext_iff]
def zga:Ty (Arr 16 (Int×Int)):=zv3 16 kA2tInti64
def ym(x:(Arr 16 (Int×Int))):List Value:=z4n z1n x
theorem co_A16A2tInti64:CellsOf zga ym:=zff co_A2tInti64
def z6k(x:(Arr 16 (Int×Int))):Value:= .agg (ym x).toArray
theorem zdu(x:(Arr 16 (Int×Int))): ∀ v∈ym x,z94 v:=zho zqp x
theorem zkr(x y:(Arr 16 (Int×Int)))(h:ym x=ym y):x=y:=zoi co_A2tInti64.len zpx h
structure Sd where
 fT:Int
 fQ:(Arr 16 (Int×Int))
 deriving DecidableEq,Inhabited
def zoa:Ty Sd:=(z2p (qb .i64) zga).as fun x=>(x.fT,x.fQ)
def mf(x:Sd):List Value:=[(.int .i64 x.fT)]++(ym x.fQ)
theorem co_Srefines_key:CellsOf zoa mf:=q3w (zuj cells_int co_A16A2tInti64)
def z0n(x:Sd):Value:= .agg (mf x).toArray
theorem zdz(x:Sd): ∀ v∈mf x,z94 v:=by
 intro v a
 unfold mf at a
 rcases List.mem_append.1 a with a|a
 ·exact pl_int _ v a
 exact zdu _ v a
theorem zkn(x y:Sd)(h:mf x=mf y):x=y:=by
 obtain⟨c,h⟩:=List.append_inj h ((cells_int.len _).trans (cells_int.len _).symm)
 have a:=q3t _ _ c
 have b:=zkr _ _ h
 cases x;cases y;simp only at a b;rw [a,b]
def kA6tIntu16:Ty (Arr 6 Int):=zv3 6 (qb .u16)
def jd(x:(Arr 6 Int)):List Value:=z4n (fun x:Int=>[Value.int .u16 x]) x
theorem co_A6tIntu16:CellsOf kA6tIntu16 jd:=zff cells_int
def ji(x:(Arr 6 Int)):Value:= .agg (jd x).toArray
theorem z8f{R:RH}{v:Value}{x:(Arr 6 Int)}:VRep kA6tIntu16 R v x↔v=ji x:=q5s co_A6tIntu16 rfl
theorem z4i(x:(Arr 6 Int)): ∀ v∈jd x,z94 v:=zho pl_int x
theorem zr9(x y:(Arr 6 Int))(h:jd x=jd y):x=y:=zoi cells_int.len q3t h
theorem zc2(x:(Arr 6 Int)):jd x=[(.int .u16 (ix x.1 0)),(.int .u16 (ix x.1 1)),(.int .u16 (ix x.1 2)),(.int .u16 (ix x.1 3)),(.int .u16 (ix x.1 4)),(.int .u16 (ix x.1 5))]:=by
 obtain⟨l,h⟩:=x
 match l,h with
 | [a,b,c,d,e,f],_=>rfl
theorem zab(x:(Arr 6 Int)):ji x= .agg #[(.int .u16 (ix x.1 0)),(.int .u16 (ix x.1 1)),(.int .u16 (ix x.1 2)),(.int .u16 (ix x.1 3)),(.int .u16 (ix x.1 4)),(.int .u16 (ix x.1 5))]:=by unfold ji;rw [zc2]
theorem zdh{R:RH}(x:(Arr 6 Int)):kA6tIntu16.rep R [(.int .u16 (ix x.1 0)),(.int .u16 (ix x.1 1)),(.int .u16 (ix x.1 2)),(.int .u16 (ix x.1 3)),(.int .u16 (ix x.1 4)),(.int .u16 (ix x.1 5))] x:=(co_A6tIntu16.iff R _ x).2 (zc2 x).symm
structure Sc where
 fI:(Arr 6 Int)
 fU:(List Int)
 deriving DecidableEq,Inhabited
def yh(a:Bool):Ty Sc:=(z2p kA6tIntu16 (tSl a (qb .i64))).as fun x=>(x.fI,x.fU)
theorem zhv{a:Bool}:Part (yh a) 0 kA6tIntu16 (fun x:Sc=>x.fI):=⟨Nat.le_of_ble_eq_true rfl,fun R cs x h=>(z6v (A:=kA6tIntu16) (B:=(tSl a (qb .i64)))).2 R cs (x.fI,x.fU) h⟩
theorem za5{b:Bool}{R:RH}{v:Value}{x:Sc}(h:VRep (yh b) R v x): ∃ u0,v= .agg #[(.int .u16 (ix x.fI.1 0)),(.int .u16 (ix x.fI.1 1)),(.int .u16 (ix x.fI.1 2)),(.int .u16 (ix x.fI.1 3)),(.int .u16 (ix x.fI.1 4)),(.int .u16 (ix x.fI.1 5)),u0]∧VRep (tSl b (qb .i64)) R u0 x.fU:=by
 obtain⟨_,h,rfl⟩:=h
 obtain⟨_,_,rfl,a,c⟩:=h
 obtain rfl:=((co_A6tIntu16.iff R _ _).1 a).trans (zc2 _)
 obtain⟨e,rfl,d⟩:=zfn rfl c
 exact⟨_,rfl,d⟩
def strT1:List Int:=[0,1,1,2,1,2,2,3,1,2,2,3,2,3,3,4,1,2,2,3,2,3,3,4,2,3,3,4,3,4,4,5,1,2,2,3,2,3,3,4,2,3,3,4,3,4,4,5,2,3,3,4,3,4,4,5,3,4,4,5,4,5,5,6,1,2,2,3,2,3,3,4,2,3,3,4,3,4,4,5,2,3,3,4,3,4,4,5,3,4,4,5,4,5,5,6,2,3,3,4,3,4,4,5,3,4,4,5,4,5,5,6,3,4,4,5,4,5,5,6,4,5,5,6,5,6,6,7,1,2,2,3,2,3,3,4,2,3,3,4,3,4,4,5,2,3,3,4,3,4,4,5,3,4,4,5,4,5,5,6,2,3,3,4,3,4,4,5,3,4,4,5,4,5,5,6,3,4,4,5,4,5,5,6,4,5,5,6,5,6,6,7,2,3,3,4,3,4,4,5,3,4,4,5,4,5,5,6,3,4,4,5,4,5,5,6,4,5,5,6,5,6,6,7,3,4,4,5,4,5,5,6,4,5,5,6,5,6,6,7,4,5,5,6,5,6,6,7,5,6,6,7,6,7,7,8]
structure Sa where
 fB:Int
 fE:Int
 fC:(List Int)
 deriving DecidableEq,Inhabited
def zz(a:Bool):Ty Sa:=(z2p (qb .i64) (z2p (qb .i64) (tSl a (qb .i64)))).as fun x=>(x.fB,x.fE,x.fC)
theorem ll{a:Bool}:Part (zz a) 0 (qb .i64) (fun x:Sa=>x.fB):=⟨Nat.le_of_ble_eq_true rfl,fun R cs x h=>(z6v (A:=(qb .i64)) (B:=(z2p (qb .i64) (tSl a (qb .i64))))).2 R cs (x.fB,x.fE,x.fC) h⟩
theorem z2u{a:Bool}:Part (zz a) 1 (qb .i64) (fun x:Sa=>x.fE):=⟨Nat.le_of_ble_eq_true rfl,fun R cs x h=>(z1r (A:=(qb .i64)) (z6v (A:=(qb .i64)) (B:=(tSl a (qb .i64))))).2 R cs (x.fB,x.fE,x.fC) h⟩
theorem z1j{a:Bool}:Part (zz a) 2 (tSl a (qb .i64)) (fun x:Sa=>x.fC):=⟨Nat.le_of_ble_eq_true rfl,fun R cs x h=>(z1r (A:=(qb .i64)) (z1r (A:=(qb .i64)) (zfj (A:=(tSl a (qb .i64)))))).2 R cs (x.fB,x.fE,x.fC) h⟩
theorem lc{a:Bool}{R:RH}{v:Value}{x:Sa}(h:VRep (zz a) R v x): ∃ u0,v= .agg #[(.int .i64 x.fB),(.int .i64 x.fE),u0]∧VRep (tSl a (qb .i64)) R u0 x.fC:=by
 obtain⟨_,h,rfl⟩:=h
 obtain⟨_,_,rfl,rfl,⟨_,_,rfl,rfl,b⟩⟩:=h
 obtain⟨d,rfl,c⟩:=zfn rfl b
 exact⟨_,rfl,c⟩
structure Sb where
 fA:(List Sa)
 deriving DecidableEq,Inhabited
def ko(a b:Bool):Ty Sb:=(q1m (tSl a (zz b))).as fun x=>x.fA
theorem ku{a b:Bool}:Part (ko a b) 0 (tSl a (zz b)) (fun x:Sb=>x.fA):=⟨Nat.le_refl _,fun R cs x h=>(q4o (A:=(tSl a (zz b)))).2 R cs x.fA h⟩
theorem z7e{a b:Bool}{R:RH}{v:Value}{x:Sb}(h:VRep (ko a b) R v x): ∃ u0,v= .agg #[u0]∧VRep (tSl a (zz b)) R u0 x.fA:=by
 obtain⟨_,h,rfl⟩:=h
 have c:(tSl a (zz b)).rep R _ x.fA:=h
 obtain⟨w0,rfl,d⟩:=zfn rfl c
 exact⟨_,rfl,d⟩
def z5y:Ty (Arr 64 Int):=zv3 64 (qb .i64)
def bv(x:(Arr 64 Int)):List Value:=z4n (fun x:Int=>[Value.int .i64 x]) x
theorem co_A64tInti64:CellsOf z5y bv:=zff cells_int
def zf3(x:(Arr 64 Int)):Value:= .agg (bv x).toArray
theorem zo9(x:(Arr 64 Int)): ∀ v∈bv x,z94 v:=zho pl_int x
def zu8:Ty (Arr 16 Int):=zv3 16 (qb .u16)
def nu(x:(Arr 16 Int)):List Value:=z4n (fun x:Int=>[Value.int .u16 x]) x
theorem co_A16tIntu16:CellsOf zu8 nu:=zff cells_int
def z3j(x:(Arr 16 Int)):Value:= .agg (nu x).toArray
theorem zc3(x:(Arr 16 Int)): ∀ v∈nu x,z94 v:=zho pl_int x
def rSprobes_Node:RowTy Sa (Int×Int×Value) Int:=⟨z2p (qb .i64) (z2p (qb .i64) tHdr),(qb .i64),fun x v=>(x.fB,x.fE,v),fun x=>x.fC⟩
theorem zkl:RowOk rSprobes_Node (zz false):=⟨rfl,fun R R' cs x v a h k=>by
 obtain⟨_,_,rfl,b,⟨_,_,rfl,c,⟨rfl,_⟩⟩⟩:=h
 exact⟨_,_,rfl,(qb .i64).mono a b,⟨_,_,rfl,(qb .i64).mono a c,(u6 rfl (z5v k))⟩⟩⟩
end GV
end Go.Proofs.Ytnnobdkjgafdmaa
