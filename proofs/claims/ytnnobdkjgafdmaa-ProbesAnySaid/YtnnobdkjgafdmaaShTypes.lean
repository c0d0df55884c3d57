import Derived.Test.YtnnobdkjgafdmaaShRow
set_option linter.unusedVariables false
set_option linter.unusedSimpArgs false
set_option linter.unusedSectionVars false
namespace Go.Proofs.Ytnnobdkjgafdmaa
namespace GV
structure Sg where
 fK:Int
 fM:Int
 fJ:Int
 fO:(List Int)
 fH:(List Int)
 deriving DecidableEq,Inhabited
structure Sj where
 fQ:Sg
 deriving DecidableEq,Inhabited
def kEdge:Ty Edge:=(z3l (qo .i64) (qo .i64)).as fun x=>(x.to,x.out)
theorem zac:Part kEdge 0 (qo .i64) (fun x:Edge=>x.to):=⟨by decide,fun R cs x h=>(z8t (A:=(qo .i64)) (B:=(qo .i64))).2 R cs (x.to,x.out) h⟩
theorem zhf:Part kEdge 1 (qo .i64) (fun x:Edge=>x.out):=⟨by decide,fun R cs x h=>(z7m (A:=(qo .i64)) (zf2 (A:=(qo .i64)))).2 R cs (x.to,x.out) h⟩
def z0c(x:Edge):Value:= .agg #[(.int .i64 x.to),(.int .i64 x.out)]
theorem zv1{R:RH}{x:Edge}:kEdge.rep R [(.int .i64 x.to),(.int .i64 x.out)] x:=⟨_,_,rfl,rfl,rfl⟩
theorem oz{R:RH}{v:Value}{x:Edge}:VRep kEdge R v x↔v=z0c x:=⟨fun⟨_,h,e⟩=>by
 obtain⟨_,_,rfl,rfl,rfl⟩:=h
 exact e,fun h=>⟨_,zv1,h⟩⟩
def ji(a b:Bool):Ty Mach:=(z3l (qo .i64) (z3l (qo .i64) (tSl a (tSl b kEdge)))).as fun x=>(x.inputs,x.outputs,x.rows)
theorem z1a{a b:Bool}:Part (ji a b) 0 (qo .i64) (fun x:Mach=>x.inputs):=⟨Nat.le_of_ble_eq_true rfl,fun R cs x h=>(z8t (A:=(qo .i64)) (B:=(z3l (qo .i64) (tSl a (tSl b kEdge))))).2 R cs (x.inputs,x.outputs,x.rows) h⟩
theorem z6e{a b:Bool}:Part (ji a b) 1 (qo .i64) (fun x:Mach=>x.outputs):=⟨Nat.le_of_ble_eq_true rfl,fun R cs x h=>(z7m (A:=(qo .i64)) (z8t (A:=(qo .i64)) (B:=(tSl a (tSl b kEdge))))).2 R cs (x.inputs,x.outputs,x.rows) h⟩
theorem jr{a b:Bool}:Part (ji a b) 2 (tSl a (tSl b kEdge)) (fun x:Mach=>x.rows):=⟨Nat.le_of_ble_eq_true rfl,fun R cs x h=>(z7m (A:=(qo .i64)) (z7m (A:=(qo .i64)) (zf2 (A:=(tSl a (tSl b kEdge)))))).2 R cs (x.inputs,x.outputs,x.rows) h⟩
theorem zpn{a b:Bool}{R:RH}{v:Value}{x:Mach}(h:VRep (ji a b) R v x): ∃ u0,v= .agg #[(.int .i64 x.inputs),(.int .i64 x.outputs),u0]∧VRep (tSl a (tSl b kEdge)) R u0 x.rows:=by
 obtain⟨_,h,rfl⟩:=h
 obtain⟨_,_,rfl,rfl,⟨_,_,rfl,rfl,c⟩⟩:=h
 obtain⟨e,rfl,d⟩:=zgf rfl c
 exact⟨_,rfl,d⟩
def kA2tInti64:Ty (Int×Int):=(z3l (qo .i64) (qo .i64)).as fun x=>(x.1,x.2)
def zj8(x:(Int×Int)):Value:= .agg #[(.int .i64 x.1),(.int .i64 x.2)]
theorem ziw{R:RH}{x:(Int×Int)}:kA2tInti64.rep R [(.int .i64 x.1),(.int .i64 x.2)] x:=⟨_,_,rfl,rfl,rfl⟩
def l6(x:(Int×Int)):List Value:=[(.int .i64 x.1),(.int .i64 x.2)]
theorem co_A2tInti64:CellsOf kA2tInti64 l6:=⟨fun _=>rfl,fun R cs x=>⟨fun h=>by
 obtain⟨_,_,rfl,rfl,rfl⟩:=h
 rfl,fun h=>by subst h;exact ziw⟩⟩
theorem zkm(x:(Int×Int)): ∀ v∈l6 x,z5p v:=by
 intro v a
 simp only [l6,List.mem_cons,List.not_mem_nil,or_false] at a
 rcases a with rfl|rfl
 ·exact .inl ⟨_,_,rfl⟩
 ·exact .inl ⟨_,_,rfl⟩
theorem zlc(x y:(Int×Int))(h:l6 x=l6 y):x=y:=by
 simp only [l6,List.cons.injEq,Value.int.injEq,Value.bool.injEq,true_and,and_true] at h
 rcases x with⟨⟩;rcases y with⟨⟩
 simp_all [Prod.ext_iff]
def zbv:Ty (Arr 16 (Int×Int)):=zpm 16 kA2tInti64
def uq(x:(Arr 16 (Int×Int))):List Value:=z1g l6 x
theorem co_A16A2tInti64:CellsOf zbv uq:=zbd co_A2tInti64
def z3h(x:(Arr 16 (Int×Int))):Value:= .agg (uq x).toArray
theorem za0(x:(Arr 16 (Int×Int))): ∀ v∈uq x,z5p v:=zea zkm x
theorem zfw(x y:(Arr 16 (Int×Int)))(h:uq x=uq y):x=y:=zjv co_A2tInti64.len zlc h
structure Sd where
 fI:Int
 fG:(Arr 16 (Int×Int))
 deriving DecidableEq,Inhabited
def zja:Ty Sd:=(z3l (qo .i64) zbv).as fun x=>(x.fI,x.fG)
def gm(x:Sd):List Value:=[(.int .i64 x.fI)]++(uq x.fG)
theorem co_Srefines_key:CellsOf zja gm:=zw2 (zoi cells_int co_A16A2tInti64)
def ik(x:Sd):Value:= .agg (gm x).toArray
theorem za1(x:Sd): ∀ v∈gm x,z5p v:=by
 intro v a
 unfold gm at a
 rcases List.mem_append.1 a with a|a
 ·exact pl_int _ v a
 exact za0 _ v a
theorem zfu(x y:Sd)(h:gm x=gm y):x=y:=by
 obtain⟨c,h⟩:=List.append_inj h ((cells_int.len _).trans (cells_int.len _).symm)
 have a:=zvt _ _ c
 have b:=zfw _ _ h
 cases x;cases y;simp only at a b;rw [a,b]
def kA6tIntu16:Ty (Arr 6 Int):=zpm 6 (qo .u16)
def qp(x:(Arr 6 Int)):List Value:=z1g (fun x:Int=>[Value.int .u16 x]) x
theorem co_A6tIntu16:CellsOf kA6tIntu16 qp:=zbd cells_int
def j3(x:(Arr 6 Int)):Value:= .agg (qp x).toArray
theorem z4r{R:RH}{v:Value}{x:(Arr 6 Int)}:VRep kA6tIntu16 R v x↔v=j3 x:=zxs co_A6tIntu16 rfl
theorem z10(x:(Arr 6 Int)): ∀ v∈qp x,z5p v:=zea pl_int x
theorem zkq(x y:(Arr 6 Int))(h:qp x=qp y):x=y:=zjv cells_int.len zvt h
theorem z8i(x:(Arr 6 Int)):qp x=[(.int .u16 (ix x.1 0)),(.int .u16 (ix x.1 1)),(.int .u16 (ix x.1 2)),(.int .u16 (ix x.1 3)),(.int .u16 (ix x.1 4)),(.int .u16 (ix x.1 5))]:=by
 obtain⟨l,h⟩:=x
 match l,h with
 | [a,b,c,d,e,f],_=>rfl
theorem z6t(x:(Arr 6 Int)):j3 x= .agg #[(.int .u16 (ix x.1 0)),(.int .u16 (ix x.1 1)),(.int .u16 (ix x.1 2)),(.int .u16 (ix x.1 3)),(.int .u16 (ix x.1 4)),(.int .u16 (ix x.1 5))]:=by unfold j3;rw [z8i]
theorem z9t{R:RH}(x:(Arr 6 Int)):kA6tIntu16.rep R [(.int .u16 (ix x.1 0)),(.int .u16 (ix x.1 1)),(.int .u16 (ix x.1 2)),(.int .u16 (ix x.1 3)),(.int .u16 (ix x.1 4)),(.int .u16 (ix x.1 5))] x:=(co_A6tIntu16.iff R _ x).2 (z8i x).symm
structure Sb where
 fE:(Arr 6 Int)
 fP:(List Int)
 deriving DecidableEq,Inhabited
def uo(a:Bool):Ty Sb:=(z3l kA6tIntu16 (tSl a (qo .i64))).as fun x=>(x.fE,x.fP)
theorem zd5{a:Bool}:Part (uo a) 0 kA6tIntu16 (fun x:Sb=>x.fE):=⟨Nat.le_of_ble_eq_true rfl,fun R cs x h=>(z8t (A:=kA6tIntu16) (B:=(tSl a (qo .i64)))).2 R cs (x.fE,x.fP) h⟩
theorem z6l{b:Bool}{R:RH}{v:Value}{x:Sb}(h:VRep (uo b) R v x): ∃ u0,v= .agg #[(.int .u16 (ix x.fE.1 0)),(.int .u16 (ix x.fE.1 1)),(.int .u16 (ix x.fE.1 2)),(.int .u16 (ix x.fE.1 3)),(.int .u16 (ix x.fE.1 4)),(.int .u16 (ix x.fE.1 5)),u0]∧VRep (tSl b (qo .i64)) R u0 x.fP:=by
 obtain⟨_,h,rfl⟩:=h
 obtain⟨_,_,rfl,a,c⟩:=h
 obtain rfl:=((co_A6tIntu16.iff R _ _).1 a).trans (z8i _)
 obtain⟨e,rfl,d⟩:=zgf rfl c
 exact⟨_,rfl,d⟩
def strT1:List Int:=[0,1,1,2,1,2,2,3,1,2,2,3,2,3,3,4,1,2,2,3,2,3,3,4,2,3,3,4,3,4,4,5,1,2,2,3,2,3,3,4,2,3,3,4,3,4,4,5,2,3,3,4,3,4,4,5,3,4,4,5,4,5,5,6,1,2,2,3,2,3,3,4,2,3,3,4,3,4,4,5,2,3,3,4,3,4,4,5,3,4,4,5,4,5,5,6,2,3,3,4,3,4,4,5,3,4,4,5,4,5,5,6,3,4,4,5,4,5,5,6,4,5,5,6,5,6,6,7,1,2,2,3,2,3,3,4,2,3,3,4,3,4,4,5,2,3,3,4,3,4,4,5,3,4,4,5,4,5,5,6,2,3,3,4,3,4,4,5,3,4,4,5,4,5,5,6,3,4,4,5,4,5,5,6,4,5,5,6,5,6,6,7,2,3,3,4,3,4,4,5,3,4,4,5,4,5,5,6,3,4,4,5,4,5,5,6,4,5,5,6,5,6,6,7,3,4,4,5,4,5,5,6,4,5,5,6,5,6,6,7,4,5,5,6,5,6,6,7,5,6,6,7,6,7,7,8]
structure Sa where
 fB:Int
 fD:Int
 fC:(List Int)
 deriving DecidableEq,Inhabited
def qa(a:Bool):Ty Sa:=(z3l (qo .i64) (z3l (qo .i64) (tSl a (qo .i64)))).as fun x=>(x.fB,x.fD,x.fC)
theorem l5{a:Bool}:Part (qa a) 0 (qo .i64) (fun x:Sa=>x.fB):=⟨Nat.le_of_ble_eq_true rfl,fun R cs x h=>(z8t (A:=(qo .i64)) (B:=(z3l (qo .i64) (tSl a (qo .i64))))).2 R cs (x.fB,x.fD,x.fC) h⟩
theorem z0k{a:Bool}:Part (qa a) 1 (qo .i64) (fun x:Sa=>x.fD):=⟨Nat.le_of_ble_eq_true rfl,fun R cs x h=>(z7m (A:=(qo .i64)) (z8t (A:=(qo .i64)) (B:=(tSl a (qo .i64))))).2 R cs (x.fB,x.fD,x.fC) h⟩
theorem z0l{a:Bool}:Part (qa a) 2 (tSl a (qo .i64)) (fun x:Sa=>x.fC):=⟨Nat.le_of_ble_eq_true rfl,fun R cs x h=>(z7m (A:=(qo .i64)) (z7m (A:=(qo .i64)) (zf2 (A:=(tSl a (qo .i64)))))).2 R cs (x.fB,x.fD,x.fC) h⟩
theorem mf{a:Bool}{R:RH}{v:Value}{x:Sa}(h:VRep (qa a) R v x): ∃ u0,v= .agg #[(.int .i64 x.fB),(.int .i64 x.fD),u0]∧VRep (tSl a (qo .i64)) R u0 x.fC:=by
 obtain⟨_,h,rfl⟩:=h
 obtain⟨_,_,rfl,rfl,⟨_,_,rfl,rfl,b⟩⟩:=h
 obtain⟨d,rfl,c⟩:=zgf rfl b
 exact⟨_,rfl,c⟩
structure Sc where
 fA:(List Sa)
 deriving DecidableEq,Inhabited
def u7(a b:Bool):Ty Sc:=(zzm (tSl a (qa b))).as fun x=>x.fA
theorem jm{a b:Bool}:Part (u7 a b) 0 (tSl a (qa b)) (fun x:Sc=>x.fA):=⟨Nat.le_refl _,fun R cs x h=>(zvd (A:=(tSl a (qa b)))).2 R cs x.fA h⟩
theorem z6z{a b:Bool}{R:RH}{v:Value}{x:Sc}(h:VRep (u7 a b) R v x): ∃ u0,v= .agg #[u0]∧VRep (tSl a (qa b)) R u0 x.fA:=by
 obtain⟨_,h,rfl⟩:=h
 have c:(tSl a (qa b)).rep R _ x.fA:=h
 obtain⟨w0,rfl,d⟩:=zgf rfl c
 exact⟨_,rfl,d⟩
def z3a:Ty (Arr 64 Int):=zpm 64 (qo .i64)
def xg(x:(Arr 64 Int)):List Value:=z1g (fun x:Int=>[Value.int .i64 x]) x
theorem co_A64tInti64:CellsOf z3a xg:=zbd cells_int
def zay(x:(Arr 64 Int)):Value:= .agg (xg x).toArray
theorem zjb(x:(Arr 64 Int)): ∀ v∈xg x,z5p v:=zea pl_int x
def znx:Ty (Arr 16 Int):=zpm 16 (qo .u16)
def xx(x:(Arr 16 Int)):List Value:=z1g (fun x:Int=>[Value.int .u16 x]) x
theorem co_A16tIntu16:CellsOf znx xx:=zbd cells_int
def z0p(x:(Arr 16 Int)):Value:= .agg (xx x).toArray
theorem z8e(x:(Arr 16 Int)): ∀ v∈xx x,z5p v:=zea pl_int x
def rSprobes_Node:RowTy Sa (Int×Int×Value) Int:=⟨z3l (qo .i64) (z3l (qo .i64) tHdr),(qo .i64),fun x v=>(x.fB,x.fD,v),fun x=>x.fC⟩
theorem zg0:RowOk rSprobes_Node (qa false):=⟨rfl,fun R R' cs x v a h k=>by
 obtain⟨_,_,rfl,b,⟨_,_,rfl,c,⟨rfl,_⟩⟩⟩:=h
 exact⟨_,_,rfl,(qo .i64).mono a b,⟨_,_,rfl,(qo .i64).mono a c,(uu rfl (zca k))⟩⟩⟩
end GV
end Go.Proofs.Ytnnobdkjgafdmaa
