import Derived.Test.YtnnobdkjgafdmaaShRow
set_option linter.unusedVariables false
set_option linter.unusedSimpArgs false
set_option linter.unusedSectionVars false
namespace Go.Proofs.Ytnnobdkjgafdmaa
namespace GV
structure Sg where
 fG:Int
 fC:Int
 fF:Int
 fH:(List Int)
 fJ:(List Int)
 deriving DecidableEq,Inhabited
def pu(a b:Bool):Ty Sg:=(z0x (qb .u8) (z0x (qb .u8) (z0x (qb .u8) (z0x (tSl a (qb .u8)) (tSl b (qb .u16)))))).as fun x=>(x.fG,x.fC,x.fF,x.fH,x.fJ)
theorem zcv{a b:Bool}:Part (pu a b) 0 (qb .u8) (fun x:Sg=>x.fG):=⟨Nat.le_of_ble_eq_true rfl,fun R cs x h=>(z4w (A:=(qb .u8)) (B:=(z0x (qb .u8) (z0x (qb .u8) (z0x (tSl a (qb .u8)) (tSl b (qb .u16))))))).2 R cs (x.fG,x.fC,x.fF,x.fH,x.fJ) h⟩
theorem zc7{a b:Bool}:Part (pu a b) 1 (qb .u8) (fun x:Sg=>x.fC):=⟨Nat.le_of_ble_eq_true rfl,fun R cs x h=>(z07 (A:=(qb .u8)) (z4w (A:=(qb .u8)) (B:=(z0x (qb .u8) (z0x (tSl a (qb .u8)) (tSl b (qb .u16))))))).2 R cs (x.fG,x.fC,x.fF,x.fH,x.fJ) h⟩
theorem zd2{a b:Bool}:Part (pu a b) 2 (qb .u8) (fun x:Sg=>x.fF):=⟨Nat.le_of_ble_eq_true rfl,fun R cs x h=>(z07 (A:=(qb .u8)) (z07 (A:=(qb .u8)) (z4w (A:=(qb .u8)) (B:=(z0x (tSl a (qb .u8)) (tSl b (qb .u16))))))).2 R cs (x.fG,x.fC,x.fF,x.fH,x.fJ) h⟩
theorem z7s{a b:Bool}:Part (pu a b) 3 (tSl a (qb .u8)) (fun x:Sg=>x.fH):=⟨Nat.le_of_ble_eq_true rfl,fun R cs x h=>(z07 (A:=(qb .u8)) (z07 (A:=(qb .u8)) (z07 (A:=(qb .u8)) (z4w (A:=(tSl a (qb .u8))) (B:=(tSl b (qb .u16))))))).2 R cs (x.fG,x.fC,x.fF,x.fH,x.fJ) h⟩
theorem z7w{b a:Bool}:Part (pu b a) 4 (tSl a (qb .u16)) (fun x:Sg=>x.fJ):=⟨Nat.le_of_ble_eq_true rfl,fun R cs x h=>(z07 (A:=(qb .u8)) (z07 (A:=(qb .u8)) (z07 (A:=(qb .u8)) (z07 (A:=(tSl b (qb .u8))) (zdd (A:=(tSl a (qb .u16)))))))).2 R cs (x.fG,x.fC,x.fF,x.fH,x.fJ) h⟩
structure Sj where
 fK:Sg
 deriving DecidableEq,Inhabited
def z0j(a b:Bool):Ty Sj:=(zzg (pu a b)).as fun x=>x.fK
theorem zb5{a b:Bool}{R:RH}{v:Value}{x:Sj}(h:VRep (z0j a b) R v x): ∃ u0 c,v= .agg #[(.int .u8 x.fK.fG),(.int .u8 x.fK.fC),(.int .u8 x.fK.fF),u0,c]∧VRep (tSl a (qb .u8)) R u0 x.fK.fH∧VRep (tSl b (qb .u16)) R c x.fK.fJ:=by
 obtain⟨_,h,rfl⟩:=h
 obtain⟨_,_,rfl,rfl,⟨_,_,rfl,rfl,⟨_,_,rfl,rfl,⟨_,_,rfl,q0_3,q0_4⟩⟩⟩⟩:=h
 obtain⟨w0_3,rfl,k0_3⟩:=zde (T:=(tSl a (qb .u8))) (x:=x.fK.fH) rfl q0_3
 obtain⟨w0_4,rfl,k0_4⟩:=zde (T:=(tSl b (qb .u16))) (x:=x.fK.fJ) rfl q0_4
 exact⟨_,_,rfl,k0_3,k0_4⟩
def kEdge:Ty Edge:=(z0x (qb .i64) (qb .i64)).as fun x=>(x.to,x.out)
theorem zae:Part kEdge 0 (qb .i64) (fun x:Edge=>x.to):=⟨by decide,fun R cs x h=>(z4w (A:=(qb .i64)) (B:=(qb .i64))).2 R cs (x.to,x.out) h⟩
theorem zkg:Part kEdge 1 (qb .i64) (fun x:Edge=>x.out):=⟨by decide,fun R cs x h=>(z07 (A:=(qb .i64)) (zdd (A:=(qb .i64)))).2 R cs (x.to,x.out) h⟩
def lh(x:Edge):Value:= .agg #[(.int .i64 x.to),(.int .i64 x.out)]
theorem q00{R:RH}{x:Edge}:kEdge.rep R [(.int .i64 x.to),(.int .i64 x.out)] x:=⟨_,_,rfl,rfl,rfl⟩
theorem si{R:RH}{v:Value}{x:Edge}:VRep kEdge R v x↔v=lh x:=⟨fun⟨_,h,e⟩=>by
 obtain⟨_,_,rfl,rfl,rfl⟩:=h
 exact e,fun h=>⟨_,q00,h⟩⟩
def jm(a b:Bool):Ty Mach:=(z0x (qb .i64) (z0x (qb .i64) (tSl a (tSl b kEdge)))).as fun x=>(x.inputs,x.outputs,x.rows)
theorem z3l{a b:Bool}:Part (jm a b) 0 (qb .i64) (fun x:Mach=>x.inputs):=⟨Nat.le_of_ble_eq_true rfl,fun R cs x h=>(z4w (A:=(qb .i64)) (B:=(z0x (qb .i64) (tSl a (tSl b kEdge))))).2 R cs (x.inputs,x.outputs,x.rows) h⟩
theorem zcd{a b:Bool}:Part (jm a b) 1 (qb .i64) (fun x:Mach=>x.outputs):=⟨Nat.le_of_ble_eq_true rfl,fun R cs x h=>(z07 (A:=(qb .i64)) (z4w (A:=(qb .i64)) (B:=(tSl a (tSl b kEdge))))).2 R cs (x.inputs,x.outputs,x.rows) h⟩
theorem ui{a b:Bool}:Part (jm a b) 2 (tSl a (tSl b kEdge)) (fun x:Mach=>x.rows):=⟨Nat.le_of_ble_eq_true rfl,fun R cs x h=>(z07 (A:=(qb .i64)) (z07 (A:=(qb .i64)) (zdd (A:=(tSl a (tSl b kEdge)))))).2 R cs (x.inputs,x.outputs,x.rows) h⟩
theorem zek{a b:Bool}{R:RH}{v:Value}{x:Mach}(h:VRep (jm a b) R v x): ∃ u0,v= .agg #[(.int .i64 x.inputs),(.int .i64 x.outputs),u0]∧VRep (tSl a (tSl b kEdge)) R u0 x.rows:=by
 obtain⟨_,h,rfl⟩:=h
 obtain⟨_,_,rfl,rfl,⟨_,_,rfl,rfl,c⟩⟩:=h
 obtain⟨e,rfl,d⟩:=zde rfl c
 exact⟨_,rfl,d⟩
def kA2tInti64:Ty (Int×Int):=(z0x (qb .i64) (qb .i64)).as fun x=>(x.1,x.2)
def zld(x:(Int×Int)):Value:= .agg #[(.int .i64 x.1),(.int .i64 x.2)]
theorem zl4{R:RH}{x:(Int×Int)}:kA2tInti64.rep R [(.int .i64 x.1),(.int .i64 x.2)] x:=⟨_,_,rfl,rfl,rfl⟩
def z03(x:(Int×Int)):List Value:=[(.int .i64 x.1),(.int .i64 x.2)]
theorem co_A2tInti64:CellsOf kA2tInti64 z03:=⟨fun _=>rfl,fun R cs x=>⟨fun h=>by
 obtain⟨_,_,rfl,rfl,rfl⟩:=h
 rfl,fun h=>by subst h;exact zl4⟩⟩
theorem zoa(x:(Int×Int)): ∀ v∈z03 x,z6u v:=by
 intro v a
 simp only [z03,List.mem_cons,List.not_mem_nil,or_false] at a
 rcases a with rfl|rfl
 ·exact .inl ⟨_,_,rfl⟩
 ·exact .inl ⟨_,_,rfl⟩
theorem znz(x y:(Int×Int))(h:z03 x=z03 y):x=y:=by
 simp only [z03,List.cons.injEq,Value.int.injEq,Value.bool.injEq,true_and,and_true] at h
 rcases x with⟨⟩;rcases y with⟨⟩
 simp_all [Prod.ext_iff]
def zds:Ty (Arr 16 (Int×Int)):=zrj 16 kA2tInti64
def uq(x:(Arr 16 (Int×Int))):List Value:=z2l z03 x
theorem co_A16A2tInti64:CellsOf zds uq:=zdc co_A2tInti64
def z4s(x:(Arr 16 (Int×Int))):Value:= .agg (uq x).toArray
theorem zbq(x:(Arr 16 (Int×Int))): ∀ v∈uq x,z6u v:=zeu zoa x
theorem zhs(x y:(Arr 16 (Int×Int)))(h:uq x=uq y):x=y:=zm2 co_A2tInti64.len znz h
structure Sc where
 fP:Int
 fO:(Arr 16 (Int×Int))
 deriving DecidableEq,Inhabited
def zl9:Ty Sc:=(z0x (qb .i64) zds).as fun x=>(x.fP,x.fO)
def bf(x:Sc):List Value:=[(.int .i64 x.fP)]++(uq x.fO)
theorem co_Srefines_key:CellsOf zl9 bf:=zzx (zru cells_int co_A16A2tInti64)
def il(x:Sc):Value:= .agg (bf x).toArray
theorem zbr(x:Sc): ∀ v∈bf x,z6u v:=by
 intro v a
 unfold bf at a
 rcases List.mem_append.1 a with a|a
 ·exact pl_int _ v a
 exact zbq _ v a
theorem zhu(x y:Sc)(h:bf x=bf y):x=y:=by
 obtain⟨c,h⟩:=List.append_inj h ((cells_int.len _).trans (cells_int.len _).symm)
 have a:=q08 _ _ c
 have b:=zhs _ _ h
 cases x;cases y;simp only at a b;rw [a,b]
def kA6tIntu16:Ty (Arr 6 Int):=zrj 6 (qb .u16)
def qz(x:(Arr 6 Int)):List Value:=z2l (fun x:Int=>[Value.int .u16 x]) x
theorem co_A6tIntu16:CellsOf kA6tIntu16 qz:=zdc cells_int
def j4(x:(Arr 6 Int)):Value:= .agg (qz x).toArray
theorem z5w{R:RH}{v:Value}{x:(Arr 6 Int)}:VRep kA6tIntu16 R v x↔v=j4 x:=q1x co_A6tIntu16 rfl
theorem z1q(x:(Arr 6 Int)): ∀ v∈qz x,z6u v:=zeu pl_int x
theorem zo7(x y:(Arr 6 Int))(h:qz x=qz y):x=y:=zm2 cells_int.len q08 h
theorem z9w(x:(Arr 6 Int)):qz x=[(.int .u16 (ix x.1 0)),(.int .u16 (ix x.1 1)),(.int .u16 (ix x.1 2)),(.int .u16 (ix x.1 3)),(.int .u16 (ix x.1 4)),(.int .u16 (ix x.1 5))]:=by
 obtain⟨l,h⟩:=x
 match l,h with
 | [a,b,c,d,e,f],_=>rfl
theorem z8i(x:(Arr 6 Int)):j4 x= .agg #[(.int .u16 (ix x.1 0)),(.int .u16 (ix x.1 1)),(.int .u16 (ix x.1 2)),(.int .u16 (ix x.1 3)),(.int .u16 (ix x.1 4)),(.int .u16 (ix x.1 5))]:=by unfold j4;rw [z9w]
theorem zb8{R:RH}(x:(Arr 6 Int)):kA6tIntu16.rep R [(.int .u16 (ix x.1 0)),(.int .u16 (ix x.1 1)),(.int .u16 (ix x.1 2)),(.int .u16 (ix x.1 3)),(.int .u16 (ix x.1 4)),(.int .u16 (ix x.1 5))] x:=(co_A6tIntu16.iff R _ x).2 (z9w x).symm
structure Sb where
 fI:(Arr 6 Int)
 fQ:(List Int)
 deriving DecidableEq,Inhabited
def uk(a:Bool):Ty Sb:=(z0x kA6tIntu16 (tSl a (qb .i64))).as fun x=>(x.fI,x.fQ)
theorem zez{a:Bool}:Part (uk a) 0 kA6tIntu16 (fun x:Sb=>x.fI):=⟨Nat.le_of_ble_eq_true rfl,fun R cs x h=>(z4w (A:=kA6tIntu16) (B:=(tSl a (qb .i64)))).2 R cs (x.fI,x.fQ) h⟩
theorem z8e{b:Bool}{R:RH}{v:Value}{x:Sb}(h:VRep (uk b) R v x): ∃ u0,v= .agg #[(.int .u16 (ix x.fI.1 0)),(.int .u16 (ix x.fI.1 1)),(.int .u16 (ix x.fI.1 2)),(.int .u16 (ix x.fI.1 3)),(.int .u16 (ix x.fI.1 4)),(.int .u16 (ix x.fI.1 5)),u0]∧VRep (tSl b (qb .i64)) R u0 x.fQ:=by
 obtain⟨_,h,rfl⟩:=h
 obtain⟨_,_,rfl,a,c⟩:=h
 obtain rfl:=((co_A6tIntu16.iff R _ _).1 a).trans (z9w _)
 obtain⟨e,rfl,d⟩:=zde rfl c
 exact⟨_,rfl,d⟩
def strT1:List Int:=[0,1,1,2,1,2,2,3,1,2,2,3,2,3,3,4,1,2,2,3,2,3,3,4,2,3,3,4,3,4,4,5,1,2,2,3,2,3,3,4,2,3,3,4,3,4,4,5,2,3,3,4,3,4,4,5,3,4,4,5,4,5,5,6,1,2,2,3,2,3,3,4,2,3,3,4,3,4,4,5,2,3,3,4,3,4,4,5,3,4,4,5,4,5,5,6,2,3,3,4,3,4,4,5,3,4,4,5,4,5,5,6,3,4,4,5,4,5,5,6,4,5,5,6,5,6,6,7,1,2,2,3,2,3,3,4,2,3,3,4,3,4,4,5,2,3,3,4,3,4,4,5,3,4,4,5,4,5,5,6,2,3,3,4,3,4,4,5,3,4,4,5,4,5,5,6,3,4,4,5,4,5,5,6,4,5,5,6,5,6,6,7,2,3,3,4,3,4,4,5,3,4,4,5,4,5,5,6,3,4,4,5,4,5,5,6,4,5,5,6,5,6,6,7,3,4,4,5,4,5,5,6,4,5,5,6,5,6,6,7,4,5,5,6,5,6,6,7,5,6,6,7,6,7,7,8]
structure Sa where
 fB:Int
 fE:Int
 fD:(List Int)
 deriving DecidableEq,Inhabited
def qf(a:Bool):Ty Sa:=(z0x (qb .i64) (z0x (qb .i64) (tSl a (qb .i64)))).as fun x=>(x.fB,x.fE,x.fD)
theorem za8{a:Bool}:Part (qf a) 0 (qb .i64) (fun x:Sa=>x.fB):=⟨Nat.le_of_ble_eq_true rfl,fun R cs x h=>(z4w (A:=(qb .i64)) (B:=(z0x (qb .i64) (tSl a (qb .i64))))).2 R cs (x.fB,x.fE,x.fD) h⟩
theorem zah{a:Bool}:Part (qf a) 1 (qb .i64) (fun x:Sa=>x.fE):=⟨Nat.le_of_ble_eq_true rfl,fun R cs x h=>(z07 (A:=(qb .i64)) (z4w (A:=(qb .i64)) (B:=(tSl a (qb .i64))))).2 R cs (x.fB,x.fE,x.fD) h⟩
theorem z7b{a:Bool}:Part (qf a) 2 (tSl a (qb .i64)) (fun x:Sa=>x.fD):=⟨Nat.le_of_ble_eq_true rfl,fun R cs x h=>(z07 (A:=(qb .i64)) (z07 (A:=(qb .i64)) (zdd (A:=(tSl a (qb .i64)))))).2 R cs (x.fB,x.fE,x.fD) h⟩
theorem av{a:Bool}{R:RH}{v:Value}{x:Sa}(h:VRep (qf a) R v x): ∃ u0,v= .agg #[(.int .i64 x.fB),(.int .i64 x.fE),u0]∧VRep (tSl a (qb .i64)) R u0 x.fD:=by
 obtain⟨_,h,rfl⟩:=h
 obtain⟨_,_,rfl,rfl,⟨_,_,rfl,rfl,b⟩⟩:=h
 obtain⟨d,rfl,c⟩:=zde rfl b
 exact⟨_,rfl,c⟩
structure Sd where
 fA:(List Sa)
 deriving DecidableEq,Inhabited
def ut(a b:Bool):Ty Sd:=(zzg (tSl a (qf b))).as fun x=>x.fA
theorem ug{a b:Bool}:Part (ut a b) 0 (tSl a (qf b)) (fun x:Sd=>x.fA):=⟨Nat.le_refl _,fun R cs x h=>(zzo (A:=(tSl a (qf b)))).2 R cs x.fA h⟩
theorem ze3{a b:Bool}{R:RH}{v:Value}{x:Sd}(h:VRep (ut a b) R v x): ∃ u0,v= .agg #[u0]∧VRep (tSl a (qf b)) R u0 x.fA:=by
 obtain⟨_,h,rfl⟩:=h
 have c:(tSl a (qf b)).rep R _ x.fA:=h
 obtain⟨w0,rfl,d⟩:=zde rfl c
 exact⟨_,rfl,d⟩
def z4h:Ty (Arr 64 Int):=zrj 64 (qb .i64)
def yx(x:(Arr 64 Int)):List Value:=z2l (fun x:Int=>[Value.int .i64 x]) x
theorem co_A64tInti64:CellsOf z4h yx:=zdc cells_int
def zcc(x:(Arr 64 Int)):Value:= .agg (yx x).toArray
theorem zl5(x:(Arr 64 Int)): ∀ v∈yx x,z6u v:=zeu pl_int x
def zoe:Ty (Arr 16 Int):=zrj 16 (qb .u16)
def gm(x:(Arr 16 Int)):List Value:=z2l (fun x:Int=>[Value.int .u16 x]) x
theorem co_A16tIntu16:CellsOf zoe gm:=zdc cells_int
def z1a(x:(Arr 16 Int)):Value:= .agg (gm x).toArray
theorem z9y(x:(Arr 16 Int)): ∀ v∈gm x,z6u v:=zeu pl_int x
def rSprobes_Node:RowTy Sa (Int×Int×Value) Int:=⟨z0x (qb .i64) (z0x (qb .i64) tHdr),(qb .i64),fun x v=>(x.fB,x.fE,v),fun x=>x.fD⟩
theorem zhv:RowOk rSprobes_Node (qf false):=⟨rfl,fun R R' cs x v a h k=>by
 obtain⟨_,_,rfl,b,⟨_,_,rfl,c,⟨rfl,_⟩⟩⟩:=h
 exact⟨_,_,rfl,(qb .i64).mono a b,⟨_,_,rfl,(qb .i64).mono a c,(kz rfl (z5t k))⟩⟩⟩
end GV
end Go.Proofs.Ytnnobdkjgafdmaa
