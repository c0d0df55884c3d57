import Derived.Test.YtnnobdkjgafdmaaShRow
set_option linter.unusedVariables false
set_option linter.unusedSimpArgs false
set_option linter.unusedSectionVars false
namespace Go.Proofs.Ytnnobdkjgafdmaa
namespace GV
structure Sg where
 fG:Int
 fE:Int
 fF:Int
 fH:(List Int)
 fJ:(List Int)
 deriving DecidableEq,Inhabited
def pg(a b:Bool):Ty Sg:=(z0c (qf .u8) (z0c (qf .u8) (z0c (qf .u8) (z0c (tSl a (qf .u8)) (tSl b (qf .u16)))))).as fun x=>(x.fG,x.fE,x.fF,x.fH,x.fJ)
theorem zc1{a b:Bool}:Part (pg a b) 0 (qf .u8) (fun x:Sg=>x.fG):=⟨Nat.le_of_ble_eq_true rfl,fun R cs x h=>(z4j (A:=(qf .u8)) (B:=(z0c (qf .u8) (z0c (qf .u8) (z0c (tSl a (qf .u8)) (tSl b (qf .u16))))))).2 R cs (x.fG,x.fE,x.fF,x.fH,x.fJ) h⟩
theorem zcb{a b:Bool}:Part (pg a b) 1 (qf .u8) (fun x:Sg=>x.fE):=⟨Nat.le_of_ble_eq_true rfl,fun R cs x h=>(lv (A:=(qf .u8)) (z4j (A:=(qf .u8)) (B:=(z0c (qf .u8) (z0c (tSl a (qf .u8)) (tSl b (qf .u16))))))).2 R cs (x.fG,x.fE,x.fF,x.fH,x.fJ) h⟩
theorem zcm{a b:Bool}:Part (pg a b) 2 (qf .u8) (fun x:Sg=>x.fF):=⟨Nat.le_of_ble_eq_true rfl,fun R cs x h=>(lv (A:=(qf .u8)) (lv (A:=(qf .u8)) (z4j (A:=(qf .u8)) (B:=(z0c (tSl a (qf .u8)) (tSl b (qf .u16))))))).2 R cs (x.fG,x.fE,x.fF,x.fH,x.fJ) h⟩
theorem z7j{a b:Bool}:Part (pg a b) 3 (tSl a (qf .u8)) (fun x:Sg=>x.fH):=⟨Nat.le_of_ble_eq_true rfl,fun R cs x h=>(lv (A:=(qf .u8)) (lv (A:=(qf .u8)) (lv (A:=(qf .u8)) (z4j (A:=(tSl a (qf .u8))) (B:=(tSl b (qf .u16))))))).2 R cs (x.fG,x.fE,x.fF,x.fH,x.fJ) h⟩
theorem z7i{b a:Bool}:Part (pg b a) 4 (tSl a (qf .u16)) (fun x:Sg=>x.fJ):=⟨Nat.le_of_ble_eq_true rfl,fun R cs x h=>(lv (A:=(qf .u8)) (lv (A:=(qf .u8)) (lv (A:=(qf .u8)) (lv (A:=(tSl b (qf .u8))) (zct (A:=(tSl a (qf .u16)))))))).2 R cs (x.fG,x.fE,x.fF,x.fH,x.fJ) h⟩
structure Sj where
 fK:Sg
 deriving DecidableEq,Inhabited
def z02(a b:Bool):Ty Sj:=(zwo (pg a b)).as fun x=>x.fK
theorem zan{a b:Bool}{R:RH}{v:Value}{x:Sj}(h:VRep (z02 a b) R v x): ∃ u0 c,v= .agg #[(.int .u8 x.fK.fG),(.int .u8 x.fK.fE),(.int .u8 x.fK.fF),u0,c]∧VRep (tSl a (qf .u8)) R u0 x.fK.fH∧VRep (tSl b (qf .u16)) R c x.fK.fJ:=by
 obtain⟨_,h,rfl⟩:=h
 obtain⟨_,_,rfl,rfl,⟨_,_,rfl,rfl,⟨_,_,rfl,rfl,⟨_,_,rfl,q0_3,q0_4⟩⟩⟩⟩:=h
 obtain⟨w0_3,rfl,k0_3⟩:=zcz (T:=(tSl a (qf .u8))) (x:=x.fK.fH) rfl q0_3
 obtain⟨w0_4,rfl,k0_4⟩:=zcz (T:=(tSl b (qf .u16))) (x:=x.fK.fJ) rfl q0_4
 exact⟨_,_,rfl,k0_3,k0_4⟩
def kEdge:Ty Edge:=(z0c (qf .i64) (qf .i64)).as fun x=>(x.to,x.out)
theorem za7:Part kEdge 0 (qf .i64) (fun x:Edge=>x.to):=⟨by decide,fun R cs x h=>(z4j (A:=(qf .i64)) (B:=(qf .i64))).2 R cs (x.to,x.out) h⟩
theorem zi9:Part kEdge 1 (qf .i64) (fun x:Edge=>x.out):=⟨by decide,fun R cs x h=>(lv (A:=(qf .i64)) (zct (A:=(qf .i64)))).2 R cs (x.to,x.out) h⟩
def ik(x:Edge):Value:= .agg #[(.int .i64 x.to),(.int .i64 x.out)]
theorem zvo{R:RH}{x:Edge}:kEdge.rep R [(.int .i64 x.to),(.int .i64 x.out)] x:=⟨_,_,rfl,rfl,rfl⟩
theorem tq{R:RH}{v:Value}{x:Edge}:VRep kEdge R v x↔v=ik x:=⟨fun⟨_,h,e⟩=>by
 obtain⟨_,_,rfl,rfl,rfl⟩:=h
 exact e,fun h=>⟨_,zvo,h⟩⟩
def jv(a b:Bool):Ty Mach:=(z0c (qf .i64) (z0c (qf .i64) (tSl a (tSl b kEdge)))).as fun x=>(x.inputs,x.outputs,x.rows)
theorem z2v{a b:Bool}:Part (jv a b) 0 (qf .i64) (fun x:Mach=>x.inputs):=⟨Nat.le_of_ble_eq_true rfl,fun R cs x h=>(z4j (A:=(qf .i64)) (B:=(z0c (qf .i64) (tSl a (tSl b kEdge))))).2 R cs (x.inputs,x.outputs,x.rows) h⟩
theorem z7c{a b:Bool}:Part (jv a b) 1 (qf .i64) (fun x:Mach=>x.outputs):=⟨Nat.le_of_ble_eq_true rfl,fun R cs x h=>(lv (A:=(qf .i64)) (z4j (A:=(qf .i64)) (B:=(tSl a (tSl b kEdge))))).2 R cs (x.inputs,x.outputs,x.rows) h⟩
theorem ug{a b:Bool}:Part (jv a b) 2 (tSl a (tSl b kEdge)) (fun x:Mach=>x.rows):=⟨Nat.le_of_ble_eq_true rfl,fun R cs x h=>(lv (A:=(qf .i64)) (lv (A:=(qf .i64)) (zct (A:=(tSl a (tSl b kEdge)))))).2 R cs (x.inputs,x.outputs,x.rows) h⟩
theorem zea{a b:Bool}{R:RH}{v:Value}{x:Mach}(h:VRep (jv a b) R v x): ∃ u0,v= .agg #[(.int .i64 x.inputs),(.int .i64 x.outputs),u0]∧VRep (tSl a (tSl b kEdge)) R u0 x.rows:=by
 obtain⟨_,h,rfl⟩:=h
 obtain⟨_,_,rfl,rfl,⟨_,_,rfl,rfl,c⟩⟩:=h
 obtain⟨e,rfl,d⟩:=zcz rfl c
 exact⟨_,rfl,d⟩
def kA2tInti64:Ty (Int×Int):=(z0c (qf .i64) (qf .i64)).as fun x=>(x.1,x.2)
def zkj(x:(Int×Int)):Value:= .agg #[(.int .i64 x.1),(.int .i64 x.2)]
theorem zk6{R:RH}{x:(Int×Int)}:kA2tInti64.rep R [(.int .i64 x.1),(.int .i64 x.2)] x:=⟨_,_,rfl,rfl,rfl⟩
def lc(x:(Int×Int)):List Value:=[(.int .i64 x.1),(.int .i64 x.2)]
theorem co_A2tInti64:CellsOf kA2tInti64 lc:=⟨fun _=>rfl,fun R cs x=>⟨fun h=>by
 obtain⟨_,_,rfl,rfl,rfl⟩:=h
 rfl,fun h=>by subst h;exact zk6⟩⟩
theorem zmu(x:(Int×Int)): ∀ v∈lc x,z6d v:=by
 intro v a
 simp only [lc,List.mem_cons,List.not_mem_nil,or_false] at a
 rcases a with rfl|rfl
 ·exact .inl ⟨_,_,rfl⟩
 ·exact .inl ⟨_,_,rfl⟩
theorem zlo(x y:(Int×Int))(h:lc x=lc y):x=y:=by
 simp only [lc,List.cons.injEq,Value.int.injEq,Value.bool.injEq,true_and,and_true] at h
 rcases x with⟨⟩;rcases y with⟨⟩
 simp_all [Prod.ext_iff]
def zdl:Ty (Arr 16 (Int×Int)):=zq6 16 kA2tInti64
def uz(x:(Arr 16 (Int×Int))):List Value:=z1p lc x
theorem co_A16A2tInti64:CellsOf zdl uz:=zcx co_A2tInti64
def z4d(x:(Arr 16 (Int×Int))):Value:= .agg (uz x).toArray
theorem zbh(x:(Arr 16 (Int×Int))): ∀ v∈uz x,z6d v:=zfq zmu x
theorem zhd(x y:(Arr 16 (Int×Int)))(h:uz x=uz y):x=y:=zl0 co_A2tInti64.len zlo h
structure Sc where
 fP:Int
 fO:(Arr 16 (Int×Int))
 deriving DecidableEq,Inhabited
def zk5:Ty Sc:=(z0c (qf .i64) zdl).as fun x=>(x.fP,x.fO)
def gp(x:Sc):List Value:=[(.int .i64 x.fP)]++(uz x.fO)
theorem co_Srefines_key:CellsOf zk5 gp:=zxe (zr4 cells_int co_A16A2tInti64)
def ib(x:Sc):Value:= .agg (gp x).toArray
theorem zbi(x:Sc): ∀ v∈gp x,z6d v:=by
 intro v a
 unfold gp at a
 rcases List.mem_append.1 a with a|a
 ·exact pl_int _ v a
 exact zbh _ v a
theorem zha(x y:Sc)(h:gp x=gp y):x=y:=by
 obtain⟨c,h⟩:=List.append_inj h ((cells_int.len _).trans (cells_int.len _).symm)
 have a:=zx7 _ _ c
 have b:=zhd _ _ h
 cases x;cases y;simp only at a b;rw [a,b]
def kA6tIntu16:Ty (Arr 6 Int):=zq6 6 (qf .u16)
def j3(x:(Arr 6 Int)):List Value:=z1p (fun x:Int=>[Value.int .u16 x]) x
theorem co_A6tIntu16:CellsOf kA6tIntu16 j3:=zcx cells_int
def jc(x:(Arr 6 Int)):Value:= .agg (j3 x).toArray
theorem z5x{R:RH}{v:Value}{x:(Arr 6 Int)}:VRep kA6tIntu16 R v x↔v=jc x:=zxm co_A6tIntu16 rfl
theorem z0z(x:(Arr 6 Int)): ∀ v∈j3 x,z6d v:=zfq pl_int x
theorem zmk(x y:(Arr 6 Int))(h:j3 x=j3 y):x=y:=zl0 cells_int.len zx7 h
theorem z9g(x:(Arr 6 Int)):j3 x=[(.int .u16 (ix x.1 0)),(.int .u16 (ix x.1 1)),(.int .u16 (ix x.1 2)),(.int .u16 (ix x.1 3)),(.int .u16 (ix x.1 4)),(.int .u16 (ix x.1 5))]:=by
 obtain⟨l,h⟩:=x
 match l,h with
 | [a,b,c,d,e,f],_=>rfl
theorem z7y(x:(Arr 6 Int)):jc x= .agg #[(.int .u16 (ix x.1 0)),(.int .u16 (ix x.1 1)),(.int .u16 (ix x.1 2)),(.int .u16 (ix x.1 3)),(.int .u16 (ix x.1 4)),(.int .u16 (ix x.1 5))]:=by unfold jc;rw [z9g]
theorem zaw{R:RH}(x:(Arr 6 Int)):kA6tIntu16.rep R [(.int .u16 (ix x.1 0)),(.int .u16 (ix x.1 1)),(.int .u16 (ix x.1 2)),(.int .u16 (ix x.1 3)),(.int .u16 (ix x.1 4)),(.int .u16 (ix x.1 5))] x:=(co_A6tIntu16.iff R _ x).2 (z9g x).symm
structure Sd where
 fI:(Arr 6 Int)
 fQ:(List Int)
 deriving DecidableEq,Inhabited
def uy(a:Bool):Ty Sd:=(z0c kA6tIntu16 (tSl a (qf .i64))).as fun x=>(x.fI,x.fQ)
theorem zfn{a:Bool}:Part (uy a) 0 kA6tIntu16 (fun x:Sd=>x.fI):=⟨Nat.le_of_ble_eq_true rfl,fun R cs x h=>(z4j (A:=kA6tIntu16) (B:=(tSl a (qf .i64)))).2 R cs (x.fI,x.fQ) h⟩
theorem z7s{b:Bool}{R:RH}{v:Value}{x:Sd}(h:VRep (uy b) R v x): ∃ u0,v= .agg #[(.int .u16 (ix x.fI.1 0)),(.int .u16 (ix x.fI.1 1)),(.int .u16 (ix x.fI.1 2)),(.int .u16 (ix x.fI.1 3)),(.int .u16 (ix x.fI.1 4)),(.int .u16 (ix x.fI.1 5)),u0]∧VRep (tSl b (qf .i64)) R u0 x.fQ:=by
 obtain⟨_,h,rfl⟩:=h
 obtain⟨_,_,rfl,a,c⟩:=h
 obtain rfl:=((co_A6tIntu16.iff R _ _).1 a).trans (z9g _)
 obtain⟨e,rfl,d⟩:=zcz rfl c
 exact⟨_,rfl,d⟩
def z5z:List Int:=[0,1,1,2,1,2,2,3,1,2,2,3,2,3,3,4,1,2,2,3,2,3,3,4,2,3,3,4,3,4,4,5,1,2,2,3,2,3,3,4,2,3,3,4,3,4,4,5,2,3,3,4,3,4,4,5,3,4,4,5,4,5,5,6,1,2,2,3,2,3,3,4,2,3,3,4,3,4,4,5,2,3,3,4,3,4,4,5,3,4,4,5,4,5,5,6,2,3,3,4,3,4,4,5,3,4,4,5,4,5,5,6,3,4,4,5,4,5,5,6,4,5,5,6,5,6,6,7,1,2,2,3,2,3,3,4,2,3,3,4,3,4,4,5,2,3,3,4,3,4,4,5,3,4,4,5,4,5,5,6,2,3,3,4,3,4,4,5,3,4,4,5,4,5,5,6,3,4,4,5,4,5,5,6,4,5,5,6,5,6,6,7,2,3,3,4,3,4,4,5,3,4,4,5,4,5,5,6,3,4,4,5,4,5,5,6,4,5,5,6,5,6,6,7,3,4,4,5,4,5,5,6,4,5,5,6,5,6,6,7,4,5,5,6,5,6,6,7,5,6,6,7,6,7,7,8]
structure Sa where
 fB:Int
 fD:Int
 fC:(List Int)
 deriving DecidableEq,Inhabited
def q8(a:Bool):Ty Sa:=(z0c (qf .i64) (z0c (qf .i64) (tSl a (qf .i64)))).as fun x=>(x.fB,x.fD,x.fC)
theorem mq{a:Bool}:Part (q8 a) 0 (qf .i64) (fun x:Sa=>x.fB):=⟨Nat.le_of_ble_eq_true rfl,fun R cs x h=>(z4j (A:=(qf .i64)) (B:=(z0c (qf .i64) (tSl a (qf .i64))))).2 R cs (x.fB,x.fD,x.fC) h⟩
theorem l5{a:Bool}:Part (q8 a) 1 (qf .i64) (fun x:Sa=>x.fD):=⟨Nat.le_of_ble_eq_true rfl,fun R cs x h=>(lv (A:=(qf .i64)) (z4j (A:=(qf .i64)) (B:=(tSl a (qf .i64))))).2 R cs (x.fB,x.fD,x.fC) h⟩
theorem mo{a:Bool}:Part (q8 a) 2 (tSl a (qf .i64)) (fun x:Sa=>x.fC):=⟨Nat.le_of_ble_eq_true rfl,fun R cs x h=>(lv (A:=(qf .i64)) (lv (A:=(qf .i64)) (zct (A:=(tSl a (qf .i64)))))).2 R cs (x.fB,x.fD,x.fC) h⟩
theorem dh{a:Bool}{R:RH}{v:Value}{x:Sa}(h:VRep (q8 a) R v x): ∃ u0,v= .agg #[(.int .i64 x.fB),(.int .i64 x.fD),u0]∧VRep (tSl a (qf .i64)) R u0 x.fC:=by
 obtain⟨_,h,rfl⟩:=h
 obtain⟨_,_,rfl,rfl,⟨_,_,rfl,rfl,b⟩⟩:=h
 obtain⟨d,rfl,c⟩:=zcz rfl b
 exact⟨_,rfl,c⟩
structure Sb where
 fA:(List Sa)
 deriving DecidableEq,Inhabited
def ku(a b:Bool):Ty Sb:=(zwo (tSl a (q8 b))).as fun x=>x.fA
theorem ja{a b:Bool}:Part (ku a b) 0 (tSl a (q8 b)) (fun x:Sb=>x.fA):=⟨Nat.le_refl _,fun R cs x h=>(zv6 (A:=(tSl a (q8 b)))).2 R cs x.fA h⟩
theorem zdw{a b:Bool}{R:RH}{v:Value}{x:Sb}(h:VRep (ku a b) R v x): ∃ u0,v= .agg #[u0]∧VRep (tSl a (q8 b)) R u0 x.fA:=by
 obtain⟨_,h,rfl⟩:=h
 have c:(tSl a (q8 b)).rep R _ x.fA:=h
 obtain⟨w0,rfl,d⟩:=zcz rfl c
 exact⟨_,rfl,d⟩
def z3r:Ty (Arr 64 Int):=zq6 64 (qf .i64)
def xh(x:(Arr 64 Int)):List Value:=z1p (fun x:Int=>[Value.int .i64 x]) x
theorem co_A64tInti64:CellsOf z3r xh:=zcx cells_int
def zc9(x:(Arr 64 Int)):Value:= .agg (xh x).toArray
theorem zka(x:(Arr 64 Int)): ∀ v∈xh x,z6d v:=zfq pl_int x
def zp2:Ty (Arr 16 Int):=zq6 16 (qf .u16)
def xz(x:(Arr 16 Int)):List Value:=z1p (fun x:Int=>[Value.int .u16 x]) x
theorem co_A16tIntu16:CellsOf zp2 xz:=zcx cells_int
def z0q(x:(Arr 16 Int)):Value:= .agg (xz x).toArray
theorem z9f(x:(Arr 16 Int)): ∀ v∈xz x,z6d v:=zfq pl_int x
def rSprobes_Node:RowTy Sa (Int×Int×Value) Int:=⟨z0c (qf .i64) (z0c (qf .i64) tHdr),(qf .i64),fun x v=>(x.fB,x.fD,v),fun x=>x.fC⟩
theorem zh8:RowOk rSprobes_Node (q8 false):=⟨rfl,fun R R' cs x v a h k=>by
 obtain⟨_,_,rfl,b,⟨_,_,rfl,c,⟨rfl,_⟩⟩⟩:=h
 exact⟨_,_,rfl,(qf .i64).mono a b,⟨_,_,rfl,(qf .i64).mono a c,(um rfl (z7h k))⟩⟩⟩
end GV
end Go.Proofs.Ytnnobdkjgafdmaa
