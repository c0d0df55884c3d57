import Derived.Test.YtnnobdkjgafdmaaShRow
set_option linter.unusedVariables false
set_option linter.unusedSimpArgs false
set_option linter.unusedSectionVars false
namespace Go.Proofs.Ytnnobdkjgafdmaa
namespace GV
structure Sg where
 fO:Int
 fP:Int
 fM:Int
 fT:(List Int)
 fQ:(List Int)
 deriving DecidableEq,Inhabited
structure Sj where
 fU:Sg
 deriving DecidableEq,Inhabited
def kEdge:Ty Edge:=(z19 (qm .i64) (qm .i64)).as fun x=>(x.to,x.out)
theorem z7y:Part kEdge 0 (qm .i64) (fun x:Edge=>x.to):=⟨by decide,fun R cs x h=>(z5v (A:=(qm .i64)) (B:=(qm .i64))).2 R cs (x.to,x.out) h⟩
theorem zcy:Part kEdge 1 (qm .i64) (fun x:Edge=>x.out):=⟨by decide,fun R cs x h=>(z4k (A:=(qm .i64)) (zb1 (A:=(qm .i64)))).2 R cs (x.to,x.out) h⟩
def ic(x:Edge):Value:= .agg #[(.int .i64 x.to),(.int .i64 x.out)]
theorem zkp{R:RH}{x:Edge}:kEdge.rep R [(.int .i64 x.to),(.int .i64 x.out)] x:=⟨_,_,rfl,rfl,rfl⟩
theorem gm{R:RH}{v:Value}{x:Edge}:VRep kEdge R v x↔v=ic x:=⟨fun⟨_,h,e⟩=>by
 obtain⟨_,_,rfl,rfl,rfl⟩:=h
 exact e,fun h=>⟨_,zkp,h⟩⟩
def jg(a b:Bool):Ty Mach:=(z19 (qm .i64) (z19 (qm .i64) (tSl a (tSl b kEdge)))).as fun x=>(x.inputs,x.outputs,x.rows)
theorem ae{a b:Bool}:Part (jg a b) 0 (qm .i64) (fun x:Mach=>x.inputs):=⟨Nat.le_of_ble_eq_true rfl,fun R cs x h=>(z5v (A:=(qm .i64)) (B:=(z19 (qm .i64) (tSl a (tSl b kEdge))))).2 R cs (x.inputs,x.outputs,x.rows) h⟩
theorem z3j{a b:Bool}:Part (jg a b) 1 (qm .i64) (fun x:Mach=>x.outputs):=⟨Nat.le_of_ble_eq_true rfl,fun R cs x h=>(z4k (A:=(qm .i64)) (z5v (A:=(qm .i64)) (B:=(tSl a (tSl b kEdge))))).2 R cs (x.inputs,x.outputs,x.rows) h⟩
theorem kw{a b:Bool}:Part (jg a b) 2 (tSl a (tSl b kEdge)) (fun x:Mach=>x.rows):=⟨Nat.le_of_ble_eq_true rfl,fun R cs x h=>(z4k (A:=(qm .i64)) (z4k (A:=(qm .i64)) (zb1 (A:=(tSl a (tSl b kEdge)))))).2 R cs (x.inputs,x.outputs,x.rows) h⟩
theorem zgf{a b:Bool}{R:RH}{v:Value}{x:Mach}(h:VRep (jg a b) R v x): ∃ u0,v= .agg #[(.int .i64 x.inputs),(.int .i64 x.outputs),u0]∧VRep (tSl a (tSl b kEdge)) R u0 x.rows:=by
 obtain⟨_,h,rfl⟩:=h
 obtain⟨_,_,rfl,rfl,⟨_,_,rfl,rfl,c⟩⟩:=h
 obtain⟨e,rfl,d⟩:=zbl rfl c
 exact⟨_,rfl,d⟩
def kA2tInti64:Ty (Int×Int):=(z19 (qm .i64) (qm .i64)).as fun x=>(x.1,x.2)
def zdb(x:(Int×Int)):Value:= .agg #[(.int .i64 x.1),(.int .i64 x.2)]
theorem zd2{R:RH}{x:(Int×Int)}:kA2tInti64.rep R [(.int .i64 x.1),(.int .i64 x.2)] x:=⟨_,_,rfl,rfl,rfl⟩
def di(x:(Int×Int)):List Value:=[(.int .i64 x.1),(.int .i64 x.2)]
theorem co_A2tInti64:CellsOf kA2tInti64 di:=⟨fun _=>rfl,fun R cs x=>⟨fun h=>by
 obtain⟨_,_,rfl,rfl,rfl⟩:=h
 rfl,fun h=>by subst h;exact zd2⟩⟩
theorem zdy(x:(Int×Int)): ∀ v∈di x,z2x v:=by
 intro v a
 simp only [di,List.mem_cons,List.not_mem_nil,or_false] at a
 rcases a with rfl|rfl
 ·exact .inl ⟨_,_,rfl⟩
 ·exact .inl ⟨_,_,rfl⟩
theorem zec(x y:(Int×Int))(h:di x=di y):x=y:=by
 simp only [di,List.cons.injEq,Value.int.injEq,Value.bool.injEq,true_and,and_true] at h
 rcases x with⟨⟩;rcases y with⟨⟩
 simp_all [Prod.ext_iff]
def z8t:Ty (Arr 16 (Int×Int)):=zg5 16 kA2tInti64
def uh(x:(Arr 16 (Int×Int))):List Value:=iy di x
theorem co_A16A2tInti64:CellsOf z8t uh:=z8j co_A2tInti64
def z10(x:(Arr 16 (Int×Int))):Value:= .agg (uh x).toArray
theorem z6y(x:(Arr 16 (Int×Int))): ∀ v∈uh x,z2x v:=za0 zdy x
theorem zbi(x y:(Arr 16 (Int×Int)))(h:uh x=uh y):x=y:=zdk co_A2tInti64.len zec h
structure Sd where
 fJ:Int
 fI:(Arr 16 (Int×Int))
 deriving DecidableEq,Inhabited
def zd7:Ty Sd:=(z19 (qm .i64) z8t).as fun x=>(x.fJ,x.fI)
def wu(x:Sd):List Value:=[(.int .i64 x.fJ)]++(uh x.fI)
theorem co_Srefines_key:CellsOf zd7 wu:=zk3 (zg7 cells_int co_A16A2tInti64)
def xu(x:Sd):Value:= .agg (wu x).toArray
theorem z6z(x:Sd): ∀ v∈wu x,z2x v:=by
 intro v a
 unfold wu at a
 rcases List.mem_append.1 a with a|a
 ·exact pl_int _ v a
 exact z6y _ v a
theorem zbg(x y:Sd)(h:wu x=wu y):x=y:=by
 obtain⟨c,h⟩:=List.append_inj h ((cells_int.len _).trans (cells_int.len _).symm)
 have a:=zkq _ _ c
 have b:=zbi _ _ h
 cases x;cases y;simp only at a b;rw [a,b]
def kA6tIntu16:Ty (Arr 6 Int):=zg5 6 (qm .u16)
def ql(x:(Arr 6 Int)):List Value:=iy (fun x:Int=>[Value.int .u16 x]) x
theorem co_A6tIntu16:CellsOf kA6tIntu16 ql:=z8j cells_int
def qx(x:(Arr 6 Int)):Value:= .agg (ql x).toArray
theorem z1z{R:RH}{v:Value}{x:(Arr 6 Int)}:VRep kA6tIntu16 R v x↔v=qx x:=zlf co_A6tIntu16 rfl
theorem ax(x:(Arr 6 Int)): ∀ v∈ql x,z2x v:=za0 pl_int x
theorem ze6(x y:(Arr 6 Int))(h:ql x=ql y):x=y:=zdk cells_int.len zkq h
theorem z5o(x:(Arr 6 Int)):ql x=[(.int .u16 (ix x.1 0)),(.int .u16 (ix x.1 1)),(.int .u16 (ix x.1 2)),(.int .u16 (ix x.1 3)),(.int .u16 (ix x.1 4)),(.int .u16 (ix x.1 5))]:=by
 obtain⟨l,h⟩:=x
 match l,h with
 | [a,b,c,d,e,f],_=>rfl
theorem z3w(x:(Arr 6 Int)):qx x= .agg #[(.int .u16 (ix x.1 0)),(.int .u16 (ix x.1 1)),(.int .u16 (ix x.1 2)),(.int .u16 (ix x.1 3)),(.int .u16 (ix x.1 4)),(.int .u16 (ix x.1 5))]:=by unfold qx;rw [z5o]
theorem z6n{R:RH}(x:(Arr 6 Int)):kA6tIntu16.rep R [(.int .u16 (ix x.1 0)),(.int .u16 (ix x.1 1)),(.int .u16 (ix x.1 2)),(.int .u16 (ix x.1 3)),(.int .u16 (ix x.1 4)),(.int .u16 (ix x.1 5))] x:=(co_A6tIntu16.iff R _ x).2 (z5o x).symm
structure Sc where
 fE:(Arr 6 Int)
 fK:(List Int)
 deriving DecidableEq,Inhabited
def ug(a:Bool):Ty Sc:=(z19 kA6tIntu16 (tSl a (qm .i64))).as fun x=>(x.fE,x.fK)
theorem z9t{a:Bool}:Part (ug a) 0 kA6tIntu16 (fun x:Sc=>x.fE):=⟨Nat.le_of_ble_eq_true rfl,fun R cs x h=>(z5v (A:=kA6tIntu16) (B:=(tSl a (qm .i64)))).2 R cs (x.fE,x.fK) h⟩
theorem z3t{b:Bool}{R:RH}{v:Value}{x:Sc}(h:VRep (ug b) R v x): ∃ u0,v= .agg #[(.int .u16 (ix x.fE.1 0)),(.int .u16 (ix x.fE.1 1)),(.int .u16 (ix x.fE.1 2)),(.int .u16 (ix x.fE.1 3)),(.int .u16 (ix x.fE.1 4)),(.int .u16 (ix x.fE.1 5)),u0]∧VRep (tSl b (qm .i64)) R u0 x.fK:=by
 obtain⟨_,h,rfl⟩:=h
 obtain⟨_,_,rfl,a,c⟩:=h
 obtain rfl:=((co_A6tIntu16.iff R _ _).1 a).trans (z5o _)
 obtain⟨e,rfl,d⟩:=zbl rfl c
 exact⟨_,rfl,d⟩
def z2o:List Int:=[0,1,1,2,1,2,2,3,1,2,2,3,2,3,3,4,1,2,2,3,2,3,3,4,2,3,3,4,3,4,4,5,1,2,2,3,2,3,3,4,2,3,3,4,3,4,4,5,2,3,3,4,3,4,4,5,3,4,4,5,4,5,5,6,1,2,2,3,2,3,3,4,2,3,3,4,3,4,4,5,2,3,3,4,3,4,4,5,3,4,4,5,4,5,5,6,2,3,3,4,3,4,4,5,3,4,4,5,4,5,5,6,3,4,4,5,4,5,5,6,4,5,5,6,5,6,6,7,1,2,2,3,2,3,3,4,2,3,3,4,3,4,4,5,2,3,3,4,3,4,4,5,3,4,4,5,4,5,5,6,2,3,3,4,3,4,4,5,3,4,4,5,4,5,5,6,3,4,4,5,4,5,5,6,4,5,5,6,5,6,6,7,2,3,3,4,3,4,4,5,3,4,4,5,4,5,5,6,3,4,4,5,4,5,5,6,4,5,5,6,5,6,6,7,3,4,4,5,4,5,5,6,4,5,5,6,5,6,6,7,4,5,5,6,5,6,6,7,5,6,6,7,6,7,7,8]
structure Sa where
 fB:Int
 fD:Int
 fC:(List Int)
 deriving DecidableEq,Inhabited
def zu(a:Bool):Ty Sa:=(z19 (qm .i64) (z19 (qm .i64) (tSl a (qm .i64)))).as fun x=>(x.fB,x.fD,x.fC)
theorem dh{a:Bool}:Part (zu a) 0 (qm .i64) (fun x:Sa=>x.fB):=⟨Nat.le_of_ble_eq_true rfl,fun R cs x h=>(z5v (A:=(qm .i64)) (B:=(z19 (qm .i64) (tSl a (qm .i64))))).2 R cs (x.fB,x.fD,x.fC) h⟩
theorem mi{a:Bool}:Part (zu a) 1 (qm .i64) (fun x:Sa=>x.fD):=⟨Nat.le_of_ble_eq_true rfl,fun R cs x h=>(z4k (A:=(qm .i64)) (z5v (A:=(qm .i64)) (B:=(tSl a (qm .i64))))).2 R cs (x.fB,x.fD,x.fC) h⟩
theorem mo{a:Bool}:Part (zu a) 2 (tSl a (qm .i64)) (fun x:Sa=>x.fC):=⟨Nat.le_of_ble_eq_true rfl,fun R cs x h=>(z4k (A:=(qm .i64)) (z4k (A:=(qm .i64)) (zb1 (A:=(tSl a (qm .i64)))))).2 R cs (x.fB,x.fD,x.fC) h⟩
theorem yo{a:Bool}{R:RH}{v:Value}{x:Sa}(h:VRep (zu a) R v x): ∃ u0,v= .agg #[(.int .i64 x.fB),(.int .i64 x.fD),u0]∧VRep (tSl a (qm .i64)) R u0 x.fC:=by
 obtain⟨_,h,rfl⟩:=h
 obtain⟨_,_,rfl,rfl,⟨_,_,rfl,rfl,b⟩⟩:=h
 obtain⟨d,rfl,c⟩:=zbl rfl b
 exact⟨_,rfl,c⟩
structure Sb where
 fA:(List Sa)
 deriving DecidableEq,Inhabited
def jv(a b:Bool):Ty Sb:=(zmz (tSl a (zu b))).as fun x=>x.fA
theorem jf{a b:Bool}:Part (jv a b) 0 (tSl a (zu b)) (fun x:Sb=>x.fA):=⟨Nat.le_refl _,fun R cs x h=>(zjl (A:=(tSl a (zu b)))).2 R cs x.fA h⟩
theorem z1e{a b:Bool}{R:RH}{v:Value}{x:Sb}(h:VRep (jv a b) R v x): ∃ u0,v= .agg #[u0]∧VRep (tSl a (zu b)) R u0 x.fA:=by
 obtain⟨_,h,rfl⟩:=h
 have c:(tSl a (zu b)).rep R _ x.fA:=h
 obtain⟨w0,rfl,d⟩:=zbl rfl c
 exact⟨_,rfl,d⟩
def z0k:Ty (Arr 64 Int):=zg5 64 (qm .i64)
def uy(x:(Arr 64 Int)):List Value:=iy (fun x:Int=>[Value.int .i64 x]) x
theorem co_A64tInti64:CellsOf z0k uy:=z8j cells_int
def z7s(x:(Arr 64 Int)):Value:= .agg (uy x).toArray
theorem zda(x:(Arr 64 Int)): ∀ v∈uy x,z2x v:=za0 pl_int x
def zf6:Ty (Arr 16 Int):=zg5 16 (qm .u16)
def wh(x:(Arr 16 Int)):List Value:=iy (fun x:Int=>[Value.int .u16 x]) x
theorem co_A16tIntu16:CellsOf zf6 wh:=z8j cells_int
def tu(x:(Arr 16 Int)):Value:= .agg (wh x).toArray
theorem z5m(x:(Arr 16 Int)): ∀ v∈wh x,z2x v:=za0 pl_int x
def rSprobes_Node:RowTy Sa (Int×Int×Value) Int:=⟨z19 (qm .i64) (z19 (qm .i64) tHdr),(qm .i64),fun x v=>(x.fB,x.fD,v),fun x=>x.fC⟩
theorem zbj:RowOk rSprobes_Node (zu false):=⟨rfl,fun R R' cs x v a h k=>by
 obtain⟨_,_,rfl,b,⟨_,_,rfl,c,⟨rfl,_⟩⟩⟩:=h
 exact⟨_,_,rfl,(qm .i64).mono a b,⟨_,_,rfl,(qm .i64).mono a c,(ji rfl (z9v k))⟩⟩⟩
end GV
end Go.Proofs.Ytnnobdkjgafdmaa
