import Derived.Test.YtkkcidhcfkmbjaaGreatDoorShLay
import Derived.Test.YtkkcidhcfkmbjaaGreatDoorShAb
set_option linter.unusedVariables false
set_option linter.unusedSimpArgs false
set_option linter.unusedSectionVars false
namespace Go.Proofs.YtkkcidhcfkmbjaaGreatDoor
namespace GV
structure MDat where
 states:Int
 ins:Int
 outs:Int
 part:Bool
 edges:(List Int)
 deriving DecidableEq,Inhabited
def z92(a:Bool):Ty MDat:=(tq (qb .u8) (tq (qb .u8) (tq (qb .u8) (tq z1k (tSl a (qb .u16)))))).as fun x=>(x.states,x.ins,x.outs,x.part,x.edges)
theorem zt2{a:Bool}:Part (z92 a) 0 (qb .u8) (fun x:MDat=>x.states):=⟨Nat.le_of_ble_eq_true rfl,fun R cs x h=>(z2j (A:=(qb .u8)) (B:=(tq (qb .u8) (tq (qb .u8) (tq z1k (tSl a (qb .u16))))))).2 R cs (x.states,x.ins,x.outs,x.part,x.edges) h⟩
theorem zts{a:Bool}:Part (z92 a) 1 (qb .u8) (fun x:MDat=>x.ins):=⟨Nat.le_of_ble_eq_true rfl,fun R cs x h=>(o6 (A:=(qb .u8)) (z2j (A:=(qb .u8)) (B:=(tq (qb .u8) (tq z1k (tSl a (qb .u16))))))).2 R cs (x.states,x.ins,x.outs,x.part,x.edges) h⟩
theorem zsa{a:Bool}:Part (z92 a) 2 (qb .u8) (fun x:MDat=>x.outs):=⟨Nat.le_of_ble_eq_true rfl,fun R cs x h=>(o6 (A:=(qb .u8)) (o6 (A:=(qb .u8)) (z2j (A:=(qb .u8)) (B:=(tq z1k (tSl a (qb .u16))))))).2 R cs (x.states,x.ins,x.outs,x.part,x.edges) h⟩
theorem zui{a:Bool}:Part (z92 a) 3 z1k (fun x:MDat=>x.part):=⟨Nat.le_of_ble_eq_true rfl,fun R cs x h=>(o6 (A:=(qb .u8)) (o6 (A:=(qb .u8)) (o6 (A:=(qb .u8)) (z2j (A:=z1k) (B:=(tSl a (qb .u16))))))).2 R cs (x.states,x.ins,x.outs,x.part,x.edges) h⟩
theorem zlj{a:Bool}:Part (z92 a) 4 (tSl a (qb .u16)) (fun x:MDat=>x.edges):=⟨Nat.le_of_ble_eq_true rfl,fun R cs x h=>(o6 (A:=(qb .u8)) (o6 (A:=(qb .u8)) (o6 (A:=(qb .u8)) (o6 (A:=z1k) (z7o (A:=(tSl a (qb .u16)))))))).2 R cs (x.states,x.ins,x.outs,x.part,x.edges) h⟩
def zdc:Ty (Int×Int):=(tq (qb .u8) (qb .u8)).as fun x=>(x.1,x.2)
def kEdge:Ty Edge:=(tq (qb .i64) (qb .i64)).as fun x=>(x.to,x.out)
theorem zg9:Part kEdge 0 (qb .i64) (fun x:Edge=>x.to):=⟨by decide,fun R cs x h=>(z2j (A:=(qb .i64)) (B:=(qb .i64))).2 R cs (x.to,x.out) h⟩
theorem zfw:Part kEdge 1 (qb .i64) (fun x:Edge=>x.out):=⟨by decide,fun R cs x h=>(o6 (A:=(qb .i64)) (z7o (A:=(qb .i64)))).2 R cs (x.to,x.out) h⟩
def aa(x:Edge):Value:= .agg #[(.int .i64 x.to),(.int .i64 x.out)]
theorem ztc{R:RH}{x:Edge}:kEdge.rep R [(.int .i64 x.to),(.int .i64 x.out)] x:=⟨_,_,rfl,rfl,rfl⟩
theorem xz{R:RH}{v:Value}{x:Edge}:VRep kEdge R v x↔v=aa x:=⟨fun⟨_,h,e⟩=>by
 obtain⟨_,_,rfl,rfl,rfl⟩:=h
 exact e,fun h=>⟨_,ztc,h⟩⟩
structure Sd where
 fE:MDat
 fH:MDat
 fM:Bool
 fA:(Int×Int)
 fD:(Int×Int)
 fJ:Edge
 deriving DecidableEq,Inhabited
def ak(a b:Bool):Ty Sd:=(tq (z92 a) (tq (z92 b) (tq z1k (tq zdc (tq zdc kEdge))))).as fun x=>(x.fE,x.fH,x.fM,x.fA,x.fD,x.fJ)
theorem z8r{a b:Bool}{R:RH}{v:Value}{x:Sd}(h:VRep (ak a b) R v x): ∃ c d,v= .agg #[(.int .u8 x.fE.states),(.int .u8 x.fE.ins),(.int .u8 x.fE.outs),(.bool x.fE.part),c,(.int .u8 x.fH.states),(.int .u8 x.fH.ins),(.int .u8 x.fH.outs),(.bool x.fH.part),d,(.bool x.fM),(.int .u8 x.fA.1),(.int .u8 x.fA.2),(.int .u8 x.fD.1),(.int .u8 x.fD.2),(.int .i64 x.fJ.to),(.int .i64 x.fJ.out)]∧VRep (tSl a (qb .u16)) R c x.fE.edges∧VRep (tSl b (qb .u16)) R d x.fH.edges:=by
 obtain⟨_,h,rfl⟩:=h
 obtain⟨_,_,rfl,⟨_,_,rfl,rfl,⟨_,_,rfl,rfl,⟨_,_,rfl,rfl,⟨_,_,rfl,rfl,q0_4⟩⟩⟩⟩,⟨_,_,rfl,⟨_,_,rfl,rfl,⟨_,_,rfl,rfl,⟨_,_,rfl,rfl,⟨_,_,rfl,rfl,q1_4⟩⟩⟩⟩,⟨_,_,rfl,rfl,⟨_,_,rfl,⟨_,_,rfl,rfl,rfl⟩,⟨_,_,rfl,⟨_,_,rfl,rfl,rfl⟩,⟨_,_,rfl,rfl,rfl⟩⟩⟩⟩⟩⟩:=h
 obtain⟨w0_4,rfl,k0_4⟩:=zjv (T:=(tSl a (qb .u16))) (x:=x.fE.edges) rfl q0_4
 obtain⟨w1_4,rfl,k1_4⟩:=zjv (T:=(tSl b (qb .u16))) (x:=x.fH.edges) rfl q1_4
 exact⟨_,_,rfl,k0_4,k1_4⟩
def qw(a b:Bool):Ty Mach:=(tq (qb .i64) (tq (qb .i64) (tSl a (tSl b kEdge)))).as fun x=>(x.inputs,x.outputs,x.rows)
theorem si{a b:Bool}:Part (qw a b) 0 (qb .i64) (fun x:Mach=>x.inputs):=⟨Nat.le_of_ble_eq_true rfl,fun R cs x h=>(z2j (A:=(qb .i64)) (B:=(tq (qb .i64) (tSl a (tSl b kEdge))))).2 R cs (x.inputs,x.outputs,x.rows) h⟩
theorem z1r{a b:Bool}:Part (qw a b) 1 (qb .i64) (fun x:Mach=>x.outputs):=⟨Nat.le_of_ble_eq_true rfl,fun R cs x h=>(o6 (A:=(qb .i64)) (z2j (A:=(qb .i64)) (B:=(tSl a (tSl b kEdge))))).2 R cs (x.inputs,x.outputs,x.rows) h⟩
theorem gu{a b:Bool}:Part (qw a b) 2 (tSl a (tSl b kEdge)) (fun x:Mach=>x.rows):=⟨Nat.le_of_ble_eq_true rfl,fun R cs x h=>(o6 (A:=(qb .i64)) (o6 (A:=(qb .i64)) (z7o (A:=(tSl a (tSl b kEdge)))))).2 R cs (x.inputs,x.outputs,x.rows) h⟩
theorem ik{a b:Bool}{R:RH}{v:Value}{x:Mach}(h:VRep (qw a b) R v x): ∃ c,v= .agg #[(.int .i64 x.inputs),(.int .i64 x.outputs),c]∧VRep (tSl a (tSl b kEdge)) R c x.rows:=by
 obtain⟨_,h,rfl⟩:=h
 obtain⟨_,_,rfl,rfl,⟨_,_,rfl,rfl,d⟩⟩:=h
 obtain⟨f,rfl,e⟩:=zjv rfl d
 exact⟨_,rfl,e⟩
def kA2tInti64:Ty (Int×Int):=(tq (qb .i64) (qb .i64)).as fun x=>(x.1,x.2)
theorem zhb:Part kA2tInti64 0 (qb .i64) (fun x:(Int×Int)=>x.1):=⟨by decide,fun R cs x h=>(z2j (A:=(qb .i64)) (B:=(qb .i64))).2 R cs (x.1,x.2) h⟩
theorem zgx:Part kA2tInti64 1 (qb .i64) (fun x:(Int×Int)=>x.2):=⟨by decide,fun R cs x h=>(o6 (A:=(qb .i64)) (z7o (A:=(qb .i64)))).2 R cs (x.1,x.2) h⟩
def jf(x:(Int×Int)):Value:= .agg #[(.int .i64 x.1),(.int .i64 x.2)]
theorem zaw{R:RH}{x:(Int×Int)}:kA2tInti64.rep R [(.int .i64 x.1),(.int .i64 x.2)] x:=⟨_,_,rfl,rfl,rfl⟩
theorem uu{R:RH}{v:Value}{x:(Int×Int)}:VRep kA2tInti64 R v x↔v=jf x:=⟨fun⟨_,h,e⟩=>by
 obtain⟨_,_,rfl,rfl,rfl⟩:=h
 exact e,fun h=>⟨_,zaw,h⟩⟩
def oq(x:(Int×Int)):List Value:=[(.int .i64 x.1),(.int .i64 x.2)]
theorem co_A2tInti64:CellsOf kA2tInti64 oq:=⟨fun _=>rfl,fun R cs x=>⟨fun h=>by
 obtain⟨_,_,rfl,rfl,rfl⟩:=h
 rfl,fun h=>by subst h;exact zaw⟩⟩
theorem zcs(x:(Int×Int)): ∀ v∈oq x,z7b v:=by
 intro v a
 simp only [oq,List.mem_cons,List.not_mem_nil,or_false] at a
 rcases a with rfl|rfl
 ·exact .inl ⟨_,_,rfl⟩
 ·exact .inl ⟨_,_,rfl⟩
theorem zbv(x y:(Int×Int))(h:oq x=oq y):x=y:=by
 simp only [oq,List.cons.injEq,Value.int.injEq,Value.bool.injEq,true_and,and_true] at h
 rcases x with⟨⟩;rcases y with⟨⟩
 simp_all [Prod.ext_iff]
def zat:Ty (Arr 16 (Int×Int)):=zz1 16 kA2tInti64
def u7(x:(Arr 16 (Int×Int))):List Value:=z1z oq x
theorem co_A16A2tInti64:CellsOf zat u7:=zq0 co_A2tInti64
def z1w(x:(Arr 16 (Int×Int))):Value:= .agg (u7 x).toArray
theorem z8y(x:(Arr 16 (Int×Int))): ∀ v∈u7 x,z7b v:=zrx zcs x
theorem zet(x y:(Arr 16 (Int×Int)))(h:u7 x=u7 y):x=y:=zq5 co_A2tInti64.len zbv h
structure Sc where
 fAe:Int
 fAb:(Arr 16 (Int×Int))
 deriving DecidableEq,Inhabited
def zh5:Ty Sc:=(tq (qb .i64) zat).as fun x=>(x.fAe,x.fAb)
def vz(x:Sc):List Value:=[(.int .i64 x.fAe)]++(u7 x.fAb)
theorem co_Srefines_key:CellsOf zh5 vz:=zsw (zo1 cells_int co_A16A2tInti64)
def cu(x:Sc):Value:= .agg (vz x).toArray
theorem z8w(x:Sc): ∀ v∈vz x,z7b v:=by
 intro v a
 unfold vz at a
 rcases List.mem_append.1 a with a|a
 ·exact pl_int _ v a
 exact z8y _ v a
theorem zeh(x y:Sc)(h:vz x=vz y):x=y:=by
 obtain⟨c,h⟩:=List.append_inj h ((cells_int.len _).trans (cells_int.len _).symm)
 have a:=zyl _ _ c
 have b:=zet _ _ h
 cases x;cases y;simp only at a b;rw [a,b]
structure Sb where
 fF:Int
 fQ:Int
 fG:Int
 deriving DecidableEq,Inhabited
def kSwalks_arrival:Ty Sb:=(tq (qb .i64) (tq (qb .i64) (qb .i64))).as fun x=>(x.fF,x.fQ,x.fG)
def z5s(x:Sb):Value:= .agg #[(.int .i64 x.fF),(.int .i64 x.fQ),(.int .i64 x.fG)]
theorem zbm{R:RH}{x:Sb}:kSwalks_arrival.rep R [(.int .i64 x.fF),(.int .i64 x.fQ),(.int .i64 x.fG)] x:=⟨_,_,rfl,rfl,⟨_,_,rfl,rfl,rfl⟩⟩
theorem zak{R:RH}{v:Value}{x:Sb}:VRep kSwalks_arrival R v x↔v=z5s x:=⟨fun⟨_,h,e⟩=>by
 obtain⟨_,_,rfl,rfl,⟨_,_,rfl,rfl,rfl⟩⟩:=h
 exact e,fun h=>⟨_,zbm,h⟩⟩
structure Sg where
 fU:Int
 fG:Int
 fI:Edge
 fK:Edge
 deriving DecidableEq,Inhabited
def zdu(x:Sg):Value:= .agg #[(.int .i64 x.fU),(.int .i64 x.fG),(.int .i64 x.fI.to),(.int .i64 x.fI.out),(.int .i64 x.fK.to),(.int .i64 x.fK.out)]
structure Sa where
 fC:(Int×Int)
 fQ:Int
 fG:Int
 deriving DecidableEq,Inhabited
def qp:Ty Sa:=(tq kA2tInti64 (tq (qb .i64) (qb .i64))).as fun x=>(x.fC,x.fQ,x.fG)
theorem z4u:Part qp 0 kA2tInti64 (fun x:Sa=>x.fC):=⟨by decide,fun R cs x h=>(z2j (A:=kA2tInti64) (B:=(tq (qb .i64) (qb .i64)))).2 R cs (x.fC,x.fQ,x.fG) h⟩
theorem z4t:Part qp 2 (qb .i64) (fun x:Sa=>x.fQ):=⟨by decide,fun R cs x h=>(o6 (A:=kA2tInti64) (z2j (A:=(qb .i64)) (B:=(qb .i64)))).2 R cs (x.fC,x.fQ,x.fG) h⟩
theorem zal:Part qp 3 (qb .i64) (fun x:Sa=>x.fG):=⟨by decide,fun R cs x h=>(o6 (A:=kA2tInti64) (o6 (A:=(qb .i64)) (z7o (A:=(qb .i64))))).2 R cs (x.fC,x.fQ,x.fG) h⟩
def zfg:List Int:=[0,1,2,2,3,3,3,3,4,4,4,4,4,4,4,4,5,5,5,5,5,5,5,5,5,5,5,5,5,5,5,5,6,6,6,6,6,6,6,6,6,6,6,6,6,6,6,6,6,6,6,6,6,6,6,6,6,6,6,6,6,6,6,6,7,7,7,7,7,7,7,7,7,7,7,7,7,7,7,7,7,7,7,7,7,7,7,7,7,7,7,7,7,7,7,7,7,7,7,7,7,7,7,7,7,7,7,7,7,7,7,7,7,7,7,7,7,7,7,7,7,7,7,7,7,7,7,7,8,8,8,8,8,8,8,8,8,8,8,8,8,8,8,8,8,8,8,8,8,8,8,8,8,8,8,8,8,8,8,8,8,8,8,8,8,8,8,8,8,8,8,8,8,8,8,8,8,8,8,8,8,8,8,8,8,8,8,8,8,8,8,8,8,8,8,8,8,8,8,8,8,8,8,8,8,8,8,8,8,8,8,8,8,8,8,8,8,8,8,8,8,8,8,8,8,8,8,8,8,8,8,8,8,8,8,8,8,8,8,8,8,8,8,8,8,8,8,8,8,8,8,8,8,8,8,8]
end GV
end Go.Proofs.YtkkcidhcfkmbjaaGreatDoor
