import Derived.Test.YtkcccdcloealfaaGreatShLay
import Derived.Test.YtkcccdcloealfaaGreatShBit
set_option linter.unusedVariables false
set_option linter.unusedSimpArgs false
namespace Go.Proofs.YtkcccdcloealfaaGreat
namespace GV
structure MDat where
 states:Int
 ins:Int
 outs:Int
 part:Bool
 edges:(List Int)
 deriving DecidableEq,Inhabited
def z3k(a:Bool):Ty MDat:=(z1l (qc .u8) (z1l (qc .u8) (z1l (qc .u8) (z1l yz (tSl a (qc .u16)))))).as fun x=>(x.states,x.ins,x.outs,x.part,x.edges)
theorem zyl{a:Bool}:Part (z3k a) 0 (qc .u8) (fun x:MDat=>x.states):=⟨Nat.le_of_ble_eq_true rfl,fun R cs x h=>(z5m (A:=(qc .u8)) (B:=(z1l (qc .u8) (z1l (qc .u8) (z1l yz (tSl a (qc .u16))))))).2 R cs (x.states,x.ins,x.outs,x.part,x.edges) h⟩
theorem zzk{a:Bool}:Part (z3k a) 1 (qc .u8) (fun x:MDat=>x.ins):=⟨Nat.le_of_ble_eq_true rfl,fun R cs x h=>(lc (A:=(qc .u8)) (z5m (A:=(qc .u8)) (B:=(z1l (qc .u8) (z1l yz (tSl a (qc .u16))))))).2 R cs (x.states,x.ins,x.outs,x.part,x.edges) h⟩
theorem zyw{a:Bool}:Part (z3k a) 2 (qc .u8) (fun x:MDat=>x.outs):=⟨Nat.le_of_ble_eq_true rfl,fun R cs x h=>(lc (A:=(qc .u8)) (lc (A:=(qc .u8)) (z5m (A:=(qc .u8)) (B:=(z1l yz (tSl a (qc .u16))))))).2 R cs (x.states,x.ins,x.outs,x.part,x.edges) h⟩
theorem q0v{a:Bool}:Part (z3k a) 3 yz (fun x:MDat=>x.part):=⟨Nat.le_of_ble_eq_true rfl,fun R cs x h=>(lc (A:=(qc .u8)) (lc (A:=(qc .u8)) (lc (A:=(qc .u8)) (z5m (A:=yz) (B:=(tSl a (qc .u16))))))).2 R cs (x.states,x.ins,x.outs,x.part,x.edges) h⟩
theorem zs4{a:Bool}:Part (z3k a) 4 (tSl a (qc .u16)) (fun x:MDat=>x.edges):=⟨Nat.le_of_ble_eq_true rfl,fun R cs x h=>(lc (A:=(qc .u8)) (lc (A:=(qc .u8)) (lc (A:=(qc .u8)) (lc (A:=yz) (zcr (A:=(tSl a (qc .u16)))))))).2 R cs (x.states,x.ins,x.outs,x.part,x.edges) h⟩
structure WDat where
 syms:(List Int)
 deriving DecidableEq,Inhabited
def zcd(a:Bool):Ty WDat:=(q28 (tSl a (qc .u8))).as fun x=>x.syms
theorem zqo{a:Bool}:Part (zcd a) 0 (tSl a (qc .u8)) (fun x:WDat=>x.syms):=⟨Nat.le_refl _,fun R cs x h=>(q0u (A:=(tSl a (qc .u8)))).2 R cs x.syms h⟩
def kEdge:Ty Edge:=(z1l (qc .i64) (qc .i64)).as fun x=>(x.to,x.out)
theorem zan:Part kEdge 0 (qc .i64) (fun x:Edge=>x.to):=⟨by decide,fun R cs x h=>(z5m (A:=(qc .i64)) (B:=(qc .i64))).2 R cs (x.to,x.out) h⟩
theorem zkc:Part kEdge 1 (qc .i64) (fun x:Edge=>x.out):=⟨by decide,fun R cs x h=>(lc (A:=(qc .i64)) (zcr (A:=(qc .i64)))).2 R cs (x.to,x.out) h⟩
def ut(x:Edge):Value:= .agg #[(.int .i64 x.to),(.int .i64 x.out)]
theorem q1h{R:RH}{x:Edge}:kEdge.rep R [(.int .i64 x.to),(.int .i64 x.out)] x:=⟨_,_,rfl,rfl,rfl⟩
theorem df{R:RH}{v:Value}{x:Edge}:VRep kEdge R v x↔v=ut x:=⟨fun⟨_,h,e⟩=>by
 obtain⟨_,_,rfl,rfl,rfl⟩:=h
 exact e,fun h=>⟨_,q1h,h⟩⟩
def qz(a b:Bool):Ty Mach:=(z1l (qc .i64) (z1l (qc .i64) (tSl a (tSl b kEdge)))).as fun x=>(x.inputs,x.outputs,x.rows)
theorem lw{a b:Bool}:Part (qz a b) 0 (qc .i64) (fun x:Mach=>x.inputs):=⟨Nat.le_of_ble_eq_true rfl,fun R cs x h=>(z5m (A:=(qc .i64)) (B:=(z1l (qc .i64) (tSl a (tSl b kEdge))))).2 R cs (x.inputs,x.outputs,x.rows) h⟩
theorem z5d{a b:Bool}:Part (qz a b) 1 (qc .i64) (fun x:Mach=>x.outputs):=⟨Nat.le_of_ble_eq_true rfl,fun R cs x h=>(lc (A:=(qc .i64)) (z5m (A:=(qc .i64)) (B:=(tSl a (tSl b kEdge))))).2 R cs (x.inputs,x.outputs,x.rows) h⟩
theorem u6{a b:Bool}:Part (qz a b) 2 (tSl a (tSl b kEdge)) (fun x:Mach=>x.rows):=⟨Nat.le_of_ble_eq_true rfl,fun R cs x h=>(lc (A:=(qc .i64)) (lc (A:=(qc .i64)) (zcr (A:=(tSl a (tSl b kEdge)))))).2 R cs (x.inputs,x.outputs,x.rows) h⟩
theorem oz{a b:Bool}{R:RH}{v:Value}{x:Mach}(h:VRep (qz a b) R v x): ∃ c,v= .agg #[(.int .i64 x.inputs),(.int .i64 x.outputs),c]∧VRep (tSl a (tSl b kEdge)) R c x.rows:=by
 obtain⟨_,h,rfl⟩:=h
 obtain⟨_,_,rfl,rfl,⟨_,_,rfl,rfl,d⟩⟩:=h
 obtain⟨f,rfl,e⟩:=znx rfl d
 exact⟨_,rfl,e⟩
def kA2tInti64:Ty (Int×Int):=(z1l (qc .i64) (qc .i64)).as fun x=>(x.1,x.2)
def zmg(x:(Int×Int)):Value:= .agg #[(.int .i64 x.1),(.int .i64 x.2)]
theorem zma{R:RH}{x:(Int×Int)}:kA2tInti64.rep R [(.int .i64 x.1),(.int .i64 x.2)] x:=⟨_,_,rfl,rfl,rfl⟩
def z2c(x:(Int×Int)):List Value:=[(.int .i64 x.1),(.int .i64 x.2)]
theorem co_A2tInti64:CellsOf kA2tInti64 z2c:=⟨fun _=>rfl,fun R cs x=>⟨fun h=>by
 obtain⟨_,_,rfl,rfl,rfl⟩:=h
 rfl,fun h=>by subst h;exact zma⟩⟩
theorem znw(x:(Int×Int)): ∀ v∈z2c x,zbz v:=by
 intro v a
 simp only [z2c,List.mem_cons,List.not_mem_nil,or_false] at a
 rcases a with rfl|rfl
 ·exact .inl ⟨_,_,rfl⟩
 ·exact .inl ⟨_,_,rfl⟩
theorem zoq(x y:(Int×Int))(h:z2c x=z2c y):x=y:=by
 simp only [z2c,List.cons.injEq,Value.int.injEq,Value.bool.injEq,true_and,and_true] at h
 rcases x with⟨⟩;rcases y with⟨⟩
 simp_all [Prod.ext_iff]
def zfp:Ty (Arr 16 (Int×Int)):=q6v 16 kA2tInti64
def xe(x:(Arr 16 (Int×Int))):List Value:=z6m z2c x
theorem co_A16A2tInti64:CellsOf zfp xe:=zwq co_A2tInti64
def z6i(x:(Arr 16 (Int×Int))):Value:= .agg (xe x).toArray
theorem zdn(x:(Arr 16 (Int×Int))): ∀ v∈xe x,zbz v:=q0b znw x
theorem zjw(x y:(Arr 16 (Int×Int)))(h:xe x=xe y):x=y:=zx6 co_A2tInti64.len zoq h
structure Sb where
 fQ:Int
 fO:(Arr 16 (Int×Int))
 deriving DecidableEq,Inhabited
def zmi:Ty Sb:=(z1l (qc .i64) zfp).as fun x=>(x.fQ,x.fO)
def aa(x:Sb):List Value:=[(.int .i64 x.fQ)]++(xe x.fO)
theorem co_Srefines_key:CellsOf zmi aa:=q0n (zty cells_int co_A16A2tInti64)
def z18(x:Sb):Value:= .agg (aa x).toArray
theorem zdo(x:Sb): ∀ v∈aa x,zbz v:=by
 intro v a
 unfold aa at a
 rcases List.mem_append.1 a with a|a
 ·exact pl_int _ v a
 exact zdn _ v a
theorem zjm(x y:Sb)(h:aa x=aa y):x=y:=by
 obtain⟨c,h⟩:=List.append_inj h ((cells_int.len _).trans (cells_int.len _).symm)
 have a:=q66 _ _ c
 have b:=zjw _ _ h
 cases x;cases y;simp only at a b;rw [a,b]
structure Sa where
 fC:Int
 fI:Int
 fH:Int
 deriving DecidableEq,Inhabited
def kSwalks_arrival:Ty Sa:=(z1l (qc .i64) (z1l (qc .i64) (qc .i64))).as fun x=>(x.fC,x.fI,x.fH)
def zaq(x:Sa):Value:= .agg #[(.int .i64 x.fC),(.int .i64 x.fI),(.int .i64 x.fH)]
theorem zg1{R:RH}{x:Sa}:kSwalks_arrival.rep R [(.int .i64 x.fC),(.int .i64 x.fI),(.int .i64 x.fH)] x:=⟨_,_,rfl,rfl,⟨_,_,rfl,rfl,rfl⟩⟩
theorem zfn{R:RH}{v:Value}{x:Sa}:VRep kSwalks_arrival R v x↔v=zaq x:=⟨fun⟨_,h,e⟩=>by
 obtain⟨_,_,rfl,rfl,⟨_,_,rfl,rfl,rfl⟩⟩:=h
 exact e,fun h=>⟨_,zg1,h⟩⟩
structure Sc where
 fD:Int
 fA:Int
 fB:Int
 fE:(List Int)
 fG:(List Int)
 deriving DecidableEq,Inhabited
def dm(a b:Bool):Ty Sc:=(z1l (qc .u8) (z1l (qc .u8) (z1l (qc .u8) (z1l (tSl a (qc .u8)) (tSl b (qc .u16)))))).as fun x=>(x.fD,x.fA,x.fB,x.fE,x.fG)
theorem ze4{a b:Bool}:Part (dm a b) 0 (qc .u8) (fun x:Sc=>x.fD):=⟨Nat.le_of_ble_eq_true rfl,fun R cs x h=>(z5m (A:=(qc .u8)) (B:=(z1l (qc .u8) (z1l (qc .u8) (z1l (tSl a (qc .u8)) (tSl b (qc .u16))))))).2 R cs (x.fD,x.fA,x.fB,x.fE,x.fG) h⟩
theorem zeq{a b:Bool}:Part (dm a b) 1 (qc .u8) (fun x:Sc=>x.fA):=⟨Nat.le_of_ble_eq_true rfl,fun R cs x h=>(lc (A:=(qc .u8)) (z5m (A:=(qc .u8)) (B:=(z1l (qc .u8) (z1l (tSl a (qc .u8)) (tSl b (qc .u16))))))).2 R cs (x.fD,x.fA,x.fB,x.fE,x.fG) h⟩
theorem zev{a b:Bool}:Part (dm a b) 2 (qc .u8) (fun x:Sc=>x.fB):=⟨Nat.le_of_ble_eq_true rfl,fun R cs x h=>(lc (A:=(qc .u8)) (lc (A:=(qc .u8)) (z5m (A:=(qc .u8)) (B:=(z1l (tSl a (qc .u8)) (tSl b (qc .u16))))))).2 R cs (x.fD,x.fA,x.fB,x.fE,x.fG) h⟩
theorem z9r{a b:Bool}:Part (dm a b) 3 (tSl a (qc .u8)) (fun x:Sc=>x.fE):=⟨Nat.le_of_ble_eq_true rfl,fun R cs x h=>(lc (A:=(qc .u8)) (lc (A:=(qc .u8)) (lc (A:=(qc .u8)) (z5m (A:=(tSl a (qc .u8))) (B:=(tSl b (qc .u16))))))).2 R cs (x.fD,x.fA,x.fB,x.fE,x.fG) h⟩
theorem z9m{b a:Bool}:Part (dm b a) 4 (tSl a (qc .u16)) (fun x:Sc=>x.fG):=⟨Nat.le_of_ble_eq_true rfl,fun R cs x h=>(lc (A:=(qc .u8)) (lc (A:=(qc .u8)) (lc (A:=(qc .u8)) (lc (A:=(tSl b (qc .u8))) (zcr (A:=(tSl a (qc .u16)))))))).2 R cs (x.fD,x.fA,x.fB,x.fE,x.fG) h⟩
structure Sd where
 fJ:Sc
 deriving DecidableEq,Inhabited
def z2p(a b:Bool):Ty Sd:=(q28 (dm a b)).as fun x=>x.fJ
theorem zdc{a b:Bool}{R:RH}{v:Value}{x:Sd}(h:VRep (z2p a b) R v x): ∃ c d,v= .agg #[(.int .u8 x.fJ.fD),(.int .u8 x.fJ.fA),(.int .u8 x.fJ.fB),c,d]∧VRep (tSl a (qc .u8)) R c x.fJ.fE∧VRep (tSl b (qc .u16)) R d x.fJ.fG:=by
 obtain⟨_,h,rfl⟩:=h
 obtain⟨_,_,rfl,rfl,⟨_,_,rfl,rfl,⟨_,_,rfl,rfl,⟨_,_,rfl,q0_3,q0_4⟩⟩⟩⟩:=h
 obtain⟨w0_3,rfl,k0_3⟩:=znx (T:=(tSl a (qc .u8))) (x:=x.fJ.fE) rfl q0_3
 obtain⟨w0_4,rfl,k0_4⟩:=znx (T:=(tSl b (qc .u16))) (x:=x.fJ.fG) rfl q0_4
 exact⟨_,_,rfl,k0_3,k0_4⟩
def zgs(a b:Bool):Ty (MDat×MDat):=(z1l (z3k a) (z3k b)).as fun x=>(x.1,x.2)
theorem zt3{a b:Bool}:Part (zgs a b) 0 (z3k a) (fun x:(MDat×MDat)=>x.1):=⟨Nat.le_of_ble_eq_true rfl,fun R cs x h=>(z5m (A:=(z3k a)) (B:=(z3k b))).2 R cs (x.1,x.2) h⟩
theorem zu5{b a:Bool}:Part (zgs b a) 5 (z3k a) (fun x:(MDat×MDat)=>x.2):=⟨Nat.le_of_ble_eq_true rfl,fun R cs x h=>(lc (A:=(z3k b)) (zcr (A:=(z3k a)))).2 R cs (x.1,x.2) h⟩
end GV
end Go.Proofs.YtkcccdcloealfaaGreat
