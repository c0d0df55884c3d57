import Derived.Test.YtkkcidhcfkmbjaaGreatDoorShGrw
set_option linter.unusedVariables false
set_option linter.unusedSimpArgs false
set_option linter.unusedSectionVars false
namespace Go.Proofs.YtkkcidhcfkmbjaaGreatDoor
namespace GV
structure MDat where
 states:Int
 ins:Int
 outs:Int
 part:Bool
 edges:(List Int)
 deriving DecidableEq,Inhabited
def z6h(a:Bool):Ty MDat:=(mi (qa .u8) (mi (qa .u8) (mi (qa .u8) (mi z1s (tSl a (qa .u16)))))).as fun x=>(x.states,x.ins,x.outs,x.part,x.edges)
theorem zno{a:Bool}:Part (z6h a) 0 (qa .u8) (fun x:MDat=>x.states):=⟨Nat.le_of_ble_eq_true rfl,fun R cs x h=>(z0s (A:=(qa .u8)) (B:=(mi (qa .u8) (mi (qa .u8) (mi z1s (tSl a (qa .u16))))))).2 R cs (x.states,x.ins,x.outs,x.part,x.edges) h⟩
theorem znu{a:Bool}:Part (z6h a) 1 (qa .u8) (fun x:MDat=>x.ins):=⟨Nat.le_of_ble_eq_true rfl,fun R cs x h=>(dw (A:=(qa .u8)) (z0s (A:=(qa .u8)) (B:=(mi (qa .u8) (mi z1s (tSl a (qa .u16))))))).2 R cs (x.states,x.ins,x.outs,x.part,x.edges) h⟩
theorem znv{a:Bool}:Part (z6h a) 2 (qa .u8) (fun x:MDat=>x.outs):=⟨Nat.le_of_ble_eq_true rfl,fun R cs x h=>(dw (A:=(qa .u8)) (dw (A:=(qa .u8)) (z0s (A:=(qa .u8)) (B:=(mi z1s (tSl a (qa .u16))))))).2 R cs (x.states,x.ins,x.outs,x.part,x.edges) h⟩
theorem zpj{a:Bool}:Part (z6h a) 3 z1s (fun x:MDat=>x.part):=⟨Nat.le_of_ble_eq_true rfl,fun R cs x h=>(dw (A:=(qa .u8)) (dw (A:=(qa .u8)) (dw (A:=(qa .u8)) (z0s (A:=z1s) (B:=(tSl a (qa .u16))))))).2 R cs (x.states,x.ins,x.outs,x.part,x.edges) h⟩
theorem zgz{a:Bool}:Part (z6h a) 4 (tSl a (qa .u16)) (fun x:MDat=>x.edges):=⟨Nat.le_of_ble_eq_true rfl,fun R cs x h=>(dw (A:=(qa .u8)) (dw (A:=(qa .u8)) (dw (A:=(qa .u8)) (dw (A:=z1s) (z4y (A:=(tSl a (qa .u16)))))))).2 R cs (x.states,x.ins,x.outs,x.part,x.edges) h⟩
def zah:Ty (Int×Int):=(mi (qa .u8) (qa .u8)).as fun x=>(x.1,x.2)
def kEdge:Ty Edge:=(mi (qa .i64) (qa .i64)).as fun x=>(x.to,x.out)
theorem zi9:Part kEdge 0 (qa .i64) (fun x:Edge=>x.to):=⟨by decide,fun R cs x h=>(z0s (A:=(qa .i64)) (B:=(qa .i64))).2 R cs (x.to,x.out) h⟩
theorem zi1:Part kEdge 1 (qa .i64) (fun x:Edge=>x.out):=⟨by decide,fun R cs x h=>(dw (A:=(qa .i64)) (z4y (A:=(qa .i64)))).2 R cs (x.to,x.out) h⟩
def gu(x:Edge):Value:= .agg #[(.int .i64 x.to),(.int .i64 x.out)]
theorem zn9{R:RH}{x:Edge}:kEdge.rep R [(.int .i64 x.to),(.int .i64 x.out)] x:=⟨_,_,rfl,rfl,rfl⟩
theorem y5{R:RH}{v:Value}{x:Edge}:VRep kEdge R v x↔v=gu x:=⟨fun⟨_,h,e⟩=>by
 obtain⟨_,_,rfl,rfl,rfl⟩:=h
 exact e,fun h=>⟨_,zn9,h⟩⟩
structure Sd where
 fE:MDat
 fF:MDat
 fJ:Bool
 fA:(Int×Int)
 fD:(Int×Int)
 fG:Edge
 deriving DecidableEq,Inhabited
def mo(a b:Bool):Ty Sd:=(mi (z6h a) (mi (z6h b) (mi z1s (mi zah (mi zah kEdge))))).as fun x=>(x.fE,x.fF,x.fJ,x.fA,x.fD,x.fG)
theorem z5u{a b:Bool}{R:RH}{v:Value}{x:Sd}(h:VRep (mo a b) R v x): ∃ c d,v= .agg #[(.int .u8 x.fE.states),(.int .u8 x.fE.ins),(.int .u8 x.fE.outs),(.bool x.fE.part),c,(.int .u8 x.fF.states),(.int .u8 x.fF.ins),(.int .u8 x.fF.outs),(.bool x.fF.part),d,(.bool x.fJ),(.int .u8 x.fA.1),(.int .u8 x.fA.2),(.int .u8 x.fD.1),(.int .u8 x.fD.2),(.int .i64 x.fG.to),(.int .i64 x.fG.out)]∧VRep (tSl a (qa .u16)) R c x.fE.edges∧VRep (tSl b (qa .u16)) R d x.fF.edges:=by
 obtain⟨_,h,rfl⟩:=h
 obtain⟨_,_,rfl,⟨_,_,rfl,rfl,⟨_,_,rfl,rfl,⟨_,_,rfl,rfl,⟨_,_,rfl,rfl,q0_4⟩⟩⟩⟩,⟨_,_,rfl,⟨_,_,rfl,rfl,⟨_,_,rfl,rfl,⟨_,_,rfl,rfl,⟨_,_,rfl,rfl,q1_4⟩⟩⟩⟩,⟨_,_,rfl,rfl,⟨_,_,rfl,⟨_,_,rfl,rfl,rfl⟩,⟨_,_,rfl,⟨_,_,rfl,rfl,rfl⟩,⟨_,_,rfl,rfl,rfl⟩⟩⟩⟩⟩⟩:=h
 obtain⟨w0_4,rfl,k0_4⟩:=z9a (T:=(tSl a (qa .u16))) (x:=x.fE.edges) rfl q0_4
 obtain⟨w1_4,rfl,k1_4⟩:=z9a (T:=(tSl b (qa .u16))) (x:=x.fF.edges) rfl q1_4
 exact⟨_,_,rfl,k0_4,k1_4⟩
def qy(a b:Bool):Ty Mach:=(mi (qa .i64) (mi (qa .i64) (tSl a (tSl b kEdge)))).as fun x=>(x.inputs,x.outputs,x.rows)
theorem dh{a b:Bool}:Part (qy a b) 0 (qa .i64) (fun x:Mach=>x.inputs):=⟨Nat.le_of_ble_eq_true rfl,fun R cs x h=>(z0s (A:=(qa .i64)) (B:=(mi (qa .i64) (tSl a (tSl b kEdge))))).2 R cs (x.inputs,x.outputs,x.rows) h⟩
theorem z05{a b:Bool}:Part (qy a b) 1 (qa .i64) (fun x:Mach=>x.outputs):=⟨Nat.le_of_ble_eq_true rfl,fun R cs x h=>(dw (A:=(qa .i64)) (z0s (A:=(qa .i64)) (B:=(tSl a (tSl b kEdge))))).2 R cs (x.inputs,x.outputs,x.rows) h⟩
theorem wh{a b:Bool}:Part (qy a b) 2 (tSl a (tSl b kEdge)) (fun x:Mach=>x.rows):=⟨Nat.le_of_ble_eq_true rfl,fun R cs x h=>(dw (A:=(qa .i64)) (dw (A:=(qa .i64)) (z4y (A:=(tSl a (tSl b kEdge)))))).2 R cs (x.inputs,x.outputs,x.rows) h⟩
theorem z04{a b:Bool}{R:RH}{v:Value}{x:Mach}(h:VRep (qy a b) R v x): ∃ c,v= .agg #[(.int .i64 x.inputs),(.int .i64 x.outputs),c]∧VRep (tSl a (tSl b kEdge)) R c x.rows:=by
 obtain⟨_,h,rfl⟩:=h
 obtain⟨_,_,rfl,rfl,⟨_,_,rfl,rfl,d⟩⟩:=h
 obtain⟨f,rfl,e⟩:=z9a rfl d
 exact⟨_,rfl,e⟩
def kA2tInti64:Ty (Int×Int):=(mi (qa .i64) (qa .i64)).as fun x=>(x.1,x.2)
theorem ze1:Part kA2tInti64 0 (qa .i64) (fun x:(Int×Int)=>x.1):=⟨by decide,fun R cs x h=>(z0s (A:=(qa .i64)) (B:=(qa .i64))).2 R cs (x.1,x.2) h⟩
theorem ze8:Part kA2tInti64 1 (qa .i64) (fun x:(Int×Int)=>x.2):=⟨by decide,fun R cs x h=>(dw (A:=(qa .i64)) (z4y (A:=(qa .i64)))).2 R cs (x.1,x.2) h⟩
def ym(x:(Int×Int)):Value:= .agg #[(.int .i64 x.1),(.int .i64 x.2)]
theorem z8e{R:RH}{x:(Int×Int)}:kA2tInti64.rep R [(.int .i64 x.1),(.int .i64 x.2)] x:=⟨_,_,rfl,rfl,rfl⟩
theorem z03{R:RH}{v:Value}{x:(Int×Int)}:VRep kA2tInti64 R v x↔v=ym x:=⟨fun⟨_,h,e⟩=>by
 obtain⟨_,_,rfl,rfl,rfl⟩:=h
 exact e,fun h=>⟨_,z8e,h⟩⟩
def cu(x:(Int×Int)):List Value:=[(.int .i64 x.1),(.int .i64 x.2)]
theorem co_A2tInti64:CellsOf kA2tInti64 cu:=⟨fun _=>rfl,fun R cs x=>⟨fun h=>by
 obtain⟨_,_,rfl,rfl,rfl⟩:=h
 rfl,fun h=>by subst h;exact z8e⟩⟩
theorem z9h(x:(Int×Int)): ∀ v∈cu x,z4h v:=by
 intro v a
 simp only [cu,List.mem_cons,List.not_mem_nil,or_false] at a
 rcases a with rfl|rfl
 ·exact .inl ⟨_,_,rfl⟩
 ·exact .inl ⟨_,_,rfl⟩
theorem z9o(x y:(Int×Int))(h:cu x=cu y):x=y:=by
 simp only [cu,List.cons.injEq,Value.int.injEq,Value.bool.injEq,true_and,and_true] at h
 rcases x with⟨⟩;rcases y with⟨⟩
 simp_all [Prod.ext_iff]
def z8f:Ty (Arr 16 (Int×Int)):=zu9 16 kA2tInti64
def jq(x:(Arr 16 (Int×Int))):List Value:=z0m cu x
theorem co_A16A2tInti64:CellsOf z8f jq:=zn4 co_A2tInti64
def z0g(x:(Arr 16 (Int×Int))):Value:= .agg (jq x).toArray
theorem z6f(x:(Arr 16 (Int×Int))): ∀ v∈jq x,z4h v:=zn8 z9h x
theorem zbj(x y:(Arr 16 (Int×Int)))(h:jq x=jq y):x=y:=zn5 co_A2tInti64.len z9o h
structure Sb where
 fAd:Int
 fZ:(Arr 16 (Int×Int))
 deriving DecidableEq,Inhabited
def zdz:Ty Sb:=(mi (qa .i64) z8f).as fun x=>(x.fAd,x.fZ)
def ut(x:Sb):List Value:=[(.int .i64 x.fAd)]++(jq x.fZ)
theorem co_Srefines_key:CellsOf zdz ut:=zoh (zjd cells_int co_A16A2tInti64)
def bg(x:Sb):Value:= .agg (ut x).toArray
theorem z6g(x:Sb): ∀ v∈ut x,z4h v:=by
 intro v a
 unfold ut at a
 rcases List.mem_append.1 a with a|a
 ·exact pl_int _ v a
 exact z6f _ v a
theorem zbn(x y:Sb)(h:ut x=ut y):x=y:=by
 obtain⟨c,h⟩:=List.append_inj h ((cells_int.len _).trans (cells_int.len _).symm)
 have a:=zs3 _ _ c
 have b:=zbj _ _ h
 cases x;cases y;simp only at a b;rw [a,b]
structure Sc where
 fAb:Int
 fAc:Int
 fAe:(List Int)
 fAa:Bool
 deriving DecidableEq,Inhabited
def cz(a:Bool):Ty Sc:=(mi (qa .i64) (mi (qa .i64) (mi (tSl a (qa .i64)) z1s))).as fun x=>(x.fAb,x.fAc,x.fAe,x.fAa)
theorem z8u{a:Bool}{R:RH}{v:Value}{x:Sc}(h:VRep (cz a) R v x): ∃ b,v= .agg #[(.int .i64 x.fAb),(.int .i64 x.fAc),b,(.bool x.fAa)]∧VRep (tSl a (qa .i64)) R b x.fAe:=by
 obtain⟨_,h,rfl⟩:=h
 obtain⟨_,_,rfl,rfl,⟨_,_,rfl,rfl,⟨_,_,rfl,c,rfl⟩⟩⟩:=h
 obtain⟨e,rfl,d⟩:=z9a rfl c
 exact⟨_,rfl,d⟩
structure Sg where
 fV:Int
 fI:Int
 fM:Edge
 fO:Edge
 deriving DecidableEq,Inhabited
def zal(x:Sg):Value:= .agg #[(.int .i64 x.fV),(.int .i64 x.fI),(.int .i64 x.fM.to),(.int .i64 x.fM.out),(.int .i64 x.fO.to),(.int .i64 x.fO.out)]
structure Sa where
 fC:(Int×Int)
 fU:Int
 fI:Int
 deriving DecidableEq,Inhabited
def qh:Ty Sa:=(mi kA2tInti64 (mi (qa .i64) (qa .i64))).as fun x=>(x.fC,x.fU,x.fI)
theorem z2p:Part qh 0 kA2tInti64 (fun x:Sa=>x.fC):=⟨by decide,fun R cs x h=>(z0s (A:=kA2tInti64) (B:=(mi (qa .i64) (qa .i64)))).2 R cs (x.fC,x.fU,x.fI) h⟩
theorem z2r:Part qh 2 (qa .i64) (fun x:Sa=>x.fU):=⟨by decide,fun R cs x h=>(dw (A:=kA2tInti64) (z0s (A:=(qa .i64)) (B:=(qa .i64)))).2 R cs (x.fC,x.fU,x.fI) h⟩
theorem z8c:Part qh 3 (qa .i64) (fun x:Sa=>x.fI):=⟨by decide,fun R cs x h=>(dw (A:=kA2tInti64) (dw (A:=(qa .i64)) (z4y (A:=(qa .i64))))).2 R cs (x.fC,x.fU,x.fI) h⟩
end GV
end Go.Proofs.YtkkcidhcfkmbjaaGreatDoor
