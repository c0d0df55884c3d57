import Derived.Test.YtkkcidhcfkmbjaaGreatDoorShGrw
set_option linter.unusedVariables false
set_option linter.unusedSimpArgs false
set_option linter.unusedSectionVars false
namespace Go.Proofs.YtkkcidhcfkmbjaaGreatDoor
namespace GV
structure MDat where
 states:Int
 ins:Int
 outs:Int
 part:Bool
 edges:(List Int)
 deriving DecidableEq,Inhabited
def z6g(a:Bool):Ty MDat:=(mq (qb .u8) (mq (qb .u8) (mq (qb .u8) (mq z1s (tSl a (qb .u16)))))).as fun x=>(x.states,x.ins,x.outs,x.part,x.edges)
theorem zp8{a:Bool}:Part (z6g a) 0 (qb .u8) (fun x:MDat=>x.states):=⟨Nat.le_of_ble_eq_true rfl,fun R cs x h=>(z0u (A:=(qb .u8)) (B:=(mq (qb .u8) (mq (qb .u8) (mq z1s (tSl a (qb .u16))))))).2 R cs (x.states,x.ins,x.outs,x.part,x.edges) h⟩
theorem zow{a:Bool}:Part (z6g a) 1 (qb .u8) (fun x:MDat=>x.ins):=⟨Nat.le_of_ble_eq_true rfl,fun R cs x h=>(dm (A:=(qb .u8)) (z0u (A:=(qb .u8)) (B:=(mq (qb .u8) (mq z1s (tSl a (qb .u16))))))).2 R cs (x.states,x.ins,x.outs,x.part,x.edges) h⟩
theorem znn{a:Bool}:Part (z6g a) 2 (qb .u8) (fun x:MDat=>x.outs):=⟨Nat.le_of_ble_eq_true rfl,fun R cs x h=>(dm (A:=(qb .u8)) (dm (A:=(qb .u8)) (z0u (A:=(qb .u8)) (B:=(mq z1s (tSl a (qb .u16))))))).2 R cs (x.states,x.ins,x.outs,x.part,x.edges) h⟩
theorem zoh{a:Bool}:Part (z6g a) 3 z1s (fun x:MDat=>x.part):=⟨Nat.le_of_ble_eq_true rfl,fun R cs x h=>(dm (A:=(qb .u8)) (dm (A:=(qb .u8)) (dm (A:=(qb .u8)) (z0u (A:=z1s) (B:=(tSl a (qb .u16))))))).2 R cs (x.states,x.ins,x.outs,x.part,x.edges) h⟩
theorem zhe{a:Bool}:Part (z6g a) 4 (tSl a (qb .u16)) (fun x:MDat=>x.edges):=⟨Nat.le_of_ble_eq_true rfl,fun R cs x h=>(dm (A:=(qb .u8)) (dm (A:=(qb .u8)) (dm (A:=(qb .u8)) (dm (A:=z1s) (z4z (A:=(tSl a (qb .u16)))))))).2 R cs (x.states,x.ins,x.outs,x.part,x.edges) h⟩
def zaw:Ty (Int×Int):=(mq (qb .u8) (qb .u8)).as fun x=>(x.1,x.2)
def kEdge:Ty Edge:=(mq (qb .i64) (qb .i64)).as fun x=>(x.to,x.out)
theorem zif:Part kEdge 0 (qb .i64) (fun x:Edge=>x.to):=⟨by decide,fun R cs x h=>(z0u (A:=(qb .i64)) (B:=(qb .i64))).2 R cs (x.to,x.out) h⟩
theorem zh8:Part kEdge 1 (qb .i64) (fun x:Edge=>x.out):=⟨by decide,fun R cs x h=>(dm (A:=(qb .i64)) (z4z (A:=(qb .i64)))).2 R cs (x.to,x.out) h⟩
def gy(x:Edge):Value:= .agg #[(.int .i64 x.to),(.int .i64 x.out)]
theorem zoc{R:RH}{x:Edge}:kEdge.rep R [(.int .i64 x.to),(.int .i64 x.out)] x:=⟨_,_,rfl,rfl,rfl⟩
theorem y5{R:RH}{v:Value}{x:Edge}:VRep kEdge R v x↔v=gy x:=⟨fun⟨_,h,e⟩=>by
 obtain⟨_,_,rfl,rfl,rfl⟩:=h
 exact e,fun h=>⟨_,zoc,h⟩⟩
structure Sd where
 fE:MDat
 fF:MDat
 fJ:Bool
 fA:(Int×Int)
 fD:(Int×Int)
 fG:Edge
 deriving DecidableEq,Inhabited
def mh(a b:Bool):Ty Sd:=(mq (z6g a) (mq (z6g b) (mq z1s (mq zaw (mq zaw kEdge))))).as fun x=>(x.fE,x.fF,x.fJ,x.fA,x.fD,x.fG)
theorem z5y{a b:Bool}{R:RH}{v:Value}{x:Sd}(h:VRep (mh a b) R v x): ∃ c d,v= .agg #[(.int .u8 x.fE.states),(.int .u8 x.fE.ins),(.int .u8 x.fE.outs),(.bool x.fE.part),c,(.int .u8 x.fF.states),(.int .u8 x.fF.ins),(.int .u8 x.fF.outs),(.bool x.fF.part),d,(.bool x.fJ),(.int .u8 x.fA.1),(.int .u8 x.fA.2),(.int .u8 x.fD.1),(.int .u8 x.fD.2),(.int .i64 x.fG.to),(.int .i64 x.fG.out)]∧VRep (tSl a (qb .u16)) R c x.fE.edges∧VRep (tSl b (qb .u16)) R d x.fF.edges:=by
 obtain⟨_,h,rfl⟩:=h
 obtain⟨_,_,rfl,⟨_,_,rfl,rfl,⟨_,_,rfl,rfl,⟨_,_,rfl,rfl,⟨_,_,rfl,rfl,q0_4⟩⟩⟩⟩,⟨_,_,rfl,⟨_,_,rfl,rfl,⟨_,_,rfl,rfl,⟨_,_,rfl,rfl,⟨_,_,rfl,rfl,q1_4⟩⟩⟩⟩,⟨_,_,rfl,rfl,⟨_,_,rfl,⟨_,_,rfl,rfl,rfl⟩,⟨_,_,rfl,⟨_,_,rfl,rfl,rfl⟩,⟨_,_,rfl,rfl,rfl⟩⟩⟩⟩⟩⟩:=h
 obtain⟨w0_4,rfl,k0_4⟩:=z9x (T:=(tSl a (qb .u16))) (x:=x.fE.edges) rfl q0_4
 obtain⟨w1_4,rfl,k1_4⟩:=z9x (T:=(tSl b (qb .u16))) (x:=x.fF.edges) rfl q1_4
 exact⟨_,_,rfl,k0_4,k1_4⟩
def qy(a b:Bool):Ty Mach:=(mq (qb .i64) (mq (qb .i64) (tSl a (tSl b kEdge)))).as fun x=>(x.inputs,x.outputs,x.rows)
theorem dw{a b:Bool}:Part (qy a b) 0 (qb .i64) (fun x:Mach=>x.inputs):=⟨Nat.le_of_ble_eq_true rfl,fun R cs x h=>(z0u (A:=(qb .i64)) (B:=(mq (qb .i64) (tSl a (tSl b kEdge))))).2 R cs (x.inputs,x.outputs,x.rows) h⟩
theorem z05{a b:Bool}:Part (qy a b) 1 (qb .i64) (fun x:Mach=>x.outputs):=⟨Nat.le_of_ble_eq_true rfl,fun R cs x h=>(dm (A:=(qb .i64)) (z0u (A:=(qb .i64)) (B:=(tSl a (tSl b kEdge))))).2 R cs (x.inputs,x.outputs,x.rows) h⟩
theorem wh{a b:Bool}:Part (qy a b) 2 (tSl a (tSl b kEdge)) (fun x:Mach=>x.rows):=⟨Nat.le_of_ble_eq_true rfl,fun R cs x h=>(dm (A:=(qb .i64)) (dm (A:=(qb .i64)) (z4z (A:=(tSl a (tSl b kEdge)))))).2 R cs (x.inputs,x.outputs,x.rows) h⟩
theorem z09{a b:Bool}{R:RH}{v:Value}{x:Mach}(h:VRep (qy a b) R v x): ∃ c,v= .agg #[(.int .i64 x.inputs),(.int .i64 x.outputs),c]∧VRep (tSl a (tSl b kEdge)) R c x.rows:=by
 obtain⟨_,h,rfl⟩:=h
 obtain⟨_,_,rfl,rfl,⟨_,_,rfl,rfl,d⟩⟩:=h
 obtain⟨f,rfl,e⟩:=z9x rfl d
 exact⟨_,rfl,e⟩
def kA2tInti64:Ty (Int×Int):=(mq (qb .i64) (qb .i64)).as fun x=>(x.1,x.2)
theorem zdt:Part kA2tInti64 0 (qb .i64) (fun x:(Int×Int)=>x.1):=⟨by decide,fun R cs x h=>(z0u (A:=(qb .i64)) (B:=(qb .i64))).2 R cs (x.1,x.2) h⟩
theorem zdz:Part kA2tInti64 1 (qb .i64) (fun x:(Int×Int)=>x.2):=⟨by decide,fun R cs x h=>(dm (A:=(qb .i64)) (z4z (A:=(qb .i64)))).2 R cs (x.1,x.2) h⟩
def yl(x:(Int×Int)):Value:= .agg #[(.int .i64 x.1),(.int .i64 x.2)]
theorem z8f{R:RH}{x:(Int×Int)}:kA2tInti64.rep R [(.int .i64 x.1),(.int .i64 x.2)] x:=⟨_,_,rfl,rfl,rfl⟩
theorem z03{R:RH}{v:Value}{x:(Int×Int)}:VRep kA2tInti64 R v x↔v=yl x:=⟨fun⟨_,h,e⟩=>by
 obtain⟨_,_,rfl,rfl,rfl⟩:=h
 exact e,fun h=>⟨_,z8f,h⟩⟩
def cu(x:(Int×Int)):List Value:=[(.int .i64 x.1),(.int .i64 x.2)]
theorem co_A2tInti64:CellsOf kA2tInti64 cu:=⟨fun _=>rfl,fun R cs x=>⟨fun h=>by
 obtain⟨_,_,rfl,rfl,rfl⟩:=h
 rfl,fun h=>by subst h;exact z8f⟩⟩
theorem z9o(x:(Int×Int)): ∀ v∈cu x,z4h v:=by
 intro v a
 simp only [cu,List.mem_cons,List.not_mem_nil,or_false] at a
 rcases a with rfl|rfl
 ·exact .inl ⟨_,_,rfl⟩
 ·exact .inl ⟨_,_,rfl⟩
theorem z9y(x y:(Int×Int))(h:cu x=cu y):x=y:=by
 simp only [cu,List.cons.injEq,Value.int.injEq,Value.bool.injEq,true_and,and_true] at h
 rcases x with⟨⟩;rcases y with⟨⟩
 simp_all [Prod.ext_iff]
def z8i:Ty (Arr 16 (Int×Int)):=zt9 16 kA2tInti64
def jr(x:(Arr 16 (Int×Int))):List Value:=z0m cu x
theorem co_A16A2tInti64:CellsOf z8i jr:=zms co_A2tInti64
def z0f(x:(Arr 16 (Int×Int))):Value:= .agg (jr x).toArray
theorem z6f(x:(Arr 16 (Int×Int))): ∀ v∈jr x,z4h v:=zot z9o x
theorem zbp(x y:(Arr 16 (Int×Int)))(h:jr x=jr y):x=y:=zme co_A2tInti64.len z9y h
structure Sb where
 fAd:Int
 fZ:(Arr 16 (Int×Int))
 deriving DecidableEq,Inhabited
def ze4:Ty Sb:=(mq (qb .i64) z8i).as fun x=>(x.fAd,x.fZ)
def ut(x:Sb):List Value:=[(.int .i64 x.fAd)]++(jr x.fZ)
theorem co_Srefines_key:CellsOf ze4 ut:=zno (zjx cells_int co_A16A2tInti64)
def bi(x:Sb):Value:= .agg (ut x).toArray
theorem z6h(x:Sb): ∀ v∈ut x,z4h v:=by
 intro v a
 unfold ut at a
 rcases List.mem_append.1 a with a|a
 ·exact pl_int _ v a
 exact z6f _ v a
theorem zbo(x y:Sb)(h:ut x=ut y):x=y:=by
 obtain⟨c,h⟩:=List.append_inj h ((cells_int.len _).trans (cells_int.len _).symm)
 have a:=zrw _ _ c
 have b:=zbp _ _ h
 cases x;cases y;simp only at a b;rw [a,b]
structure Sc where
 fAb:Int
 fAc:Int
 fAe:(List Int)
 fAa:Bool
 deriving DecidableEq,Inhabited
def cz(a:Bool):Ty Sc:=(mq (qb .i64) (mq (qb .i64) (mq (tSl a (qb .i64)) z1s))).as fun x=>(x.fAb,x.fAc,x.fAe,x.fAa)
theorem z8x{a:Bool}{R:RH}{v:Value}{x:Sc}(h:VRep (cz a) R v x): ∃ b,v= .agg #[(.int .i64 x.fAb),(.int .i64 x.fAc),b,(.bool x.fAa)]∧VRep (tSl a (qb .i64)) R b x.fAe:=by
 obtain⟨_,h,rfl⟩:=h
 obtain⟨_,_,rfl,rfl,⟨_,_,rfl,rfl,⟨_,_,rfl,c,rfl⟩⟩⟩:=h
 obtain⟨e,rfl,d⟩:=z9x rfl c
 exact⟨_,rfl,d⟩
structure Sg where
 fV:Int
 fI:Int
 fM:Edge
 fO:Edge
 deriving DecidableEq,Inhabited
def zai(x:Sg):Value:= .agg #[(.int .i64 x.fV),(.int .i64 x.fI),(.int .i64 x.fM.to),(.int .i64 x.fM.out),(.int .i64 x.fO.to),(.int .i64 x.fO.out)]
structure Sa where
 fC:(Int×Int)
 fU:Int
 fI:Int
 deriving DecidableEq,Inhabited
def qh:Ty Sa:=(mq kA2tInti64 (mq (qb .i64) (qb .i64))).as fun x=>(x.fC,x.fU,x.fI)
theorem z2p:Part qh 0 kA2tInti64 (fun x:Sa=>x.fC):=⟨by decide,fun R cs x h=>(z0u (A:=kA2tInti64) (B:=(mq (qb .i64) (qb .i64)))).2 R cs (x.fC,x.fU,x.fI) h⟩
theorem z2r:Part qh 2 (qb .i64) (fun x:Sa=>x.fU):=⟨by decide,fun R cs x h=>(dm (A:=kA2tInti64) (z0u (A:=(qb .i64)) (B:=(qb .i64)))).2 R cs (x.fC,x.fU,x.fI) h⟩
theorem z8d:Part qh 3 (qb .i64) (fun x:Sa=>x.fI):=⟨by decide,fun R cs x h=>(dm (A:=kA2tInti64) (dm (A:=(qb .i64)) (z4z (A:=(qb .i64))))).2 R cs (x.fC,x.fU,x.fI) h⟩
end GV
end Go.Proofs.YtkkcidhcfkmbjaaGreatDoor
