import Derived.Test.YtkkcidhcfkmbjaaGreatDoorShCpk
set_option linter.unusedVariables false
set_option linter.unusedSimpArgs false
set_option linter.unusedSectionVars false
namespace Go.Proofs.YtkkcidhcfkmbjaaGreatDoor
namespace GV
structure MDat where
 states:Int
 ins:Int
 outs:Int
 part:Bool
 edges:(List Int)
 deriving DecidableEq,Inhabited
def z4g(a:Bool):Ty MDat:=(cz (zo .u8) (cz (zo .u8) (cz (zo .u8) (cz z00 (tSl a (zo .u16)))))).as fun x=>(x.states,x.ins,x.outs,x.part,x.edges)
theorem zku{a:Bool}:Part (z4g a) 0 (zo .u8) (fun x:MDat=>x.states):=⟨Nat.le_of_ble_eq_true rfl,fun R cs x h=>(z0q (A:=(zo .u8)) (B:=(cz (zo .u8) (cz (zo .u8) (cz z00 (tSl a (zo .u16))))))).2 R cs (x.states,x.ins,x.outs,x.part,x.edges) h⟩
theorem zkt{a:Bool}:Part (z4g a) 1 (zo .u8) (fun x:MDat=>x.ins):=⟨Nat.le_of_ble_eq_true rfl,fun R cs x h=>(bn (A:=(zo .u8)) (z0q (A:=(zo .u8)) (B:=(cz (zo .u8) (cz z00 (tSl a (zo .u16))))))).2 R cs (x.states,x.ins,x.outs,x.part,x.edges) h⟩
theorem zjd{a:Bool}:Part (z4g a) 2 (zo .u8) (fun x:MDat=>x.outs):=⟨Nat.le_of_ble_eq_true rfl,fun R cs x h=>(bn (A:=(zo .u8)) (bn (A:=(zo .u8)) (z0q (A:=(zo .u8)) (B:=(cz z00 (tSl a (zo .u16))))))).2 R cs (x.states,x.ins,x.outs,x.part,x.edges) h⟩
theorem zkh{a:Bool}:Part (z4g a) 3 z00 (fun x:MDat=>x.part):=⟨Nat.le_of_ble_eq_true rfl,fun R cs x h=>(bn (A:=(zo .u8)) (bn (A:=(zo .u8)) (bn (A:=(zo .u8)) (z0q (A:=z00) (B:=(tSl a (zo .u16))))))).2 R cs (x.states,x.ins,x.outs,x.part,x.edges) h⟩
theorem zeo{a:Bool}:Part (z4g a) 4 (tSl a (zo .u16)) (fun x:MDat=>x.edges):=⟨Nat.le_of_ble_eq_true rfl,fun R cs x h=>(bn (A:=(zo .u8)) (bn (A:=(zo .u8)) (bn (A:=(zo .u8)) (bn (A:=z00) (z7f (A:=(tSl a (zo .u16)))))))).2 R cs (x.states,x.ins,x.outs,x.part,x.edges) h⟩
def kEdge:Ty Edge:=(cz (zo .i64) (zo .i64)).as fun x=>(x.to,x.out)
theorem zew:Part kEdge 0 (zo .i64) (fun x:Edge=>x.to):=⟨by decide,fun R cs x h=>(z0q (A:=(zo .i64)) (B:=(zo .i64))).2 R cs (x.to,x.out) h⟩
theorem zd6:Part kEdge 1 (zo .i64) (fun x:Edge=>x.out):=⟨by decide,fun R cs x h=>(bn (A:=(zo .i64)) (z7f (A:=(zo .i64)))).2 R cs (x.to,x.out) h⟩
def z0l(x:Edge):Value:= .agg #[(.int .i64 x.to),(.int .i64 x.out)]
theorem zk2{R:RH}{x:Edge}:kEdge.rep R [(.int .i64 x.to),(.int .i64 x.out)] x:=⟨_,_,rfl,rfl,rfl⟩
theorem ny{R:RH}{v:Value}{x:Edge}:VRep kEdge R v x↔v=z0l x:=⟨fun⟨_,h,e⟩=>by
 obtain⟨_,_,rfl,rfl,rfl⟩:=h
 exact e,fun h=>⟨_,zk2,h⟩⟩
def vg(a b:Bool):Ty Mach:=(cz (zo .i64) (cz (zo .i64) (tSl a (tSl b kEdge)))).as fun x=>(x.inputs,x.outputs,x.rows)
theorem z4c{a b:Bool}:Part (vg a b) 0 (zo .i64) (fun x:Mach=>x.inputs):=⟨Nat.le_of_ble_eq_true rfl,fun R cs x h=>(z0q (A:=(zo .i64)) (B:=(cz (zo .i64) (tSl a (tSl b kEdge))))).2 R cs (x.inputs,x.outputs,x.rows) h⟩
theorem z9b{a b:Bool}:Part (vg a b) 1 (zo .i64) (fun x:Mach=>x.outputs):=⟨Nat.le_of_ble_eq_true rfl,fun R cs x h=>(bn (A:=(zo .i64)) (z0q (A:=(zo .i64)) (B:=(tSl a (tSl b kEdge))))).2 R cs (x.inputs,x.outputs,x.rows) h⟩
theorem bi{a b:Bool}:Part (vg a b) 2 (tSl a (tSl b kEdge)) (fun x:Mach=>x.rows):=⟨Nat.le_of_ble_eq_true rfl,fun R cs x h=>(bn (A:=(zo .i64)) (bn (A:=(zo .i64)) (z7f (A:=(tSl a (tSl b kEdge)))))).2 R cs (x.inputs,x.outputs,x.rows) h⟩
theorem zfi{a b:Bool}{R:RH}{v:Value}{x:Mach}(h:VRep (vg a b) R v x): ∃ c,v= .agg #[(.int .i64 x.inputs),(.int .i64 x.outputs),c]∧VRep (tSl a (tSl b kEdge)) R c x.rows:=by
 obtain⟨_,h,rfl⟩:=h
 obtain⟨_,_,rfl,rfl,⟨_,_,rfl,rfl,d⟩⟩:=h
 obtain⟨f,rfl,e⟩:=zcl rfl d
 exact⟨_,rfl,e⟩
structure Sa where
 fH:Int
 fI:Int
 fA:(List Int)
 fF:Bool
 deriving DecidableEq,Inhabited
def qz(a:Bool):Ty Sa:=(cz (zo .i64) (cz (zo .i64) (cz (tSl a (zo .i64)) z00))).as fun x=>(x.fH,x.fI,x.fA,x.fF)
theorem z7r{a:Bool}:Part (qz a) 2 (tSl a (zo .i64)) (fun x:Sa=>x.fA):=⟨Nat.le_of_ble_eq_true rfl,fun R cs x h=>(bn (A:=(zo .i64)) (bn (A:=(zo .i64)) (z0q (A:=(tSl a (zo .i64))) (B:=z00)))).2 R cs (x.fH,x.fI,x.fA,x.fF) h⟩
theorem z14{a:Bool}{R:RH}{v:Value}{x:Sa}(h:VRep (qz a) R v x): ∃ b,v= .agg #[(.int .i64 x.fH),(.int .i64 x.fI),b,(.bool x.fF)]∧VRep (tSl a (zo .i64)) R b x.fA:=by
 obtain⟨_,h,rfl⟩:=h
 obtain⟨_,_,rfl,rfl,⟨_,_,rfl,rfl,⟨_,_,rfl,c,rfl⟩⟩⟩:=h
 obtain⟨e,rfl,d⟩:=zcl rfl c
 exact⟨_,rfl,d⟩
def kA2tInti64:Ty (Int×Int):=(cz (zo .i64) (zo .i64)).as fun x=>(x.1,x.2)
def rq(x:(Int×Int)):Value:= .agg #[(.int .i64 x.1),(.int .i64 x.2)]
theorem z5m{R:RH}{x:(Int×Int)}:kA2tInti64.rep R [(.int .i64 x.1),(.int .i64 x.2)] x:=⟨_,_,rfl,rfl,rfl⟩
theorem z3x{R:RH}{v:Value}{x:(Int×Int)}:VRep kA2tInti64 R v x↔v=rq x:=⟨fun⟨_,h,e⟩=>by
 obtain⟨_,_,rfl,rfl,rfl⟩:=h
 exact e,fun h=>⟨_,z5m,h⟩⟩
def xx(x:(Int×Int)):List Value:=[(.int .i64 x.1),(.int .i64 x.2)]
theorem co_A2tInti64:CellsOf kA2tInti64 xx:=⟨fun _=>rfl,fun R cs x=>⟨fun h=>by
 obtain⟨_,_,rfl,rfl,rfl⟩:=h
 rfl,fun h=>by subst h;exact z5m⟩⟩
theorem z6o(x:(Int×Int)): ∀ v∈xx x,z1p v:=by
 intro v a
 simp only [xx,List.mem_cons,List.not_mem_nil,or_false] at a
 rcases a with rfl|rfl
 ·exact .inl ⟨_,_,rfl⟩
 ·exact .inl ⟨_,_,rfl⟩
theorem z6y(x y:(Int×Int))(h:xx x=xx y):x=y:=by
 simp only [xx,List.cons.injEq,Value.int.injEq,Value.bool.injEq,true_and,and_true] at h
 rcases x with⟨⟩;rcases y with⟨⟩
 simp_all [Prod.ext_iff]
def z5l:Ty (Arr 16 (Int×Int)):=zph 16 kA2tInti64
def jc(x:(Arr 16 (Int×Int))):List Value:=sj xx x
theorem co_A16A2tInti64:CellsOf z5l jc:=zhi co_A2tInti64
def ax(x:(Arr 16 (Int×Int))):Value:= .agg (jc x).toArray
theorem z3d(x:(Arr 16 (Int×Int))): ∀ v∈jc x,z1p v:=zim z6o x
theorem z8l(x y:(Arr 16 (Int×Int)))(h:jc x=jc y):x=y:=zhc co_A2tInti64.len z6y h
structure Sb where
 fM:Int
 fJ:(Arr 16 (Int×Int))
 deriving DecidableEq,Inhabited
def zal:Ty Sb:=(cz (zo .i64) z5l).as fun x=>(x.fM,x.fJ)
def kz(x:Sb):List Value:=[(.int .i64 x.fM)]++(jc x.fJ)
theorem co_Srefines_key:CellsOf zal kz:=zkm (zfa cells_int co_A16A2tInti64)
def yn(x:Sb):Value:= .agg (kz x).toArray
theorem z3h(x:Sb): ∀ v∈kz x,z1p v:=by
 intro v a
 unfold kz at a
 rcases List.mem_append.1 a with a|a
 ·exact pl_int _ v a
 exact z3d _ v a
theorem z8n(x y:Sb)(h:kz x=kz y):x=y:=by
 obtain⟨c,h⟩:=List.append_inj h ((cells_int.len _).trans (cells_int.len _).symm)
 have a:=znf _ _ c
 have b:=z8l _ _ h
 cases x;cases y;simp only at a b;rw [a,b]
end GV
end Go.Proofs.YtkkcidhcfkmbjaaGreatDoor
