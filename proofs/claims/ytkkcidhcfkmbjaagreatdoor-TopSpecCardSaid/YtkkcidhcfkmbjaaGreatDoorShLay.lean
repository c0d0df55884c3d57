
import Derived.Test.YtkkcidhcfkmbjaaGreatDoorShAb
import Derived.Shelf.Bits.Mul64
import Derived.Test.YtkkcidhcfkmbjaaGreatDoorGvNest
import Derived.Ground.NamesProg
import Derived.Test.YtkkcidhcfkmbjaaGreatDoorProg
set_option linter.unusedVariables false
set_option linter.unusedSimpArgs false
set_option linter.unusedSectionVars false
namespace Go.Proofs.YtkkcidhcfkmbjaaGreatDoor
namespace GV
theorem zkh{P:Program}{ρ:Shelf.Ren}(Ly:Go.Proofs.Lays.n212 P ρ){R:RH}{x y:Int}(h:(0≤x∧x<18446744073709551616)∧0≤y∧y<18446744073709551616):
 CallP P (ρ.f 212) #[.int .u64 x,.int .u64 y] R (fun v R'=>v= .tuple #[.int .u64 (x*y/18446744073709551616),.int .u64 (x*y%18446744073709551616)]):=by
 intro A w c
 obtain⟨⟨d,i⟩,g,j⟩:=h
 obtain⟨a,rfl⟩:=Int.eq_ofNat_of_zero_le d
 obtain⟨b,rfl⟩:=Int.eq_ofNat_of_zero_le g
 refine Calls.mono (Any.bits_Mul Ly a b (by omega) (by omega) w) ?_
 rintro e w' ⟨rfl,rfl⟩
 refine⟨_,rfl,R,RH.le.refl _,c,?_⟩
 rw [Int.natCast_ediv,Int.natCast_emod,Int.natCast_mul]
 rfl
end GV
end Go.Proofs.YtkkcidhcfkmbjaaGreatDoor

namespace Go.Proofs.YtkkcidhcfkmbjaaGreatDoor
namespace GV
theorem zk4{R:RH}{v x:Value}(h:VRep tHdr R v x):v=x:=by
 obtain⟨cs,⟨rfl,_⟩,rfl⟩:=h
 rfl
section dfr
variable {P : Program} {n : Nat} {Q : Po} {l : Nat → Value} {D : List Nat} {R : RH} {O : List Frag} {ops : Array Oper} {rest : List Oper} {ty : TypeId} {pos : String} {after : Array Go.Edge}
theorem zmw{y:Operand}{at':Array TypeId}{cs':Array Value}(c:ev l y= .func (.func 83) #[] cs')(h:wo P none n ops Q rest l D R O):
 wo P none n ops Q (⟨none,.defer ⟨.value y,#[],at'⟩,ty,pos,after,none⟩::rest) l D R O:=by
 intro a w b d
 simp only [wlo,wanted_none (o:=⟨none,.defer ⟨.value y,#[],at'⟩,ty,pos,after,none⟩) rfl,if_true]
 refine⟨fun _ _=>trivial,?_⟩
 rw [b.eval]
 have e:(execOp (ev l) (⟨none,.defer ⟨.value y,#[],at'⟩,ty,pos,after,none⟩:Oper)).run P w= .ok (.defer {target:= .fn (.func 83) cs',args:= #[]}) w:=by
  simp [execOp,resolve,c,Deferred.ofValue]
 show Oper.uponIn (wide none) 0 P _ a _ _ ((execOp (ev l) (⟨none,.defer ⟨.value y,#[],at'⟩,ty,pos,after,none⟩:Oper)).run P w)
 rw [e]
 exact h {a with defers:= {target:= .fn (.func 83) cs',args:= #[]}::a.defers} w ⟨b.size,b.get,.quiet _ _ b.defers⟩ d
end dfr
end GV
end Go.Proofs.YtkkcidhcfkmbjaaGreatDoor

namespace Go.Proofs.YtkkcidhcfkmbjaaGreatDoor
open Go.Shelf
def Tryz.lays212_ren:Go.Shelf.Ren:=⟨fun|212=>197|263=>230|264=>231|n=>n,fun|46=>259|51=>303|146=>313|53=>305|148=>315|n=>n,fun|n=>n⟩
theorem Tryz.lays212:Go.Proofs.Lays.n212 Tryz.prog Tryz.lays212_ren:= {
 mixed:=by kernel_rfl
 f212:=Tryz.func197.trans (congrArg some (by kernel_rfl))
 f263:=Tryz.func230.trans (congrArg some (by kernel_rfl))
 f264:=Tryz.func231.trans (congrArg some (by kernel_rfl))
 t46:=Tryz.underlying259
 a46:=Tryz.isAgg259
 z46:=Tryz.sizeOf259
 v46:=Tryz.zeroValue259
 t51:=Tryz.underlying303
 a51:=Tryz.isAgg303
 z51:=Tryz.sizeOf303
 v51:=Tryz.zeroValue303
 t53:=Tryz.underlying305
 a53:=Tryz.isAgg305
 z53:=Tryz.sizeOf305
 v53:=Tryz.zeroValue305
 t146:=Tryz.underlying313
 a146:=Tryz.isAgg313
 z146:=Tryz.sizeOf313
 v146:=Tryz.zeroValue313
 t148:=Tryz.underlying315
 a148:=Tryz.isAgg315
 z148:=Tryz.sizeOf315
 v148:=Tryz.zeroValue315}
end Go.Proofs.YtkkcidhcfkmbjaaGreatDoor
