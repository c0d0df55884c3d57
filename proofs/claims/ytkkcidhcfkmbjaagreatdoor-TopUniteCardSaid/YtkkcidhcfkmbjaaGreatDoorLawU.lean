import Derived.Test.YtkkcidhcfkmbjaaGreatDoorDof
import Derived.Test.YtkkcidhcfkmbjaaGreatDoorSpec09a
set_option linter.unusedVariables false
set_option linter.unusedSimpArgs false
set_option linter.unusedSectionVars false
namespace Go.Proofs.YtkkcidhcfkmbjaaGreatDoor
namespace GV
set_option maxRecDepth 100000
section
variable {N : Nat} {m : Mach} {x : Sd}
theorem zdu(b:MOk m)(c:200≤N){s t:Nat}(d:s<m.rows.length)(e:t<m.rows.length):dz N m (s:Int) (t:Int)=some (decide (cls m s=cls m t),0):=by
 obtain⟨j,f⟩:=zjf (N:=N) b c
 have h:(zp9 m).length=m.rows.length:=zft _
 have a: ∀ k,k<m.rows.length→ix (zp9 m) (k:Int)=(cls m k:Int):=fun k g=>zj1 g
 unfold dz
 rw [q8 f]
 dsimp only
 rw [yt (by simp),decide_eq_false (show¬min (s:Int) (t:Int)<0 by omega),decide_eq_false (show¬((zp9 m).length:Int)≤max (s:Int) (t:Int) by omega),Bool.or_false,cond_false,
  zg (j3 (by omega)),zg (j3 (by omega)),a s d,a t e]
 rw [show decide ((cls m s:Int)=(cls m t:Int))=decide (cls m s=cls m t) from decide_eq_decide.2 (by omega)]
theorem zmn(z:5000≤N)(A:DOk x):nk N x=some true:=by
 obtain⟨a,b,B,c,d,hi,m,n⟩:=zsa (N:=N) A (by omega)
 have C:=c.r1;have D:=d.r1
 have o:a.rows.length*b.rows.length≤64:=Nat.le_trans (Nat.mul_le_mul m n) (by decide)
 have f:=zs4 c d hi (by omega)
 have E:=z6b (a:=a) (b:=b)
 have h:0<(eu a b).rows.length:=by omega
 have i:a.rows.length<(eu a b).rows.length:=by omega
 have p:a.rows.length+b.rows.length≤64:=by omega
 have F:z1b N (⟨a.inputs,a.outputs,a.rows⟩:Mach) (⟨b.inputs,b.outputs,b.rows⟩:Mach)=some (eu a b,0):=zna c d hi p (by omega)
 have G:dz N (⟨(eu a b).inputs,(eu a b).outputs,(eu a b).rows⟩:Mach) 0 (a.rows.length:Int)=some (decide (cls (eu a b) 0=cls (eu a b) a.rows.length),0):=zdu (s:=0) f (by omega) h i
 have H:il N (⟨(eu a b).inputs,(eu a b).outputs,(eu a b).rows⟩:Mach) 0 (a.rows.length:Int)=some (sw (eu a b) (z2o (eu a b)) 0 a.rows.length,decide (sw (eu a b) (z2o (eu a b)) 0 a.rows.length≠[]),0):=zif (s:=0) f z h i
 have hful:=zr1 f (k:=z2o (eu a b)) (by unfold z2o;omega) h i
 have I:=f.r2
 have q:=zjw f (k:=z2o (eu a b)) (by unfold z2o;omega) h i
 unfold nk
 rw [q8 B]
 dsimp only
 rw [q8 F]
 dsimp only
 rw [q8 G,q8 H]
 dsimp only
 rcases zn3 (N:=N) c d hi o (by omega) with⟨w,r,g⟩|⟨r,j⟩
 ·have t:sw (eu a b) (z2o (eu a b)) 0 a.rows.length=w:=by
   by_cases l:sw (eu a b) (z2o (eu a b)) 0 a.rows.length=[]
   ·exact absurd ((z4z c d hi).2 g.1) (hful.2 l w)
   ·exact(hful.1 l).uniq ⟨(z4z c d hi).2 g.1,fun v J=>g.2 v ((z4z c d hi).1 J)⟩
  have u:=zkr g
  have y:cls (eu a b) 0≠cls (eu a b) a.rows.length:=fun e=>by
   have:=(z4z c d hi).2 g.1
   exact this.2 ((zf7 f h i).1 e w this.1)
  rw [t] at q⊢
  rw [q8 (show ng N (⟨a.inputs,a.outputs,a.rows⟩:Mach) (⟨b.inputs,b.outputs,b.rows⟩:Mach)=some (w,true,0) from r)]
  dsimp only
  rw [za9 (fun _=>zhg (N:=N) (a:=w) (b:=w) (by omega) (by omega)),za9 (fun _=>show ae N=some true from rfl)]
  rw [decide_eq_true u,decide_eq_false y,decide_eq_true (rfl:w=w)]
  rfl
 ·have t:sw (eu a b) (z2o (eu a b)) 0 a.rows.length=[]:=by
   refine Classical.byContradiction fun l=>?_
   exact j _ ((z4z c d hi).1 (hful.1 l).1)
  have y:cls (eu a b) 0=cls (eu a b) a.rows.length:=(zf7 f h i).2 fun w g=>Classical.byContradiction fun K=>j w ((z4z c d hi).1 ⟨g,K⟩)
  rw [t]
  rw [q8 (show ng N (⟨a.inputs,a.outputs,a.rows⟩:Mach) (⟨b.inputs,b.outputs,b.rows⟩:Mach)=some ([],false,0) from r)]
  dsimp only
  rw [za9 (fun _=>zhg (N:=N) (a:=[]) (b:=[]) (by simp;omega) (by simp)),za9 (fun _=>show ae N=some true from rfl)]
  rw [decide_eq_true y]
  rfl
end
end GV
end Go.Proofs.YtkkcidhcfkmbjaaGreatDoor
