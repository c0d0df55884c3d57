import Derived.Test.YtdhccodneoebpaaShWe
import Derived.Test.YtdhccodneoebpaaShXa
import Derived.Test.YtdhccodneoebpaaShXb
import Derived.Test.YtdhccodneoebpaaShXc
import Derived.Test.YtdhccodneoebpaaShXg
import Derived.Test.YtdhccodneoebpaaRows
set_option linter.unusedVariables false
set_option linter.unusedSimpArgs false
set_option linter.unusedSectionVars false
namespace Go.Proofs.Ytdhccodneoebpaa
namespace GV
open _root_.Go.Proofs.Try
open Go.IntWalk
set_option maxRecDepth 100000
set_option maxHeartbeats 20000000
theorem q5l:zpl prog 51:=zpc (e:=3) (by kernel_rfl) (by kernel_rfl) (by kernel_rfl) (fun w=>by kernel_rfl)
theorem zdj{N:Nat}{R:RH}{j:(List (Int×Int))}{c:Value}(f:VRep (tSl false kA2tInti64) R c j){s:Int}{i:Int}{r:Int}(b:z2c N j s i=some r):CallP prog 49 #[c,(vi s),(vi i)] R (fun v R'=>v=(vi r)):=by
 refine qp (args:=[c,(vi s),(vi i)]) func49 rfl rfl fun A=>?_;rw [z2c] at b;refine zo (zm (vi 0) (z8 ?_));obtain⟨l,a,b⟩:=zu b;refine jb (γ:=Unit) (rs [6,24]) (fun g=>[]) (fun g=>[]++A) (fun g R=>l=Ex.go g∧True) ?_ ?_
 refine zo (zm (vi 0) (z8 (zz (ky (γ:=Nat×Int) (rs [6,24]) (fun g=>[(7,(vi g.2))]) (fun g=>[]++A) (fun g R=>cu N j s i g.1 g.2=some l∧True) (fun g=>g.1) (N,0) prm ⟨a,trivial⟩ ?_))));clear a;rintro⟨k,d⟩ t z e ⟨a,_⟩;rcases k with _|k;exact j6 a
 replace a:cu N j s i (k+1) d=some l:=a;rw [cu] at a;refine q9 (zo (zl (vi d) (zl c (zi (qx rfl underlying49 rfl (je (f.mono e))) (zi (jk rfl rfl) (z8 (qa rfl a (fun a=>?_) (fun a=>?_))))))));refine qc (q9 (zz (zo (zl c (zl (vi d) ?_)))))
 obtain⟨h,a⟩:=za a;refine yj (i:=d.toNat) rfl q1v rfl (je (f.mono e)) (zb rfl h.1) (zn h) fun u m=>?_;refine j3 rfl q44 rfl m fun x n=>?_;obtain rfl:=zcb.1 n
 refine zl (vi s) (zl (vi i) (zi (jy (ps:=[(0,(vi s)),(1,(vi i))]) (v:=(.agg #[(vi s),(vi i)])) rfl (fun w=>by kernel_rfl)) (zi (zoi q5l rfl rfl) (z8 (qa rfl a (fun a=>?_) (fun a=>?_))))));refine zo (zl (vi d) ?_);obtain⟨o,a⟩:=za a
 refine zi (zev rfl rfl o) (zm (vi (z1w .i64 (1:Int) d)) (z8 (qw ?_)));replace b:=z3x a b;obtain rfl:=Option.some.inj b;refine qh (D:=[]) (J:=[]) (rs:=[.tmp 6]) (vs:=[(vi (z1w .i64 (1:Int) d))]) e rfl rfl ⟨rfl,trivial⟩ ?_;exact⟨rfl,rfl⟩;refine qc (zt (zl (vi d) ?_));obtain⟨p,a⟩:=za a
 refine zi (ji rfl rfl p) (zm (vi (d+1)) (z8 ?_));exact⟨dkt,(RH.le.refl _),jr,(k,d+1),Nat.lt_succ_self _,⟨rfl,trivial⟩,prm,a,trivial⟩;refine jm ?_;exact⟨dkt,e,jr,(),trivial,prm,(Option.some.inj a).symm,trivial⟩;rintro B y C q ⟨rfl,_⟩;replace b:=z1n b;refine zo (zm (vi 0) (z8 (qw ?_)))
 obtain rfl:=Option.some.inj b;refine qh (D:=[]) (J:=[]) (rs:=[.tmp 6]) (vs:=[(vi 0)]) q rfl rfl ⟨rfl,trivial⟩ ?_;exact⟨rfl,rfl⟩
theorem q4o:Enters prog 49:=enters_of func49 rfl (by kernel_rfl)
end GV
end Go.Proofs.Ytdhccodneoebpaa
