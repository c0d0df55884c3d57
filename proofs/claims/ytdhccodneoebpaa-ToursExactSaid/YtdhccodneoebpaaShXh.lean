import Derived.Test.YtdhccodneoebpaaShWe
import Derived.Test.YtdhccodneoebpaaShXa
import Derived.Test.YtdhccodneoebpaaShXb
import Derived.Test.YtdhccodneoebpaaShXc
import Derived.Test.YtdhccodneoebpaaShXg
import Derived.Test.YtdhccodneoebpaaRows
set_option linter.unusedVariables false
set_option linter.unusedSimpArgs false
set_option linter.unusedSectionVars false
namespace Go.Proofs.Ytdhccodneoebpaa
namespace GV
open _root_.Go.Proofs.Try
open Go.IntWalk
set_option maxRecDepth 100000
set_option maxHeartbeats 20000000
theorem q3l:zo9 prog 51:=zmy (e:=3) (by kernel_rfl) (by kernel_rfl) (by kernel_rfl) (fun w=>by kernel_rfl)
theorem z7r{N:Nat}{R:RH}{j:(List (Int×Int))}{c:Value}(f:VRep (tSl false kA2tInti64) R c j){s:Int}{i:Int}{r:Int}(b:ol N j s i=some r):CallP prog 49 #[c,(vi s),(vi i)] R (fun v R'=>v=(vi r)):=by
 refine qo (args:=[c,(vi s),(vi i)]) func49 rfl rfl fun A=>?_;rw [ol] at b;refine zt (zn (vi 0) (z8 ?_));obtain⟨l,a,b⟩:=zu b;refine jb (γ:=Unit) (rs [6,24]) (fun g=>[]) (fun g=>[]++A) (fun g R=>l=Ex.go g∧True) ?_ ?_
 refine zt (zn (vi 0) (z8 (q9 (kv (γ:=Nat×Int) (rs [6,24]) (fun g=>[(7,(vi g.2))]) (fun g=>[]++A) (fun g R=>wz N j s i g.1 g.2=some l∧True) (fun g=>g.1) (N,0) prm ⟨a,trivial⟩ ?_))));clear a;rintro⟨k,d⟩ t z e ⟨a,_⟩;rcases k with _|k;exact qy a
 replace a:wz N j s i (k+1) d=some l:=a;rw [wz] at a;refine zy (zt (zl (vi d) (zl c (zi (qz rfl underlying49 rfl (jd (f.mono e))) (zi (jh rfl rfl) (z8 (qa rfl a (fun a=>?_) (fun a=>?_))))))));refine qc (zy (q9 (zt (zl c (zl (vi d) ?_)))))
 obtain⟨h,a⟩:=ze a;refine yj (i:=d.toNat) rfl zsu rfl (jd (f.mono e)) (zb rfl h.1) (zm h) fun u m=>?_;refine j4 rfl q1r rfl m fun x n=>?_;obtain rfl:=zbx.1 n
 refine zl (vi s) (zl (vi i) (zi (kw (ps:=[(0,(vi s)),(1,(vi i))]) (v:=(.agg #[(vi s),(vi i)])) rfl (fun w=>by kernel_rfl)) (zi (znn q3l rfl rfl) (z8 (qa rfl a (fun a=>?_) (fun a=>?_))))));refine zt (zl (vi d) ?_);obtain⟨o,a⟩:=ze a
 refine zi (zd0 rfl rfl o) (zn (vi (z1k .i64 (1:Int) d)) (z8 (qw ?_)));replace b:=z2h a b;obtain rfl:=Option.some.inj b;refine qg (D:=[]) (J:=[]) (rs:=[.tmp 6]) (vs:=[(vi (z1k .i64 (1:Int) d))]) e rfl rfl ⟨rfl,trivial⟩ ?_;exact⟨rfl,rfl⟩;refine qc (zq (zl (vi d) ?_));obtain⟨p,a⟩:=ze a
 refine zi (jg rfl rfl p) (zn (vi (d+1)) (z8 ?_));exact⟨dkt,(RH.le.refl _),jm,(k,d+1),Nat.lt_succ_self _,⟨rfl,trivial⟩,prm,a,trivial⟩;refine jk ?_;exact⟨dkt,e,jm,(),trivial,prm,(Option.some.inj a).symm,trivial⟩;rintro B y C q ⟨rfl,_⟩;replace b:=z10 b;refine zt (zn (vi 0) (z8 (qw ?_)))
 obtain rfl:=Option.some.inj b;refine qg (D:=[]) (J:=[]) (rs:=[.tmp 6]) (vs:=[(vi 0)]) q rfl rfl ⟨rfl,trivial⟩ ?_;exact⟨rfl,rfl⟩
theorem q2c:Enters prog 49:=enters_of func49 rfl (by kernel_rfl)
end GV
end Go.Proofs.Ytdhccodneoebpaa
