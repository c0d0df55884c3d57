import Derived.Test.YtnnobdkjgafdmaaShWe
import Derived.Test.YtnnobdkjgafdmaaRows
set_option linter.unusedVariables false
set_option linter.unusedSimpArgs false
set_option linter.unusedSectionVars false
namespace Go.Proofs.Ytnnobdkjgafdmaa
namespace GV
open _root_.Go.Proofs.Try
open Go.IntWalk
set_option maxRecDepth 100000
set_option maxHeartbeats 20000000
theorem zci{N:Nat}{R:RH}{m:Mach}{b:Value}(f:VRep (jv false false) R b m){s:Int}{i:Int}{r:Edge}(a:z0o N m s i=some r):CallP prog 80 #[b,(vi s),(vi i)] R (fun v R'=>v=(ik r)):=by
 refine qd (args:=[b,(vi s),(vi i)]) func80 rfl rfl fun A=>?_;rw [z0o] at a;refine zl (kz (T:=(jv false false)) rfl rfl rfl f fun B C c E q=>?_);refine kw rfl zd9 fun p=>?_;refine z8 (zt (zl (zg (vi s) (zm (j4 rfl rfl) (z8 (zu rfl a (fun a=>?_) (fun a=>?_)))))))
 refine zl (zm (xn (ps:=[(0,(vi (-1))),(1,(vi (-1)))]) (v:=(.agg #[(vi (-1)),(vi (-1))])) rfl (fun w=>by kernel_rfl)) (jy (i:=0) (vs:=[(vi (-1)),(vi (-1))]) z9p rfl rfl rfl rfl rfl rfl (qc rfl (qc rfl kg)) ?_));refine z8 (qm ?_);obtain rfl:=Option.some.inj a
 refine qa (D:=[]) (J:=[box p [(vi (-1)),(vi (-1))] 57]) (rs:=[.cell 6 57]) (vs:=[(.agg #[(vi (-1)),(vi (-1))])]) c rfl rfl ⟨⟨_,rfl,fun w g=>z04 (i:=0) g rfl rfl zua z9p rfl rfl⟩,trivial⟩ ?_;exact⟨rfl,rfl⟩;refine qb (zl (j6 rfl yu ug rfl q fun F h=>?_));refine qh rfl z1n rfl h fun t j=>?_
 refine zg (vi s) ?_;obtain⟨d,a⟩:=zb a;refine kv (i:=s.toNat) rfl za4 rfl (j5 j) (zf rfl d.1) (zx d) fun u k=>?_;refine qh rfl z9h rfl k fun x l=>?_;refine zg (vi i) ?_;obtain⟨e,a⟩:=zb a;refine kv (i:=i.toNat) rfl za2 rfl (j5 l) (zf rfl e.1) (zx e) fun y n=>?_
 refine qh rfl zdd rfl n fun z o=>?_;obtain rfl:=tq.1 o;refine jy (i:=0) (vs:=[(vi ((ix (ix m.rows s) i).to)),(vi ((ix (ix m.rows s) i).out))]) z9p rfl rfl rfl rfl rfl rfl (qc rfl (qc rfl kg)) ?_;refine z8 (qm ?_);obtain rfl:=Option.some.inj a
 refine qa (D:=[]) (J:=[box p [(vi ((ix (ix m.rows s) i).to)),(vi ((ix (ix m.rows s) i).out))] 57]) (rs:=[.cell 6 57]) (vs:=[(.agg #[(vi ((ix (ix m.rows s) i).to)),(vi ((ix (ix m.rows s) i).out))])]) c rfl rfl ⟨⟨_,rfl,fun w g=>z04 (i:=0) g rfl rfl zua z9p rfl rfl⟩,trivial⟩ ?_;exact⟨rfl,rfl⟩
theorem q5i:Enters prog 80:=enters_of func80 rfl (by kernel_rfl)
end GV
end Go.Proofs.Ytnnobdkjgafdmaa
