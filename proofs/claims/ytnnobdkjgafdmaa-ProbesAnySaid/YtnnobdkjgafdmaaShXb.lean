import Derived.Test.YtnnobdkjgafdmaaShWe
import Derived.Test.YtnnobdkjgafdmaaRows
set_option linter.unusedVariables false
set_option linter.unusedSimpArgs false
set_option linter.unusedSectionVars false
namespace Go.Proofs.Ytnnobdkjgafdmaa
namespace GV
open _root_.Go.Proofs.Try
open Go.IntWalk
set_option maxRecDepth 100000
set_option maxHeartbeats 20000000
theorem zal{N:Nat}{R:RH}{m:Mach}{b:Value}(f:VRep (ji false false) R b m){s:Int}{i:Int}{r:Edge}(a:z0t N m s i=some r):CallP prog 80 #[b,(vi s),(vi i)] R (fun v R'=>v=(z0c r)):=by
 refine qd (args:=[b,(vi s),(vi i)]) func80 rfl rfl fun A=>?_;rw [z0t] at a;refine zg (kv (T:=(ji false false)) rfl rfl rfl f fun B C c E q=>?_);refine kw rfl zbp fun p=>?_;refine z8 (zt (zg (zh (vi s) (zm (j6 rfl rfl) (z8 (zo rfl a (fun a=>?_) (fun a=>?_)))))))
 refine zg (zm (gz (ps:=[(0,(vi (-1))),(1,(vi (-1)))]) (v:=(.agg #[(vi (-1)),(vi (-1))])) rfl (fun w=>by kernel_rfl)) (ku (i:=0) (vs:=[(vi (-1)),(vi (-1))]) z90 rfl rfl rfl rfl rfl rfl (qf rfl (qf rfl ko)) ?_));refine z8 (qj ?_);obtain rfl:=Option.some.inj a
 refine zw (D:=[]) (J:=[box p [(vi (-1)),(vi (-1))] 57]) (rs:=[.cell 6 57]) (vs:=[(.agg #[(vi (-1)),(vi (-1))])]) c rfl rfl ⟨⟨_,rfl,fun w g=>z1m (i:=0) g rfl rfl zvc z90 rfl rfl⟩,trivial⟩ ?_;exact⟨rfl,rfl⟩;refine zz (zg (ja rfl vg jr rfl q fun F h=>?_));refine qg rfl lq rfl h fun t j=>?_
 refine zh (vi s) ?_;obtain⟨d,a⟩:=zf a;refine jv (i:=s.toNat) rfl za2 rfl (jd j) (zk rfl d.1) (qh d) fun u k=>?_;refine qg rfl z9r rfl k fun x l=>?_;refine zh (vi i) ?_;obtain⟨e,a⟩:=zf a;refine jv (i:=i.toNat) rfl zbq rfl (jd l) (zk rfl e.1) (qh e) fun y n=>?_
 refine qg rfl zc7 rfl n fun z o=>?_;obtain rfl:=oz.1 o;refine ku (i:=0) (vs:=[(vi ((ix (ix m.rows s) i).to)),(vi ((ix (ix m.rows s) i).out))]) z90 rfl rfl rfl rfl rfl rfl (qf rfl (qf rfl ko)) ?_;refine z8 (qj ?_);obtain rfl:=Option.some.inj a
 refine zw (D:=[]) (J:=[box p [(vi ((ix (ix m.rows s) i).to)),(vi ((ix (ix m.rows s) i).out))] 57]) (rs:=[.cell 6 57]) (vs:=[(.agg #[(vi ((ix (ix m.rows s) i).to)),(vi ((ix (ix m.rows s) i).out))])]) c rfl rfl ⟨⟨_,rfl,fun w g=>z1m (i:=0) g rfl rfl zvc z90 rfl rfl⟩,trivial⟩ ?_;exact⟨rfl,rfl⟩
theorem q53:Enters prog 80:=enters_of func80 rfl (by kernel_rfl)
end GV
end Go.Proofs.Ytnnobdkjgafdmaa
