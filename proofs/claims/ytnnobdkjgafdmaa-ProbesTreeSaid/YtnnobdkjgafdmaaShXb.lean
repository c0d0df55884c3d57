import Derived.Test.YtnnobdkjgafdmaaShWe
import Derived.Test.YtnnobdkjgafdmaaRows
set_option linter.unusedVariables false
set_option linter.unusedSimpArgs false
set_option linter.unusedSectionVars false
namespace Go.Proofs.Ytnnobdkjgafdmaa
namespace GV
open _root_.Go.Proofs.Try
open Go.IntWalk
set_option maxRecDepth 100000
set_option maxHeartbeats 20000000
theorem zee{N:Nat}{R:RH}{m:Mach}{b:Value}(f:VRep (jy false false) R b m){s:Int}{i:Int}{r:Edge}(a:z3m N m s i=some r):CallP prog 80 #[b,(vi s),(vi i)] R (fun v R'=>v=(z0l r)):=by
 refine qh (args:=[b,(vi s),(vi i)]) func80 rfl rfl fun A=>?_;rw [z3m] at a;refine zk (ug (T:=(jy false false)) rfl rfl rfl f fun B C c E q=>?_);refine kv rfl zen fun p=>?_;refine z8 (zt (zk (zh (vi s) (zl (j6 rfl rfl) (z8 (zu rfl a (fun a=>?_) (fun a=>?_)))))))
 refine zk (zl (bg (ps:=[(0,(vi (-1))),(1,(vi (-1)))]) (v:=(.agg #[(vi (-1)),(vi (-1))])) rfl (fun w=>by kernel_rfl)) (jr (i:=0) (vs:=[(vi (-1)),(vi (-1))]) zbf rfl rfl rfl rfl rfl rfl (qf rfl (qf rfl jv)) ?_));refine z8 (qx ?_);obtain rfl:=Option.some.inj a
 refine qd (D:=[]) (J:=[box p [(vi (-1)),(vi (-1))] 57]) (rs:=[.cell 6 57]) (vs:=[(.agg #[(vi (-1)),(vi (-1))])]) c rfl rfl ⟨⟨_,rfl,fun w g=>z0z (i:=0) g rfl rfl q03 zbf rfl rfl⟩,trivial⟩ ?_;exact⟨rfl,rfl⟩;refine qa (zk (je rfl xc uy rfl q fun F h=>?_));refine qj rfl z3p rfl h fun t j=>?_
 refine zh (vi s) ?_;obtain⟨d,a⟩:=zb a;refine kg (i:=s.toNat) rfl zaq rfl (ja j) (zg rfl d.1) (zy d) fun u k=>?_;refine qj rfl za8 rfl k fun x l=>?_;refine zh (vi i) ?_;obtain⟨e,a⟩:=zb a;refine kg (i:=i.toNat) rfl zb5 rfl (ja l) (zg rfl e.1) (zy e) fun y n=>?_
 refine qj rfl zf1 rfl n fun z o=>?_;obtain rfl:=fq.1 o;refine jr (i:=0) (vs:=[(vi ((ix (ix m.rows s) i).to)),(vi ((ix (ix m.rows s) i).out))]) zbf rfl rfl rfl rfl rfl rfl (qf rfl (qf rfl jv)) ?_;refine z8 (qx ?_);obtain rfl:=Option.some.inj a
 refine qd (D:=[]) (J:=[box p [(vi ((ix (ix m.rows s) i).to)),(vi ((ix (ix m.rows s) i).out))] 57]) (rs:=[.cell 6 57]) (vs:=[(.agg #[(vi ((ix (ix m.rows s) i).to)),(vi ((ix (ix m.rows s) i).out))])]) c rfl rfl ⟨⟨_,rfl,fun w g=>z0z (i:=0) g rfl rfl q03 zbf rfl rfl⟩,trivial⟩ ?_;exact⟨rfl,rfl⟩
theorem qek:Enters prog 80:=enters_of func80 rfl (by kernel_rfl)
end GV
end Go.Proofs.Ytnnobdkjgafdmaa
