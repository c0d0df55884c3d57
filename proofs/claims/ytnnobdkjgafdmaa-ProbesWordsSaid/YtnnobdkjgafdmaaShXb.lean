import Derived.Test.YtnnobdkjgafdmaaShWe
import Derived.Test.YtnnobdkjgafdmaaRows
set_option linter.unusedVariables false
set_option linter.unusedSimpArgs false
set_option linter.unusedSectionVars false
namespace Go.Proofs.Ytnnobdkjgafdmaa
namespace GV
open _root_.Go.Proofs.Try
open Go.IntWalk
set_option maxRecDepth 100000
set_option maxHeartbeats 20000000
theorem z7l{N:Nat}{R:RH}{m:Mach}{b:Value}(f:VRep (jm false false) R b m){s:Int}{i:Int}{r:Edge}(a:z00 N m s i=some r):CallP prog 80 #[b,(vi s),(vi i)] R (fun v R'=>v=(lh r)):=by
 refine qd (args:=[b,(vi s),(vi i)]) func80 rfl rfl fun A=>?_;rw [z00] at a;refine zi (ky (T:=(jm false false)) rfl rfl rfl f fun B C c E q=>?_);refine ko rfl ze7 fun p=>?_;refine z8 (zw (zi (zf (vi s) (zk (j3 rfl rfl) (z8 (zu rfl a (fun a=>?_) (fun a=>?_)))))))
 refine zi (zk (xm (ps:=[(0,(vi (-1))),(1,(vi (-1)))]) (v:=(.agg #[(vi (-1)),(vi (-1))])) rfl (fun w=>by kernel_rfl)) (jr (i:=0) (vs:=[(vi (-1)),(vi (-1))]) za2 rfl rfl rfl rfl rfl rfl (qc rfl (qc rfl jq)) ?_));refine z8 (ql ?_);obtain rfl:=Option.some.inj a
 refine q8 (D:=[]) (J:=[box p [(vi (-1)),(vi (-1))] 57]) (rs:=[.cell 6 57]) (vs:=[(.agg #[(vi (-1)),(vi (-1))])]) c rfl rfl ⟨⟨_,rfl,fun w g=>z0e (i:=0) g rfl rfl zwf za2 rfl rfl⟩,trivial⟩ ?_;exact⟨rfl,rfl⟩;refine qa (zi (je rfl xe ui rfl q fun F h=>?_));refine qh rfl z3h rfl h fun t j=>?_
 refine zf (vi s) ?_;obtain⟨d,a⟩:=zb a;refine kg (i:=s.toNat) rfl zby rfl (ja j) (zg rfl d.1) (zy d) fun u k=>?_;refine qh rfl zbd rfl k fun x l=>?_;refine zf (vi i) ?_;obtain⟨e,a⟩:=zb a;refine kg (i:=i.toNat) rfl zc0 rfl (ja l) (zg rfl e.1) (zy e) fun y n=>?_
 refine qh rfl zeq rfl n fun z o=>?_;obtain rfl:=si.1 o;refine jr (i:=0) (vs:=[(vi ((ix (ix m.rows s) i).to)),(vi ((ix (ix m.rows s) i).out))]) za2 rfl rfl rfl rfl rfl rfl (qc rfl (qc rfl jq)) ?_;refine z8 (ql ?_);obtain rfl:=Option.some.inj a
 refine q8 (D:=[]) (J:=[box p [(vi ((ix (ix m.rows s) i).to)),(vi ((ix (ix m.rows s) i).out))] 57]) (rs:=[.cell 6 57]) (vs:=[(.agg #[(vi ((ix (ix m.rows s) i).to)),(vi ((ix (ix m.rows s) i).out))])]) c rfl rfl ⟨⟨_,rfl,fun w g=>z0e (i:=0) g rfl rfl zwf za2 rfl rfl⟩,trivial⟩ ?_;exact⟨rfl,rfl⟩
theorem q5v:Enters prog 80:=enters_of func80 rfl (by kernel_rfl)
end GV
end Go.Proofs.Ytnnobdkjgafdmaa
