import Derived.Test.YtkcccdcloealfaaGreatShWd
import Derived.Test.YtkcccdcloealfaaGreatShXc
import Derived.Test.YtkcccdcloealfaaGreatRows
set_option linter.unusedVariables false
set_option linter.unusedSimpArgs false
namespace Go.Proofs.YtkcccdcloealfaaGreat
namespace GV
open _root_.Go.Proofs.Tryz
open Go.IntWalk
set_option maxRecDepth 100000
set_option maxHeartbeats 20000000
theorem z9h{N:Nat}{R:RH}{m:Mach}{b:Value}(f:VRep (qz false false) R b m){s:Int}{i:Int}{r:Edge}(a:z1w N m s i=some r):CallP prog 36 #[b,(vi s),(vi i)] R (fun v R'=>v=(ut r)):=by
 refine qf (args:=[b,(vi s),(vi i)]) func36 rfl rfl fun A=>?_;rw [z1w] at a;refine zn (ky (T:=(qz false false)) rfl rfl rfl f fun B C c E q=>?_);refine kv rfl za8 fun p=>?_;refine z8 (q8 (zn (zh (vi s) (zq (jc rfl rfl) (z8 (zw rfl a (fun a=>?_) (fun a=>?_)))))))
 refine zn (zq (yt (ps:=[(0,(vi (-1))),(1,(vi (-1)))]) (v:=(.agg #[(vi (-1)),(vi (-1))])) rfl (fun w=>by kernel_rfl)) (jd (i:=0) (vs:=[(vi (-1)),(vi (-1))]) z6s rfl rfl rfl rfl rfl rfl (zu rfl (zu rfl jh)) ?_));refine z8 (qp ?_);obtain rfl:=Option.some.inj a
 refine q9 (D:=[]) (J:=[box p [(vi (-1)),(vi (-1))] 62]) (rs:=[.cell 6 62]) (vs:=[(.agg #[(vi (-1)),(vi (-1))])]) c rfl rfl ⟨⟨_,rfl,fun w g=>z05 (i:=0) g rfl rfl zkt z6s rfl rfl⟩,trivial⟩ ?_;exact⟨rfl,rfl⟩;refine qa (zn (jo rfl uf u6 rfl q fun F h=>?_));refine qh rfl z1g rfl h fun t j=>?_
 refine zh (vi s) ?_;obtain⟨d,a⟩:=ze a;refine kw (i:=s.toNat) rfl z5u rfl (ja j) (zl rfl d.1) (qb d) fun u k=>?_;refine qh rfl z5t rfl k fun x l=>?_;refine zh (vi i) ?_;obtain⟨e,a⟩:=ze a;refine kw (i:=i.toNat) rfl z7u rfl (ja l) (zl rfl e.1) (qb e) fun y n=>?_
 refine qh rfl za1 rfl n fun z o=>?_;obtain rfl:=df.1 o;refine jd (i:=0) (vs:=[(vi ((ix (ix m.rows s) i).to)),(vi ((ix (ix m.rows s) i).out))]) z6s rfl rfl rfl rfl rfl rfl (zu rfl (zu rfl jh)) ?_;refine z8 (qp ?_);obtain rfl:=Option.some.inj a
 refine q9 (D:=[]) (J:=[box p [(vi ((ix (ix m.rows s) i).to)),(vi ((ix (ix m.rows s) i).out))] 62]) (rs:=[.cell 6 62]) (vs:=[(.agg #[(vi ((ix (ix m.rows s) i).to)),(vi ((ix (ix m.rows s) i).out))])]) c rfl rfl ⟨⟨_,rfl,fun w g=>z05 (i:=0) g rfl rfl zkt z6s rfl rfl⟩,trivial⟩ ?_;exact⟨rfl,rfl⟩
theorem q7n:Enters prog 36:=enters_of func36 rfl (by kernel_rfl)
end GV
end Go.Proofs.YtkcccdcloealfaaGreat
