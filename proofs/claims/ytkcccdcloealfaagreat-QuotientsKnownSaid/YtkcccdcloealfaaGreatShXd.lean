import Derived.Test.YtkcccdcloealfaaGreatShWd
import Derived.Test.YtkcccdcloealfaaGreatShXb
import Derived.Test.YtkcccdcloealfaaGreatRows
set_option linter.unusedVariables false
set_option linter.unusedSimpArgs false
namespace Go.Proofs.YtkcccdcloealfaaGreat
namespace GV
open _root_.Go.Proofs.Tryz
open Go.IntWalk
set_option maxRecDepth 100000
set_option maxHeartbeats 20000000
theorem z4c{N:Nat}{R:RH}{m:Mach}{j:Value}(k:VRep (qz false false) R j m){r:Bool}(b:dx N m=some r):CallP prog 22 #[j] R (fun v R'=>v=(.bool r)):=by
 refine qf (args:=[j]) func22 rfl rfl fun A=>?_;rw [dx] at b;refine zn (ky (T:=(qz false false)) rfl rfl rfl k fun K L e x M=>?_);refine zf (.bool false) (qw (zq (jl z19 rfl rfl x (k.mono e)) ?_));obtain⟨u,y,b⟩:=zm b
 refine j3 rfl q7p rfl (z7m (k.mono e) y) fun p z h w=>?_;refine zf p (z8 ?_);obtain⟨l,a,b⟩:=zm b;refine j6 (γ:=Unit) (rs [2,3,4,5,7,18]) (fun g=>[]) (fun g=>[]++A) (fun g R=>l=Ex.go g∧True) ?_ ?_
 refine zn (zf (vi 0) (z8 (zy (jg (γ:=Nat×Int) (rs [2,3,4,5,7,18]) (fun g=>[(4,(vi g.2))]) (fun g=>[]++A) (fun g R=>yw N u g.1 g.2=some l∧True) (fun g=>g.1) (N,0) prm ⟨a,trivial⟩ ?_))));clear a;rintro⟨f,c⟩ B C d ⟨a,_⟩;rcases f with _|f;exact j4 a
 replace a:yw N u (f+1) c=some l:=a;rw [yw] at a;refine q8 (zn (zh (vi c) (zh p (zq (qj rfl underlying77 rfl (ja (w.mono d))) (zq (jc rfl rfl) (z8 (zw rfl a (fun a=>?_) (fun a=>?_))))))))
 refine qa (q8 (zy (zn (zh p (zh (vi c) ?_)))));obtain⟨n,a⟩:=ze a;refine kw (i:=c.toNat) rfl zdw rfl (ja (w.mono d)) (zl rfl n.1) (qb n) fun E q=>?_;refine qh rfl ty4 rfl q fun F s=>?_;obtain rfl:=ll.1 s
 refine zq (ow rfl) (z8 (zw rfl a (fun a=>?_) (fun a=>?_)));refine zn (zf (.bool false) (z8 (qp ?_)));replace b:=z1z a b;obtain rfl:=Option.some.inj b;refine q9 (D:=[]) (J:=[]) (rs:=[.tmp 2]) (vs:=[(.bool false)]) ((e.trans h).trans d) rfl rfl ⟨rfl,trivial⟩ ?_;exact⟨rfl,rfl⟩
 refine qa (zz (zh (vi c) ?_));obtain⟨t,a⟩:=ze a;refine zq (jf rfl rfl t) (zf (vi (c+1)) (z8 ?_));exact⟨dkt,(RH.le.refl _),jq,(f,c+1),Nat.lt_succ_self _,⟨rfl,trivial⟩,prm,a,trivial⟩;refine jm ?_;exact⟨dkt,d,jq,(),trivial,prm,(Option.some.inj a).symm,trivial⟩;rintro G H I o ⟨rfl,_⟩
 replace b:=z4v b;refine zn (zf (.bool true) (z8 (qp ?_)));obtain rfl:=Option.some.inj b;refine q9 (D:=[]) (J:=[]) (rs:=[.tmp 2]) (vs:=[(.bool true)]) ((e.trans h).trans o) rfl rfl ⟨rfl,trivial⟩ ?_;exact⟨rfl,rfl⟩
theorem q5w:Enters prog 22:=enters_of func22 rfl (by kernel_rfl)
end GV
end Go.Proofs.YtkcccdcloealfaaGreat
