import Derived.Test.YtkhihcleegljhaaGreatShWf
import Derived.Test.YtkhihcleegljhaaGreatRows
set_option linter.unusedVariables false
set_option linter.unusedSimpArgs false
namespace Go.Proofs.YtkhihcleegljhaaGreat
namespace GV
open _root_.Go.Proofs.Tryz
open Go.IntWalk
set_option maxRecDepth 100000
set_option maxHeartbeats 20000000
theorem ty5:TyOk prog 5 (zq .u8):=by
 obtain⟨i,hi,a⟩: ∃ i,prog.info? 5=some i∧i.size=1:=u6 (by kernel_rfl);exact z0l underlying5 hi rfl a
theorem zrw{a:Bool}:TyOk prog 22 (tSl a (zq .u16)):=by
 obtain⟨i,hi,b⟩: ∃ i,prog.info? 22=some i∧i.size=1:=u6 (by kernel_rfl);exact z0l underlying22 hi rfl b
theorem zpz:TyOk prog 74 (zq .u16):=by
 obtain⟨i,hi,a⟩: ∃ i,prog.info? 74=some i∧i.size=1:=u6 (by kernel_rfl);exact z0l underlying74 hi rfl a
theorem zt4:SlOk prog 22 74 (zq .u16):=⟨underlying22,zpz⟩
theorem zau{N:Nat}{R:RH}{x:Sa}{b:Value}(e:VRep (qa false false) R b x){row:Int}{column:Int}{r:Bool}(a:z1n N x row column=some r):CallP prog 41 #[b,(vi row),(vi column)] R (fun v R'=>v=(.bool r)):=by
 refine qi (args:=[b,(vi row),(vi column)]) func41 rfl rfl fun A=>?_;rw [z1n] at a;refine zm (um (T:=(qa false false)) rfl rfl rfl e fun t u f w l=>?_);refine zk (.bool false) (qy (kv rfl z2h uu rfl l fun y m=>?_));refine qp rfl zdp rfl m fun z n=>?_
 refine zg (vi row) ?_;obtain⟨c,a⟩:=ze a;refine uf (i:=row.toNat) rfl z6x rfl (jg n) (zi rfl c.1) (zw c) fun o g=>?_;refine qp rfl z6m rfl g fun p h=>?_;refine zg (vi column) ?_;obtain⟨d,a⟩:=ze a
 refine uf (i:=column.toNat) rfl z1d rfl (jg h) (zi rfl d.1) (zw d) fun q j=>?_;refine qp rfl ty3 rfl j fun s k=>?_;obtain rfl:=q8.1 k;refine zy (aa rfl rfl) (zk (.bool (decide (0≤(ix (ix x.fE row) column)))) (z8 (qh ?_)));obtain rfl:=Option.some.inj a
 refine qd (D:=[]) (J:=[]) (rs:=[.tmp 6]) (vs:=[(.bool (decide (0≤(ix (ix x.fE row) column))))]) f rfl rfl ⟨rfl,trivial⟩ ?_;exact⟨rfl,rfl⟩
theorem zuy:Enters prog 41:=enters_of func41 rfl (by kernel_rfl)
theorem zae{N:Nat}{R:RH}{x:Sa}{j:Value}(k:VRep (qa false false) R j x){row:Int}{r:Bool}(c:z1b N x row=some r):CallP prog 16 #[j,(vi row)] R (fun v R'=>v=(.bool r)):=by
 refine qi (args:=[j,(vi row)]) func16 rfl rfl fun A=>?_;rw [z1b] at c;refine zm (um (T:=(qa false false)) rfl rfl rfl k fun O P e y z=>?_);refine zk (.bool false) (z8 ?_);obtain⟨m,a,c⟩:=zt c
 refine qj (γ:=Unit) (rs [4,20]) (fun g=>[]) (fun g=>[]++A) (fun g R=>m=Ex.go g∧True) ?_ ?_;refine zm (zk (vi 0) (z8 (q9 (j3 (γ:=Nat×Int) (rs [4,20]) (fun g=>[(5,(vi g.2))]) (fun g=>[]++A) (fun g R=>yh N x row g.1 g.2=some m∧True) (fun g=>g.1) (N,0) prm ⟨a,trivial⟩ ?_))));clear a
 rintro⟨f,d⟩ B C b ⟨a,_⟩;rcases f with _|f;exact ql a;replace a:yh N x row (f+1) d=some m:=a;rw [yh] at a;refine zz (zm (zg (vi d) (kv rfl z2h uu rfl (z.mono b) fun E n=>?_)));refine qp rfl zdp rfl n fun F o=>?_
 refine zg (vi row) ?_;obtain⟨l,a⟩:=ze a;refine uf (i:=row.toNat) rfl z6x rfl (jg o) (zi rfl l.1) (zw l) fun G p=>?_;refine qp rfl z6m rfl p fun H q=>?_;refine zy (qx rfl underlying40 rfl (jg q)) (zy (j5 rfl rfl) (z8 (zx rfl a (fun a=>?_) (fun a=>?_))))
 refine qb (zz (q9 (zm (zy (ku z4s rfl rfl (y.mono b) (k.mono (e.trans b))) (zg (vi row) (zg (vi d) ?_))))));obtain⟨I,s,a⟩:=zt a;refine jc rfl zuy rfl (zau (k.mono (e.trans b)) s) fun K L h t=>?_;obtain rfl:=t;refine z8 (zx rfl a (fun a=>?_) (fun a=>?_))
 refine zm (zk (.bool true) (z8 (qh ?_)));replace c:=z16 a c;obtain rfl:=Option.some.inj c;refine qd (D:=[]) (J:=[]) (rs:=[.tmp 4]) (vs:=[(.bool true)]) ((e.trans b).trans h) rfl rfl ⟨rfl,trivial⟩ ?_;exact⟨rfl,rfl⟩;refine qb (zu (zg (vi d) ?_));obtain⟨u,a⟩:=ze a
 refine zy (qo rfl rfl u) (zk (vi (d+1)) (z8 ?_));exact⟨dkt,h,je,(f,d+1),Nat.lt_succ_self _,⟨rfl,trivial⟩,prm,a,trivial⟩;refine jd ?_;exact⟨dkt,b,je,(),trivial,prm,(Option.some.inj a).symm,trivial⟩;rintro Q M S w ⟨rfl,_⟩;replace c:=z2m c;refine zm (zk (.bool false) (z8 (qh ?_)))
 obtain rfl:=Option.some.inj c;refine qd (D:=[]) (J:=[]) (rs:=[.tmp 4]) (vs:=[(.bool false)]) (e.trans w) rfl rfl ⟨rfl,trivial⟩ ?_;exact⟨rfl,rfl⟩
theorem zv7:Enters prog 16:=enters_of func16 rfl (by kernel_rfl)
end GV
end Go.Proofs.YtkhihcleegljhaaGreat
