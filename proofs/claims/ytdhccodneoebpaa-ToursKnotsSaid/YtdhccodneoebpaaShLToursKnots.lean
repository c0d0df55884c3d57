import Derived.Test.YtdhccodneoebpaaShWe
import Derived.Test.YtdhccodneoebpaaShXa
import Derived.Test.YtdhccodneoebpaaShXb
import Derived.Test.YtdhccodneoebpaaShXd
import Derived.Test.YtdhccodneoebpaaShXf
import Derived.Test.YtdhccodneoebpaaShXj
import Derived.Test.YtdhccodneoebpaaRows
set_option linter.unusedVariables false
set_option linter.unusedSimpArgs false
set_option linter.unusedSectionVars false
namespace Go.Proofs.Ytdhccodneoebpaa
namespace GV
open _root_.Go.Proofs.Try
open Go.IntWalk
set_option maxRecDepth 100000
set_option maxHeartbeats 20000000
theorem z7p{N:Nat}{R:RH}{x:MDat}{z:Value}(C:VRep (zax false) R z x){r:Bool}(a:oh N x=some r):CallP prog 3 #[z] R (fun v R'=>v=(.bool r)):=by
 refine qo (args:=[z]) func3 rfl rfl fun A=>?_;rw [oh] at a;refine zl (uz (T:=(zax false)) rfl rfl rfl C fun v1 R3 p h5 h2=>?_);refine zk (.bool false) (j4 (zi (ji zzh rfl rfl h5 (C.mono p)) ?_));obtain⟨y6,c7,a⟩:=zn a
 refine ja rfl zy5 rfl (zbe (C.mono p) c7) fun v8 aE q h9=>?_;obtain⟨c,X,a⟩:=zn a;refine ja rfl zwx rfl (z3y h9 X) fun aG aH s Y=>?_;refine jb rfl zdu fun L=>?_;obtain⟨t,rfl,E⟩:=z5z Y
 refine qj (i:=0) (vs:=[(vi c.inputs),(vi c.outputs),t]) z4c rfl rfl rfl rfl rfl rfl (qa rfl (qa rfl (qa (ze5 E) qw))) ?_;refine j4 (zi (nu (i:=0) z9v z4c rfl rfl rfl rfl) ?_);obtain⟨f,Z,a⟩:=zn a
 refine ja rfl ztq rfl (z6l (⟨_,⟨_,_,rfl,rfl,⟨_,_,rfl,rfl,(u7 rfl E)⟩⟩,rfl⟩:VRep (jl false false) _ _ (⟨c.inputs,c.outputs,c.rows⟩:Mach)) Z) fun aI aJ n aa=>?_;obtain⟨j,rfl,o⟩:=aa
 refine zm (.tuple #[j,(vi f.2)]) (zi (j3 rfl rfl) (zi (j3 rfl rfl) (zk j (zk (vi f.2) (z8 (zx (zl (j5 (v:=(vi f.2)) rfl (za rfl) (j5 rfl (gy rfl rfl) (j5 (v:=(.bool (decide (f.2≠0)))) rfl (za rfl) (qi rfl rfl rfl rfl (fun k=>qf (v:=j) (za rfl)) fun aK ab=>?_)))))))))))
 refine qi rfl rfl rfl rfl (fun k=>qf (v:=(.agg #[(vi c.inputs),(vi c.outputs),t])) (nu (i:=0) z9v z4c rfl rfl rfl rfl)) fun aL ac=>?_;obtain⟨ad,ae,a⟩:=zn a
 refine nk rfl rfl rfl rfl (fun k=>yh (vs:=[(.agg #[(vi c.inputs),(vi c.outputs),t])]) zy0 (fu (ac.1 (zh rfl k)) rfl) ((by have F:=(mi ae (zh rfl k));exact zaf (⟨_,⟨_,_,rfl,rfl,⟨_,_,rfl,rfl,(u7 rfl (E.mono n))⟩⟩,rfl⟩:VRep (jl false false) _ _ (⟨c.inputs,c.outputs,c.rows⟩:Mach)) F)) (fun _ _ h=>h)) fun M af d G=>?_
 replace G:phG (true&&((decide (f.2≠0))==false)) (phR (tSl false (tSl false (q9 .i64))) (ad.getD default)) M af:=G;obtain⟨O,ag,a⟩:=zn a
 refine nk rfl rfl rfl rfl (fun k=>yh (vs:=[j,M]) zta (fu (((qx zt) _ _ _ d ab).1 (zh rfl k)) (fu rfl rfl)) ((by have F:=(mi ag (zh rfl k));exact z1d (Sub.v (B:=(tSl false (tSl false (q9 .i64)))) (kz (kz Sub.refl (fun _=>rfl)) (fun _=>rfl)) (o.mono d)) (G.1 (zh rfl k)) F)) (fun _ _ h=>h)) fun ah ai e H=>?_
 replace H:phG (true&&((decide (f.2≠0))==false)) (phX (.bool (O.getD default))) ah ai:=H;refine qi rfl rfl rfl rfl (fun k=>qf (cz (H.1 (zh rfl k)))) fun aM aj=>?_
 refine j5 rfl (ak rfl rfl (fun hb=>(aj.1 (zh rfl hb)))) (j5 (v:=(.bool ((decide (f.2≠0))||(!(O.getD default))))) rfl (za rfl) (qi rfl rfl rfl rfl (fun k=>qf (v:=j) (za rfl)) fun aN am=>?_));refine qi rfl rfl rfl rfl (fun k=>qf (zgz rfl underlying30 (am.1 (zh rfl k)) (o.mono (d.trans e)))) fun aO an=>?_
 refine qi rfl rfl rfl rfl (fun k=>qf (v:=j) (za rfl)) fun aP ao=>?_;refine qi rfl rfl rfl rfl (fun k=>qf (qm rfl underlying30 (ao.1 (zh rfl k)) (jc (o.mono (d.trans e))))) fun aQ ap=>?_;refine qi rfl rfl rfl rfl (fun k=>qf (gy (an.1 (zh rfl k)) (ap.1 (zh rfl k)))) fun aR aq=>?_
 refine j5 rfl (ak rfl rfl (fun hb=>(aq.1 (zh rfl hb)))) (z8 (zw rfl a (fun a=>?_) (fun a=>?_)));refine zl (zk (.bool false) (z8 (ql ?_)));obtain rfl:=Option.some.inj a
 refine qd (D:=[]) (J:=[box L [(vi c.inputs),(vi c.outputs),t] 27]) (rs:=[.tmp 2]) (vs:=[(.bool false)]) (((((p.trans q).trans s).trans n).trans d).trans e) rfl rfl ⟨rfl,trivial⟩ ?_;exact⟨rfl,rfl⟩;refine qc ?_;obtain⟨I,b,a⟩:=zn a
 refine j6 (γ:=Unit) (rs [2,3,6,7,31,48]) (fun g=>[]) (fun g=>[]++A) (fun g R=>I=Ex.go g∧True) ?_ ?_
 refine zl (zk (vi 0) (z8 (zy (kg (γ:=Nat×Int) (rs [2,3,6,7,31,48]) (fun g=>[(6,(vi g.2))]) (fun g=>[]++A) (fun g R=>uy N f g.1 g.2=some I∧True) (fun g=>g.1) (N,0) ⟨[box L [(vi c.inputs),(vi c.outputs),t] 27],(List.Perm.refl _)⟩ ⟨b,trivial⟩ ?_))));clear b
 rintro⟨w,l⟩ ax aS m ⟨b,_⟩;rcases w with _|w;exact qy b;replace b:uy N f (w+1) l=some I:=b;rw [uy] at b
 refine zx (zl (zm (vi l) (zm j (zi (qm rfl underlying30 rfl (jc (o.mono ((d.trans e).trans m)))) (zi (jd rfl rfl) (z8 (zw rfl b (fun b=>?_) (fun b=>?_))))))));refine qc (zx (zy (zx (rq 11 mixed (by kernel_rfl) (by kernel_rfl) ?_))));refine jy (v:=j) (za rfl) ?_
 refine jy (v:=(vi l)) (za rfl) ?_;obtain⟨P,b⟩:=zb b;refine df (uq (i:=l.toNat) z5e rfl (jc (o.mono ((d.trans e).trans m))) (ze rfl P.1) (zo P)) fun aT ar=>?_;refine df (jm z5g rfl ar) fun aU au=>?_;refine jy (zgz rfl underlying36 rfl au) ?_;refine jy (v:=j) (za rfl) ?_
 refine jy (v:=(vi l)) (za rfl) ?_;obtain⟨Q,b⟩:=zb b;refine df (uq (i:=l.toNat) z5e rfl (jc (o.mono ((d.trans e).trans m))) (ze rfl Q.1) (zo Q)) fun aV av=>?_;refine df (jm z5g rfl av) fun aW aw=>?_;refine jy (qm rfl underlying36 rfl (jc aw)) ?_;refine jy (gy rfl rfl) ?_
 intro ay u;refine z8 (zw rfl b (fun b=>?_) (fun b=>?_));refine zl (zk (.bool false) (z8 (ql ?_)));replace a:=z0k b a;obtain rfl:=Option.some.inj a;refine qd (D:=[]) (J:=[]) (rs:=[.tmp 2]) (vs:=[(.bool false)]) (((((((p.trans q).trans s).trans n).trans d).trans e).trans m).trans u) rfl rfl ⟨rfl,trivial⟩ ?_
 exact⟨rfl,rfl⟩;refine qc (zq (zm (vi l) ?_));obtain⟨S,b⟩:=zb b;refine zi (je rfl rfl S) (zk (vi (l+1)) (z8 ?_));exact⟨dkt,u,jr,(w,l+1),Nat.lt_succ_self _,⟨rfl,trivial⟩,prm,b,trivial⟩;refine jq ?_;exact⟨dkt,m,jr,(),trivial,prm,(Option.some.inj b).symm,trivial⟩
 rintro aX az aY U ⟨rfl,_⟩;replace a:=sw a;refine zl ?_;obtain⟨y,V,a⟩:=zn a;refine ja rfl zoh rfl (mq  V) fun aA aB K W=>?_;obtain rfl:=W;refine zk (.bool y) (z8 (ql ?_));obtain rfl:=Option.some.inj a
 refine qd (D:=[]) (J:=[]) (rs:=[.tmp 2]) (vs:=[(.bool y)]) (((((((p.trans q).trans s).trans n).trans d).trans e).trans U).trans K) rfl rfl ⟨rfl,trivial⟩ ?_;exact⟨rfl,rfl⟩
end GV
end Go.Proofs.Ytdhccodneoebpaa
