import Derived.Test.YtdhccodneoebpaaShWe
import Derived.Test.YtdhccodneoebpaaShXa
import Derived.Test.YtdhccodneoebpaaShXb
import Derived.Test.YtdhccodneoebpaaShXc
import Derived.Test.YtdhccodneoebpaaShXd
import Derived.Test.YtdhccodneoebpaaShXe
import Derived.Test.YtdhccodneoebpaaShXf
import Derived.Test.YtdhccodneoebpaaShXj
import Derived.Test.YtdhccodneoebpaaRows
set_option linter.unusedVariables false
set_option linter.unusedSimpArgs false
set_option linter.unusedSectionVars false
namespace Go.Proofs.Ytdhccodneoebpaa
namespace GV
open _root_.Go.Proofs.Try
open Go.IntWalk
set_option maxRecDepth 100000
set_option maxHeartbeats 20000000
theorem z9a{N:Nat}{R:RH}{x:MDat}{U:Value}(V:VRep (zcf false) R U x){r:Bool}(b:ax N x=some r):CallP prog 7 #[U] R (fun v R'=>v=(.bool r)):=by
 refine qp (args:=[U]) func7 rfl rfl fun A=>?_;rw [ax] at b;refine zo (y5 (T:=(zcf false)) rfl rfl rfl V fun v1 R3 E h5 h2=>?_);refine zm (.bool false) (j4 (zi (ko q5t rfl rfl h5 (V.mono E)) ?_));obtain⟨y6,c7,b⟩:=zu b
 refine jl rfl q6a rfl (zc0 (V.mono E) c7) fun v8 bS z h9=>?_;obtain⟨a,aX,b⟩:=zu b;refine jl rfl q3j rfl (z4x h9 aX) fun bU bV C aY=>?_;refine jc rfl zg0 fun O=>?_;obtain⟨q,rfl,s⟩:=z6q aY
 refine ql (i:=0) (vs:=[(vi a.inputs),(vi a.outputs),q]) z3d rfl rfl rfl rfl rfl rfl (qb rfl (qb rfl (qb (zhq s) qy))) ?_;refine j4 (zi (xg (i:=0) z7w z3d rfl rfl rfl rfl) ?_);obtain⟨u,aZ,b⟩:=zu b
 refine jl rfl q0r rfl (z3t (⟨_,⟨_,_,rfl,rfl,⟨_,_,rfl,rfl,(kw rfl s)⟩⟩,rfl⟩:VRep (jg false false) _ _ (⟨a.inputs,a.outputs,a.rows⟩:Mach)) aZ) fun bW bX f a0=>?_;refine zi (qx rfl underlying49 rfl (je a0)) (zm (vi (↑u.length:Int)) (j4 (zi (xg (i:=0) z7w z3d rfl rfl rfl rfl) ?_)))
 obtain⟨aa,a1,b⟩:=zu b;refine jl rfl q59 rfl (zbu (⟨_,⟨_,_,rfl,rfl,⟨_,_,rfl,rfl,(kw rfl (s.mono f))⟩⟩,rfl⟩:VRep (jg false false) _ _ (⟨a.inputs,a.outputs,a.rows⟩:Mach)) a1) fun bY bZ g a2=>?_
 refine zi (qx rfl underlying30 rfl (je a2)) (zi (uu rfl rfl) (zm (.bool (decide ((↑aa.length:Int)=1))) (j4 (zi (xg (i:=0) z7w z3d rfl rfl rfl rfl) ?_))));obtain⟨e,a3,b⟩:=zu b
 refine jl rfl q20 rfl (z8w (⟨_,⟨_,_,rfl,rfl,⟨_,_,rfl,rfl,(kw rfl (s.mono (f.trans g)))⟩⟩,rfl⟩:VRep (jg false false) _ _ (⟨a.inputs,a.outputs,a.rows⟩:Mach)) a3) fun b0 b1 k a4=>?_;obtain rfl:=a4
 refine zl (.tuple #[(vi e.1),(vi e.2)]) (zi (jo rfl rfl) (zi (jo rfl rfl) (zm (vi e.1) (zm (vi e.2) (j4 (zi (xg (i:=0) z7w z3d rfl rfl rfl rfl) ?_))))));obtain⟨j,a5,b⟩:=zu b
 refine jl rfl q28 rfl (za2 (⟨_,⟨_,_,rfl,rfl,⟨_,_,rfl,rfl,(kw rfl (s.mono ((f.trans g).trans k)))⟩⟩,rfl⟩:VRep (jg false false) _ _ (⟨a.inputs,a.outputs,a.rows⟩:Mach)) a5) fun b2 b3 m a6=>?_;obtain⟨F,rfl,ab⟩:=a6
 refine zl (.tuple #[F,(vi j.2)]) (zi (jo rfl rfl) (zi (jo rfl rfl) (zm F (zm (vi j.2) (j4 (zi (xg (i:=0) z7w z3d rfl rfl rfl rfl) ?_))))));obtain⟨w,a7,b⟩:=zu b
 refine jl rfl q10 rfl (za8 (⟨_,⟨_,_,rfl,rfl,⟨_,_,rfl,rfl,(kw rfl (s.mono (((f.trans g).trans k).trans m)))⟩⟩,rfl⟩:VRep (jg false false) _ _ (⟨a.inputs,a.outputs,a.rows⟩:Mach)) a7) fun b4 b5 l a8=>?_;obtain⟨ac,rfl,b6⟩:=a8
 refine zl (.tuple #[ac,(vi w.2)]) (zi (jo rfl rfl) (zi (jo rfl rfl) (zm ac (zm (vi w.2) (z8 (q9 (zo (zl (.bool (decide ((↑aa.length:Int)=1))) (zi (tu rfl) (z8 (qa rfl b (fun b=>?_) (fun b=>?_))))))))))))
 refine zo (jd (v:=(vi e.2)) rfl (zg rfl) (jd rfl (uu rfl rfl) (jd (v:=(.bool (decide (e.2=7)))) rfl (zg rfl) (j5 rfl rfl rfl rfl (fun c=>qi (v:=(vi j.2)) (zg rfl)) fun b7 a9=>?_))));refine j5 rfl rfl rfl rfl (fun c=>qi (uu (a9.1 (zk rfl c)) rfl)) fun b8 ba=>?_
 refine jd rfl (uk rfl (fun n=>(ba.1 (zk rfl n))) rfl) ?_;let G5:=((decide (e.2=7))&&(decide (j.2=7)));refine jd (v:=(.bool G5)) rfl (zg rfl) (j5 rfl rfl rfl rfl (fun c=>qi (v:=(vi w.2)) (zg rfl)) fun b9 bc=>?_);refine j5 rfl rfl rfl rfl (fun c=>qi (uu (bc.1 (zk rfl c)) rfl)) fun ca be=>?_
 refine jd rfl (uk rfl (fun n=>(be.1 (zk rfl n))) rfl) (jd (v:=(.bool (G5&&(decide (w.2=7))))) rfl (zg rfl) ?_);obtain⟨ad,bf,b⟩:=zu b;refine af rfl rfl rfl rfl (fun c=>yh (vs:=[]) zwj rfl ((by have t:=(rf bf (zk rfl c));exact ll  t)) (fun _ _ h=>h)) fun bg bh ae W=>?_
 replace W:phG (true&&((G5&&(decide (w.2=7)))==true)) (phX (.bool (ad.getD default))) bg bh:=W;refine jd rfl (uk rfl (fun n=>(W.1 (zk rfl n))) rfl) ?_;let G2:=((((decide (e.2=7))&&(decide (j.2=7)))&&(decide (w.2=7)))&&(ad.getD default));refine jd (v:=(.bool G2)) rfl (iq rfl) (z8 (qw ?_));obtain rfl:=Option.some.inj b
 refine qh (D:=[]) (J:=[box O [(vi a.inputs),(vi a.outputs),q] 27]) (rs:=[.tmp 2]) (vs:=[(.bool G2)]) ((((((((E.trans z).trans C).trans f).trans g).trans k).trans m).trans l).trans ae) rfl rfl ⟨rfl,trivial⟩ ?_;exact⟨rfl,rfl⟩
 refine qc (q9 (zo (jd (v:=(vi e.2)) rfl (zg rfl) (jd rfl (ai rfl rfl) (jd (v:=(.bool (decide (e.2≠0)))) rfl (zg rfl) (j5 rfl rfl rfl rfl (fun c=>qi (v:=(vi j.2)) (zg rfl)) fun cb bi=>?_))))));refine j5 rfl rfl rfl rfl (fun c=>qi (ai (bi.1 (zk rfl c)) rfl)) fun cc bj=>?_
 refine jd rfl (z2k rfl rfl (fun n=>(bj.1 (zk rfl n)))) (jd (v:=(.bool ((decide (e.2≠0))||(decide (j.2≠0))))) rfl (zg rfl) (j5 rfl rfl rfl rfl (fun c=>qi (v:=F) (zg rfl)) fun bl ag=>?_));refine j5 rfl rfl rfl rfl (fun c=>qi (qx rfl underlying36 (ag.1 (zk rfl c)) (je (ab.mono l)))) fun bm ah=>?_
 refine j5 rfl rfl rfl rfl (fun c=>qi (v:=(vi e.1)) (zg rfl)) fun bn aj=>?_;refine j5 rfl rfl rfl rfl (fun c=>qi (ai (ah.1 (zk rfl c)) (aj.1 (zk rfl c)))) fun bo ak=>?_
 refine jd rfl (z2k rfl rfl (fun n=>(ak.1 (zk rfl n)))) (jd (v:=(.bool (((decide (e.2≠0))||(decide (j.2≠0)))||(decide ((↑j.1.length:Int)≠e.1))))) rfl (zg rfl) (j5 rfl rfl rfl rfl (fun c=>qi (v:=(vi e.1)) (zg rfl)) fun bp al=>?_))
 refine j5 rfl rfl rfl rfl (fun c=>qi (v:=(vi (↑u.length:Int))) (zg rfl)) fun bq am=>?_;refine j5 rfl rfl rfl rfl (fun c=>qi (jk (al.1 (zk rfl c)) (am.1 (zk rfl c)))) fun br an=>?_
 refine jd rfl (z2k rfl rfl (fun n=>(an.1 (zk rfl n)))) (jd (v:=(.bool ((((decide (e.2≠0))||(decide (j.2≠0)))||(decide ((↑j.1.length:Int)≠e.1)))||(decide (e.1<(↑u.length:Int)))))) rfl (zg rfl) (j5 rfl rfl rfl rfl (fun c=>qi (v:=(.agg #[(vi a.inputs),(vi a.outputs),q])) (xg (i:=0) z7w z3d rfl rfl rfl rfl)) fun bs ao=>?_))
 refine j5 rfl rfl rfl rfl (fun c=>qi (v:=F) (zg rfl)) fun bt ap=>?_;obtain⟨P,aq,b⟩:=zu b
 refine af rfl rfl rfl rfl (fun c=>yh (vs:=[(.agg #[(vi a.inputs),(vi a.outputs),q]),F,(.bool true)]) q1d (z02 (ao.1 (zk rfl c)) (z02 (ap.1 (zk rfl c)) (z02 rfl rfl))) ((by have t:=(rf aq (zk rfl c));exact z3c (⟨_,⟨_,_,rfl,rfl,⟨_,_,rfl,rfl,(kw rfl (s.mono ((((f.trans g).trans k).trans m).trans l)))⟩⟩,rfl⟩:VRep (jg false false) _ _ (⟨a.inputs,a.outputs,a.rows⟩:Mach)) (Sub.v (B:=(tSl false (zy .i64))) (uh Sub.refl (fun _=>rfl)) (ab.mono l)) t)) (fun _ _ h=>h)) fun ar au o G=>?_
 replace G:phG (true&&(((((decide (e.2≠0))||(decide (j.2≠0)))||(decide ((↑j.1.length:Int)≠e.1)))||(decide (e.1<(↑u.length:Int))))==false)) (phX (.bool (P.getD default))) ar au:=G;refine j5 rfl rfl rfl rfl (fun c=>qi (tu (G.1 (zk rfl c)))) fun bu av=>?_
 refine jd rfl (z2k rfl rfl (fun n=>(av.1 (zk rfl n)))) (jd (v:=(.bool (((((decide (e.2≠0))||(decide (j.2≠0)))||(decide ((↑j.1.length:Int)≠e.1)))||(decide (e.1<(↑u.length:Int))))||(!(P.getD default))))) rfl (zg rfl) (j5 rfl rfl rfl rfl (fun c=>qi (v:=(vi e.1)) (zg rfl)) fun bv aw=>?_))
 refine j5 rfl rfl rfl rfl (fun c=>qi (v:=(vi (↑u.length:Int))) (zg rfl)) fun bw ay=>?_;refine j5 rfl rfl rfl rfl (fun c=>qi (uu (aw.1 (zk rfl c)) (ay.1 (zk rfl c)))) fun bx az=>?_;refine j5 rfl rfl rfl rfl (fun c=>qi (v:=(vi w.2)) (zg rfl)) fun bz aA=>?_
 refine j5 rfl rfl rfl rfl (fun c=>qi (uu (aA.1 (zk rfl c)) rfl)) fun bA aB=>?_;refine j5 rfl rfl rfl rfl (fun c=>qi (zxy underlying4 (az.1 (zk rfl c)) (aB.1 (zk rfl c)))) fun bB aC=>?_;refine jd rfl (z2k rfl rfl (fun n=>(aC.1 (zk rfl n)))) (z8 (qa rfl b (fun b=>?_) (fun b=>?_)))
 refine zo (zm (.bool false) (z8 (qw ?_)));obtain rfl:=Option.some.inj b;refine qh (D:=[]) (J:=[box O [(vi a.inputs),(vi a.outputs),q] 27]) (rs:=[.tmp 2]) (vs:=[(.bool false)]) ((((((((E.trans z).trans C).trans f).trans g).trans k).trans m).trans l).trans o) rfl rfl ⟨rfl,trivial⟩ ?_;exact⟨rfl,rfl⟩
 refine qc (zo (zi (xg (i:=0) z7w z3d rfl rfl rfl rfl) ?_));obtain⟨d,aD,b⟩:=zu b
 refine jl rfl q0l rfl (zb6 (⟨_,⟨_,_,rfl,rfl,⟨_,_,rfl,rfl,(kw rfl (s.mono (((((f.trans g).trans k).trans m).trans l).trans o)))⟩⟩,rfl⟩:VRep (jg false false) _ _ (⟨a.inputs,a.outputs,a.rows⟩:Mach)) aD) fun bC bD y aE=>?_;obtain⟨p,rfl,H⟩:=aE
 refine zl (.tuple #[p,(vi d.2)]) (zi (jo rfl rfl) (zi (jo rfl rfl) (zm p (zm (vi d.2) (z8 (q9 (zo (zl (vi (↑u.length:Int)) (zi (z08 rfl rfl) (z8 (qa rfl b (fun b=>?_) (fun b=>?_))))))))))))
 refine zo (jd (v:=(vi d.2)) rfl (zg rfl) (jd rfl (uu rfl rfl) (jd (v:=(.bool (decide (d.2=3)))) rfl (zg rfl) (j5 rfl rfl rfl rfl (fun c=>qi (v:=p) (zg rfl)) fun bE aF=>?_))));refine j5 rfl rfl rfl rfl (fun c=>qi (qx rfl underlying36 (aF.1 (zk rfl c)) (je H))) fun bF aG=>?_
 refine j5 rfl rfl rfl rfl (fun c=>qi (uu (aG.1 (zk rfl c)) rfl)) fun bG aH=>?_;refine jd rfl (uk rfl (fun n=>(aH.1 (zk rfl n))) rfl) (jd (v:=(.bool ((decide (d.2=3))&&(decide ((↑d.1.length:Int)=0))))) rfl (zg rfl) ?_);obtain⟨Q,aI,b⟩:=zu b
 refine af rfl rfl rfl rfl (fun c=>yh (vs:=[]) zwj rfl ((by have t:=(rf aI (zk rfl c));exact ll  t)) (fun _ _ h=>h)) fun aJ aK X I=>?_;replace I:phG (true&&(((decide (d.2=3))&&(decide ((↑d.1.length:Int)=0)))==true)) (phX (.bool (Q.getD default))) aJ aK:=I
 refine jd rfl (uk rfl (fun n=>(I.1 (zk rfl n))) rfl) ?_;let G4:=(((decide (d.2=3))&&(decide ((↑d.1.length:Int)=0)))&&(Q.getD default));refine jd (v:=(.bool G4)) rfl (iq rfl) (z8 (qw ?_));obtain rfl:=Option.some.inj b
 refine qh (D:=[]) (J:=[box O [(vi a.inputs),(vi a.outputs),q] 27]) (rs:=[.tmp 2]) (vs:=[(.bool G4)]) ((((((((((E.trans z).trans C).trans f).trans g).trans k).trans m).trans l).trans o).trans y).trans X) rfl rfl ⟨rfl,trivial⟩ ?_;exact⟨rfl,rfl⟩
 refine qc (zo (jd (v:=(vi d.2)) rfl (zg rfl) (jd rfl (uu rfl rfl) (jd (v:=(.bool (decide (d.2=0)))) rfl (zg rfl) (j5 rfl rfl rfl rfl (fun c=>qi (v:=p) (zg rfl)) fun bI aL=>?_)))));refine j5 rfl rfl rfl rfl (fun c=>qi (qx rfl underlying36 (aL.1 (zk rfl c)) (je H))) fun bJ aM=>?_
 refine j5 rfl rfl rfl rfl (fun c=>qi (v:=(vi e.1)) (zg rfl)) fun bK aN=>?_;refine j5 rfl rfl rfl rfl (fun c=>qi (zry (aM.1 (zk rfl c)) (aN.1 (zk rfl c)))) fun bL aO=>?_
 refine jd rfl (uk rfl (fun n=>(aO.1 (zk rfl n))) rfl) (jd (v:=(.bool ((decide (d.2=0))&&(decide ((↑d.1.length:Int)≤e.1))))) rfl (zg rfl) (j5 rfl rfl rfl rfl (fun c=>qi (v:=(.agg #[(vi a.inputs),(vi a.outputs),q])) (xg (i:=0) z7w z3d rfl rfl rfl rfl)) fun bM aP=>?_))
 refine j5 rfl rfl rfl rfl (fun c=>qi (v:=p) (zg rfl)) fun bN aQ=>?_;obtain⟨K,aR,b⟩:=zu b
 refine af rfl rfl rfl rfl (fun c=>yh (vs:=[(.agg #[(vi a.inputs),(vi a.outputs),q]),p,(.bool false)]) q1d (z02 (aP.1 (zk rfl c)) (z02 (aQ.1 (zk rfl c)) (z02 rfl rfl))) ((by have t:=(rf aR (zk rfl c));exact z3c (⟨_,⟨_,_,rfl,rfl,⟨_,_,rfl,rfl,(kw rfl (s.mono ((((((f.trans g).trans k).trans m).trans l).trans o).trans y)))⟩⟩,rfl⟩:VRep (jg false false) _ _ (⟨a.inputs,a.outputs,a.rows⟩:Mach)) (Sub.v (B:=(tSl false (zy .i64))) (uh Sub.refl (fun _=>rfl)) H) t)) (fun _ _ h=>h)) fun aS aT Y L=>?_
 replace L:phG (true&&(((decide (d.2=0))&&(decide ((↑d.1.length:Int)≤e.1)))==true)) (phX (.bool (K.getD default))) aS aT:=L;refine jd rfl (uk rfl (fun n=>(L.1 (zk rfl n))) rfl) ?_;let G3:=(((decide (d.2=0))&&(decide ((↑d.1.length:Int)≤e.1)))&&(K.getD default));refine jd (v:=(.bool G3)) rfl (zg rfl) ?_
 obtain⟨S,aU,b⟩:=zu b;refine af rfl rfl rfl rfl (fun c=>yh (vs:=[]) zwj rfl ((by have t:=(rf aU (zk rfl c));exact ll  t)) (fun _ _ h=>h)) fun aV aW Z M=>?_;replace M:phG (true&&(G3==true)) (phX (.bool (S.getD default))) aV aW:=M
 refine jd rfl (uk rfl (fun n=>(M.1 (zk rfl n))) rfl) ?_;let G1:=((((decide (d.2=0))&&(decide ((↑d.1.length:Int)≤e.1)))&&(K.getD default))&&(S.getD default));refine jd (v:=(.bool G1)) rfl (iq rfl) (z8 (qw ?_));obtain rfl:=Option.some.inj b
 refine qh (D:=[]) (J:=[box O [(vi a.inputs),(vi a.outputs),q] 27]) (rs:=[.tmp 2]) (vs:=[(.bool G1)]) (((((((((((E.trans z).trans C).trans f).trans g).trans k).trans m).trans l).trans o).trans y).trans Y).trans Z) rfl rfl ⟨rfl,trivial⟩ ?_;exact⟨rfl,rfl⟩
end GV
end Go.Proofs.Ytdhccodneoebpaa
