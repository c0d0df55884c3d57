import Derived.Test.YtdhccodneoebpaaShWe
import Derived.Test.YtdhccodneoebpaaShXa
import Derived.Test.YtdhccodneoebpaaShXb
import Derived.Test.YtdhccodneoebpaaShXc
import Derived.Test.YtdhccodneoebpaaShXe
import Derived.Test.YtdhccodneoebpaaShXg
import Derived.Test.YtdhccodneoebpaaShXh
import Derived.Test.YtdhccodneoebpaaShXk
import Derived.Test.YtdhccodneoebpaaRows
set_option linter.unusedVariables false
set_option linter.unusedSimpArgs false
set_option linter.unusedSectionVars false
namespace Go.Proofs.Ytdhccodneoebpaa
namespace GV
open _root_.Go.Proofs.Try
open Go.IntWalk
set_option maxRecDepth 100000
set_option maxHeartbeats 20000000
theorem z8f{N:Nat}{R:RH}{x:Sg}{E:Value}(F:VRep (mh false) R E x){r:Bool}(d:oz N x=some r):CallP prog 6 #[E] R (fun v R'=>v=(.bool r)):=by
 refine qp (args:=[E]) func6 rfl rfl fun A=>?_;rw [oz] at d;refine zo (y5 (T:=(mh false)) rfl rfl rfl F fun v1 R3 y h5 h2=>?_);refine zm (.bool false) (j4 (zi (ko q4u rfl rfl h5 (F.mono y)) ?_));obtain⟨f,c7,d⟩:=zu d
 refine jl rfl q5j rfl (zcy (F.mono y) c7) fun v8 a0 z h9=>?_;refine jc rfl zg0 fun K=>?_;obtain⟨p,rfl,q⟩:=z6q h9;refine ql (i:=0) (vs:=[(vi f.inputs),(vi f.outputs),p]) z3d rfl rfl rfl rfl rfl rfl (qb rfl (qb rfl (qb (zhq q) qy))) ?_
 refine j4 (zi (xg (i:=0) z7w z3d rfl rfl rfl rfl) ?_);obtain⟨a,ak,d⟩:=zu d;refine jl rfl q20 rfl (z8w (⟨_,⟨_,_,rfl,rfl,⟨_,_,rfl,rfl,(kw rfl q)⟩⟩,rfl⟩:VRep (jg false false) _ _ (⟨f.inputs,f.outputs,f.rows⟩:Mach)) ak) fun a2 a3 j al=>?_;obtain rfl:=al
 refine zl (.tuple #[(vi a.1),(vi a.2)]) (zi (jo rfl rfl) (zi (jo rfl rfl) (zm (vi a.1) (zm (vi a.2) (j4 (zi (xg (i:=0) z7w z3d rfl rfl rfl rfl) ?_))))));obtain⟨c,am,d⟩:=zu d
 refine jl rfl q28 rfl (za2 (⟨_,⟨_,_,rfl,rfl,⟨_,_,rfl,rfl,(kw rfl (q.mono j))⟩⟩,rfl⟩:VRep (jg false false) _ _ (⟨f.inputs,f.outputs,f.rows⟩:Mach)) am) fun a4 a5 n an=>?_;obtain⟨k,rfl,s⟩:=an
 refine zl (.tuple #[k,(vi c.2)]) (zi (jo rfl rfl) (zi (jo rfl rfl) (zm k (zm (vi c.2) (j4 (zi (xg (i:=0) z7w z3d rfl rfl rfl rfl) ?_))))));obtain⟨l,ao,d⟩:=zu d
 refine jl rfl q5w rfl (zcn (⟨_,⟨_,_,rfl,rfl,⟨_,_,rfl,rfl,(kw rfl (q.mono (j.trans n)))⟩⟩,rfl⟩:VRep (jg false false) _ _ (⟨f.inputs,f.outputs,f.rows⟩:Mach)) ao) fun a6 a7 e ap=>?_;obtain⟨G,rfl,aq⟩:=ap
 refine zl (.tuple #[G,(.bool l.2)]) (zi (jo rfl rfl) (zi (jo rfl rfl) (zm G (zm (.bool l.2) (z8 (q9 (zo (zl (.bool l.2) (zi (tu rfl) (z8 (qa rfl d (fun d=>?_) (fun d=>?_))))))))))))
 refine zo (jd (v:=(vi a.2)) rfl (zg rfl) (jd rfl (uu rfl rfl) (jd (v:=(.bool (decide (a.2=7)))) rfl (zg rfl) (j5 rfl rfl rfl rfl (fun b=>qi (v:=(vi c.2)) (zg rfl)) fun a8 ar=>?_))));refine j5 rfl rfl rfl rfl (fun b=>qi (uu (ar.1 (zk rfl b)) rfl)) fun a9 au=>?_
 refine jd rfl (uk rfl (fun g=>(au.1 (zk rfl g))) rfl) (jd (v:=(.bool ((decide (a.2=7))&&(decide (c.2=7))))) rfl (zg rfl) (j5 rfl rfl rfl rfl (fun b=>qi (v:=(vi a.1)) (zg rfl)) fun ba av=>?_));refine j5 rfl rfl rfl rfl (fun b=>qi (uu (av.1 (zk rfl b)) rfl)) fun bb aw=>?_
 refine jd rfl (uk rfl (fun g=>(aw.1 (zk rfl g))) rfl) (jd (v:=(.bool (((decide (a.2=7))&&(decide (c.2=7)))&&(decide (a.1=0))))) rfl (zg rfl) (j5 rfl rfl rfl rfl (fun b=>qi (v:=k) (zg rfl)) fun bc ax=>?_))
 refine j5 rfl rfl rfl rfl (fun b=>qi (qx rfl underlying36 (ax.1 (zk rfl b)) (je (s.mono e)))) fun be ay=>?_;refine j5 rfl rfl rfl rfl (fun b=>qi (uu (ay.1 (zk rfl b)) rfl)) fun bf az=>?_;refine jd rfl (uk rfl (fun g=>(az.1 (zk rfl g))) rfl) ?_
 let G5:=((((decide (a.2=7))&&(decide (c.2=7)))&&(decide (a.1=0)))&&(decide ((↑c.1.length:Int)=0)));refine jd (v:=(.bool G5)) rfl (zg rfl) ?_;obtain⟨L,aA,d⟩:=zu d
 refine af rfl rfl rfl rfl (fun b=>yh (vs:=[]) zwj rfl ((by have t:=(rf aA (zk rfl b));exact ll  t)) (fun _ _ h=>h)) fun aB aC M H=>?_;replace H:phG (true&&(G5==true)) (phX (.bool (L.getD default))) aB aC:=H;refine jd rfl (uk rfl (fun g=>(H.1 (zk rfl g))) rfl) ?_
 let G3:=(((((decide (a.2=7))&&(decide (c.2=7)))&&(decide (a.1=0)))&&(decide ((↑c.1.length:Int)=0)))&&(L.getD default));refine jd (v:=(.bool G3)) rfl (iq rfl) (z8 (qw ?_));obtain rfl:=Option.some.inj d
 refine qh (D:=[]) (J:=[box K [(vi f.inputs),(vi f.outputs),p] 27]) (rs:=[.tmp 2]) (vs:=[(.bool G3)]) (((((y.trans z).trans j).trans n).trans e).trans M) rfl rfl ⟨rfl,trivial⟩ ?_;exact⟨rfl,rfl⟩
 refine qc (zo (jd (v:=(vi a.2)) rfl (zg rfl) (jd rfl (uu rfl rfl) (jd (v:=(.bool (decide (a.2=0)))) rfl (zg rfl) (j5 rfl rfl rfl rfl (fun b=>qi (v:=(vi c.2)) (zg rfl)) fun bg aD=>?_)))));refine j5 rfl rfl rfl rfl (fun b=>qi (uu (aD.1 (zk rfl b)) rfl)) fun bh aE=>?_
 refine jd rfl (uk rfl (fun g=>(aE.1 (zk rfl g))) rfl) (jd (v:=(.bool ((decide (a.2=0))&&(decide (c.2=0))))) rfl (zg rfl) (j5 rfl rfl rfl rfl (fun b=>qi (v:=(vi a.1)) (zg rfl)) fun bi aF=>?_));refine j5 rfl rfl rfl rfl (fun b=>qi (v:=G) (zg rfl)) fun bj aG=>?_
 refine j5 rfl rfl rfl rfl (fun b=>qi (qx rfl underlying36 (aG.1 (zk rfl b)) (je aq))) fun bk O=>?_;refine j5 rfl rfl rfl rfl (fun b=>qi (uu (aF.1 (zk rfl b)) (O.1 (zk rfl b)))) fun aK P=>?_
 refine jd rfl (uk rfl (fun g=>(P.1 (zk rfl g))) rfl) (jd (v:=(.bool (((decide (a.2=0))&&(decide (c.2=0)))&&(decide (a.1=(↑l.1.length:Int)))))) rfl (zg rfl) (j5 rfl rfl rfl rfl (fun b=>qi (v:=k) (zg rfl)) fun aL Q=>?_))
 refine j5 rfl rfl rfl rfl (fun b=>qi (qx rfl underlying36 (Q.1 (zk rfl b)) (je (s.mono e)))) fun aM S=>?_;refine j5 rfl rfl rfl rfl (fun b=>qi (v:=(vi a.1)) (zg rfl)) fun aN U=>?_;refine j5 rfl rfl rfl rfl (fun b=>qi (uu (S.1 (zk rfl b)) (U.1 (zk rfl b)))) fun aO V=>?_
 refine jd rfl (uk rfl (fun g=>(V.1 (zk rfl g))) rfl) ?_;let G4:=((((decide (a.2=0))&&(decide (c.2=0)))&&(decide (a.1=(↑l.1.length:Int))))&&(decide ((↑c.1.length:Int)=a.1)))
 refine jd (v:=(.bool G4)) rfl (zg rfl) (j5 rfl rfl rfl rfl (fun b=>qi (v:=(.agg #[(vi f.inputs),(vi f.outputs),p])) (xg (i:=0) z7w z3d rfl rfl rfl rfl)) fun aP W=>?_);refine j5 rfl rfl rfl rfl (fun b=>qi (v:=k) (zg rfl)) fun aQ X=>?_;obtain⟨o,Y,d⟩:=zu d
 refine af rfl rfl rfl rfl (fun b=>yh (vs:=[(.agg #[(vi f.inputs),(vi f.outputs),p]),k,(.bool true)]) q1d (z02 (W.1 (zk rfl b)) (z02 (X.1 (zk rfl b)) (z02 rfl rfl))) ((by have t:=(rf Y (zk rfl b));exact z3c (⟨_,⟨_,_,rfl,rfl,⟨_,_,rfl,rfl,(kw rfl (q.mono ((j.trans n).trans e)))⟩⟩,rfl⟩:VRep (jg false false) _ _ (⟨f.inputs,f.outputs,f.rows⟩:Mach)) (Sub.v (B:=(tSl false (zy .i64))) (uh Sub.refl (fun _=>rfl)) (s.mono e)) t)) (fun _ _ h=>h)) fun Z aa m u=>?_
 replace u:phG (true&&(G4==true)) (phX (.bool (o.getD default))) Z aa:=u;refine jd rfl (uk rfl (fun g=>(u.1 (zk rfl g))) rfl) (jd (v:=(.bool (G4&&(o.getD default)))) rfl (zg rfl) (j5 rfl rfl rfl rfl (fun b=>qi (v:=k) (zg rfl)) fun aR ab=>?_))
 refine j5 rfl rfl rfl rfl (fun b=>qi (zw6 rfl underlying36 (ab.1 (zk rfl b)) (s.mono (e.trans m)))) fun aS ac=>?_;refine j5 rfl rfl rfl rfl (fun b=>qi (v:=k) (zg rfl)) fun aT ad=>?_
 refine j5 rfl rfl rfl rfl (fun b=>qi (qx rfl underlying36 (ad.1 (zk rfl b)) (je (s.mono (e.trans m))))) fun aU ae=>?_;refine j5 rfl rfl rfl rfl (fun b=>qi (uu (ac.1 (zk rfl b)) (ae.1 (zk rfl b)))) fun aV ag=>?_;refine jd rfl (uk rfl (fun g=>(ag.1 (zk rfl g))) rfl) ?_
 let G2:=((((((decide (a.2=0))&&(decide (c.2=0)))&&(decide (a.1=(↑l.1.length:Int))))&&(decide ((↑c.1.length:Int)=a.1)))&&(o.getD default))&&(decide ((↑c.1.length:Int)=(↑c.1.length:Int))));refine jd (v:=(.bool G2)) rfl (zg rfl) ?_;obtain⟨C,ah,d⟩:=zu d
 refine af rfl rfl rfl rfl (fun b=>yh (vs:=[]) zwj rfl ((by have t:=(rf ah (zk rfl b));exact ll  t)) (fun _ _ h=>h)) fun ai aj I w=>?_;replace w:phG (true&&(G2==true)) (phX (.bool (C.getD default))) ai aj:=w;refine jd rfl (uk rfl (fun g=>(w.1 (zk rfl g))) rfl) ?_
 let G1:=(((((((decide (a.2=0))&&(decide (c.2=0)))&&(decide (a.1=(↑l.1.length:Int))))&&(decide ((↑c.1.length:Int)=a.1)))&&(o.getD default))&&(decide ((↑c.1.length:Int)=(↑c.1.length:Int))))&&(C.getD default));refine jd (v:=(.bool G1)) rfl (iq rfl) (z8 (qw ?_));obtain rfl:=Option.some.inj d
 refine qh (D:=[]) (J:=[box K [(vi f.inputs),(vi f.outputs),p] 27]) (rs:=[.tmp 2]) (vs:=[(.bool G1)]) ((((((y.trans z).trans j).trans n).trans e).trans m).trans I) rfl rfl ⟨rfl,trivial⟩ ?_;exact⟨rfl,rfl⟩
end GV
end Go.Proofs.Ytdhccodneoebpaa
