import Derived.Test.YtplgbkaollfmkaaGreatShWa
import Derived.Test.YtplgbkaollfmkaaGreatShXa
import Derived.Test.YtplgbkaollfmkaaGreatShXb
import Derived.Test.YtplgbkaollfmkaaGreatShXc
import Derived.Test.YtplgbkaollfmkaaGreatShXd
import Derived.Test.YtplgbkaollfmkaaGreatShXe
import Derived.Test.YtplgbkaollfmkaaGreatShXf
import Derived.Test.YtplgbkaollfmkaaGreatShXg
import Derived.Test.YtplgbkaollfmkaaGreatShXh
import Derived.Test.YtplgbkaollfmkaaGreatShXi
import Derived.Test.YtplgbkaollfmkaaGreatRows
set_option linter.unusedVariables false
set_option linter.unusedSimpArgs false
namespace Go.Proofs.YtplgbkaollfmkaaGreat
namespace GV
open _root_.Go.Proofs.Tryz
open Go.IntWalk
set_option maxRecDepth 100000
set_option maxHeartbeats 20000000
theorem zaq{N:Nat}{R:RH}{x:Sg}{M:Value}(O:VRep (iq false false false) R M x){r:Bool}(a:z0i N x=some r):CallP prog 4 #[M] R (fun v R'=>v=(.bool r)):=by
 refine qf (args:=[M]) func4 rfl rfl fun A=>?_;rw [z0i] at a;refine zn (jy (T:=(iq false false false)) rfl rfl rfl O fun v1 R3 y h5 h2=>?_);refine zi (.bool false) (qw (zt (jh q9i rfl rfl h5 (O.mono y)) ?_));obtain⟨j,c7,a⟩:=zq a
 refine jb rfl en6 rfl (z9q (O.mono y) c7) fun v8 bG z h9=>?_;obtain⟨aR,n,rfl,aS,C⟩:=h9;refine zg (.tuple #[aR,n]) (zt (jv rfl rfl) (zt (jv rfl rfl) (uq rfl zn5 fun H=>?_)));obtain⟨s,rfl,t⟩:=z6u aS
 refine jo (i:=0) (vs:=[(vi j.1.inputs),(vi j.1.outputs),s]) z6y rfl rfl rfl rfl rfl rfl (qg rfl (qg rfl (qg (z5g t) kg))) ?_;refine zi n (qw (zt (yg (i:=0) zbg z6y rfl rfl rfl rfl) (zg n ?_)));obtain⟨e,aT,a⟩:=zq a
 refine jb rfl q9o rfl (zfj (⟨_,⟨_,_,rfl,rfl,⟨_,_,rfl,rfl,(ku rfl t)⟩⟩,rfl⟩:VRep (je false false) _ _ (⟨j.1.inputs,j.1.outputs,j.1.rows⟩:Mach)) C aT) fun bI bJ f aU=>?_;obtain⟨l,rfl,u⟩:=aU
 refine zg (.tuple #[l,(vi e.2)]) (zt (jv rfl rfl) (zt (jv rfl rfl) (zi l (zi (vi e.2) (z8 (qa (zn (zt (yg (i:=0) zbg z6y rfl rfl rfl rfl) (zg n ?_)))))))));obtain⟨o,aV,a⟩:=zq a
 refine jb rfl en9 rfl (zah (⟨_,⟨_,_,rfl,rfl,⟨_,_,rfl,rfl,(ku rfl (t.mono f))⟩⟩,rfl⟩:VRep (je false false) _ _ (⟨j.1.inputs,j.1.outputs,j.1.rows⟩:Mach)) (C.mono f) aV) fun bK bL c aW=>?_;obtain rfl:=aW
 refine zi (vi o) (qw (zg (vi o) (zt (vk rfl rfl) (z8 (zu rfl a (fun a=>?_) (fun a=>?_))))))
 refine zn (jm (v:=(vi e.2)) rfl (zb rfl) (jm (v:=(vi o)) rfl (zb rfl) (jm rfl (xy rfl rfl) (jm (v:=(.bool (decide (e.2=o)))) rfl (zb rfl) (j4 rfl rfl rfl rfl (fun b=>qy (v:=l) (zb rfl)) fun bM aX=>?_)))))
 refine j4 rfl rfl rfl rfl (fun b=>qy (qj rfl underlying33 (aX.1 (zm rfl b)) (j3 (u.mono c)))) fun bN aY=>?_;refine j4 rfl rfl rfl rfl (fun b=>qy (xy (aY.1 (zm rfl b)) rfl)) fun bO aZ=>?_
 refine jm rfl (wu rfl (fun w=>(aZ.1 (zm rfl w))) rfl) (jm (v:=(.bool ((decide (e.2=o))&&(decide ((↑e.1.length:Int)=0))))) rfl (zb rfl) ?_);obtain⟨Y,a0,a⟩:=zq a
 refine z3c rfl rfl rfl rfl (fun b=>ut (vs:=[]) q4i rfl ((by have m:=(lv a0 (zm rfl b));exact z4r  m)) (fun _ _ h=>h)) fun a1 a2 Z P=>?_;replace P:phG (true&&(((decide (e.2=o))&&(decide ((↑e.1.length:Int)=0)))==true)) (phX (.bool (Y.getD default))) a1 a2:=P
 refine jm rfl (wu rfl (fun w=>(P.1 (zm rfl w))) rfl) ?_;let G1:=(((decide (e.2=o))&&(decide ((↑e.1.length:Int)=0)))&&(Y.getD default));refine jm (v:=(.bool G1)) rfl (z0m rfl) (z8 (qx ?_));obtain rfl:=Option.some.inj a
 refine qc (D:=[]) (J:=[box H [(vi j.1.inputs),(vi j.1.outputs),s] 32]) (rs:=[.tmp 2]) (vs:=[(.bool G1)]) ((((y.trans z).trans f).trans c).trans Z) rfl rfl ⟨rfl,trivial⟩ ?_;exact⟨rfl,rfl⟩
 refine q9 (zn (zt (qb uy rfl) (zt (qd (i:=0) zqh rfl rfl rfl) (zt (qj rfl underlying30 rfl (j3 (t.mono (f.trans c)))) (zi (vi (↑j.1.rows.length:Int)) (z8 (qa (zn (jm (v:=(vi e.2)) rfl (zb rfl) (jm rfl (vk rfl rfl) (jm (v:=(.bool (decide (e.2≠0)))) rfl (zb rfl) (j4 rfl rfl rfl rfl (fun b=>qy (v:=l) (zb rfl)) fun bP a3=>?_))))))))))))
 refine j4 rfl rfl rfl rfl (fun b=>qy (v:=(.agg #[(vi j.1.inputs),(vi j.1.outputs),s])) (yg (i:=0) zbg z6y rfl rfl rfl rfl)) fun bQ a4=>?_;refine j4 rfl rfl rfl rfl (fun b=>qy (v:=n) (zb rfl)) fun bR a5=>?_;obtain⟨a6,a7,a⟩:=zq a
 refine z3c rfl rfl rfl rfl (fun b=>ut (vs:=[(.agg #[(vi j.1.inputs),(vi j.1.outputs),s]),n]) qa7 (z7m (a4.1 (zm rfl b)) (z7m (a5.1 (zm rfl b)) rfl)) ((by have m:=(lv a7 (zm rfl b));exact ze7 (⟨_,⟨_,_,rfl,rfl,⟨_,_,rfl,rfl,(ku rfl (t.mono (f.trans c)))⟩⟩,rfl⟩:VRep (je false false) _ _ (⟨j.1.inputs,j.1.outputs,j.1.rows⟩:Mach)) (C.mono (f.trans c)) m)) (fun _ _ h=>h)) fun aa a8 g Q=>?_
 replace Q:phG (true&&((decide (e.2≠0))==false)) (phR (tSl false (zw .i64)) (a6.getD default)) aa a8:=Q;obtain⟨S,a9,a⟩:=zq a
 refine z3c rfl rfl rfl rfl (fun b=>ut (vs:=[l,aa]) zqs (z7m (((qi zk) _ _ _ g a3).1 (zm rfl b)) (z7m rfl rfl)) ((by have m:=(lv a9 (zm rfl b));exact ae (Sub.v (B:=(tSl false (zw .i64))) (kv Sub.refl (fun _=>rfl)) (u.mono (c.trans g))) (Q.1 (zm rfl b)) m)) (fun _ _ h=>h)) fun ba bb k U=>?_
 replace U:phG (true&&((decide (e.2≠0))==false)) (phX (.bool (S.getD default))) ba bb:=U;refine j4 rfl rfl rfl rfl (fun b=>qy (lu (U.1 (zm rfl b)))) fun bS bc=>?_
 refine jm rfl (z0l rfl rfl (fun w=>(bc.1 (zm rfl w)))) (jm (v:=(.bool ((decide (e.2≠0))||(!(S.getD default))))) rfl (zb rfl) (j4 rfl rfl rfl rfl (fun b=>qy (v:=l) (zb rfl)) fun bT be=>?_))
 refine j4 rfl rfl rfl rfl (fun b=>qy (zn4 rfl underlying33 (be.1 (zm rfl b)) (u.mono ((c.trans g).trans k)))) fun bU bf=>?_;refine j4 rfl rfl rfl rfl (fun b=>qy (v:=l) (zb rfl)) fun bV bg=>?_
 refine j4 rfl rfl rfl rfl (fun b=>qy (qj rfl underlying33 (bg.1 (zm rfl b)) (j3 (u.mono ((c.trans g).trans k))))) fun bW ab=>?_;refine j4 rfl rfl rfl rfl (fun b=>qy (vk (bf.1 (zm rfl b)) (ab.1 (zm rfl b)))) fun bi ac=>?_
 refine jm rfl (z0l rfl rfl (fun w=>(ac.1 (zm rfl w)))) (jm (v:=(.bool (((decide (e.2≠0))||(!(S.getD default)))||(decide ((↑e.1.length:Int)≠(↑e.1.length:Int)))))) rfl (zb rfl) (j4 rfl rfl rfl rfl (fun b=>qy (v:=l) (zb rfl)) fun bj ad=>?_))
 refine j4 rfl rfl rfl rfl (fun b=>qy (qj rfl underlying33 (ad.1 (zm rfl b)) (j3 (u.mono ((c.trans g).trans k))))) fun bk af=>?_;refine j4 rfl rfl rfl rfl (fun b=>qy (v:=(vi (↑j.1.rows.length:Int))) (zb rfl)) fun bl ag=>?_
 refine j4 rfl rfl rfl rfl (fun b=>qy (v:=(.pointer (some ⟨H,0,none⟩))) (qb ll rfl)) fun bm ah=>?_;refine j4 rfl rfl rfl rfl (fun b=>qy (v:=(vi j.1.inputs)) (qd (i:=0) ag3 (ah.1 (zm rfl b)) rfl rfl)) fun bn ai=>?_;obtain⟨aj,a⟩:=ze a
 refine j4 rfl rfl rfl rfl (fun b=>qy (zby (ag.1 (zm rfl b)) (ai.1 (zm rfl b)) (aj (zm rfl b)))) fun bo ak=>?_;refine j4 rfl rfl rfl rfl (fun b=>qy (v:=(vi (↑j.1.rows.length:Int))) (zb rfl)) fun bp al=>?_;obtain⟨am,a⟩:=ze a
 refine j4 rfl rfl rfl rfl (fun b=>qy (qz (ak.1 (zm rfl b)) (al.1 (zm rfl b)) (am (zm rfl b)))) fun bq an=>?_;obtain⟨ao,a⟩:=ze a;refine j4 rfl rfl rfl rfl (fun b=>qy (qz (an.1 (zm rfl b)) rfl (ao (zm rfl b)))) fun br ap=>?_
 refine j4 rfl rfl rfl rfl (fun b=>qy (v:=(vi (↑j.1.rows.length:Int))) (zb rfl)) fun bs aq=>?_;obtain⟨ar,a⟩:=ze a;refine j4 rfl rfl rfl rfl (fun b=>qy (zby rfl (aq.1 (zm rfl b)) (ar (zm rfl b)))) fun bt au=>?_;refine j4 rfl rfl rfl rfl (fun b=>qy (v:=n) (zb rfl)) fun bu av=>?_
 refine j4 rfl rfl rfl rfl (fun b=>qy (qj rfl underlying33 (av.1 (zm rfl b)) (j3 (C.mono (((f.trans c).trans g).trans k))))) fun bv aw=>?_;obtain⟨ax,a⟩:=ze a;refine j4 rfl rfl rfl rfl (fun b=>qy (zby rfl (aw.1 (zm rfl b)) (ax (zm rfl b)))) fun bw ay=>?_;obtain⟨az,a⟩:=ze a
 refine j4 rfl rfl rfl rfl (fun b=>qy (qz (au.1 (zm rfl b)) (ay.1 (zm rfl b)) (az (zm rfl b)))) fun bx aA=>?_;obtain⟨aB,a⟩:=ze a;refine j4 rfl rfl rfl rfl (fun b=>qy (zby (ap.1 (zm rfl b)) (aA.1 (zm rfl b)) (aB (zm rfl b)))) fun bz aC=>?_
 refine j4 rfl rfl rfl rfl (fun b=>qy (z4n (af.1 (zm rfl b)) (aC.1 (zm rfl b)))) fun bA aD=>?_;refine jm rfl (z0l rfl rfl (fun w=>(aD.1 (zm rfl w)))) (z8 (zu rfl a (fun a=>?_) (fun a=>?_)));refine zn (zi (.bool false) (z8 (qx ?_)));obtain rfl:=Option.some.inj a
 refine qc (D:=[]) (J:=[box H [(vi j.1.inputs),(vi j.1.outputs),s] 32]) (rs:=[.tmp 2]) (vs:=[(.bool false)]) (((((y.trans z).trans f).trans c).trans g).trans k) rfl rfl ⟨rfl,trivial⟩ ?_;exact⟨rfl,rfl⟩;refine q9 (zn (zt (yg (i:=0) zbg z6y rfl rfl rfl rfl) (zg n (zg l ?_))));obtain⟨d,aE,a⟩:=zq a
 refine jb rfl en8 rfl (zaa (⟨_,⟨_,_,rfl,rfl,⟨_,_,rfl,rfl,(ku rfl (t.mono (((f.trans c).trans g).trans k)))⟩⟩,rfl⟩:VRep (je false false) _ _ (⟨j.1.inputs,j.1.outputs,j.1.rows⟩:Mach)) (C.mono (((f.trans c).trans g).trans k)) (Sub.v (B:=(tSl false (zw .i64))) (kv Sub.refl (fun _=>rfl)) (u.mono ((c.trans g).trans k))) aE) fun bB bC V aF=>?_
 obtain⟨aG,rfl,aH⟩:=aF;refine zg (.tuple #[aG,(vi d.2)]) (zt (jv rfl rfl) (zt (jv rfl rfl) (uq rfl zvr fun aI=>?_)));obtain⟨p,q,rfl,I,K⟩:=z6q aH
 refine jo (i:=0) (vs:=[(.bool d.1.fF),p,q]) zgd rfl rfl rfl rfl rfl rfl (qg rfl (qg (z5g I) (qg (z5g K) kg))) ?_
 refine zi (vi d.2) (qw (jm (v:=(vi d.2)) rfl (zb rfl) (jm rfl (xy rfl rfl) (jm (v:=(.bool (decide (d.2=0)))) rfl (zb rfl) (j4 rfl rfl rfl rfl (fun b=>qy (v:=(.agg #[(.bool d.1.fF),p,q])) (yg (i:=0) zt6 zgd rfl rfl rfl rfl)) fun bD aJ=>?_)))));obtain⟨L,aK,a⟩:=zq a
 refine z3c rfl rfl rfl rfl (fun b=>ut (vs:=[(.agg #[(.bool d.1.fF),p,q])]) qam (z7m (aJ.1 (zm rfl b)) rfl) ((by have m:=(lv aK (zm rfl b));exact zce (⟨_,⟨_,_,rfl,rfl,⟨_,_,rfl,(ku rfl (Sub.v (B:=(tSl false (zw .i64))) (kv Sub.refl (fun _=>rfl)) I)),(ku rfl (Sub.v (B:=(tSl false kA2tInti64)) (kv Sub.refl (fun _=>rfl)) K))⟩⟩,rfl⟩:VRep (uw false false) _ _ (⟨d.1.fF,d.1.fB,d.1.fD⟩:Sa)) m)) (fun _ _ h=>h)) fun aL aM W E=>?_
 replace E:phG (true&&((decide (d.2=0))==true)) (phX (.bool (L.getD default))) aL aM:=E;refine jm rfl (wu rfl (fun w=>(E.1 (zm rfl w))) rfl) ?_;let G2:=((decide (d.2=0))&&(L.getD default));refine jm (v:=(.bool G2)) rfl (zb rfl) ?_;obtain⟨F,aN,a⟩:=zq a
 refine z3c rfl rfl rfl rfl (fun b=>ut (vs:=[]) q4i rfl ((by have m:=(lv aN (zm rfl b));exact z4r  m)) (fun _ _ h=>h)) fun aO aP X G=>?_;replace G:phG (true&&(G2==true)) (phX (.bool (F.getD default))) aO aP:=G
 refine jm rfl (wu rfl (fun w=>(G.1 (zm rfl w))) rfl) (jm (v:=(.bool (G2&&(F.getD default)))) rfl (z0m rfl) (z8 (qx ?_)));obtain rfl:=Option.some.inj a
 refine qc (D:=[]) (J:=[box aI [(.bool d.1.fF),p,q] 39,box H [(vi j.1.inputs),(vi j.1.outputs),s] 32]) (rs:=[.tmp 2]) (vs:=[(.bool (G2&&(F.getD default)))]) ((((((((y.trans z).trans f).trans c).trans g).trans k).trans V).trans W).trans X) rfl rfl ⟨rfl,trivial⟩ ?_;exact⟨rfl,rfl⟩
end GV
end Go.Proofs.YtplgbkaollfmkaaGreat
