import Derived.Test.YtdhccodneoebpaaShWe
import Derived.Test.YtdhccodneoebpaaShXa
import Derived.Test.YtdhccodneoebpaaShXb
import Derived.Test.YtdhccodneoebpaaShXc
import Derived.Test.YtdhccodneoebpaaShXd
import Derived.Test.YtdhccodneoebpaaShXe
import Derived.Test.YtdhccodneoebpaaShXf
import Derived.Test.YtdhccodneoebpaaShXg
import Derived.Test.YtdhccodneoebpaaShXh
import Derived.Test.YtdhccodneoebpaaShXk
import Derived.Test.YtdhccodneoebpaaRows
set_option linter.unusedVariables false
set_option linter.unusedSimpArgs false
set_option linter.unusedSectionVars false
namespace Go.Proofs.Ytdhccodneoebpaa
namespace GV
open _root_.Go.Proofs.Try
open Go.IntWalk
set_option maxRecDepth 100000
set_option maxHeartbeats 20000000
theorem z8v{N:Nat}{R:RH}{x:Sg}{K:Value}(L:VRep (gq false) R K x){round:Bool}{r:Bool}(b:av N x round=some r):CallP prog 4 #[K,(.bool round)] R (fun v R'=>v=(.bool r)):=by
 refine qo (args:=[K,(.bool round)]) func4 rfl rfl fun A=>?_;rw [av] at b;refine zt (vo (T:=(gq false)) rfl rfl rfl L fun v1 R3 E h5 h2=>?_);refine zn (.bool false) (j5 (zi (jo q1t rfl rfl h5 (L.mono E)) ?_));obtain⟨e,c7,b⟩:=zu b
 refine jl rfl q1j rfl (z6z (L.mono E) c7) fun v8 a1 H h9=>?_;refine jc rfl zid fun Q=>?_;obtain⟨m,rfl,s⟩:=z6h h9;refine qm (i:=0) (vs:=[(vi e.inputs),(vi e.outputs),m]) z5h rfl rfl rfl rfl rfl rfl (qb rfl (qb rfl (qb (zhv s) j3))) ?_
 refine j5 (zi (nk (i:=0) zba z5h rfl rfl rfl rfl) (zl (.bool round) ?_));obtain⟨n,al,b⟩:=zu b;refine jl rfl zzz rfl (zaz (⟨_,⟨_,_,rfl,rfl,⟨_,_,rfl,rfl,(u7 rfl s)⟩⟩,rfl⟩:VRep (jf false false) _ _ (⟨e.inputs,e.outputs,e.rows⟩:Mach)) al) fun a3 a4 k am=>?_;obtain⟨l,rfl,F⟩:=am
 refine zl (.tuple #[l,(vi n.2)]) (zi (jv rfl rfl) (zi (jv rfl rfl) (zn l (zn (vi n.2) (j5 (zi (nk (i:=0) zba z5h rfl rfl rfl rfl) (zl (.bool round) ?_)))))));obtain⟨c,an,b⟩:=zu b
 refine jl rfl q44 rfl (zbv (⟨_,⟨_,_,rfl,rfl,⟨_,_,rfl,rfl,(u7 rfl (s.mono k))⟩⟩,rfl⟩:VRep (jf false false) _ _ (⟨e.inputs,e.outputs,e.rows⟩:Mach)) an) fun a5 a6 f ao=>?_;obtain⟨G,rfl,ap⟩:=ao
 refine zl (.tuple #[G,(.bool c.2)]) (zi (jv rfl rfl) (zi (jv rfl rfl) (zn G (zn (.bool c.2) (z8 (zy (zt (ji (v:=(vi n.2)) rfl (zf rfl) (ji rfl (xe rfl rfl) (ji (v:=(.bool c.2)) rfl (zf rfl) (ji rfl (zmv underlying4 rfl rfl) (ji (v:=(.bool (decide ((decide (n.2=0))≠c.2)))) rfl (zf rfl) (j6 rfl rfl rfl rfl (fun a=>qi (v:=(.bool c.2)) (zf rfl)) fun a7 aq=>?_)))))))))))))
 refine j6 rfl rfl rfl rfl (fun a=>qi (p9 (aq.1 (zk rfl a)))) fun a8 ar=>?_;refine j6 rfl rfl rfl rfl (fun a=>qi (v:=(.bool (!c.2))) (zf (ar.1 (zk rfl a)))) fun a9 M=>?_;refine z7x rfl rfl rfl M (fun q a=>qi (v:=(vi n.2)) (zf rfl)) fun ba au=>?_
 refine z7x rfl rfl rfl M (fun q a=>qi (tu (au.1 (zk q a)) rfl)) fun bb aw=>?_;refine j6 rfl rfl rfl rfl (fun a=>qi (y5 (M.1 (zk rfl a)) (fun o=>(aw.1 (zk (zk rfl a) o))) rfl)) fun bc ay=>?_;refine ji rfl (l7 rfl rfl (fun o=>(ay.1 (zk rfl o)))) ?_
 let G3:=((decide ((decide (n.2=0))≠c.2))||((!c.2)&&(decide (n.2≠7))));refine ji (v:=(.bool G3)) rfl (zf rfl) (j6 rfl rfl rfl rfl (fun a=>qi (v:=l) (zf rfl)) fun be aA=>?_);refine j6 rfl rfl rfl rfl (fun a=>qi (v:=G) (zf rfl)) fun bf aB=>?_;obtain⟨S,aC,b⟩:=zu b
 refine ic rfl rfl rfl rfl (fun a=>vk (vs:=[l,G]) zrw (l9 (aA.1 (zk rfl a)) (l9 (aB.1 (zk rfl a)) rfl)) ((by have p:=(sj aC (zk rfl a));exact ax (Sub.v (B:=(tSl false (zz .i64))) (uh Sub.refl (fun _=>rfl)) (F.mono f)) ap p)) (fun _ _ h=>h)) fun aD aE g O=>?_
 replace O:phG (true&&(G3==false)) (phX (.bool (S.getD default))) aD aE:=O;refine j6 rfl rfl rfl rfl (fun a=>qi (p9 (O.1 (zk rfl a)))) fun bg aF=>?_
 refine ji rfl (l7 rfl rfl (fun o=>(aF.1 (zk rfl o)))) (ji (v:=(.bool (G3||(!(S.getD default))))) rfl (zf rfl) (j6 rfl rfl rfl rfl (fun a=>qi (v:=l) (zf rfl)) fun bh aG=>?_));refine j6 rfl rfl rfl rfl (fun a=>qi (zo6 rfl underlying36 (aG.1 (zk rfl a)) (F.mono (f.trans g)))) fun bi aH=>?_
 refine j6 rfl rfl rfl rfl (fun a=>qi (v:=l) (zf rfl)) fun bj aI=>?_;refine j6 rfl rfl rfl rfl (fun a=>qi (qz rfl underlying36 (aI.1 (zk rfl a)) (jd (F.mono (f.trans g))))) fun bk aJ=>?_;refine j6 rfl rfl rfl rfl (fun a=>qi (tu (aH.1 (zk rfl a)) (aJ.1 (zk rfl a)))) fun bl aK=>?_
 refine ji rfl (l7 rfl rfl (fun o=>(aK.1 (zk rfl o)))) (z8 (qa rfl b (fun b=>?_) (fun b=>?_)));refine zt (zn (.bool false) (z8 (qw ?_)));obtain rfl:=Option.some.inj b
 refine qg (D:=[]) (J:=[box Q [(vi e.inputs),(vi e.outputs),m] 27]) (rs:=[.tmp 4]) (vs:=[(.bool false)]) ((((E.trans H).trans k).trans f).trans g) rfl rfl ⟨rfl,trivial⟩ ?_;exact⟨rfl,rfl⟩
 refine qc (zt (ji (v:=(.bool c.2)) rfl (zf rfl) (ji rfl (p9 rfl) (ji (v:=(.bool (!c.2))) rfl (zf rfl) (j6 rfl rfl rfl rfl (fun a=>qi (v:=(.agg #[(vi e.inputs),(vi e.outputs),m])) (nk (i:=0) zba z5h rfl rfl rfl rfl)) fun bm aL=>?_)))))
 refine j6 rfl rfl rfl rfl (fun a=>qi (v:=l) (zf rfl)) fun bn aM=>?_;refine j6 rfl rfl rfl rfl (fun a=>qi (v:=(.bool round)) (zf rfl)) fun bo aN=>?_;obtain⟨t,U,b⟩:=zu b
 refine ic rfl rfl rfl rfl (fun a=>vk (vs:=[(.agg #[(vi e.inputs),(vi e.outputs),m]),l,(.bool round)]) q3r (l9 (aL.1 (zk rfl a)) (l9 (aM.1 (zk rfl a)) (l9 (aN.1 (zk rfl a)) rfl))) ((by have p:=(sj U (zk rfl a));exact zb7 (⟨_,⟨_,_,rfl,rfl,⟨_,_,rfl,rfl,(u7 rfl (s.mono ((k.trans f).trans g)))⟩⟩,rfl⟩:VRep (jf false false) _ _ (⟨e.inputs,e.outputs,e.rows⟩:Mach)) (Sub.v (B:=(tSl false (zz .i64))) (uh Sub.refl (fun _=>rfl)) (F.mono (f.trans g))) p)) (fun _ _ h=>h)) fun V W u w=>?_
 replace w:phG (true&&((!c.2)==false)) (phX (.bool (t.getD default))) V W:=w;refine ji rfl (l7 rfl rfl (fun o=>(w.1 (zk rfl o)))) (ji (v:=(.bool ((!c.2)||(t.getD default)))) rfl (zf rfl) (j6 rfl rfl rfl rfl (fun a=>qi (v:=(.bool round)) (zf rfl)) fun aO X=>?_))
 refine j6 rfl rfl rfl rfl (fun a=>qi (p9 (X.1 (zk rfl a)))) fun aP Y=>?_;refine j6 rfl rfl rfl rfl (fun a=>qi (v:=(.bool (!round))) (zf (Y.1 (zk rfl a)))) fun aQ j=>?_;refine z7x rfl rfl rfl j (fun q a=>qi (v:=(.bool c.2)) (zf rfl)) fun aR Z=>?_
 refine z7x rfl rfl rfl j (fun q a=>qi (v:=(.agg #[(vi e.inputs),(vi e.outputs),m])) (nk (i:=0) zba z5h rfl rfl rfl rfl)) fun aS aa=>?_;obtain⟨y,ab,b⟩:=zu b
 refine zua rfl rfl rfl j (fun q a=>vk (vs:=[(.agg #[(vi e.inputs),(vi e.outputs),m])]) q1f (l9 (aa.1 (zk q a)) rfl) ((by have p:=(sj ab (zk q a));exact z6a (⟨_,⟨_,_,rfl,rfl,⟨_,_,rfl,rfl,(u7 rfl (s.mono (((k.trans f).trans g).trans u)))⟩⟩,rfl⟩:VRep (jf false false) _ _ (⟨e.inputs,e.outputs,e.rows⟩:Mach)) p)) (fun _ _ h=>h)) fun ac ad d z=>?_
 replace z:phG ((true&&(((!c.2)||(t.getD default))==true))&&((!round)==false)) (phR (tSl false (tSl false (zz .i64))) (y.getD default)) ac ad:=z;refine z7x rfl rfl rfl ((qp zo) _ _ _ d j) (fun q a=>qi (qz rfl underlying30 rfl (jd (z.1 (zk q a))))) fun aT ae=>?_
 refine z7x rfl rfl rfl ((qp zo) _ _ _ d j) (fun q a=>qi (xe (ae.1 (zk q a)) rfl)) fun aU af=>?_;refine z7x rfl rfl rfl ((qp zo) _ _ _ d j) (fun q a=>qi (zh5 underlying4 (((qp zo) _ _ _ d Z).1 (zk q a)) (af.1 (zk q a)))) fun aV ag=>?_
 refine j6 rfl rfl rfl rfl (fun a=>qi (l7 (((qp zo) _ _ _ d j).1 (zk rfl a)) rfl (fun o=>(ag.1 (zk (zk rfl a) o))))) fun aW ah=>?_;refine ji rfl (y5 rfl (fun o=>(ah.1 (zk rfl o))) rfl) ?_;let G2:=(((!c.2)||(t.getD default))&&((!round)||(decide (c.2=(decide ((↑(y.getD default).length:Int)=1))))))
 refine ji (v:=(.bool G2)) rfl (zf rfl) ?_;obtain⟨I,ai,b⟩:=zu b;refine ic rfl rfl rfl rfl (fun a=>vk (vs:=[]) q2b rfl ((by have p:=(sj ai (zk rfl a));exact z6c  p)) (fun _ _ h=>h)) fun aj ak P C=>?_;replace C:phG (true&&(G2==true)) (phX (.bool (I.getD default))) aj ak:=C
 refine ji rfl (y5 rfl (fun o=>(C.1 (zk rfl o))) rfl) ?_;let G1:=((((!c.2)||(t.getD default))&&((!round)||(decide (c.2=(decide ((↑(y.getD default).length:Int)=1))))))&&(I.getD default));refine ji (v:=(.bool G1)) rfl (ni rfl) (z8 (qw ?_));obtain rfl:=Option.some.inj b
 refine qg (D:=[]) (J:=[box Q [(vi e.inputs),(vi e.outputs),m] 27]) (rs:=[.tmp 4]) (vs:=[(.bool G1)]) (((((((E.trans H).trans k).trans f).trans g).trans u).trans d).trans P) rfl rfl ⟨rfl,trivial⟩ ?_;exact⟨rfl,rfl⟩
end GV
end Go.Proofs.Ytdhccodneoebpaa
