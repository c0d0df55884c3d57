import Derived.Test.YtkkcidhcfkmbjaaGreatDoorShWd
import Derived.Test.YtkkcidhcfkmbjaaGreatDoorAiLive
import Derived.Test.YtkkcidhcfkmbjaaGreatDoorRows
set_option linter.unusedVariables false
set_option linter.unusedSimpArgs false
set_option linter.unusedSectionVars false
namespace Go.Proofs.YtkkcidhcfkmbjaaGreatDoor
namespace GV
open _root_.Go.Proofs.Tryz
open Go.IntWalk
set_option maxRecDepth 100000
set_option maxHeartbeats 20000000
theorem zv0:Enters prog 58:=enters_of func58 rfl (by kernel_rfl)
theorem zbm{N:Nat}{R:RH}{a:Mach}{k:Value}(h:VRep (qy false false) R k a){b:Mach}{l:Value}(i:VRep (qy false false) R l b){r:(List Int)×Bool×Int}(f:ng N a b=some r):CallP prog 12 #[k,l] R (fun v R'=> ∃ x,v= .tuple #[x,(.bool r.2.1),(vi r.2.2)]∧VRep (tSl true (qa .i64)) R' x r.1):=by
 refine qg (args:=[k,l]) func12 rfl rfl fun A=>?_;rw [ng] at f;refine zh (uq (T:=(qy false false)) rfl rfl rfl h fun G H e y I=>?_);refine uq (T:=(qy false false)) rfl rfl rfl (i.mono e) fun K L d m M=>?_
 refine zm vs0 (zm (.bool false) (zm (vi 0) (z8 (zy (zh (zl (w9 z2m rfl rfl (y.mono d) (h.mono (e.trans d))) (zl (w9 z2m rfl rfl m (i.mono (e.trans d))) ?_)))))));obtain⟨j,s,f⟩:=zu f
 refine wm rfl zvh rfl (zdy (h.mono (e.trans d)) (i.mono (e.trans d)) s) fun z B c t=>?_;obtain rfl:=t;refine zm (vi j) (ja (zf (vi j) (zl (pz rfl rfl) (z8 (zw rfl f (fun f=>?_) (fun f=>?_))))))
 refine zh (zf (vi j) (zm vs0 (zm (.bool false) (zm (vi j) (z8 (qw ?_))))));obtain rfl:=Option.some.inj f;refine q9 (D:=[]) (J:=[]) (rs:=[.tmp 4,.tmp 5,.tmp 6]) (vs:=[vs0,(.bool false),(vi j)]) ((e.trans d).trans c) rfl rfl ⟨rfl,rfl,rfl,trivial⟩ ?_
 exact⟨rfl,⟨vs0,rfl,z0c⟩⟩;refine qc (zh (zl (w9 z2m rfl rfl (y.mono (d.trans c)) (h.mono ((e.trans d).trans c))) (zl (w9 z2m rfl rfl (m.mono c) (i.mono ((e.trans d).trans c))) ?_)));obtain⟨n,u,f⟩:=zu f
 refine wm rfl zv0 rfl (zbl (h.mono ((e.trans d).trans c)) (i.mono ((e.trans d).trans c)) u) fun C E o w=>?_;obtain⟨g,p,rfl,q,F⟩:=w
 refine zf (.tuple #[g,p]) (zl (jr rfl rfl) (zl (jr rfl rfl) (zm g (zm p (ja (zf g (zf g (zl (qm rfl underlying40 rfl (ji q)) (zl (fw rfl rfl) (zm g (zm (.bool (decide (0<(↑n.1.length:Int)))) (zm (vi 0) (z8 (qw ?_))))))))))))));obtain rfl:=Option.some.inj f
 refine q9 (D:=[]) (J:=[]) (rs:=[.tmp 4,.tmp 5,.tmp 6]) (vs:=[g,(.bool (decide (0<(↑n.1.length:Int)))),(vi 0)]) (((e.trans d).trans c).trans o) rfl rfl ⟨rfl,rfl,rfl,trivial⟩ ?_;exact⟨rfl,⟨g,rfl,q⟩⟩
theorem zvi:Enters prog 12:=enters_of func12 rfl (by kernel_rfl)
theorem z4w{N:Nat}{R:RH}{a:(List Int)}{f:Value}(l:VRep (tSl false (qa .i64)) R f a){b:(List Int)}{j:Value}(m:VRep (tSl false (qa .i64)) R j b){r:Int}(d:di N a b=some r):CallP prog 59 #[f,j] R (fun v R'=>v=(vi r)):=by
 refine qg (args:=[f,j]) func59 rfl rfl fun A=>?_;rw [di] at d;refine zh (zm (vi 0) (z8 (zy (zh (zf f (zl (qm rfl underlying40 rfl (ji l)) (zf j (zl (qm rfl underlying40 rfl (ji m)) (zl (je rfl rfl) (z8 (zw rfl d (fun d=>?_) (fun d=>?_))))))))))))
 refine zh (zm (vi (-1)) (z8 (qw ?_)));obtain rfl:=Option.some.inj d;refine q9 (D:=[]) (J:=[]) (rs:=[.tmp 4]) (vs:=[(vi (-1))]) (RH.le.refl _) rfl rfl ⟨rfl,trivial⟩ ?_;exact⟨rfl,rfl⟩
 refine qc (zy (zh (zf f (zl (qm rfl underlying40 rfl (ji l)) (zf j (zl (qm rfl underlying40 rfl (ji m)) (zl (fw rfl rfl) (z8 (zw rfl d (fun d=>?_) (fun d=>?_))))))))));refine zh (zm (vi 1) (z8 (qw ?_)));obtain rfl:=Option.some.inj d
 refine q9 (D:=[]) (J:=[]) (rs:=[.tmp 4]) (vs:=[(vi 1)]) (RH.le.refl _) rfl rfl ⟨rfl,trivial⟩ ?_;exact⟨rfl,rfl⟩;refine qc ?_;obtain⟨u,c,d⟩:=zu d;refine jf (γ:=Unit) (rs [4,6,16,40]) (fun g=>[]) (fun g=>[]++A) (fun g R=>u=Ex.go g∧True) ?_ ?_
 refine zh (zm (vi 0) (z8 (zz (ku (γ:=Nat×Int) (rs [4,6,16,40]) (fun g=>[(5,(vi g.2))]) (fun g=>[]++A) (fun g R=>ko N a b g.1 g.2=some u∧True) (fun g=>g.1) (N,0) prm ⟨c,trivial⟩ ?_))));clear c;rintro⟨t,k⟩ E O e ⟨c,_⟩;rcases t with _|t;exact j6 c
 replace c:ko N a b (t+1) k=some u:=c;rw [ko] at c;refine zy (zh (zf (vi k) (zf f (zl (qm rfl underlying40 rfl (ji (l.mono e))) (zl (je rfl rfl) (z8 (zw rfl c (fun c=>?_) (fun c=>?_))))))))
 refine qc (zy (zz (zy (zy (z00 9 mixed (by kernel_rfl) (by kernel_rfl) ?_)))));refine jy (v:=f) (zi rfl) ?_;refine jy (v:=(vi k)) (zi rfl) ?_;obtain⟨o,c⟩:=za c;refine z2u (rq (i:=k.toNat) z3n rfl (ji (l.mono e)) (zk rfl o.1) (qi o)) fun F w=>?_
 refine jy (ai (u6 ty3 rfl w)) ?_;refine jy (v:=j) (zi rfl) ?_;refine jy (v:=(vi k)) (zi rfl) ?_;obtain⟨p,c⟩:=za c;refine z2u (rq (i:=k.toNat) z3n rfl (ji (m.mono e)) (zk rfl p.1) (qi p)) fun G x=>?_;refine jy (ai (u6 ty3 rfl x)) ?_;refine jy (je rfl rfl) ?_;intro H h
 refine z8 (zw rfl c (fun c=>?_) (fun c=>?_));refine zh (zm (vi (-1)) (z8 (qw ?_)));replace d:=z2q c d;obtain rfl:=Option.some.inj d;refine q9 (D:=[]) (J:=[]) (rs:=[.tmp 4]) (vs:=[(vi (-1))]) (e.trans h) rfl rfl ⟨rfl,trivial⟩ ?_;exact⟨rfl,rfl⟩
 refine qc (zy (z00 9 mixed (by kernel_rfl) (by kernel_rfl) ?_));refine jy (v:=f) (zi rfl) ?_;refine jy (v:=(vi k)) (zi rfl) ?_;obtain⟨q,c⟩:=za c;refine z2u (rq (i:=k.toNat) z3n rfl (ji (l.mono (e.trans h))) (zk rfl q.1) (qi q)) fun I y=>?_;refine jy (ai (u6 ty3 rfl y)) ?_
 refine jy (v:=j) (zi rfl) ?_;refine jy (v:=(vi k)) (zi rfl) ?_;obtain⟨s,c⟩:=za c;refine z2u (rq (i:=k.toNat) z3n rfl (ji (m.mono (e.trans h))) (zk rfl s.1) (qi s)) fun K z=>?_;refine jy (ai (u6 ty3 rfl z)) ?_;refine jy (fw rfl rfl) ?_;intro L n
 refine z8 (zw rfl c (fun c=>?_) (fun c=>?_));refine zh (zm (vi 1) (z8 (qw ?_)));replace d:=z2q c d;obtain rfl:=Option.some.inj d;refine q9 (D:=[]) (J:=[]) (rs:=[.tmp 4]) (vs:=[(vi 1)]) ((e.trans h).trans n) rfl rfl ⟨rfl,trivial⟩ ?_;exact⟨rfl,rfl⟩;refine qc (qf (zf (vi k) ?_))
 obtain⟨B,c⟩:=za c;refine zl (jo rfl rfl B) (zm (vi (k+1)) (z8 ?_));exact⟨dkt,(h.trans n),uj,(t,k+1),Nat.lt_succ_self _,⟨rfl,trivial⟩,prm,c,trivial⟩;refine u7 ?_;exact⟨dkt,e,uj,(),trivial,prm,(Option.some.inj c).symm,trivial⟩;rintro P M Q C ⟨rfl,_⟩;replace d:=z3d d
 refine zh (zm (vi 0) (z8 (qw ?_)));obtain rfl:=Option.some.inj d;refine q9 (D:=[]) (J:=[]) (rs:=[.tmp 4]) (vs:=[(vi 0)]) C rfl rfl ⟨rfl,trivial⟩ ?_;exact⟨rfl,rfl⟩
theorem zv6:Enters prog 59:=enters_of func59 rfl (by kernel_rfl)
theorem z6t{N:Nat}{R:RH}{a:(List Int)}{c:Value}(f:VRep (tSl false (qa .i64)) R c a){b:(List Int)}{d:Value}(g:VRep (tSl false (qa .i64)) R d b){r:Bool}(e:ak N a b=some r):CallP prog 13 #[c,d] R (fun v R'=>v=(.bool r)):=by
 refine qg (args:=[c,d]) func13 rfl rfl fun A=>?_;rw [ak] at e;refine zh (zm (.bool false) (ja (zf c (zf d ?_))));obtain⟨i,j,e⟩:=zu e;refine wm rfl zv6 rfl (z4w f g j) fun l m h k=>?_;obtain rfl:=k;refine zl (z0d rfl rfl) (zm (.bool (decide (i=0))) (z8 (qw ?_)))
 obtain rfl:=Option.some.inj e;refine q9 (D:=[]) (J:=[]) (rs:=[.tmp 4]) (vs:=[(.bool (decide (i=0)))]) h rfl rfl ⟨rfl,trivial⟩ ?_;exact⟨rfl,rfl⟩
theorem z6z{N:Nat}{R:RH}(b:AI.GR AI.Cc R){r:Bool}(a:ae N=some r):CallP prog 14 #[] R (fun v R'=>v=(.bool r)):=by
 rw [ae] at a;obtain rfl:=Option.some.inj a;exact AI.c_live11 b
theorem zv8:Enters prog 13:=enters_of func13 rfl (by kernel_rfl)
theorem zvd:Enters prog 14:=enters_of func14 rfl (by kernel_rfl)
theorem z5v{N:Nat}{R:RH}{x:Sd}{E:Value}(F:VRep (mo false false) R E x)(ac:AI.GR AI.Cc R){r:Bool}(c:nk N x=some r):CallP prog 3 #[E] R (fun v R'=>v=(.bool r)):=by
 refine qg (args:=[E]) func3 rfl rfl fun A=>?_;rw [nk] at c;refine zh (uq (T:=(mo false false)) rfl rfl rfl F fun v1 R3 u h5 h2=>?_);refine zm (.bool false) (ja (zl (w9 zvx rfl rfl h5 (F.mono u)) ?_));obtain⟨g,c7,c⟩:=zu c
 refine wm rfl en8 rfl (z7f (F.mono u) c7) fun v8 aU z h9=>?_;obtain⟨ad,ae,rfl,af,ag⟩:=h9;refine zf (.tuple #[ad,ae]) (zl (jr rfl rfl) (zl (jr rfl rfl) (jd rfl z5h fun ah=>?_)));refine jd rfl z5h fun ai=>?_;obtain⟨L,rfl,n⟩:=z04 af
 refine qx (i:=1) (vs:=[(vi g.1.inputs),(vi g.1.outputs),L]) pu rfl rfl rfl rfl rfl rfl (ze rfl (ze rfl (ze (z0a n) qp))) ?_;obtain⟨M,rfl,G⟩:=z04 ag
 refine qx (i:=0) (vs:=[(vi g.2.inputs),(vi g.2.outputs),M]) pu rfl rfl rfl rfl rfl rfl (ze rfl (ze rfl (ze (z0a G) qp))) ?_;refine ja (zl (qz (i:=1) z0h pu rfl rfl rfl rfl) (zl (qz (i:=0) z0h pu rfl rfl rfl rfl) ?_));obtain⟨a,aj,c⟩:=zu c
 refine wm rfl en9 rfl (ze4 (⟨_,⟨_,_,rfl,rfl,⟨_,_,rfl,rfl,(uf rfl n)⟩⟩,rfl⟩:VRep (qy false false) _ _ (⟨g.1.inputs,g.1.outputs,g.1.rows⟩:Mach)) (⟨_,⟨_,_,rfl,rfl,⟨_,_,rfl,rfl,(uf rfl G)⟩⟩,rfl⟩:VRep (qy false false) _ _ (⟨g.2.inputs,g.2.outputs,g.2.rows⟩:Mach)) aj) fun aW aX j ak=>?_;obtain⟨al,rfl,am⟩:=ak
 refine zf (.tuple #[al,(vi a.2)]) (zl (jr rfl rfl) (zl (jr rfl rfl) (jd rfl z5h fun an=>?_)));obtain⟨O,rfl,H⟩:=z04 am;refine qx (i:=0) (vs:=[(vi a.1.inputs),(vi a.1.outputs),O]) pu rfl rfl rfl rfl rfl rfl (ze rfl (ze rfl (ze (z0a H) qp))) ?_
 refine zm (vi a.2) (ja (zl (qz (i:=0) z0h pu rfl rfl rfl rfl) (zl (zo uw rfl) (zl (zq (i:=2) z6o rfl rfl rfl) (zl (qm rfl underlying30 rfl (ji (n.mono j))) ?_)))));obtain⟨d,ao,c⟩:=zu c
 refine wm rfl zve rfl (z7b (⟨_,⟨_,_,rfl,rfl,⟨_,_,rfl,rfl,(uf rfl (Sub.v (B:=(tSl false (tSl false kEdge))) (ma Sub.refl (fun _=>rfl)) H))⟩⟩,rfl⟩:VRep (qy false false) _ _ (⟨a.1.inputs,a.1.outputs,a.1.rows⟩:Mach)) ao) fun aY aZ k ap=>?_;obtain rfl:=ap
 refine zf (.tuple #[(.bool d.1),(vi d.2)]) (zl (jr rfl rfl) (zl (jr rfl rfl) (zm (.bool d.1) (zm (vi d.2) (ja (zl (qz (i:=0) z0h pu rfl rfl rfl rfl) (zl (zo uw rfl) (zl (zq (i:=2) z6o rfl rfl rfl) (zl (qm rfl underlying30 rfl (ji (n.mono (j.trans k)))) ?_)))))))))
 obtain⟨e,aq,c⟩:=zu c;refine wm rfl zvj rfl (z95 (⟨_,⟨_,_,rfl,rfl,⟨_,_,rfl,rfl,(uf rfl (Sub.v (B:=(tSl false (tSl false kEdge))) (ma Sub.refl (fun _=>rfl)) (H.mono k)))⟩⟩,rfl⟩:VRep (qy false false) _ _ (⟨a.1.inputs,a.1.outputs,a.1.rows⟩:Mach)) aq) fun a0 a1 l ar=>?_;obtain⟨w,rfl,au⟩:=ar
 refine zf (.tuple #[w,(.bool e.2.1),(vi e.2.2)]) (zl (jr rfl rfl) (zl (jr rfl rfl) (zl (jr rfl rfl) (zm w (zm (.bool e.2.1) (zm (vi e.2.2) (ja (zl (qz (i:=2) z0h pu rfl rfl rfl rfl) (zl (qz (i:=1) z0h pu rfl rfl rfl rfl) ?_)))))))));obtain⟨b,aw,c⟩:=zu c
 refine wm rfl zvi rfl (zbm (⟨_,⟨_,_,rfl,rfl,⟨_,_,rfl,rfl,(uf rfl (n.mono ((j.trans k).trans l)))⟩⟩,rfl⟩:VRep (qy false false) _ _ (⟨g.1.inputs,g.1.outputs,g.1.rows⟩:Mach)) (⟨_,⟨_,_,rfl,rfl,⟨_,_,rfl,rfl,(uf rfl (G.mono ((j.trans k).trans l)))⟩⟩,rfl⟩:VRep (qy false false) _ _ (⟨g.2.inputs,g.2.outputs,g.2.rows⟩:Mach)) aw) fun a2 a3 o ax=>?_
 obtain⟨y,rfl,ay⟩:=ax
 refine zf (.tuple #[y,(.bool b.2.1),(vi b.2.2)]) (zl (jr rfl rfl) (zl (jr rfl rfl) (zl (jr rfl rfl) (zm y (zm (.bool b.2.1) (zm (vi b.2.2) (ja (ky (v:=(vi a.2)) rfl (zi rfl) (ky rfl (z0d rfl rfl) (ky (v:=(.bool (decide (a.2=0)))) rfl (zi rfl) (jc rfl rfl rfl rfl (fun f=>j5 (v:=(vi d.2)) (zi rfl)) fun a4 az=>?_)))))))))))
 refine jc rfl rfl rfl rfl (fun f=>j5 (z0d (az.1 (qb rfl f)) rfl)) fun a5 aA=>?_;refine ky rfl (av rfl (fun m=>(aA.1 (qb rfl m))) rfl) (ky (v:=(.bool ((decide (a.2=0))&&(decide (d.2=0))))) rfl (zi rfl) (jc rfl rfl rfl rfl (fun f=>j5 (v:=(vi e.2.2)) (zi rfl)) fun a6 aB=>?_))
 refine jc rfl rfl rfl rfl (fun f=>j5 (z0d (aB.1 (qb rfl f)) rfl)) fun a7 aC=>?_;refine ky rfl (av rfl (fun m=>(aC.1 (qb rfl m))) rfl) (ky (v:=(.bool (((decide (a.2=0))&&(decide (d.2=0)))&&(decide (e.2.2=0))))) rfl (zi rfl) (jc rfl rfl rfl rfl (fun f=>j5 (v:=(vi b.2.2)) (zi rfl)) fun a8 aD=>?_))
 refine jc rfl rfl rfl rfl (fun f=>j5 (z0d (aD.1 (qb rfl f)) rfl)) fun a9 aE=>?_;refine ky rfl (av rfl (fun m=>(aE.1 (qb rfl m))) rfl) ?_;let G4:=((((decide (a.2=0))&&(decide (d.2=0)))&&(decide (e.2.2=0)))&&(decide (b.2.2=0)))
 refine ky (v:=(.bool G4)) rfl (zi rfl) (jc rfl rfl rfl rfl (fun f=>j5 (v:=(.bool d.1)) (zi rfl)) fun ba aF=>?_);refine jc rfl rfl rfl rfl (fun f=>j5 (v:=(.bool b.2.1)) (zi rfl)) fun bb aG=>?_;refine jc rfl rfl rfl rfl (fun f=>j5 (z3r (aG.1 (qb rfl f)))) fun bc aH=>?_
 refine jc rfl rfl rfl rfl (fun f=>j5 (zgf underlying4 (aF.1 (qb rfl f)) (aH.1 (qb rfl f)))) fun be aI=>?_;refine ky rfl (av rfl (fun m=>(aI.1 (qb rfl m))) rfl) (ky (v:=(.bool (G4&&(decide (d.1=(!b.2.1)))))) rfl (zi rfl) (jc rfl rfl rfl rfl (fun f=>j5 (v:=(.bool e.2.1)) (zi rfl)) fun aK P=>?_))
 refine jc rfl rfl rfl rfl (fun f=>j5 (v:=(.bool b.2.1)) (zi rfl)) fun aL Q=>?_;refine jc rfl rfl rfl rfl (fun f=>j5 (zgf underlying4 (P.1 (qb rfl f)) (Q.1 (qb rfl f)))) fun aM S=>?_;refine ky rfl (av rfl (fun m=>(S.1 (qb rfl m))) rfl) ?_
 let G3:=((((((decide (a.2=0))&&(decide (d.2=0)))&&(decide (e.2.2=0)))&&(decide (b.2.2=0)))&&(decide (d.1=(!b.2.1))))&&(decide (e.2.1=b.2.1)));refine ky (v:=(.bool G3)) rfl (zi rfl) (jc rfl rfl rfl rfl (fun f=>j5 (v:=w) (zi rfl)) fun aO U=>?_)
 refine jc rfl rfl rfl rfl (fun f=>j5 (v:=y) (zi rfl)) fun aP V=>?_;obtain⟨p,W,c⟩:=zu c
 refine zfo rfl rfl rfl rfl (fun f=>nu (vs:=[w,y]) zv8 (zmu (U.1 (qb rfl f)) (zmu (V.1 (qb rfl f)) rfl)) ((by have I:=(zbu W (qb rfl f));exact z6t (Sub.v (B:=(tSl false (qa .i64))) (ma Sub.refl (fun _=>rfl)) (au.mono o)) (Sub.v (B:=(tSl false (qa .i64))) (ma Sub.refl (fun _=>rfl)) ay) I)) (fun _ _ h=>h)) fun X Y q s=>?_
 replace s:phG (true&&(G3==true)) (phX (.bool (p.getD default))) X Y:=s;refine ky rfl (av rfl (fun m=>(s.1 (qb rfl m))) rfl) ?_;let G2:=(((((((decide (a.2=0))&&(decide (d.2=0)))&&(decide (e.2.2=0)))&&(decide (b.2.2=0)))&&(decide (d.1=(!b.2.1))))&&(decide (e.2.1=b.2.1)))&&(p.getD default))
 refine ky (v:=(.bool G2)) rfl (zi rfl) ?_;obtain⟨C,Z,c⟩:=zu c;refine zfo rfl rfl rfl rfl (fun f=>nu (vs:=[]) zvd rfl ((by have I:=(zbu Z (qb rfl f));exact z6z (ac.mono ((((((u.trans z).trans j).trans k).trans l).trans o).trans q)) I)) (fun _ _ h=>h)) fun aa ab K t=>?_
 replace t:phG (true&&(G2==true)) (phX (.bool (C.getD default))) aa ab:=t;refine ky rfl (av rfl (fun m=>(t.1 (qb rfl m))) rfl) ?_;let G1:=((((((((decide (a.2=0))&&(decide (d.2=0)))&&(decide (e.2.2=0)))&&(decide (b.2.2=0)))&&(decide (d.1=(!b.2.1))))&&(decide (e.2.1=b.2.1)))&&(p.getD default))&&(C.getD default))
 refine ky (v:=(.bool G1)) rfl (vo rfl) (z8 (qw ?_));obtain rfl:=Option.some.inj c
 refine q9 (D:=[]) (J:=[box an [(vi a.1.inputs),(vi a.1.outputs),O] 32,box ai [(vi g.2.inputs),(vi g.2.outputs),M] 32,box ah [(vi g.1.inputs),(vi g.1.outputs),L] 32]) (rs:=[.tmp 2]) (vs:=[(.bool G1)]) (((((((u.trans z).trans j).trans k).trans l).trans o).trans q).trans K) rfl rfl ⟨rfl,trivial⟩ ?_
 exact⟨rfl,rfl⟩
end GV
end Go.Proofs.YtkkcidhcfkmbjaaGreatDoor
