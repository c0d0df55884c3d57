import Derived.Test.YtdhccodneoebpaaShWe
import Derived.Test.YtdhccodneoebpaaShXa
import Derived.Test.YtdhccodneoebpaaShXb
import Derived.Test.YtdhccodneoebpaaShXc
import Derived.Test.YtdhccodneoebpaaShXe
import Derived.Test.YtdhccodneoebpaaShXg
import Derived.Test.YtdhccodneoebpaaShXi
import Derived.Test.YtdhccodneoebpaaRows
set_option linter.unusedVariables false
set_option linter.unusedSimpArgs false
set_option linter.unusedSectionVars false
namespace Go.Proofs.Ytdhccodneoebpaa
namespace GV
open _root_.Go.Proofs.Try
open Go.IntWalk
set_option maxRecDepth 100000
set_option maxHeartbeats 20000000
theorem z7u{N:Nat}{R:RH}{x:Sd}{aj:Value}(al:VRep (ng false) R aj x){y:(List Int)}{k:Value}(t:VRep (tSl false (q9 .i64)) R k y){round:Bool}{r:Bool}(a:og N x y round=some r):CallP prog 9 #[aj,k,(.bool round)] R (fun v R'=>v=(.bool r)):=by
 refine qo (args:=[aj,k,(.bool round)]) func9 rfl rfl fun A=>?_;rw [og] at a;refine zl (uz (T:=(ng false)) rfl rfl rfl al fun v1 R3 s h5 h2=>?_)
 refine zk (.bool false) (z8 (zx (zl (zm k (zi (qm rfl underlying36 rfl (jc (t.mono s))) (zi (cu rfl rfl) (z8 (zw rfl a (fun a=>?_) (fun a=>?_)))))))));refine zl (zk (.bool true) (z8 (ql ?_)));obtain rfl:=Option.some.inj a
 refine qd (D:=[]) (J:=[]) (rs:=[.tmp 6]) (vs:=[(.bool true)]) s rfl rfl ⟨rfl,trivial⟩ ?_;exact⟨rfl,rfl⟩;refine qc (zl (zi (ji zy3 rfl rfl h5 (al.mono s)) ?_));obtain⟨p,c8,a⟩:=zn a;refine ja rfl zzi rfl (zb0 (al.mono s) c8) fun v9 cw q be=>?_;refine jb rfl zdu fun H=>?_
 obtain⟨F,rfl,W⟩:=z5z be;refine qj (i:=0) (vs:=[(vi p.inputs),(vi p.outputs),F]) z4c rfl rfl rfl rfl rfl rfl (qa rfl (qa rfl (qa (ze5 W) qw))) ?_;refine j4 (zi (nu (i:=0) z9v z4c rfl rfl rfl rfl) (zm k ?_));obtain⟨b,bf,a⟩:=zn a
 refine ja rfl zwm rfl (zbz (⟨_,⟨_,_,rfl,rfl,⟨_,_,rfl,rfl,(u7 rfl W)⟩⟩,rfl⟩:VRep (jl false false) _ _ (⟨p.inputs,p.outputs,p.rows⟩:Mach)) (t.mono (s.trans q)) bf) fun cx cy m bh=>?_;obtain⟨M,rfl,X⟩:=bh
 refine zm (.tuple #[M,(vi b.2.1),(vi b.2.2)]) (zi (j3 rfl rfl) (zi (j3 rfl rfl) (zi (j3 rfl rfl) (zk M (zk (vi b.2.1) (zk (vi b.2.2) (j4 (zi (nu (i:=0) z9v z4c rfl rfl rfl rfl) (zm k (zm (.bool round) ?_))))))))));obtain⟨O,bi,a⟩:=zn a
 refine ja rfl zxf rfl (zat (⟨_,⟨_,_,rfl,rfl,⟨_,_,rfl,rfl,(u7 rfl (W.mono m))⟩⟩,rfl⟩:VRep (jl false false) _ _ (⟨p.inputs,p.outputs,p.rows⟩:Mach)) (t.mono ((s.trans q).trans m)) bi) fun cA cB f bj=>?_;obtain rfl:=bj
 refine zm (.tuple #[(.bool O.1),(vi O.2)]) (zi (j3 rfl rfl) (zi (j3 rfl rfl) (zk (.bool O.1) (zk (vi O.2) (z8 (zx (zl (j5 (v:=(vi O.2)) rfl (za rfl) (j5 rfl (gy rfl rfl) (j5 (v:=(.bool (decide (O.2≠0)))) rfl (za rfl) (qi rfl rfl rfl rfl (fun c=>qf (v:=(.bool O.1)) (za rfl)) fun cC bk=>?_)))))))))))
 refine qi rfl rfl rfl rfl (fun c=>qf (v:=(.agg #[(vi p.inputs),(vi p.outputs),F])) (nu (i:=0) z9v z4c rfl rfl rfl rfl)) fun cD bl=>?_;refine qi rfl rfl rfl rfl (fun c=>qf (v:=k) (za rfl)) fun cE bm=>?_;refine qi rfl rfl rfl rfl (fun c=>qf (v:=(.bool round)) (za rfl)) fun cF bn=>?_
 obtain⟨bo,bp,a⟩:=zn a
 refine nk rfl rfl rfl rfl (fun c=>yh (vs:=[(.agg #[(vi p.inputs),(vi p.outputs),F]),k,(.bool round)]) zyj (fu (bl.1 (zh rfl c)) (fu (bm.1 (zh rfl c)) (fu (bn.1 (zh rfl c)) rfl))) ((by have K:=(mi bp (zh rfl c));exact z9u (⟨_,⟨_,_,rfl,rfl,⟨_,_,rfl,rfl,(u7 rfl (W.mono (m.trans f)))⟩⟩,rfl⟩:VRep (jl false false) _ _ (⟨p.inputs,p.outputs,p.rows⟩:Mach)) (t.mono (((s.trans q).trans m).trans f)) K)) (fun _ _ h=>h)) fun bq br j am=>?_
 replace am:phG (true&&((decide (O.2≠0))==false)) (phX (.bool (bo.getD default))) bq br:=am;refine qi rfl rfl rfl rfl (fun c=>qf (zqo underlying4 (((qx zt) _ _ _ j bk).1 (zh rfl c)) (am.1 (zh rfl c)))) fun cG bs=>?_
 refine j5 rfl (ak rfl rfl (fun E=>(bs.1 (zh rfl E)))) (z8 (zw rfl a (fun a=>?_) (fun a=>?_)));refine zl (zk (.bool false) (z8 (ql ?_)));obtain rfl:=Option.some.inj a
 refine qd (D:=[]) (J:=[box H [(vi p.inputs),(vi p.outputs),F] 27]) (rs:=[.tmp 6]) (vs:=[(.bool false)]) ((((s.trans q).trans m).trans f).trans j) rfl rfl ⟨rfl,trivial⟩ ?_;exact⟨rfl,rfl⟩;refine qc (zl (zk (vi 0) (z8 ?_)));obtain⟨an,n,a⟩:=zn a
 refine j6 (γ:=Int) [47,48,49,13] (fun g=>[(13,(vi g))]) (fun g=>[box H [(vi p.inputs),(vi p.outputs),F] 27]++A) (fun g R=>an=g∧True) ?_ ?_
 refine zl (zm k (zi (qm rfl underlying36 rfl (jc (t.mono ((((s.trans q).trans m).trans f).trans j)))) (zi (cu rfl rfl) (z8 (zw rfl n (fun n=>?_) (fun n=>?_))))));refine zq (zk (vi 3) (z8 ?_));exact⟨dkt,(RH.le.refl _),jr,3,⟨rfl,trivial⟩,prm,(Option.some.inj n).symm,trivial⟩;refine qc ?_
 exact⟨dkt,(RH.le.refl _),jr,0,⟨rfl,trivial⟩,prm,(Option.some.inj n).symm,trivial⟩;rintro an cH cI o ⟨rfl,_⟩;obtain⟨I,n,a⟩:=zn a;refine j6 (γ:=Int) (rs [13,15,50,75]) (fun g=>[(13,(vi g))]) (fun g=>[box H [(vi p.inputs),(vi p.outputs),F] 27]++A) (fun g R=>I=g∧True) ?_ ?_
 refine zl (zk (vi 0) (z8 (zy (kg (γ:=Nat×Int×Int) (rs [13,15,50,75]) (fun g=>[(13,(vi g.2.1)),(14,(vi g.2.2))]) (fun g=>[box H [(vi p.inputs),(vi p.outputs),F] 27]++A) (fun g R=>ky N y p g.1 g.2.1 g.2.2=some I∧True) (fun g=>g.1) (N,an,0) prm ⟨n,trivial⟩ ?_))));clear n
 rintro⟨ad,ao,d⟩ bA cJ P ⟨n,_⟩;rcases ad with _|ad;exact qy n;replace n:ky N y p (ad+1) ao d=some I:=n;rw [ky] at n
 refine zx (zl (j5 (v:=(vi d)) rfl (za rfl) (j5 (v:=k) rfl (za rfl) (j5 rfl (qm rfl underlying36 rfl (jc (t.mono ((((((s.trans q).trans m).trans f).trans j).trans o).trans P)))) (j5 rfl (jd rfl rfl) (j5 (v:=(.bool (decide (d<(↑y.length:Int))))) rfl (za rfl) (qi rfl rfl rfl rfl (fun c=>qf (v:=k) (za rfl)) fun cK bt=>?_)))))))
 refine qi rfl rfl rfl rfl (fun c=>qf (qm rfl underlying36 (bt.1 (zh rfl c)) (jc (t.mono ((((((s.trans q).trans m).trans f).trans j).trans o).trans P))))) fun cL bu=>?_;refine qi rfl rfl rfl rfl (fun c=>qf (znh (bu.1 (zh rfl c)) rfl)) fun cM bv=>?_
 refine j5 rfl (u6 rfl (fun E=>(bv.1 (zh rfl E))) rfl) (z8 (zw rfl n (fun n=>?_) (fun n=>?_)));refine qc ?_;obtain⟨ap,Q,n⟩:=zn n;refine j6 (γ:=Int) (rs [13,14,61,75]) (fun g=>[(13,(vi g))]) (fun g=>[box H [(vi p.inputs),(vi p.outputs),F] 27]++A) (fun g R=>ap=g∧True) ?_ ?_
 refine zy (zx ?_);obtain⟨av,aw,Q⟩:=zr7 Q
 refine ma 14 [] [phX k,phX (vi d),phP (q9 .i64) (ix y d),phX (vi (ix y d)),phX (.bool (decide ((ix y d)<0))),phX (.bool (decide ((ix y d)<0))),phG (true&&((decide ((ix y d)<0))==false)) (phX k),phG (true&&((decide ((ix y d)<0))==false)) (phX (vi d)),phG (true&&((decide ((ix y d)<0))==false)) (phP (q9 .i64) (ix y d)),phG (true&&((decide ((ix y d)<0))==false)) (phX (vi (ix y d))),phG (true&&((decide ((ix y d)<0))==false)) (phX (.pointer (some ⟨H,0,none⟩))),phG (true&&((decide ((ix y d)<0))==false)) (phX (vi p.inputs)),phG (true&&((decide ((ix y d)<0))==false)) (phX (.bool (decide (p.inputs≤(ix y d))))),phX (.bool ((decide ((ix y d)<0))||(decide (p.inputs≤(ix y d)))))] mixed (by kernel_rfl) (pq ⟨zt,zt,dx,zt,zt,zt,(qx zt),(qx zt),(qx dx),(qx zt),(qx zt),(qx zt),(qx zt),zt,trivial⟩) ⟨?_,?_,?_,?_,?_,?_,?_,?_,?_,?_,?_,?_,?_,?_,trivial⟩ fun cN ae=>?_
 intro l cO w L hd;exact zf rfl rfl rfl (zz (za (L 1 rfl)));intro l cQ w L hd;exact zf rfl rfl rfl (zz (za (L 14 rfl)));rintro l cR w L ⟨G,Y,_⟩
 exact zf rfl rfl rfl (tq (i:=d.toNat) bg (G rfl) (jc ((t.mono ((((((s.trans q).trans m).trans f).trans j).trans o).trans P)).mono w)) (ze (Y rfl) av.1) (zo av));rintro l cS w L ⟨G,_⟩;exact zf rfl rfl rfl (ui (ut ty3 rfl (G rfl)) (fun _ _ h=>qh.1 h));rintro l cT w L ⟨G,_⟩
 exact zf rfl rfl rfl (zz (jd (G rfl) rfl));rintro l cU w L ⟨G,_⟩;exact zf rfl rfl rfl (zz (za (G rfl)));rintro l cV w L ⟨G,_⟩;exact zu (Gj:=true) (Bj:=decide ((ix y d)<0)) rfl rfl rfl (uf (G rfl)) rfl (fun hG c=>zz (za (L 1 rfl)));rintro l cW w L ⟨G,_⟩
 exact zu (Gj:=true) (Bj:=decide ((ix y d)<0)) rfl rfl rfl (uf (G rfl)) rfl (fun hG c=>zz (za (L 14 rfl)));rintro l cX w L ⟨G,Y,d2,_⟩
 exact zu (Gj:=true) (Bj:=decide ((ix y d)<0)) rfl rfl rfl (uf (d2 rfl)) rfl (fun hG c=>tq (i:=d.toNat) bg (show l 67=k from(G rfl).1 (zh rfl c)) (jc ((t.mono ((((((s.trans q).trans m).trans f).trans j).trans o).trans P)).mono w)) (ze (show l 68=(vi d) from(Y rfl).1 (zh rfl c)) (aw (zh hG c)).1) (zo (aw (zh hG c))))
 rintro l cY w L ⟨G,Y,_⟩;exact zu (Gj:=true) (Bj:=decide ((ix y d)<0)) rfl rfl rfl (uf (Y rfl)) rfl (fun hG c=>ui (ut ty3 rfl ((G rfl).1 (zh rfl c))) (fun _ _ h=>qh.1 h));rintro l bB w L ⟨G,_⟩
 exact zu (Gj:=true) (Bj:=decide ((ix y d)<0)) rfl rfl rfl (uf (G rfl)) rfl (fun hG c=>zz (qg z06 (L 7 rfl)));rintro l bC w L ⟨G,Y,_⟩
 exact zu (Gj:=true) (Bj:=decide ((ix y d)<0)) rfl rfl rfl (uf (Y rfl)) rfl (fun hG c=>zz (zg (i:=0) ag3 (show l 71=(.pointer (some ⟨H,0,none⟩)) from(G rfl).1 (zh rfl c)) rfl rfl));rintro l bD w L ⟨G,Y,d2,_⟩
 exact zu (Gj:=true) (Bj:=decide ((ix y d)<0)) rfl rfl rfl (uf (d2 rfl)) rfl (fun hG c=>zz (z2z (show l 70=(vi (ix y d)) from(G rfl).1 (zh rfl c)) (show l 72=(vi p.inputs) from(Y rfl).1 (zh rfl c))));rintro l bE w L ⟨G,Y,_⟩
 exact zf rfl rfl rfl (zz (ak (G rfl) rfl (fun E=>(show l 73=(.bool (decide (p.inputs≤(ix y d)))) from(Y rfl).1 (zh rfl E)))));intro cZ bx c0 ax bF bG bH ay bI az bJ aA bK bL bM bN bO bP bQ bR bS bT bU bV bW bX bY aB;obtain rfl:=Eq.symm bx;obtain rfl:=Eq.symm ax;obtain rfl:=Eq.symm ay
 obtain rfl:=Eq.symm az;obtain rfl:=Eq.symm aA;obtain rfl:=Eq.symm aB;refine z8 (zw rfl Q (fun Q=>?_) (fun Q=>?_));refine zq (zk (vi 1) (z8 ?_));exact⟨dkt,ae,jr,1,⟨rfl,trivial⟩,prm,(Option.some.inj Q).symm,trivial⟩;refine qc ?_;exact⟨dkt,ae,jr,ao,⟨rfl,trivial⟩,prm,(Option.some.inj Q).symm,trivial⟩
 rintro ap bZ c1 aC ⟨rfl,_⟩;refine zq (zm (vi d) ?_);obtain⟨aD,n⟩:=zb n;refine zi (je rfl rfl aD) (zk (vi (d+1)) (z8 ?_));exact⟨dkt,aC,jr,(ad,ap,d+1),Nat.lt_succ_self _,⟨rfl,rfl,trivial⟩,prm,n,trivial⟩;refine jq ?_;exact⟨dkt,P,jr,ao,⟨rfl,trivial⟩,prm,(Option.some.inj n).symm,trivial⟩
 rintro I b0 c2 u ⟨rfl,_⟩;refine zx (zl (zm (vi I) (zi (gy rfl rfl) (z8 (zw rfl a (fun a=>?_) (fun a=>?_))))))
 refine zl (j5 (v:=(vi b.2.2)) rfl (za rfl) (j5 (v:=(vi I)) rfl (za rfl) (j5 rfl (ul rfl rfl) (j5 (v:=(.bool (decide (b.2.2=I)))) rfl (za rfl) (qi rfl rfl rfl rfl (fun c=>qf (v:=M) (za rfl)) fun b1 aE=>?_)))))
 refine qi rfl rfl rfl rfl (fun c=>qf (qm rfl underlying30 (aE.1 (zh rfl c)) (jc (X.mono (((f.trans j).trans o).trans u))))) fun b2 aF=>?_;refine qi rfl rfl rfl rfl (fun c=>qf (ul (aF.1 (zh rfl c)) rfl)) fun b3 aG=>?_
 refine j5 rfl (u6 rfl (fun E=>(aG.1 (zh rfl E))) rfl) (j5 (v:=(.bool ((decide (b.2.2=I))&&(decide ((↑b.1.length:Int)=0))))) rfl (za rfl) (qi rfl rfl rfl rfl (fun c=>qf (v:=(vi b.2.1)) (za rfl)) fun b4 aH=>?_));refine qi rfl rfl rfl rfl (fun c=>qf (ul (aH.1 (zh rfl c)) rfl)) fun b5 aI=>?_
 refine j5 rfl (u6 rfl (fun E=>(aI.1 (zh rfl E))) rfl) ?_;let G5:=(((decide (b.2.2=I))&&(decide ((↑b.1.length:Int)=0)))&&(decide (b.2.1=0)));refine j5 (v:=(.bool G5)) rfl (za rfl) ?_;obtain⟨ag,aJ,a⟩:=zn a
 refine nk rfl rfl rfl rfl (fun c=>yh (vs:=[]) zoh rfl ((by have K:=(mi aJ (zh rfl c));exact mq  K)) (fun _ _ h=>h)) fun aK aL aq Z=>?_;replace Z:phG (true&&(G5==true)) (phX (.bool (ag.getD default))) aK aL:=Z;refine j5 rfl (u6 rfl (fun E=>(Z.1 (zh rfl E))) rfl) ?_
 let G3:=((((decide (b.2.2=I))&&(decide ((↑b.1.length:Int)=0)))&&(decide (b.2.1=0)))&&(ag.getD default));refine j5 (v:=(.bool G3)) rfl (ou rfl) (z8 (ql ?_));obtain rfl:=Option.some.inj a
 refine qd (D:=[]) (J:=[box H [(vi p.inputs),(vi p.outputs),F] 27]) (rs:=[.tmp 6]) (vs:=[(.bool G3)]) (((((((s.trans q).trans m).trans f).trans j).trans o).trans u).trans aq) rfl rfl ⟨rfl,trivial⟩ ?_;exact⟨rfl,rfl⟩;refine qc (zl (zi (nu (i:=0) z9v z4c rfl rfl rfl rfl) (zm k ?_)))
 obtain⟨z,aM,a⟩:=zn a
 refine ja rfl zwo rfl (z5y (⟨_,⟨_,_,rfl,rfl,⟨_,_,rfl,rfl,(u7 rfl (W.mono ((((m.trans f).trans j).trans o).trans u)))⟩⟩,rfl⟩:VRep (jl false false) _ _ (⟨p.inputs,p.outputs,p.rows⟩:Mach)) (t.mono ((((((s.trans q).trans m).trans f).trans j).trans o).trans u)) aM) fun b8 b9 C aN=>?_
 obtain⟨U,rfl,aO⟩:=aN;refine zm (.tuple #[U,(vi z.2.1),(.bool z.2.2)]) (zi (j3 rfl rfl) (zi (j3 rfl rfl) (zi (j3 rfl rfl) (zk U (zk (vi z.2.1) (zk (.bool z.2.2) (z8 (zx (zl (zm (.bool z.2.2) (zi (cz rfl) (z8 (zw rfl a (fun a=>?_) (fun a=>?_))))))))))))))
 refine zl (j5 (v:=(vi b.2.2)) rfl (za rfl) (j5 rfl (ul rfl rfl) (j5 (v:=(.bool (decide (b.2.2=7)))) rfl (za rfl) (qi rfl rfl rfl rfl (fun c=>qf (v:=M) (za rfl)) fun ca aP=>?_))))
 refine qi rfl rfl rfl rfl (fun c=>qf (qm rfl underlying30 (aP.1 (zh rfl c)) (jc (X.mono ((((f.trans j).trans o).trans u).trans C))))) fun cb aQ=>?_;refine qi rfl rfl rfl rfl (fun c=>qf (ul (aQ.1 (zh rfl c)) rfl)) fun cc aR=>?_
 refine j5 rfl (u6 rfl (fun E=>(aR.1 (zh rfl E))) rfl) (j5 (v:=(.bool ((decide (b.2.2=7))&&(decide ((↑b.1.length:Int)=0))))) rfl (za rfl) (qi rfl rfl rfl rfl (fun c=>qf (v:=(vi b.2.1)) (za rfl)) fun cd aS=>?_));refine qi rfl rfl rfl rfl (fun c=>qf (ul (aS.1 (zh rfl c)) rfl)) fun ce aT=>?_
 refine j5 rfl (u6 rfl (fun E=>(aT.1 (zh rfl E))) rfl) ?_;let G6:=(((decide (b.2.2=7))&&(decide ((↑b.1.length:Int)=0)))&&(decide (b.2.1=0)));refine j5 (v:=(.bool G6)) rfl (za rfl) ?_;obtain⟨ah,aU,a⟩:=zn a
 refine nk rfl rfl rfl rfl (fun c=>yh (vs:=[]) zoh rfl ((by have K:=(mi aU (zh rfl c));exact mq  K)) (fun _ _ h=>h)) fun aV aW ar aa=>?_;replace aa:phG (true&&(G6==true)) (phX (.bool (ah.getD default))) aV aW:=aa;refine j5 rfl (u6 rfl (fun E=>(aa.1 (zh rfl E))) rfl) ?_
 let G4:=((((decide (b.2.2=7))&&(decide ((↑b.1.length:Int)=0)))&&(decide (b.2.1=0)))&&(ah.getD default));refine j5 (v:=(.bool G4)) rfl (ou rfl) (z8 (ql ?_));obtain rfl:=Option.some.inj a
 refine qd (D:=[]) (J:=[box H [(vi p.inputs),(vi p.outputs),F] 27]) (rs:=[.tmp 6]) (vs:=[(.bool G4)]) ((((((((s.trans q).trans m).trans f).trans j).trans o).trans u).trans C).trans ar) rfl rfl ⟨rfl,trivial⟩ ?_;exact⟨rfl,rfl⟩
 refine qc (zl (j5 (v:=(vi b.2.2)) rfl (za rfl) (j5 rfl (ul rfl rfl) (j5 (v:=(.bool (decide (b.2.2=0)))) rfl (za rfl) (qi rfl rfl rfl rfl (fun c=>qf (v:=(vi b.2.1)) (za rfl)) fun ch aX=>?_)))));refine qi rfl rfl rfl rfl (fun c=>qf (v:=(vi z.2.1)) (za rfl)) fun ci aY=>?_
 refine qi rfl rfl rfl rfl (fun c=>qf (ul (aX.1 (zh rfl c)) (aY.1 (zh rfl c)))) fun cj aZ=>?_;refine j5 rfl (u6 rfl (fun E=>(aZ.1 (zh rfl E))) rfl) ?_;let G7:=((decide (b.2.2=0))&&(decide (b.2.1=z.2.1)))
 refine j5 (v:=(.bool G7)) rfl (za rfl) (qi rfl rfl rfl rfl (fun c=>qf (v:=M) (za rfl)) fun ck a0=>?_);refine qi rfl rfl rfl rfl (fun c=>qf (v:=U) (za rfl)) fun cl a1=>?_;obtain⟨V,a2,a⟩:=zn a
 refine nk rfl rfl rfl rfl (fun c=>yh (vs:=[M,U]) zta (fu (a0.1 (zh rfl c)) (fu (a1.1 (zh rfl c)) rfl)) ((by have K:=(mi a2 (zh rfl c));exact z1d (Sub.v (B:=(tSl false (tSl false (q9 .i64)))) (kz (kz Sub.refl (fun _=>rfl)) (fun _=>rfl)) (X.mono ((((f.trans j).trans o).trans u).trans C))) (Sub.v (B:=(tSl false (tSl false (q9 .i64)))) (kz (kz Sub.refl (fun _=>rfl)) (fun e=>e)) aO) K)) (fun _ _ h=>h)) fun a3 a4 S ab=>?_
 replace ab:phG (true&&(G7==true)) (phX (.bool (V.getD default))) a3 a4:=ab;refine j5 rfl (u6 rfl (fun E=>(ab.1 (zh rfl E))) rfl) (j5 (v:=(.bool (G7&&(V.getD default)))) rfl (za rfl) (qi rfl rfl rfl rfl (fun c=>qf (v:=M) (za rfl)) fun cm a5=>?_))
 refine qi rfl rfl rfl rfl (fun c=>qf (zgz rfl underlying30 (a5.1 (zh rfl c)) (X.mono (((((f.trans j).trans o).trans u).trans C).trans S)))) fun cn a6=>?_;refine qi rfl rfl rfl rfl (fun c=>qf (v:=M) (za rfl)) fun co a7=>?_
 refine qi rfl rfl rfl rfl (fun c=>qf (qm rfl underlying30 (a7.1 (zh rfl c)) (jc (X.mono (((((f.trans j).trans o).trans u).trans C).trans S))))) fun cp a8=>?_;refine qi rfl rfl rfl rfl (fun c=>qf (ul (a6.1 (zh rfl c)) (a8.1 (zh rfl c)))) fun cq a9=>?_
 refine j5 rfl (u6 rfl (fun E=>(a9.1 (zh rfl E))) rfl) ?_;let G2:=((((decide (b.2.2=0))&&(decide (b.2.1=z.2.1)))&&(V.getD default))&&(decide ((↑b.1.length:Int)=(↑b.1.length:Int))));refine j5 (v:=(.bool G2)) rfl (za rfl) ?_;obtain⟨ai,ba,a⟩:=zn a
 refine nk rfl rfl rfl rfl (fun c=>yh (vs:=[]) zoh rfl ((by have K:=(mi ba (zh rfl c));exact mq  K)) (fun _ _ h=>h)) fun bb bc au ac=>?_;replace ac:phG (true&&(G2==true)) (phX (.bool (ai.getD default))) bb bc:=ac;refine j5 rfl (u6 rfl (fun E=>(ac.1 (zh rfl E))) rfl) ?_
 let G1:=(((((decide (b.2.2=0))&&(decide (b.2.1=z.2.1)))&&(V.getD default))&&(decide ((↑b.1.length:Int)=(↑b.1.length:Int))))&&(ai.getD default));refine j5 (v:=(.bool G1)) rfl (ou rfl) (z8 (ql ?_));obtain rfl:=Option.some.inj a
 refine qd (D:=[]) (J:=[box H [(vi p.inputs),(vi p.outputs),F] 27]) (rs:=[.tmp 6]) (vs:=[(.bool G1)]) (((((((((s.trans q).trans m).trans f).trans j).trans o).trans u).trans C).trans S).trans au) rfl rfl ⟨rfl,trivial⟩ ?_;exact⟨rfl,rfl⟩
end GV
end Go.Proofs.Ytdhccodneoebpaa
