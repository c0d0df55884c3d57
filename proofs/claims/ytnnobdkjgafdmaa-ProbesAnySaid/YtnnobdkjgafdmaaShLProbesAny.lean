import Derived.Test.YtnnobdkjgafdmaaShWe
import Derived.Test.YtnnobdkjgafdmaaShXa
import Derived.Test.YtnnobdkjgafdmaaShXb
import Derived.Test.YtnnobdkjgafdmaaShXf
import Derived.Test.YtnnobdkjgafdmaaShXg
import Derived.Test.YtnnobdkjgafdmaaRows
set_option linter.unusedVariables false
set_option linter.unusedSimpArgs false
set_option linter.unusedSectionVars false
namespace Go.Proofs.Ytnnobdkjgafdmaa
namespace GV
open _root_.Go.Proofs.Try
open Go.IntWalk
set_option maxRecDepth 100000
set_option maxHeartbeats 20000000
theorem za6{N:Nat}{R:RH}{m:Mach}{f:Value}(n:VRep (ji false false) R f m){r:Int}(b:z08 N m=some r):CallP prog 24 #[f] R (fun v R'=>v=(vi r)):=by
 refine qd (args:=[f]) func24 rfl rfl fun A=>?_;rw [z08] at b;refine zg (kv (T:=(ji false false)) rfl rfl rfl n fun P Q h S o=>?_);refine zi (vi 0) (z8 (zt (zg (ja rfl vg jr rfl o fun U y=>?_))));refine qg rfl lq rfl y fun V z=>?_
 refine zm (ql rfl underlying28 rfl (jd z)) (zm (z00 rfl rfl) (z8 (zo rfl b (fun b=>?_) (fun b=>?_))));refine zg (zi (vi 1) (z8 (qj ?_)));obtain rfl:=Option.some.inj b;refine zw (D:=[]) (J:=[]) (rs:=[.tmp 2]) (vs:=[(vi 1)]) h rfl rfl ⟨rfl,trivial⟩ ?_;exact⟨rfl,rfl⟩;refine zz ?_
 obtain⟨j,a,b⟩:=zn b;refine j5 (γ:=Unit) (rs [2,4,8,22]) (fun g=>[]) (fun g=>[]++A) (fun g R=>j=Ex.go g∧True) ?_ ?_
 refine zg (zi (vi 0) (z8 (zy (jg (γ:=Nat×Int) (rs [2,4,8,22]) (fun g=>[(3,(vi g.2))]) (fun g=>[]++A) (fun g R=>gp N m g.1 g.2=some j∧True) (fun g=>g.1) (N,0) prm ⟨a,trivial⟩ ?_))));clear a;rintro⟨e,c⟩ B C d ⟨a,_⟩;rcases e with _|e;exact qy a
 replace a:gp N m (e+1) c=some j:=a;rw [gp] at a;refine zt (zg (zh (vi c) (ja rfl vg jr rfl (o.mono d) fun E p=>?_)));refine qg rfl lq rfl p fun F q=>?_
 refine zm (ql rfl underlying28 rfl (jd q)) (zm (j6 rfl rfl) (z8 (zo rfl a (fun a=>?_) (fun a=>?_))));refine zz (zt (zy (zg (ja rfl vg jr rfl (o.mono d) fun G s=>?_))));refine qg rfl lq rfl s fun H t=>?_;refine zh (vi c) ?_;obtain⟨k,a⟩:=zf a
 refine jv (i:=c.toNat) rfl za2 rfl (jd t) (zk rfl k.1) (qh k) fun I u=>?_;refine qg rfl z9r rfl u fun K w=>?_;refine zm (ql rfl underlying58 rfl (jd w)) (zm (z00 rfl rfl) (z8 (zo rfl a (fun a=>?_) (fun a=>?_))));refine zg (zi (vi 1) (z8 (qj ?_)));replace b:=ry a b
 obtain rfl:=Option.some.inj b;refine zw (D:=[]) (J:=[]) (rs:=[.tmp 2]) (vs:=[(vi 1)]) (h.trans d) rfl rfl ⟨rfl,trivial⟩ ?_;exact⟨rfl,rfl⟩;refine zz (zu (zh (vi c) ?_));obtain⟨x,a⟩:=zf a;refine zm (jl rfl rfl x) (zi (vi (c+1)) (z8 ?_))
 exact⟨dkt,(RH.le.refl _),kg,(e,c+1),Nat.lt_succ_self _,⟨rfl,trivial⟩,prm,a,trivial⟩;refine jh ?_;exact⟨dkt,d,kg,(),trivial,prm,(Option.some.inj a).symm,trivial⟩;rintro L M O l ⟨rfl,_⟩;replace b:=z0e b;refine zg (zi (vi 0) (z8 (qj ?_)));obtain rfl:=Option.some.inj b
 refine zw (D:=[]) (J:=[]) (rs:=[.tmp 2]) (vs:=[(vi 0)]) (h.trans l) rfl rfl ⟨rfl,trivial⟩ ?_;exact⟨rfl,rfl⟩
theorem q4t:Enters prog 24:=enters_of func24 rfl (by kernel_rfl)
theorem za9{N:Nat}{R:RH}{m:Mach}{d:Value}(e:VRep (ji false false) R d m){r:Int}(a:z09 N m=some r):CallP prog 25 #[d] R (fun v R'=>v=(vi r)):=by
 refine qd (args:=[d]) func25 rfl rfl fun A=>?_;rw [z09] at a;refine zg (kv (T:=(ji false false)) rfl rfl rfl e fun q s c i j=>?_);refine zi (vi 0) (z8 (zt (zg (zm (jo z06 rfl rfl i (e.mono c)) ?_))));obtain⟨f,k,a⟩:=zn a
 refine je rfl q4x rfl (z9w (e.mono c) k) fun t l b n=>?_;obtain rfl:=n;refine zi (vi f) (qz (zh (vi f) (zm (wy rfl rfl) (z8 (zo rfl a (fun a=>?_) (fun a=>?_))))));refine zg (zh (vi f) (zi (vi f) (z8 (qj ?_))));obtain rfl:=Option.some.inj a
 refine zw (D:=[]) (J:=[]) (rs:=[.tmp 2]) (vs:=[(vi f)]) (c.trans b) rfl rfl ⟨rfl,trivial⟩ ?_;exact⟨rfl,rfl⟩;refine zz (zt (zg (ja rfl vg jr rfl (j.mono b) fun o g=>?_)));refine qg rfl lq rfl g fun p h=>?_
 refine zm (ql rfl underlying28 rfl (jd h)) (zm (z00 rfl rfl) (z8 (zo rfl a (fun a=>?_) (fun a=>?_))));refine zg (zi (vi 3) (z8 (qj ?_)));obtain rfl:=Option.some.inj a;refine zw (D:=[]) (J:=[]) (rs:=[.tmp 2]) (vs:=[(vi 3)]) (c.trans b) rfl rfl ⟨rfl,trivial⟩ ?_;exact⟨rfl,rfl⟩
 refine zz (zg (zi (vi 0) (z8 (qj ?_))));obtain rfl:=Option.some.inj a;refine zw (D:=[]) (J:=[]) (rs:=[.tmp 2]) (vs:=[(vi 0)]) (c.trans b) rfl rfl ⟨rfl,trivial⟩ ?_;exact⟨rfl,rfl⟩
theorem q3b:Enters prog 25:=enters_of func25 rfl (by kernel_rfl)
theorem z7v{N:Nat}{R:RH}{m:Mach}{C:Value}(q:VRep (ji false false) R C m){s:Int}{most:Int}{r:Bool}(b:ib N m s most=some r):CallP prog 6 #[C,(vi s),(vi most)] R (fun v R'=>v=(.bool r)):=by
 refine qd (args:=[C,(vi s),(vi most)]) func6 rfl rfl fun A=>?_;rw [ib] at b;refine zg (kv (T:=(ji false false)) rfl rfl rfl q fun v1 R3 l X h2=>?_);refine zi (.bool false) (z8 (zt (zg (qw (v:=C) rfl (jo z06 rfl rfl X (q.mono l)) ?_))));obtain⟨y8,c9,b⟩:=zn b
 refine z3v (φ:=phX (vi y8)) rfl (xy (vs:=[C]) q4t rfl (za6 (q.mono l) c9) (fun _ _ h=>h)) fun cS cT c bp=>?_;obtain rfl:=Eq.symm bp;refine qw rfl (wy rfl rfl) (qw (v:=(.bool (decide (y8≠0)))) rfl (za rfl) (qb rfl rfl rfl rfl (fun a=>zq (v:=(vi most)) (za rfl)) fun cU bq=>?_))
 refine qb rfl rfl rfl rfl (fun a=>zq (z00 (bq.1 (ze rfl a)) rfl)) fun cV br=>?_;refine qb rfl rfl rfl rfl (fun a=>zq (v:=(.bool (decide (4<most)))) (za (br.1 (ze rfl a)))) fun cW aa=>?_;refine z6f rfl rfl rfl aa (fun u a=>zq (v:=(vi most)) (za rfl)) fun cX bs=>?_
 refine z6f rfl rfl rfl aa (fun u a=>zq (zrb (bs.1 (ze u a)) rfl)) fun cY bt=>?_;refine qb rfl rfl rfl rfl (fun a=>zq (yx (aa.1 (ze rfl a)) (fun o=>(bt.1 (ze (ze rfl a) o))) rfl)) fun cZ bu=>?_;refine qw rfl (xh rfl rfl (fun o=>(bu.1 (ze rfl o)))) (z8 (zo rfl b (fun b=>?_) (fun b=>?_)))
 refine zg (zi (.bool true) (z8 (qj ?_)));obtain rfl:=Option.some.inj b;refine zw (D:=[]) (J:=[]) (rs:=[.tmp 6]) (vs:=[(.bool true)]) (l.trans c) rfl rfl ⟨rfl,trivial⟩ ?_;exact⟨rfl,rfl⟩;refine zz (zg (zm (jo z06 rfl rfl (X.mono c) (q.mono (l.trans c))) ?_));obtain⟨n,bw,b⟩:=zn b
 refine je rfl q3b rfl (za9 (q.mono (l.trans c)) bw) fun c0 c1 d bx=>?_;obtain rfl:=bx;refine zi (vi n) (qz (zm (jo z06 rfl rfl (X.mono (c.trans d)) (q.mono ((l.trans c).trans d))) (zh (vi s) (zh (vi most) ?_))));obtain⟨k,bz,b⟩:=zn b
 refine je rfl en9 rfl (z6m (q.mono ((l.trans c).trans d)) bz) fun c2 c3 e bA=>?_;obtain⟨K,rfl,ab⟩:=bA
 refine zh (.tuple #[K,(vi k.2)]) (zm (jf rfl rfl) (zm (jf rfl rfl) (zi K (zi (vi k.2) (qz (zm (jo z06 rfl rfl (X.mono ((c.trans d).trans e)) (q.mono (((l.trans c).trans d).trans e))) (zh (vi most) ?_)))))));obtain⟨p,bB,b⟩:=zn b
 refine je rfl zzn rfl (z6h (q.mono (((l.trans c).trans d).trans e)) bB) fun c4 c5 f bC=>?_;obtain⟨L,rfl,ac⟩:=bC
 refine zh (.tuple #[L,(vi p.2)]) (zm (jf rfl rfl) (zm (jf rfl rfl) (zi L (zi (vi p.2) (qz (zm (jo z06 rfl rfl (X.mono (((c.trans d).trans e).trans f)) (q.mono ((((l.trans c).trans d).trans e).trans f))) ?_))))));obtain⟨y,bD,b⟩:=zn b
 refine je rfl q2c rfl (zak (q.mono ((((l.trans c).trans d).trans e).trans f)) bD) fun c6 c7 g bE=>?_;obtain⟨bF,rfl,bG⟩:=bE;refine zh (.tuple #[bF,(vi y.2)]) (zm (jf rfl rfl) (zm (jf rfl rfl) (kw rfl zul fun M=>?_)));obtain⟨F,rfl,af⟩:=z6z bG
 refine ku (i:=0) (vs:=[F]) zbm rfl rfl rfl rfl rfl rfl (qf (z5i af) ko) ?_
 refine zi (vi y.2) (qz (zm (jo z06 rfl rfl (X.mono ((((c.trans d).trans e).trans f).trans g)) (q.mono (((((l.trans c).trans d).trans e).trans f).trans g))) (zm (gz (ps:=[]) (v:=(.agg #[vs0])) rfl (fun w=>by kernel_rfl)) ?_)));obtain⟨G,bH,b⟩:=zn b
 refine je rfl q52 rfl (ziu (q.mono (((((l.trans c).trans d).trans e).trans f).trans g)) (⟨_,(uu (T:=(tSl false (qa false))) rfl z3m),rfl⟩:VRep (u7 false false) _ _ (⟨[]⟩:Sc)) bH) fun c8 da j bI=>?_;obtain rfl:=bI
 refine zi (vi G) (z8 (zt (zg (zh (vi n) (zm (wy rfl rfl) (z8 (zo rfl b (fun b=>?_) (fun b=>?_))))))))
 refine zg (qw (v:=(vi k.2)) rfl (za rfl) (qw (v:=(vi n)) rfl (za rfl) (qw rfl (ui rfl rfl) (qw (v:=(.bool (decide (k.2=n)))) rfl (za rfl) (qb rfl rfl rfl rfl (fun a=>zq (v:=(vi p.2)) (za rfl)) fun db bJ=>?_)))))
 refine qb rfl rfl rfl rfl (fun a=>zq (v:=(vi n)) (za rfl)) fun dc bK=>?_;refine qb rfl rfl rfl rfl (fun a=>zq (ui (bJ.1 (ze rfl a)) (bK.1 (ze rfl a)))) fun dd bL=>?_;refine qw rfl (yx rfl (fun o=>(bL.1 (ze rfl o))) rfl) ?_;let G5:=((decide (k.2=n))&&(decide (p.2=n)))
 refine qw (v:=(.bool G5)) rfl (za rfl) (qb rfl rfl rfl rfl (fun a=>zq (v:=(vi y.2)) (za rfl)) fun de bN=>?_);refine qb rfl rfl rfl rfl (fun a=>zq (v:=(vi n)) (za rfl)) fun df bO=>?_;refine qb rfl rfl rfl rfl (fun a=>zq (ui (bN.1 (ze rfl a)) (bO.1 (ze rfl a)))) fun dg bP=>?_
 refine qw rfl (yx rfl (fun o=>(bP.1 (ze rfl o))) rfl) (qw (v:=(.bool (G5&&(decide (y.2=n))))) rfl (za rfl) (qb rfl rfl rfl rfl (fun a=>zq (v:=(vi G)) (za rfl)) fun bR ag=>?_));refine qb rfl rfl rfl rfl (fun a=>zq (v:=(vi n)) (za rfl)) fun bS ah=>?_
 refine qb rfl rfl rfl rfl (fun a=>zq (ui (ag.1 (ze rfl a)) (ah.1 (ze rfl a)))) fun bT aj=>?_;refine qw rfl (yx rfl (fun o=>(aj.1 (ze rfl o))) rfl) (qw (v:=(.bool ((G5&&(decide (y.2=n)))&&(decide (G=n))))) rfl (za rfl) (qb rfl rfl rfl rfl (fun a=>zq (v:=K) (za rfl)) fun bU ak=>?_))
 refine qb rfl rfl rfl rfl (fun a=>zq (ql rfl underlying32 (ak.1 (ze rfl a)) (jd (ab.mono ((f.trans g).trans j))))) fun bV al=>?_;refine qb rfl rfl rfl rfl (fun a=>zq (v:=L) (za rfl)) fun bW am=>?_
 refine qb rfl rfl rfl rfl (fun a=>zq (ql rfl underlying32 (am.1 (ze rfl a)) (jd (ac.mono (g.trans j))))) fun bX an=>?_;obtain⟨ao,b⟩:=zf b;refine qb rfl rfl rfl rfl (fun a=>zq (jl (al.1 (ze rfl a)) (an.1 (ze rfl a)) (ao (ze rfl a)))) fun bY ap=>?_
 refine qb rfl rfl rfl rfl (fun a=>zq (v:=(.pointer (some ⟨M,0,none⟩))) (qx ai rfl)) fun bZ aq=>?_;refine qb rfl rfl rfl rfl (fun a=>zq (v:=F) (qm (i:=0) zrv (aq.1 (ze rfl a)) rfl rfl)) fun b0 ar=>?_
 refine qb rfl rfl rfl rfl (fun a=>zq (ql rfl underlying43 (ar.1 (ze rfl a)) (jd (af.mono j)))) fun b1 au=>?_;obtain⟨av,b⟩:=zf b;refine qb rfl rfl rfl rfl (fun a=>zq (jl (ap.1 (ze rfl a)) (au.1 (ze rfl a)) (av (ze rfl a)))) fun b2 aw=>?_
 refine qb rfl rfl rfl rfl (fun a=>zq (ui (aw.1 (ze rfl a)) rfl)) fun b3 ax=>?_;refine qw rfl (yx rfl (fun o=>(ax.1 (ze rfl o))) rfl) ?_;let G2:=(((((decide (k.2=n))&&(decide (p.2=n)))&&(decide (y.2=n)))&&(decide (G=n)))&&(decide ((((↑k.1.length:Int)+(↑p.1.length:Int))+(↑y.1.fA.length:Int))=0)))
 refine qw (v:=(.bool G2)) rfl (za rfl) ?_;obtain⟨Y,ay,b⟩:=zn b;refine z2x rfl rfl rfl rfl (fun a=>xy (vs:=[]) q1x rfl ((by have H:=(z0z ay (ze rfl a));exact z4x  H)) (fun _ _ h=>h)) fun az aA ad O=>?_;replace O:phG (true&&(G2==true)) (phX (.bool (Y.getD default))) az aA:=O
 refine qw rfl (yx rfl (fun o=>(O.1 (ze rfl o))) rfl) ?_;let G1:=((((((decide (k.2=n))&&(decide (p.2=n)))&&(decide (y.2=n)))&&(decide (G=n)))&&(decide ((((↑k.1.length:Int)+(↑p.1.length:Int))+(↑y.1.fA.length:Int))=0)))&&(Y.getD default));refine qw (v:=(.bool G1)) rfl (bv rfl) (z8 (qj ?_))
 obtain rfl:=Option.some.inj b;refine zw (D:=[]) (J:=[box M [F] 45]) (rs:=[.tmp 6]) (vs:=[(.bool G1)]) (((((((l.trans c).trans d).trans e).trans f).trans g).trans j).trans ad) rfl rfl ⟨rfl,trivial⟩ ?_;exact⟨rfl,rfl⟩
 refine zz (zt (zg (qw (v:=(vi G)) rfl (za rfl) (qw rfl (wy rfl rfl) (qw (v:=(.bool (decide (G≠4)))) rfl (za rfl) (qb rfl rfl rfl rfl (fun a=>zq (v:=(vi y.2)) (za rfl)) fun b6 aB=>?_))))));refine qb rfl rfl rfl rfl (fun a=>zq (wy (aB.1 (ze rfl a)) rfl)) fun b7 aC=>?_
 refine qb rfl rfl rfl rfl (fun a=>zq (v:=(.bool (decide (y.2≠0)))) (za (aC.1 (ze rfl a)))) fun b8 P=>?_;refine z6f rfl rfl rfl P (fun u a=>zq (v:=(vi y.2)) (za rfl)) fun b9 aD=>?_;refine z6f rfl rfl rfl P (fun u a=>zq (wy (aD.1 (ze u a)) rfl)) fun ca aE=>?_
 refine qb rfl rfl rfl rfl (fun a=>zq (yx (P.1 (ze rfl a)) (fun o=>(aE.1 (ze (ze rfl a) o))) rfl)) fun cb aF=>?_;refine qw rfl (xh rfl rfl (fun o=>(aF.1 (ze rfl o)))) (z8 (zo rfl b (fun b=>?_) (fun b=>?_)));refine zg (zi (.bool false) (z8 (qj ?_)));obtain rfl:=Option.some.inj b
 refine zw (D:=[]) (J:=[box M [F] 45]) (rs:=[.tmp 6]) (vs:=[(.bool false)]) ((((((l.trans c).trans d).trans e).trans f).trans g).trans j) rfl rfl ⟨rfl,trivial⟩ ?_;exact⟨rfl,rfl⟩
 refine zz (zg (qw (v:=(vi most)) rfl (za rfl) (qw rfl (j6 rfl rfl) (qw (v:=(.bool (decide (most<0)))) rfl (za rfl) (qb rfl rfl rfl rfl (fun a=>zq (v:=(vi most)) (za rfl)) fun cc aG=>?_)))));refine qb rfl rfl rfl rfl (fun a=>zq (z00 (aG.1 (ze rfl a)) rfl)) fun cd aH=>?_
 refine qw rfl (xh rfl rfl (fun o=>(aH.1 (ze rfl o)))) (qw (v:=(.bool ((decide (most<0))||(decide (256<most))))) rfl (bv rfl) (z8 (zt (zg (qw (v:=(.bool ((decide (most<0))||(decide (256<most))))) rfl (za rfl) (qw (v:=(vi p.2)) rfl (za rfl) (qw rfl (ui rfl rfl) (qw rfl (zn4 underlying4 rfl rfl) (qw (v:=(.bool (decide (((decide (most<0))||(decide (256<most)))≠(decide (p.2=1)))))) rfl (za rfl) (qb rfl rfl rfl rfl (fun a=>zq (v:=(.bool ((decide (most<0))||(decide (256<most))))) (za rfl)) fun ce aI=>?_))))))))))
 refine qb rfl rfl rfl rfl (fun a=>zq (v:=(.bool ((decide (most<0))||(decide (256<most))))) (za (aI.1 (ze rfl a)))) fun cf Q=>?_;refine z6f rfl rfl rfl Q (fun u a=>zq (v:=(vi s)) (za rfl)) fun cg aJ=>?_;refine z6f rfl rfl rfl Q (fun u a=>zq (j6 (aJ.1 (ze u a)) rfl)) fun ch aK=>?_
 refine qb rfl rfl rfl rfl (fun a=>zq (xh (Q.1 (ze rfl a)) rfl (fun o=>(aK.1 (ze (ze rfl a) o))))) fun ci aL=>?_;refine qb rfl rfl rfl rfl (fun a=>zq (v:=(.bool (((decide (most<0))||(decide (256<most)))||(decide (s<0))))) (za (aL.1 (ze rfl a)))) fun cj z=>?_
 refine z6f rfl rfl rfl z (fun u a=>zq (v:=(vi s)) (za rfl)) fun ck aM=>?_;refine z6f rfl rfl rfl z (fun u a=>ug vg jr rfl (h2.mono (((((c.trans d).trans e).trans f).trans g).trans j))) fun cl aN=>?_;refine z6f rfl rfl rfl z (fun u a=>jq lq rfl (aN.1 (ze u a))) fun cm aO=>?_
 refine z6f rfl rfl rfl z (fun u a=>zq (ql rfl underlying28 rfl (jd (aO.1 (ze u a))))) fun cn aP=>?_;refine z6f rfl rfl rfl z (fun u a=>zq (z02 (aM.1 (ze u a)) (aP.1 (ze u a)))) fun co aQ=>?_
 refine qb rfl rfl rfl rfl (fun a=>zq (xh (z.1 (ze rfl a)) rfl (fun o=>(aQ.1 (ze (ze rfl a) o))))) fun cp aR=>?_;refine qb rfl rfl rfl rfl (fun a=>zq (v:=(vi k.2)) (za rfl)) fun cq aS=>?_;refine qb rfl rfl rfl rfl (fun a=>zq (ui (aS.1 (ze rfl a)) rfl)) fun cr aT=>?_
 refine qb rfl rfl rfl rfl (fun a=>zq (zn4 underlying4 (aR.1 (ze rfl a)) (aT.1 (ze rfl a)))) fun cs aU=>?_;refine qw rfl (xh rfl rfl (fun o=>(aU.1 (ze rfl o)))) (z8 (zo rfl b (fun b=>?_) (fun b=>?_)));refine zg (zi (.bool false) (z8 (qj ?_)));obtain rfl:=Option.some.inj b
 refine zw (D:=[]) (J:=[box M [F] 45]) (rs:=[.tmp 6]) (vs:=[(.bool false)]) ((((((l.trans c).trans d).trans e).trans f).trans g).trans j) rfl rfl ⟨rfl,trivial⟩ ?_;exact⟨rfl,rfl⟩
 refine zz (zt (zg (qw (v:=(vi k.2)) rfl (za rfl) (qw rfl (ui rfl rfl) (qw (v:=(.bool (decide (k.2=0)))) rfl (za rfl) (qb rfl rfl rfl rfl (fun a=>zq (v:=C) (jo z06 rfl rfl (X.mono (((((c.trans d).trans e).trans f).trans g).trans j)) (q.mono ((((((l.trans c).trans d).trans e).trans f).trans g).trans j)))) fun ct aV=>?_))))))
 refine qb rfl rfl rfl rfl (fun a=>zq (v:=K) (za rfl)) fun cu aW=>?_;refine qb rfl rfl rfl rfl (fun a=>zq (v:=(vi s)) (za rfl)) fun cv aX=>?_;obtain⟨S,aY,b⟩:=zn b
 refine z2x rfl rfl rfl rfl (fun a=>xy (vs:=[C,K,(vi s)]) q1e (z4w (aV.1 (ze rfl a)) (z4w (aW.1 (ze rfl a)) (z4w (aX.1 (ze rfl a)) rfl))) ((by have H:=(z0z aY (ze rfl a));exact z4c (q.mono ((((((l.trans c).trans d).trans e).trans f).trans g).trans j)) (Sub.v (B:=(tSl false (qo .i64))) (uw Sub.refl (fun _=>rfl)) (ab.mono ((f.trans g).trans j))) H)) (fun _ _ h=>h)) fun aZ a0 t U=>?_
 replace U:phG (true&&((decide (k.2=0))==true)) (phX (.bool (S.getD default))) aZ a0:=U;refine qb rfl rfl rfl rfl (fun a=>zq (mq (U.1 (ze rfl a)))) fun cw a1=>?_
 refine qw rfl (yx rfl (fun o=>(a1.1 (ze rfl o))) rfl) (qw (v:=(.bool ((decide (k.2=0))&&(!(S.getD default))))) rfl (za rfl) (qb rfl rfl rfl rfl (fun a=>zq (v:=(vi p.2)) (za rfl)) fun cx a2=>?_));refine qb rfl rfl rfl rfl (fun a=>zq (ui (a2.1 (ze rfl a)) rfl)) fun cy a3=>?_
 refine qb rfl rfl rfl rfl (fun a=>zq (v:=(.bool (decide (p.2=0)))) (za (a3.1 (ze rfl a)))) fun cz E=>?_
 refine z6f rfl rfl rfl E (fun u a=>zq (v:=C) (jo z06 rfl rfl (X.mono ((((((c.trans d).trans e).trans f).trans g).trans j).trans t)) (q.mono (((((((l.trans c).trans d).trans e).trans f).trans g).trans j).trans t)))) fun cA a4=>?_
 refine z6f rfl rfl rfl E (fun u a=>zq (v:=L) (za rfl)) fun cB a5=>?_;obtain⟨a6,a7,b⟩:=zn b
 refine zyv rfl rfl rfl E (fun u a=>xy (vs:=[C,L]) q4d (z4w (a4.1 (ze u a)) (z4w (a5.1 (ze u a)) rfl)) ((by have H:=(z0z a7 (ze u a));exact z9i (q.mono (((((((l.trans c).trans d).trans e).trans f).trans g).trans j).trans t)) (Sub.v (B:=(tSl false (qo .i64))) (uw Sub.refl (fun _=>rfl)) (ac.mono ((g.trans j).trans t))) H)) (fun _ _ h=>h)) fun a8 a9 x V=>?_
 replace V:phG ((true&&(((decide (k.2=0))&&(!(S.getD default)))==false))&&((decide (p.2=0))==true)) (phX (.bool (a6.getD default))) a8 a9:=V;refine z6f rfl rfl rfl ((jc q8) _ _ _ x E) (fun u a=>zq (mq (V.1 (ze u a)))) fun cC ba=>?_
 refine qb rfl rfl rfl rfl (fun a=>zq (yx (((jc q8) _ _ _ x E).1 (ze rfl a)) (fun o=>(ba.1 (ze (ze rfl a) o))) rfl)) fun cD bb=>?_;refine qw rfl (xh rfl rfl (fun o=>(bb.1 (ze rfl o)))) (z8 (zo rfl b (fun b=>?_) (fun b=>?_)));refine zg (zi (.bool false) (z8 (qj ?_)));obtain rfl:=Option.some.inj b
 refine zw (D:=[]) (J:=[box M [F] 45]) (rs:=[.tmp 6]) (vs:=[(.bool false)]) ((((((((l.trans c).trans d).trans e).trans f).trans g).trans j).trans t).trans x) rfl rfl ⟨rfl,trivial⟩ ?_;exact⟨rfl,rfl⟩
 refine zz (zg (qw (v:=(vi k.2)) rfl (za rfl) (qw rfl (ui rfl rfl) (qw (v:=(.bool (decide (k.2=0)))) rfl (za rfl) (qb rfl rfl rfl rfl (fun a=>zq (v:=K) (za rfl)) fun cE bc=>?_)))))
 refine qb rfl rfl rfl rfl (fun a=>zq (ql rfl underlying32 (bc.1 (ze rfl a)) (jd (ab.mono ((((f.trans g).trans j).trans t).trans x))))) fun cF be=>?_;refine qb rfl rfl rfl rfl (fun a=>zq (ui (be.1 (ze rfl a)) rfl)) fun cG bf=>?_
 refine qw rfl (xh rfl rfl (fun o=>(bf.1 (ze rfl o)))) (qw (v:=(.bool ((decide (k.2=0))||(decide ((↑k.1.length:Int)=0))))) rfl (za rfl) (qb rfl rfl rfl rfl (fun a=>zq (v:=(vi p.2)) (za rfl)) fun cH bg=>?_));refine qb rfl rfl rfl rfl (fun a=>zq (ui (bg.1 (ze rfl a)) rfl)) fun cI bh=>?_
 refine qb rfl rfl rfl rfl (fun a=>zq (v:=(.bool (decide (p.2=0)))) (za (bh.1 (ze rfl a)))) fun cJ I=>?_;refine z6f rfl rfl rfl I (fun u a=>zq (v:=L) (za rfl)) fun cK bi=>?_
 refine z6f rfl rfl rfl I (fun u a=>zq (ql rfl underlying32 (bi.1 (ze u a)) (jd (ac.mono (((g.trans j).trans t).trans x))))) fun cL bj=>?_;refine z6f rfl rfl rfl I (fun u a=>zq (ui (bj.1 (ze u a)) rfl)) fun cM bk=>?_
 refine qb rfl rfl rfl rfl (fun a=>zq (xh (I.1 (ze rfl a)) rfl (fun o=>(bk.1 (ze (ze rfl a) o))))) fun cN bl=>?_;refine qw rfl (yx rfl (fun o=>(bl.1 (ze rfl o))) rfl) ?_;let G4:=(((decide (k.2=0))||(decide ((↑k.1.length:Int)=0)))&&((decide (p.2=0))||(decide ((↑p.1.length:Int)=0))))
 refine qw (v:=(.bool G4)) rfl (za rfl) ?_;obtain⟨Z,bm,b⟩:=zn b;refine z2x rfl rfl rfl rfl (fun a=>xy (vs:=[]) q1x rfl ((by have H:=(z0z bm (ze rfl a));exact z4x  H)) (fun _ _ h=>h)) fun bn bo ae W=>?_;replace W:phG (true&&(G4==true)) (phX (.bool (Z.getD default))) bn bo:=W
 refine qw rfl (yx rfl (fun o=>(W.1 (ze rfl o))) rfl) ?_;let G3:=((((decide (k.2=0))||(decide ((↑k.1.length:Int)=0)))&&((decide (p.2=0))||(decide ((↑p.1.length:Int)=0))))&&(Z.getD default));refine qw (v:=(.bool G3)) rfl (bv rfl) (z8 (qj ?_));obtain rfl:=Option.some.inj b
 refine zw (D:=[]) (J:=[box M [F] 45]) (rs:=[.tmp 6]) (vs:=[(.bool G3)]) (((((((((l.trans c).trans d).trans e).trans f).trans g).trans j).trans t).trans x).trans ae) rfl rfl ⟨rfl,trivial⟩ ?_;exact⟨rfl,rfl⟩
end GV
end Go.Proofs.Ytnnobdkjgafdmaa
