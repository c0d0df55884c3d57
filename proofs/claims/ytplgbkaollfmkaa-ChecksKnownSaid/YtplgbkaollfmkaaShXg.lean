import Derived.Test.YtplgbkaollfmkaaShWa
import Derived.Test.YtplgbkaollfmkaaShXa
import Derived.Test.YtplgbkaollfmkaaShXb
import Derived.Test.YtplgbkaollfmkaaShXc
import Derived.Test.YtplgbkaollfmkaaShXd
import Derived.Test.YtplgbkaollfmkaaShXe
import Derived.Test.YtplgbkaollfmkaaRows
set_option linter.unusedVariables false
set_option linter.unusedSimpArgs false
namespace Go.Proofs.Ytplgbkaollfmkaa
namespace GV
open _root_.Go.Proofs.Try
open Go.IntWalk
set_option maxRecDepth 100000
set_option maxHeartbeats 20000000
theorem zcg{N:Nat}{R:RH}{m:Mach}{x:Value}(am:VRep (je false false) R x m){r:Int}(f:z1o N m=some r):CallP prog 24 #[x] R (fun v R'=>v=(vi r)):=by
 refine qd (args:=[x]) func24 rfl rfl fun A=>?_;rw [z1o] at f;refine zi (kg (T:=(je false false)) rfl rfl rfl am fun v1 R3 s h5 q=>?_);refine zh (vi 0) (z8 (q9 (zi (zii rfl (wy l6 l5 rfl q) fun v6 h7=>?_))))
 refine jo rfl (ol (jr ty3 rfl h7)) (jo rfl (z3c rfl rfl) (jo (v:=(.bool (decide (16<m.inputs)))) rfl (zb rfl) (j6 rfl rfl rfl rfl (fun d=>wy zd4 z9p rfl q) fun bl an=>?_)));refine j6 rfl rfl rfl rfl (fun d=>j4 (ol (jr ty3 rfl (an.1 (zn rfl d))))) fun bm ao=>?_
 refine j6 rfl rfl rfl rfl (fun d=>j4 (z3c (ao.1 (zn rfl d)) rfl)) fun bn ap=>?_;refine jo rfl (z0e rfl rfl (fun o=>(ap.1 (zn rfl o)))) (jo (v:=(.bool ((decide (16<m.inputs))||(decide (16<m.outputs))))) rfl (zb rfl) (j6 rfl rfl rfl rfl (fun d=>wy um ky rfl q) fun bo aq=>?_))
 refine j6 rfl rfl rfl rfl (fun d=>jr z0t rfl (aq.1 (zn rfl d))) fun bp ar=>?_;refine j6 rfl rfl rfl rfl (fun d=>j4 (qi rfl underlying22 rfl (qy (ar.1 (zn rfl d))))) fun bq au=>?_;refine j6 rfl rfl rfl rfl (fun d=>j4 (z3c (au.1 (zn rfl d)) rfl)) fun br av=>?_
 refine jo rfl (z0e rfl rfl (fun o=>(av.1 (zn rfl o)))) (z8 (zu rfl f (fun f=>?_) (fun f=>?_)));refine zi (zh (vi 3) (z8 (qm ?_)));obtain rfl:=Option.some.inj f;refine qa (D:=[]) (J:=[]) (rs:=[.tmp 2]) (vs:=[(vi 3)]) s rfl rfl ⟨rfl,trivial⟩ ?_;exact⟨rfl,rfl⟩
 refine q8 (q9 (zi (zii rfl (wy l6 l5 rfl q) fun bs aw=>?_)));refine jo rfl (ol (jr ty3 rfl aw)) (jo rfl (j3 rfl rfl) (jo (v:=(.bool (decide (m.inputs<1)))) rfl (zb rfl) (j6 rfl rfl rfl rfl (fun d=>wy zd4 z9p rfl q) fun bt ax=>?_)))
 refine j6 rfl rfl rfl rfl (fun d=>j4 (ol (jr ty3 rfl (ax.1 (zn rfl d))))) fun bu ay=>?_;refine j6 rfl rfl rfl rfl (fun d=>j4 (j3 (ay.1 (zn rfl d)) rfl)) fun bv az=>?_
 refine jo rfl (z0e rfl rfl (fun o=>(az.1 (zn rfl o)))) (jo (v:=(.bool ((decide (m.inputs<1))||(decide (m.outputs<1))))) rfl (zb rfl) (j6 rfl rfl rfl rfl (fun d=>wy um ky rfl q) fun bw aA=>?_));refine j6 rfl rfl rfl rfl (fun d=>jr z0t rfl (aA.1 (zn rfl d))) fun bx aB=>?_
 refine j6 rfl rfl rfl rfl (fun d=>j4 (qi rfl underlying22 rfl (qy (aB.1 (zn rfl d))))) fun bz aC=>?_;refine j6 rfl rfl rfl rfl (fun d=>j4 (mg (aC.1 (zn rfl d)) rfl)) fun bA aD=>?_;refine jo rfl (z0e rfl rfl (fun o=>(aD.1 (zn rfl o)))) (z8 (zu rfl f (fun f=>?_) (fun f=>?_)))
 refine zi (zh (vi 1) (z8 (qm ?_)));obtain rfl:=Option.some.inj f;refine qa (D:=[]) (J:=[]) (rs:=[.tmp 2]) (vs:=[(vi 1)]) s rfl rfl ⟨rfl,trivial⟩ ?_;exact⟨rfl,rfl⟩;refine q8 ?_;obtain⟨y,e,f⟩:=zt f;refine ql (γ:=Unit) (rs [2,6,34,95]) (fun g=>[]) (fun g=>[]++A) (fun g R=>y=Ex.go g∧True) ?_ ?_
 refine zi (zh (vi 0) (z8 (zw (ja (γ:=Nat×Int) (rs [2,6,34,95]) (fun g=>[(3,(vi g.2))]) (fun g=>[]++A) (fun g R=>wm N m g.1 g.2=some y∧True) (fun g=>g.1) (N,0) prm ⟨e,trivial⟩ ?_))));clear e;rintro⟨t,b⟩ aL bB h ⟨e,_⟩;rcases t with _|t;exact qp e
 replace e:wm N m (t+1) b=some y:=e;rw [wm] at e;refine q9 (zi (zg (vi b) (jg rfl um ky rfl (q.mono h) fun bC aE=>?_)));refine qh rfl z0t rfl aE fun bD aF=>?_
 refine zo (qi rfl underlying22 rfl (qy aF)) (zo (j3 rfl rfl) (z8 (zu rfl e (fun e=>?_) (fun e=>?_))));refine q8 ?_;obtain⟨z,c,e⟩:=zt e;refine ql (γ:=Unit) (rs [2,3,4,6,41,95]) (fun g=>[]) (fun g=>[]++A) (fun g R=>z=Ex.go g∧True) ?_ ?_
 refine zw (q9 (q9 (z3e 9 mixed (by kernel_rfl) (by kernel_rfl) ?_)));refine z1u (wy um ky rfl (q.mono h)) fun bE aG=>?_;refine z1u (jr z0t rfl aG) fun bF aH=>?_;refine u6 (v:=(vi b)) (zb rfl) ?_;obtain⟨C,c⟩:=zf c
 refine z1u (yx (i:=b.toNat) z8p rfl (qy aH) (ze rfl C.1) (zz C)) fun bG aI=>?_;refine z1u (jr z7p rfl aI) fun bH aJ=>?_;refine u6 (qi rfl underlying26 rfl (qy aJ)) ?_;refine z1u (wy l6 l5 rfl (q.mono h)) fun bI aK=>?_;refine u6 (ol (jr ty3 rfl aK)) ?_;refine u6 (xe rfl rfl) ?_
 intro aM j;refine z8 (zu rfl c (fun c=>?_) (fun c=>?_));refine zi (zh (vi 1) (z8 (qm ?_)));replace e:=z2q c e;replace f:=z2q e f;obtain rfl:=Option.some.inj f;refine qa (D:=[]) (J:=[]) (rs:=[.tmp 2]) (vs:=[(vi 1)]) ((s.trans h).trans j) rfl rfl ⟨rfl,trivial⟩ ?_;exact⟨rfl,rfl⟩
 refine q8 (zi (zh (vi 0) (z8 (zw (ja (γ:=Nat×Int) (rs [2,3,4,6,50,95]) (fun g=>[(4,(vi g.2))]) (fun g=>[]++A) (fun g R=>yj N m b g.1 g.2=some z∧True) (fun g=>g.1) (N,0) prm ⟨c,trivial⟩ ?_)))));clear c;rintro⟨p,a⟩ aN aO l ⟨c,_⟩;rcases p with _|p;exact qp c
 replace c:yj N m b (p+1) a=some z:=c;rw [yj] at c;refine q9 (zi (zg (vi a) (jg rfl l6 l5 rfl (q.mono ((h.trans j).trans l)) fun aP E=>?_)));refine qh rfl ty3 rfl E fun aQ F=>?_;obtain rfl:=j5.1 F
 refine zo (j3 rfl rfl) (z8 (zu rfl c (fun c=>?_) (fun c=>?_)));refine q8 ?_;obtain⟨G,n,c⟩:=zt c;refine ql (γ:=Unit) (rs [2,3,5,6,56,95]) (fun g=>[]) (fun g=>[]++A) (fun g R=>G=Ex.go g∧True) ?_ ?_;refine zw (zi (jg rfl um ky rfl (q.mono ((h.trans j).trans l)) fun aR H=>?_))
 refine qh rfl z0t rfl H fun aS I=>?_;refine zg (vi b) ?_;obtain⟨u,n⟩:=zf n;refine jv (i:=b.toNat) rfl z8p rfl (qy I) (ze rfl u.1) (zz u) fun aT K=>?_;refine qh rfl z7p rfl K fun aU L=>?_;refine zg (vi a) ?_;obtain⟨w,n⟩:=zf n
 refine jv (i:=a.toNat) rfl z8w rfl (qy L) (ze rfl w.1) (zz w) fun aV M=>?_;refine qh rfl zeb rfl M fun aW O=>?_;obtain rfl:=sw.1 O;refine uq rfl zdd fun k=>?_
 refine jy (i:=0) (vs:=[(vi ((ix (ix m.rows b) a).to)),(vi ((ix (ix m.rows b) a).out))]) z97 rfl rfl rfl rfl rfl rfl (qg rfl (qg rfl ko)) ?_
 refine z8 (q9 (zi (jo (v:=(.pointer (some ⟨k,0,none⟩))) rfl (qb ic rfl) (jo (v:=(vi ((ix (ix m.rows b) a).to))) rfl (qf (i:=0) ag3 rfl rfl rfl) (jo rfl (mg rfl rfl) (jo (v:=(.bool (decide (((ix (ix m.rows b) a).to)=(-1))))) rfl (zb rfl) (j6 rfl rfl rfl rfl (fun d=>j4 (v:=(.pointer (some ⟨k,1,none⟩))) (qb z9i rfl)) fun aX P=>?_)))))))
 refine j6 rfl rfl rfl rfl (fun d=>j4 (v:=(vi ((ix (ix m.rows b) a).out))) (qf (i:=0) ag3 (P.1 (zn rfl d)) rfl rfl)) fun aY Q=>?_;refine j6 rfl rfl rfl rfl (fun d=>j4 (mg (Q.1 (zn rfl d)) rfl)) fun aZ S=>?_
 refine jo rfl (vk rfl (fun o=>(S.1 (zn rfl o))) rfl) (z8 (zu rfl n (fun n=>?_) (fun n=>?_)));refine jf ?_;exact⟨dkt,(RH.le.refl _),jd,(),trivial,⟨[box k [(vi ((ix (ix m.rows b) a).to)),(vi ((ix (ix m.rows b) a).out))] 62],(List.Perm.refl _)⟩,(Option.some.inj n).symm,trivial⟩
 refine q8 (zi (jo (v:=(.pointer (some ⟨k,0,none⟩))) rfl (qb ic rfl) (jo (v:=(vi ((ix (ix m.rows b) a).to))) rfl (qf (i:=0) ag3 rfl rfl rfl) (jo rfl (j3 rfl rfl) (jo (v:=(.bool (decide (((ix (ix m.rows b) a).to)<0)))) rfl (zb rfl) (j6 rfl rfl rfl rfl (fun d=>j4 (v:=(.pointer (some ⟨k,0,none⟩))) (qb ic rfl)) fun a0 U=>?_))))))
 refine j6 rfl rfl rfl rfl (fun d=>j4 (v:=(vi ((ix (ix m.rows b) a).to))) (qf (i:=0) ag3 (U.1 (zn rfl d)) rfl rfl)) fun a1 V=>?_;refine j6 rfl rfl rfl rfl (fun d=>wy um ky rfl (q.mono ((h.trans j).trans l))) fun a2 W=>?_
 refine j6 rfl rfl rfl rfl (fun d=>jr z0t rfl (W.1 (zn rfl d))) fun a3 X=>?_;refine j6 rfl rfl rfl rfl (fun d=>j4 (qi rfl underlying22 rfl (qy (X.1 (zn rfl d))))) fun a4 Y=>?_;refine j6 rfl rfl rfl rfl (fun d=>j4 (z18 (V.1 (zn rfl d)) (Y.1 (zn rfl d)))) fun a5 Z=>?_
 refine jo rfl (z0e rfl rfl (fun o=>(Z.1 (zn rfl o)))) (jo (v:=(.bool ((decide (((ix (ix m.rows b) a).to)<0))||(decide ((↑m.rows.length:Int)≤((ix (ix m.rows b) a).to)))))) rfl (zb rfl) (j6 rfl rfl rfl rfl (fun d=>j4 (v:=(.pointer (some ⟨k,1,none⟩))) (qb z9i rfl)) fun a6 aa=>?_))
 refine j6 rfl rfl rfl rfl (fun d=>j4 (v:=(vi ((ix (ix m.rows b) a).out))) (qf (i:=0) ag3 (aa.1 (zn rfl d)) rfl rfl)) fun a7 ab=>?_;refine j6 rfl rfl rfl rfl (fun d=>j4 (j3 (ab.1 (zn rfl d)) rfl)) fun a8 ac=>?_
 refine jo rfl (z0e rfl rfl (fun o=>(ac.1 (zn rfl o)))) (jo (v:=(.bool (((decide (((ix (ix m.rows b) a).to)<0))||(decide ((↑m.rows.length:Int)≤((ix (ix m.rows b) a).to))))||(decide (((ix (ix m.rows b) a).out)<0))))) rfl (zb rfl) (j6 rfl rfl rfl rfl (fun d=>j4 (v:=(.pointer (some ⟨k,1,none⟩))) (qb z9i rfl)) fun a9 ad=>?_))
 refine j6 rfl rfl rfl rfl (fun d=>j4 (v:=(vi ((ix (ix m.rows b) a).out))) (qf (i:=0) ag3 (ad.1 (zn rfl d)) rfl rfl)) fun ba ae=>?_;refine j6 rfl rfl rfl rfl (fun d=>wy zd4 z9p rfl (q.mono ((h.trans j).trans l))) fun bb af=>?_
 refine j6 rfl rfl rfl rfl (fun d=>j4 (ol (jr ty3 rfl (af.1 (zn rfl d))))) fun bc ag=>?_;refine j6 rfl rfl rfl rfl (fun d=>j4 (z18 (ae.1 (zn rfl d)) (ag.1 (zn rfl d)))) fun be ah=>?_;refine jo rfl (z0e rfl rfl (fun o=>(ah.1 (zn rfl o)))) (z8 (zu rfl n (fun n=>?_) (fun n=>?_)))
 refine zi (zh (vi 1) (z8 (qm ?_)));replace c:=z2q n c;replace e:=z2q c e;replace f:=z2q e f;obtain rfl:=Option.some.inj f
 refine qa (D:=[]) (J:=[box k [(vi ((ix (ix m.rows b) a).to)),(vi ((ix (ix m.rows b) a).out))] 62]) (rs:=[.tmp 2]) (vs:=[(vi 1)]) (((s.trans h).trans j).trans l) rfl rfl ⟨rfl,trivial⟩ ?_;exact⟨rfl,rfl⟩;refine q8 ?_
 exact⟨dkt,(RH.le.refl _),jd,(),trivial,⟨[box k [(vi ((ix (ix m.rows b) a).to)),(vi ((ix (ix m.rows b) a).out))] 62],(List.Perm.refl _)⟩,(Option.some.inj n).symm,trivial⟩;rintro bf bg bh B ⟨rfl,_⟩;replace c:=z3u c;refine zy (zg (vi a) ?_);obtain⟨ai,c⟩:=zf c
 refine zo (qz rfl rfl ai) (zh (vi (a+1)) (z8 ?_));exact⟨dkt,B,jd,(p,a+1),Nat.lt_succ_self _,⟨rfl,trivial⟩,prm,c,trivial⟩;refine jf ?_;exact⟨dkt,(j.trans l),jd,(),trivial,prm,(Option.some.inj c).symm,trivial⟩;rintro bJ bi bK aj ⟨rfl,_⟩;replace e:=z3u e;refine zy (zg (vi b) ?_)
 obtain⟨ak,e⟩:=zf e;refine zo (qz rfl rfl ak) (zh (vi (b+1)) (z8 ?_));exact⟨dkt,aj,jd,(t,b+1),Nat.lt_succ_self _,⟨rfl,trivial⟩,prm,e,trivial⟩;refine jf ?_;exact⟨dkt,h,jd,(),trivial,prm,(Option.some.inj e).symm,trivial⟩;rintro bL bj bM al ⟨rfl,_⟩;replace f:=z3u f
 refine zi (zh (vi 0) (z8 (qm ?_)));obtain rfl:=Option.some.inj f;refine qa (D:=[]) (J:=[]) (rs:=[.tmp 2]) (vs:=[(vi 0)]) (s.trans al) rfl rfl ⟨rfl,trivial⟩ ?_;exact⟨rfl,rfl⟩
theorem q6m:Enters prog 24:=enters_of func24 rfl (by kernel_rfl)
theorem zbh{N:Nat}{R:RH}{m:Mach}{x:Value}(B:VRep (je false false) R x m){d:(List Int)}{e:Value}(p:VRep (tSl false (zx .i64)) R e d){r:Bool}(k:z16 N m d=some r):CallP prog 29 #[x,e] R (fun v R'=>v=(.bool r)):=by
 refine qd (args:=[x,e]) func29 rfl rfl fun A=>?_;rw [z16] at k;refine zi (kg (T:=(je false false)) rfl rfl rfl B fun v1 R3 q h5 V=>?_);refine zh (.bool false) (z8 ?_);obtain⟨C,b,k⟩:=zt k;refine ql (γ:=Unit) (rs [4,26]) (fun g=>[]) (fun g=>[]++A) (fun g R=>C=Ex.go g∧True) ?_ ?_
 refine zi (zh (vi 0) (z8 (zw (ja (γ:=Nat×Int) (rs [4,26]) (fun g=>[(5,(vi g.2))]) (fun g=>[]++A) (fun g R=>xq N m d g.1 g.2=some C∧True) (fun g=>g.1) (N,0) prm ⟨b,trivial⟩ ?_))));clear b;rintro⟨t,a⟩ W X j ⟨b,_⟩;rcases t with _|t;exact qp b
 replace b:xq N m d (t+1) a=some C:=b;rw [xq] at b;refine q9 (zi (zg (vi a) (zg e (zo (qi rfl underlying25 rfl (qy (p.mono (q.trans j)))) (zo (j3 rfl rfl) (z8 (zu rfl b (fun b=>?_) (fun b=>?_))))))));refine q8 (q9 (zw (q9 ?_)))
 obtain⟨y,z,b⟩:=zxi b
 refine og 14 [] [phX e,phX (vi a),phP (zx .i64) (ix d a),phX (vi (ix d a)),phX (.bool (decide ((ix d a)<0))),phX (.bool (decide ((ix d a)<0))),phG (true&&((decide ((ix d a)<0))==false)) (phX e),phG (true&&((decide ((ix d a)<0))==false)) (phX (vi a)),phG (true&&((decide ((ix d a)<0))==false)) (phP (zx .i64) (ix d a)),phG (true&&((decide ((ix d a)<0))==false)) (phX (vi (ix d a))),phG (true&&((decide ((ix d a)<0))==false)) (phP (zx .i64) m.inputs),phG (true&&((decide ((ix d a)<0))==false)) (phX (vi m.inputs)),phG (true&&((decide ((ix d a)<0))==false)) (phX (.bool (decide (m.inputs≤(ix d a))))),phX (.bool ((decide ((ix d a)<0))||(decide (m.inputs≤(ix d a)))))] mixed (by kernel_rfl) (di ⟨zk,zk,yc,zk,zk,zk,(qj zk),(qj zk),(qj yc),(qj zk),(qj yc),(qj zk),(qj zk),zk,trivial⟩) ⟨?_,?_,?_,?_,?_,?_,?_,?_,?_,?_,?_,?_,?_,?_,trivial⟩ fun Y u=>?_
 intro l Z c n hd;exact za rfl rfl rfl (zq (zb (n 1 rfl)));intro l ab c n hd;exact za rfl rfl rfl (zq (zb (n 5 rfl)));rintro l ac c n ⟨f,s,_⟩;exact za rfl rfl rfl (uw (i:=a.toNat) tu (f rfl) (qy ((p.mono (q.trans j)).mono c)) (ze (s rfl) y.1) (zz y));rintro l ad c n ⟨f,_⟩
 exact za rfl rfl rfl (uh (kz ty3 rfl (f rfl)) (fun _ _ h=>j5.1 h));rintro l ae c n ⟨f,_⟩;exact za rfl rfl rfl (zq (j3 (f rfl) rfl));rintro l af c n ⟨f,_⟩;exact za rfl rfl rfl (zq (zb (f rfl)));rintro l ag c n ⟨f,_⟩
 exact zl (Gj:=true) (Bj:=decide ((ix d a)<0)) rfl rfl rfl (ji (f rfl)) rfl (fun w o=>zq (zb (n 1 rfl)));rintro l ah c n ⟨f,_⟩;exact zl (Gj:=true) (Bj:=decide ((ix d a)<0)) rfl rfl rfl (ji (f rfl)) rfl (fun w o=>zq (zb (n 5 rfl)));rintro l ai c n ⟨f,s,E,_⟩
 exact zl (Gj:=true) (Bj:=decide ((ix d a)<0)) rfl rfl rfl (ji (E rfl)) rfl (fun w o=>uw (i:=a.toNat) tu (show l 18=e from(f rfl).1 (zn rfl o)) (qy ((p.mono (q.trans j)).mono c)) (ze (show l 19=(vi a) from(s rfl).1 (zn rfl o)) (z (zn w o)).1) (zz (z (zn w o))));rintro l aj c n ⟨f,s,_⟩
 exact zl (Gj:=true) (Bj:=decide ((ix d a)<0)) rfl rfl rfl (ji (s rfl)) rfl (fun w o=>uh (kz ty3 rfl ((f rfl).1 (zn rfl o))) (fun _ _ h=>j5.1 h));rintro l P c n ⟨f,_⟩;exact zl (Gj:=true) (Bj:=decide ((ix d a)<0)) rfl rfl rfl (ji (f rfl)) rfl (fun w o=>ik l6 l5 (n 2 rfl) ((V.mono j).mono c))
 rintro l Q c n ⟨f,s,_⟩;exact zl (Gj:=true) (Bj:=decide ((ix d a)<0)) rfl rfl rfl (ji (s rfl)) rfl (fun w o=>uh (kz ty3 rfl ((f rfl).1 (zn rfl o))) (fun _ _ h=>j5.1 h));rintro l S c n ⟨f,s,E,_⟩
 exact zl (Gj:=true) (Bj:=decide ((ix d a)<0)) rfl rfl rfl (ji (E rfl)) rfl (fun w o=>zq (z18 (show l 21=(vi (ix d a)) from(f rfl).1 (zn rfl o)) (show l 23=(vi m.inputs) from(s rfl).1 (zn rfl o))));rintro l U c n ⟨f,s,_⟩
 exact za rfl rfl rfl (zq (z0e (f rfl) rfl (fun hb=>(show l 24=(.bool (decide (m.inputs≤(ix d a)))) from(s rfl).1 (zn rfl hb)))));intro al F am G an ao ap H aq I ar K au av aw ax ay az aA aB aC aD aE aF aG aH aI L;obtain rfl:=Eq.symm F;obtain rfl:=Eq.symm G;obtain rfl:=Eq.symm H;obtain rfl:=Eq.symm I
 obtain rfl:=Eq.symm K;obtain rfl:=Eq.symm L;refine z8 (zu rfl b (fun b=>?_) (fun b=>?_));refine zi (zh (.bool false) (z8 (qm ?_)));replace k:=z2q b k;obtain rfl:=Option.some.inj k;refine qa (D:=[]) (J:=[]) (rs:=[.tmp 4]) (vs:=[(.bool false)]) ((q.trans j).trans u) rfl rfl ⟨rfl,trivial⟩ ?_;exact⟨rfl,rfl⟩
 refine q8 (zy (zg (vi a) ?_));obtain⟨M,b⟩:=zf b;refine zo (qz rfl rfl M) (zh (vi (a+1)) (z8 ?_));exact⟨dkt,u,jd,(t,a+1),Nat.lt_succ_self _,⟨rfl,trivial⟩,prm,b,trivial⟩;refine jf ?_;exact⟨dkt,j,jd,(),trivial,prm,(Option.some.inj b).symm,trivial⟩;rintro o6 aJ R8 O ⟨rfl,_⟩
 replace k:=z3u k;refine zi (zh (.bool true) (z8 (qm ?_)));obtain rfl:=Option.some.inj k;refine qa (D:=[]) (J:=[]) (rs:=[.tmp 4]) (vs:=[(.bool true)]) (q.trans O) rfl rfl ⟨rfl,trivial⟩ ?_;exact⟨rfl,rfl⟩
theorem q63:Enters prog 29:=enters_of func29 rfl (by kernel_rfl)
end GV
end Go.Proofs.Ytplgbkaollfmkaa
