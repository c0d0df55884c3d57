import Derived.Test.YtncblcdhmcmkmaaShWd
import Derived.Test.YtncblcdhmcmkmaaRows
set_option linter.unusedVariables false
set_option linter.unusedSimpArgs false
namespace Go.Proofs.Ytncblcdhmcmkmaa
namespace GV
open _root_.Go.Proofs.Try
open Go.IntWalk
set_option maxRecDepth 100000
set_option maxHeartbeats 20000000
theorem z95{N:Nat}{R:RH}{m:Mach}{x:Value}(an:VRep (qy false false) R x m){r:Int}(f:z0r N m=some r):CallP prog 33 #[x] R (fun v R'=>v=(vi r)):=by
 refine ql (args:=[x]) func33 rfl rfl fun A=>?_;rw [z0r] at f;refine zn (uj (T:=(qy false false)) rfl rfl rfl an fun v1 R3 s h5 q=>?_);refine zi (vi 0) (za (q8 (zn (zbj rfl (uk sj lv rfl q) fun v6 h7=>?_))))
 refine qi rfl (aa (j5 ty3 rfl h7)) (qi rfl (z2p rfl rfl) (qi (v:=(.bool (decide (16<m.inputs)))) rfl (z8 rfl) (zu rfl rfl rfl rfl (fun d=>uk z4b z2e rfl q) fun bm ao=>?_)));refine zu rfl rfl rfl rfl (fun d=>zo (aa (j5 ty3 rfl (ao.1 (zf rfl d))))) fun bn ap=>?_
 refine zu rfl rfl rfl rfl (fun d=>zo (z2p (ap.1 (zf rfl d)) rfl)) fun bo aq=>?_;refine qi rfl (vo rfl rfl (fun o=>(aq.1 (zf rfl o)))) (qi (v:=(.bool ((decide (16<m.inputs))||(decide (16<m.outputs))))) rfl (z8 rfl) (zu rfl rfl rfl rfl (fun d=>uk uw uq rfl q) fun bp ar=>?_))
 refine zu rfl rfl rfl rfl (fun d=>j5 z1j rfl (ar.1 (zf rfl d))) fun bq au=>?_;refine zu rfl rfl rfl rfl (fun d=>zo (qh rfl underlying25 rfl (j4 (au.1 (zf rfl d))))) fun br av=>?_;refine zu rfl rfl rfl rfl (fun d=>zo (z2p (av.1 (zf rfl d)) rfl)) fun bs aw=>?_
 refine qi rfl (vo rfl rfl (fun o=>(aw.1 (zf rfl o)))) (za (zz rfl f (fun f=>?_) (fun f=>?_)));refine zn (zi (vi 3) (za (qw ?_)));obtain rfl:=Option.some.inj f;refine qd (D:=[]) (J:=[]) (rs:=[.tmp 2]) (vs:=[(vi 3)]) s rfl rfl ⟨rfl,trivial⟩ ?_;exact⟨rfl,rfl⟩
 refine qg (q8 (zn (zbj rfl (uk sj lv rfl q) fun bt ax=>?_)));refine qi rfl (aa (j5 ty3 rfl ax)) (qi rfl (jh rfl rfl) (qi (v:=(.bool (decide (m.inputs<1)))) rfl (z8 rfl) (zu rfl rfl rfl rfl (fun d=>uk z4b z2e rfl q) fun bu ay=>?_)))
 refine zu rfl rfl rfl rfl (fun d=>zo (aa (j5 ty3 rfl (ay.1 (zf rfl d))))) fun bv az=>?_;refine zu rfl rfl rfl rfl (fun d=>zo (jh (az.1 (zf rfl d)) rfl)) fun bw aA=>?_
 refine qi rfl (vo rfl rfl (fun o=>(aA.1 (zf rfl o)))) (qi (v:=(.bool ((decide (m.inputs<1))||(decide (m.outputs<1))))) rfl (z8 rfl) (zu rfl rfl rfl rfl (fun d=>uk uw uq rfl q) fun bx aB=>?_));refine zu rfl rfl rfl rfl (fun d=>j5 z1j rfl (aB.1 (zf rfl d))) fun bz aC=>?_
 refine zu rfl rfl rfl rfl (fun d=>zo (qh rfl underlying25 rfl (j4 (aC.1 (zf rfl d))))) fun bA aD=>?_;refine zu rfl rfl rfl rfl (fun d=>zo (lq (aD.1 (zf rfl d)) rfl)) fun bB aE=>?_;refine qi rfl (vo rfl rfl (fun o=>(aE.1 (zf rfl o)))) (za (zz rfl f (fun f=>?_) (fun f=>?_)))
 refine zn (zi (vi 1) (za (qw ?_)));obtain rfl:=Option.some.inj f;refine qd (D:=[]) (J:=[]) (rs:=[.tmp 2]) (vs:=[(vi 1)]) s rfl rfl ⟨rfl,trivial⟩ ?_;exact⟨rfl,rfl⟩;refine qg ?_;obtain⟨y,e,f⟩:=zk f;refine je (γ:=Unit) (rs [2,6,34,95]) (fun g=>[]) (fun g=>[]++A) (fun g R=>y=Ex.go g∧True) ?_ ?_
 refine zn (zi (vi 0) (za (qc (jq (γ:=Nat×Int) (rs [2,6,34,95]) (fun g=>[(3,(vi g.2))]) (fun g=>[]++A) (fun g R=>vz N m g.1 g.2=some y∧True) (fun g=>g.1) (N,0) prm ⟨e,trivial⟩ ?_))));clear e;rintro⟨t,b⟩ aM bC h ⟨e,_⟩;rcases t with _|t;exact jf e
 replace e:vz N m (t+1) b=some y:=e;rw [vz] at e;refine q8 (zn (zl (vi b) (jy rfl uw uq rfl (q.mono h) fun bD aF=>?_)));refine qp rfl z1j rfl aF fun bE aG=>?_
 refine zq (qh rfl underlying25 rfl (j4 aG)) (zq (jh rfl rfl) (za (zz rfl e (fun e=>?_) (fun e=>?_))));refine qg ?_;obtain⟨z,c,e⟩:=zk e;refine je (γ:=Unit) (rs [2,3,4,6,41,95]) (fun g=>[]) (fun g=>[]++A) (fun g R=>z=Ex.go g∧True) ?_ ?_
 refine qc (q8 (q8 (z1i 9 mixed (by kernel_rfl) (by kernel_rfl) ?_)));refine z07 (uk uw uq rfl (q.mono h)) fun bF aH=>?_;refine z07 (j5 z1j rfl aH) fun bG aI=>?_;refine u7 (v:=(vi b)) (z8 rfl) ?_;obtain⟨C,c⟩:=ze c
 refine z07 (ut (i:=b.toNat) z5p rfl (j4 aI) (zg rfl C.1) (qb C)) fun bH aJ=>?_;refine z07 (j5 z5d rfl aJ) fun bI aK=>?_;refine u7 (qh rfl underlying50 rfl (j4 aK)) ?_;refine z07 (uk sj lv rfl (q.mono h)) fun bJ aL=>?_;refine u7 (aa (j5 ty3 rfl aL)) ?_;refine u7 (wz rfl rfl) ?_
 intro aN j;refine za (zz rfl c (fun c=>?_) (fun c=>?_));refine zn (zi (vi 1) (za (qw ?_)));replace e:=z0o c e;replace f:=z0o e f;obtain rfl:=Option.some.inj f;refine qd (D:=[]) (J:=[]) (rs:=[.tmp 2]) (vs:=[(vi 1)]) ((s.trans h).trans j) rfl rfl ⟨rfl,trivial⟩ ?_;exact⟨rfl,rfl⟩
 refine qg (zn (zi (vi 0) (za (qc (jq (γ:=Nat×Int) (rs [2,3,4,6,50,95]) (fun g=>[(4,(vi g.2))]) (fun g=>[]++A) (fun g R=>x9 N m b g.1 g.2=some z∧True) (fun g=>g.1) (N,0) prm ⟨c,trivial⟩ ?_)))));clear c;rintro⟨p,a⟩ aO aP l ⟨c,_⟩;rcases p with _|p;exact jf c
 replace c:x9 N m b (p+1) a=some z:=c;rw [x9] at c;refine q8 (zn (zl (vi a) (jy rfl sj lv rfl (q.mono ((h.trans j).trans l)) fun aQ E=>?_)));refine qp rfl ty3 rfl E fun aR F=>?_;obtain rfl:=jc.1 F
 refine zq (jh rfl rfl) (za (zz rfl c (fun c=>?_) (fun c=>?_)));refine qg ?_;obtain⟨G,n,c⟩:=zk c;refine je (γ:=Unit) (rs [2,3,5,6,56,95]) (fun g=>[]) (fun g=>[]++A) (fun g R=>G=Ex.go g∧True) ?_ ?_;refine qc (zn (jy rfl uw uq rfl (q.mono ((h.trans j).trans l)) fun aS H=>?_))
 refine qp rfl z1j rfl H fun aT I=>?_;refine zl (vi b) ?_;obtain⟨u,n⟩:=ze n;refine ky (i:=b.toNat) rfl z5p rfl (j4 I) (zg rfl u.1) (qb u) fun aU K=>?_;refine qp rfl z5d rfl K fun aV L=>?_;refine zl (vi a) ?_;obtain⟨w,n⟩:=ze n
 refine ky (i:=a.toNat) rfl z92 rfl (j4 L) (zg rfl w.1) (qb w) fun aW M=>?_;refine qp rfl zc0 rfl M fun aX O=>?_;obtain rfl:=rq.1 O;refine vw rfl zgz fun k=>?_
 refine jv (i:=0) (vs:=[(vi ((ix (ix m.rows b) a).to)),(vi ((ix (ix m.rows b) a).out))]) zac rfl rfl rfl rfl rfl rfl (zy rfl (zy rfl uh)) ?_
 refine za (q8 (zn (qi (v:=(.pointer (some ⟨k,0,none⟩))) rfl (j3 z1w rfl) (qi (v:=(vi ((ix (ix m.rows b) a).to))) rfl (qz (i:=0) ag3 rfl rfl rfl) (qi rfl (lq rfl rfl) (qi (v:=(.bool (decide (((ix (ix m.rows b) a).to)=(-1))))) rfl (z8 rfl) (zu rfl rfl rfl rfl (fun d=>zo (v:=(.pointer (some ⟨k,1,none⟩))) (j3 z9m rfl)) fun aY P=>?_)))))))
 refine zu rfl rfl rfl rfl (fun d=>zo (v:=(vi ((ix (ix m.rows b) a).out))) (qz (i:=0) ag3 (P.1 (zf rfl d)) rfl rfl)) fun aZ Q=>?_;refine zu rfl rfl rfl rfl (fun d=>zo (lq (Q.1 (zf rfl d)) rfl)) fun a0 S=>?_
 refine qi rfl (vk rfl (fun o=>(S.1 (zf rfl o))) rfl) (za (zz rfl n (fun n=>?_) (fun n=>?_)));refine kv ?_;exact⟨dkt,(RH.le.refl _),uf,(),trivial,⟨[box k [(vi ((ix (ix m.rows b) a).to)),(vi ((ix (ix m.rows b) a).out))] 49],(List.Perm.refl _)⟩,(Option.some.inj n).symm,trivial⟩
 refine qg (zn (qi (v:=(.pointer (some ⟨k,0,none⟩))) rfl (j3 z1w rfl) (qi (v:=(vi ((ix (ix m.rows b) a).to))) rfl (qz (i:=0) ag3 rfl rfl rfl) (qi rfl (jh rfl rfl) (qi (v:=(.bool (decide (((ix (ix m.rows b) a).to)<0)))) rfl (z8 rfl) (zu rfl rfl rfl rfl (fun d=>zo (v:=(.pointer (some ⟨k,0,none⟩))) (j3 z1w rfl)) fun a1 U=>?_))))))
 refine zu rfl rfl rfl rfl (fun d=>zo (v:=(vi ((ix (ix m.rows b) a).to))) (qz (i:=0) ag3 (U.1 (zf rfl d)) rfl rfl)) fun a2 V=>?_;refine zu rfl rfl rfl rfl (fun d=>uk uw uq rfl (q.mono ((h.trans j).trans l))) fun a3 W=>?_
 refine zu rfl rfl rfl rfl (fun d=>j5 z1j rfl (W.1 (zf rfl d))) fun a4 X=>?_;refine zu rfl rfl rfl rfl (fun d=>zo (qh rfl underlying25 rfl (j4 (X.1 (zf rfl d))))) fun a5 Y=>?_;refine zu rfl rfl rfl rfl (fun d=>zo (z3c (V.1 (zf rfl d)) (Y.1 (zf rfl d)))) fun a6 Z=>?_
 refine qi rfl (vo rfl rfl (fun o=>(Z.1 (zf rfl o)))) (qi (v:=(.bool ((decide (((ix (ix m.rows b) a).to)<0))||(decide ((↑m.rows.length:Int)≤((ix (ix m.rows b) a).to)))))) rfl (z8 rfl) (zu rfl rfl rfl rfl (fun d=>zo (v:=(.pointer (some ⟨k,1,none⟩))) (j3 z9m rfl)) fun a7 ab=>?_))
 refine zu rfl rfl rfl rfl (fun d=>zo (v:=(vi ((ix (ix m.rows b) a).out))) (qz (i:=0) ag3 (ab.1 (zf rfl d)) rfl rfl)) fun a8 ac=>?_;refine zu rfl rfl rfl rfl (fun d=>zo (jh (ac.1 (zf rfl d)) rfl)) fun a9 ad=>?_
 refine qi rfl (vo rfl rfl (fun o=>(ad.1 (zf rfl o)))) (qi (v:=(.bool (((decide (((ix (ix m.rows b) a).to)<0))||(decide ((↑m.rows.length:Int)≤((ix (ix m.rows b) a).to))))||(decide (((ix (ix m.rows b) a).out)<0))))) rfl (z8 rfl) (zu rfl rfl rfl rfl (fun d=>zo (v:=(.pointer (some ⟨k,1,none⟩))) (j3 z9m rfl)) fun ba ae=>?_))
 refine zu rfl rfl rfl rfl (fun d=>zo (v:=(vi ((ix (ix m.rows b) a).out))) (qz (i:=0) ag3 (ae.1 (zf rfl d)) rfl rfl)) fun bb af=>?_;refine zu rfl rfl rfl rfl (fun d=>uk z4b z2e rfl (q.mono ((h.trans j).trans l))) fun bc ag=>?_
 refine zu rfl rfl rfl rfl (fun d=>zo (aa (j5 ty3 rfl (ag.1 (zf rfl d))))) fun be ah=>?_;refine zu rfl rfl rfl rfl (fun d=>zo (z3c (af.1 (zf rfl d)) (ah.1 (zf rfl d)))) fun bf ai=>?_;refine qi rfl (vo rfl rfl (fun o=>(ai.1 (zf rfl o)))) (za (zz rfl n (fun n=>?_) (fun n=>?_)))
 refine zn (zi (vi 1) (za (qw ?_)));replace c:=z0o n c;replace e:=z0o c e;replace f:=z0o e f;obtain rfl:=Option.some.inj f
 refine qd (D:=[]) (J:=[box k [(vi ((ix (ix m.rows b) a).to)),(vi ((ix (ix m.rows b) a).out))] 49]) (rs:=[.tmp 2]) (vs:=[(vi 1)]) (((s.trans h).trans j).trans l) rfl rfl ⟨rfl,trivial⟩ ?_;exact⟨rfl,rfl⟩;refine qg ?_
 exact⟨dkt,(RH.le.refl _),uf,(),trivial,⟨[box k [(vi ((ix (ix m.rows b) a).to)),(vi ((ix (ix m.rows b) a).out))] 49],(List.Perm.refl _)⟩,(Option.some.inj n).symm,trivial⟩;rintro bg bh bi B ⟨rfl,_⟩;replace c:=z2s c;refine qf (zl (vi a) ?_);obtain⟨aj,c⟩:=ze c
 refine zq (jl rfl rfl aj) (zi (vi (a+1)) (za ?_));exact⟨dkt,B,uf,(p,a+1),Nat.lt_succ_self _,⟨rfl,trivial⟩,prm,c,trivial⟩;refine kv ?_;exact⟨dkt,(j.trans l),uf,(),trivial,prm,(Option.some.inj c).symm,trivial⟩;rintro bK bj bL ak ⟨rfl,_⟩;replace e:=z2s e;refine qf (zl (vi b) ?_)
 obtain⟨al,e⟩:=ze e;refine zq (jl rfl rfl al) (zi (vi (b+1)) (za ?_));exact⟨dkt,ak,uf,(t,b+1),Nat.lt_succ_self _,⟨rfl,trivial⟩,prm,e,trivial⟩;refine kv ?_;exact⟨dkt,h,uf,(),trivial,prm,(Option.some.inj e).symm,trivial⟩;rintro bM bk bN am ⟨rfl,_⟩;replace f:=z2s f
 refine zn (zi (vi 0) (za (qw ?_)));obtain rfl:=Option.some.inj f;refine qd (D:=[]) (J:=[]) (rs:=[.tmp 2]) (vs:=[(vi 0)]) (s.trans am) rfl rfl ⟨rfl,trivial⟩ ?_;exact⟨rfl,rfl⟩
theorem zvc:Enters prog 33:=enters_of func33 rfl (by kernel_rfl)
end GV
end Go.Proofs.Ytncblcdhmcmkmaa
