import Derived.Test.YtkcccdcloealfaaGreatShWd
import Derived.Test.YtkcccdcloealfaaGreatShXb
import Derived.Test.YtkcccdcloealfaaGreatShXc
import Derived.Test.YtkcccdcloealfaaGreatShXd
import Derived.Test.YtkcccdcloealfaaGreatShXf
import Derived.Test.YtkcccdcloealfaaGreatRows
set_option linter.unusedVariables false
set_option linter.unusedSimpArgs false
namespace Go.Proofs.YtkcccdcloealfaaGreat
namespace GV
open _root_.Go.Proofs.Tryz
open Go.IntWalk
set_option maxRecDepth 100000
set_option maxHeartbeats 20000000
theorem zs8:FieldOk prog 52 0 0:=by
 obtain⟨i,hi,a⟩: ∃ i,prog.info? 5=some i∧i.size=1:=wy (by kernel_rfl);exact ru underlying52 rfl rfl hi (by rw [a];rfl)
theorem q67:FieldOk prog 52 1 1:=by
 obtain⟨i,hi,a⟩: ∃ i,prog.info? 5=some i∧i.size=1:=wy (by kernel_rfl);exact ru underlying52 rfl rfl hi (by rw [a];rfl)
theorem q62:FieldOk prog 52 2 2:=by
 obtain⟨i,hi,a⟩: ∃ i,prog.info? 5=some i∧i.size=1:=wy (by kernel_rfl);exact ru underlying52 rfl rfl hi (by rw [a];rfl)
theorem q0x:FieldOk prog 52 4 4:=by
 obtain⟨i,hi,a⟩: ∃ i,prog.info? 22=some i∧i.size=1:=wy (by kernel_rfl);exact ru underlying52 rfl rfl hi (by rw [a];rfl)
theorem z8e{N:Nat}{R:RH}{d:(List Int)}{b:Value}(c:VRep (tSl false (qc .u16)) R b d){k:Int}{r:Int}(a:z11 N d k=some r):CallP prog 43 #[b,(vi k)] R (fun v R'=>v=(vi r)):=by
 refine qf (args:=[b,(vi k)]) func43 rfl rfl fun A=>?_;rw [z11] at a;refine zn (zf (vi 0) (z8 (q8 (zn (zh (vi k) (zh b (zq (qj rfl underlying22 rfl (ja c)) (zq (jc rfl rfl) (z8 (zw rfl a (fun a=>?_) (fun a=>?_)))))))))))
 refine zn (zh b (zh (vi k) ?_));obtain⟨e,a⟩:=ze a;refine kw (i:=k.toNat) rfl q5f rfl (ja c) (zl rfl e.1) (qb e) fun j f=>?_;refine qh rfl q27 rfl f fun l g=>?_;obtain rfl:=jb.1 g;obtain⟨h,a⟩:=ze a
 refine zq (z3t underlying64 underlying3 rfl h) (zf (vi (ix d k)) (z8 (qp ?_)));obtain rfl:=Option.some.inj a;refine q9 (D:=[]) (J:=[]) (rs:=[.tmp 4]) (vs:=[(vi (ix d k))]) (RH.le.refl _) rfl rfl ⟨rfl,trivial⟩ ?_;exact⟨rfl,rfl⟩;refine qa (zn (zf (vi 0) (z8 (qp ?_))));obtain rfl:=Option.some.inj a
 refine q9 (D:=[]) (J:=[]) (rs:=[.tmp 4]) (vs:=[(vi 0)]) (RH.le.refl _) rfl rfl ⟨rfl,trivial⟩ ?_;exact⟨rfl,rfl⟩
theorem q8k:Enters prog 43:=enters_of func43 rfl (by kernel_rfl)
theorem q00:FieldOk prog 52 3 3:=by
 obtain⟨i,hi,a⟩: ∃ i,prog.info? 25=some i∧i.size=1:=wy (by kernel_rfl);exact ru underlying52 rfl rfl hi (by rw [a];rfl)
theorem z9e{N:Nat}{R:RH}{x:Sc}{bC:Value}(c5:VRep (dm false false) R bC x){r:Mach}(y:z0u N x=some r):CallP prog 23 #[bC] R (fun v R'=>VRep (qz false false) R' v r):=by
 refine qf (args:=[bC]) func23 rfl rfl fun A=>?_;rw [z0u] at y;refine zn (ky (T:=(dm false false)) rfl rfl rfl c5 fun v1 R3 c6 h5 h2=>?_);refine kv rfl z5j fun b6=>?_;refine qw (jo rfl zs8 ze4 rfl h2 fun v8 h9=>?_);refine qh rfl ty5 rfl h9 fun fZ c7=>?_;obtain rfl:=jb.1 c7
 obtain⟨c8,y⟩:=ze y;refine zq (rq rfl rfl c8) ?_;obtain⟨c9,y⟩:=ze y;refine zq (z3t underlying5 underlying3 rfl c9) ?_;obtain⟨da,y⟩:=ze y;refine zq (jf rfl rfl da) (zf (vi ((1:Int)+(x.fD%6))) (qw (jo rfl q67 zeq rfl h2 fun f0 db=>?_)))
 refine qh rfl ty5 rfl db fun f1 dc=>?_;obtain rfl:=jb.1 dc;obtain⟨dd,y⟩:=ze y;refine zq (rq rfl rfl dd) ?_;obtain⟨de,y⟩:=ze y;refine zq (z3t underlying5 underlying3 rfl de) ?_;obtain⟨df,y⟩:=ze y;refine zq (jf rfl rfl df) (jo rfl q62 zev rfl h2 fun f2 dg=>?_)
 refine qh rfl ty5 rfl dg fun f3 dh=>?_;obtain rfl:=jb.1 dh;obtain⟨di,y⟩:=ze y;refine zq (rq rfl rfl di) ?_;obtain⟨dj,y⟩:=ze y;refine zq (z3t underlying5 underlying3 rfl dj) ?_;obtain⟨dk,y⟩:=ze y
 refine zq (jf rfl rfl dk) (zq (yt (ps:=[(0,(vi ((1:Int)+(x.fA%3)))),(1,(vi ((1:Int)+(x.fB%3))))]) (v:=(.agg #[(vi ((1:Int)+(x.fA%3))),(vi ((1:Int)+(x.fB%3))),vs0])) rfl (fun w=>by kernel_rfl)) (kv rfl z5j fun q=>?_))
 refine jd (i:=0) (vs:=[(vi ((1:Int)+(x.fA%3))),(vi ((1:Int)+(x.fB%3))),vs0]) yh rfl rfl rfl rfl rfl rfl (zu rfl (zu rfl (zu rfl jh))) ?_;refine z8 ?_;obtain⟨aD,c,y⟩:=zm y
 refine j6 (γ:=(List (List Edge))×Value×Frag) (rs [5,9,31,67]) (fun g=>[]) (fun g=>[box b6 [(vi 0),(vi 0),vs0] 30,box q [(vi ((1:Int)+(x.fA%3))),(vi ((1:Int)+(x.fB%3))),g.2.1] 30,g.2.2]++A) (fun g R=>aD=g.1∧NRep false kEdge R g.2.2 g.2.1 g.1∧True) ?_ ?_
 refine zn (zf (vi 0) (z8 (zy (z2j ?_))))
 refine jg (γ:=Nat×Int×(List (List Edge))×Value×Frag) (rs [5,9,31,67]) (fun g=>[(5,(vi g.2.1))]) (fun g=>[box b6 [(vi 0),(vi 0),vs0] 30,box q [(vi ((1:Int)+(x.fA%3))),(vi ((1:Int)+(x.fB%3))),g.2.2.2.1] 30,g.2.2.2.2]++A) (fun g R=>cu N x g.1 g.2.1 g.2.2.1=some aD∧NRep false kEdge R g.2.2.2.2 g.2.2.2.1 g.2.2.1∧True) (fun g=>g.1) (N,0,[],vs0,emp) ⟨[],(pk 2 rfl (pk 1 rfl (pk 0 rfl (List.Perm.refl _))))⟩ ⟨c,(oq (zse (t:=false) (T:=kEdge) (R:=R3))),trivial⟩ ?_
 clear c;rintro⟨a7,ad,a8,a9,ba⟩ eg f4 bf ⟨c,⟨dl,bL⟩,_⟩;rcases a7 with _|a7;exact j4 c;replace c:cu N x (a7+1) ad a8=some aD:=c;rw [cu] at c
 refine q8 (zn (zh (vi ad) (zh (vi ((1:Int)+(x.fD%6))) (zq (jc rfl rfl) (z8 (zw rfl c (fun c=>?_) (fun c=>?_)))))));refine qa (q8 (zy (zn (zf vs0 (z8 ?_)))));obtain⟨aB,a,c⟩:=zm c
 refine j6 (γ:=(List Edge)×Value×Frag) (rs [6,9,36,61]) (fun g=>[(6,g.2.1)]) (fun g=>[box b6 [(vi 0),(vi 0),vs0] 30,box q [(vi ((1:Int)+(x.fA%3))),(vi ((1:Int)+(x.fB%3))),a9] 30,ba,g.2.2]++A) (fun g R=>aB=g.1∧ORep kEdge R g.2.2 g.2.1 g.1∧True) ?_ ?_
 refine zn (zf (vi 0) (z8 (zy (z2j ?_))))
 refine jg (γ:=Nat×(List Edge)×Int×Value×Frag) (rs [6,9,36,61]) (fun g=>[(6,g.2.2.2.1),(7,(vi g.2.2.1))]) (fun g=>[box b6 [(vi 0),(vi 0),vs0] 30,box q [(vi ((1:Int)+(x.fA%3))),(vi ((1:Int)+(x.fB%3))),a9] 30,ba,g.2.2.2.2]++A) (fun g R=>tu N x ad g.1 g.2.1 g.2.2.1=some aB∧ORep kEdge R g.2.2.2.2 g.2.2.2.1 g.2.1∧True) (fun g=>g.1) (N,[],0,vs0,emp) ⟨[],(pk 1 rfl (pk 1 rfl (pk 1 rfl (pk 0 rfl (List.Perm.refl _)))))⟩ ⟨a,(l9 (T:=kEdge)),trivial⟩ ?_
 clear a;rintro⟨bb,bc,aC,bM,dp⟩ eh f5 bg ⟨a,bN,_⟩;rcases bb with _|bb;exact j4 a;replace a:tu N x ad (bb+1) bc aC=some aB:=a;rw [tu] at a
 refine q8 (zn (zh (vi aC) (zq (qd av rfl) (zq (qi (i:=1) ag3 rfl rfl rfl) (zq (jc rfl rfl) (z8 (zw rfl a (fun a=>?_) (fun a=>?_))))))));refine qa (q8 (zy (zn (jo rfl q0x z9m rfl (h2.mono (bf.trans bg)) fun f6 dq=>?_))));refine qh rfl q2p rfl dq fun f7 dr=>?_
 refine zh (vi ad) (zq (qd av rfl) (zq (qi (i:=1) ag3 rfl rfl rfl) ?_));obtain⟨ds,a⟩:=ze a;refine zq (z8h rfl rfl ds) (zh (vi aC) ?_);obtain⟨dt,a⟩:=ze a;refine zq (jf rfl rfl dt) ?_;obtain⟨S,du,a⟩:=zm a;refine j3 rfl q8k rfl (z8e dr du) fun f8 f9 bh dv=>?_
 obtain rfl:=dv;refine zf (vi S) (z8 ?_);obtain⟨dw,dx,a⟩:=zyz a;let G1:=([(⟨(-1),(S/((1:Int)+(x.fD%6)))%((1:Int)+(x.fB%3))⟩:Edge)]:List Edge)
 refine dn 9 [] [phX bM,phX (vi S),phX (vi ((1:Int)+(x.fD%6))),phX (vi (S/((1:Int)+(x.fD%6)))),phX (.pointer (some ⟨q,1,none⟩)),phX (vi ((1:Int)+(x.fB%3))),phX (vi ((S/((1:Int)+(x.fD%6)))%((1:Int)+(x.fB%3)))),phX (.agg #[(vi (-1)),(vi ((S/((1:Int)+(x.fD%6)))%((1:Int)+(x.fB%3))))]),phR (tSl true kEdge) G1] mixed (by kernel_rfl) (yl ⟨zi,zi,zi,zi,zi,zi,zi,zi,bz,trivial⟩) ⟨?_,?_,?_,?_,?_,?_,?_,?_,?_,trivial⟩ fun ga bi=>?_
 intro l dy n F hd;exact za rfl rfl rfl (zt (zb (F 6 rfl)));intro l dz n F hd;exact za rfl rfl rfl (zt (zb (F 8 rfl)));intro l dA n F hd;exact za rfl rfl rfl (zt (zb (F 3 rfl)));rintro l dB n F ⟨O,d1,_⟩;exact za rfl rfl rfl (zt (z6a (O rfl) (d1 rfl) dw));intro l dC n F hd
 exact za rfl rfl rfl (zt (qd z6o (F 4 rfl)));rintro l dD n F ⟨O,_⟩;have bE:=O rfl;exact za rfl rfl rfl (zt (qi (i:=1) ag3 bE rfl rfl));rintro l dE n F ⟨O,d1,_⟩;exact za rfl rfl rfl (zt (rq (O rfl) (d1 rfl) dx));rintro l dF n F ⟨O,_⟩
 have dG:l 57=(vi ((S/((1:Int)+(x.fD%6)))%((1:Int)+(x.fB%3)))):=O rfl
 exact za rfl rfl rfl (zt (yt (ps:=[(0,(vi (-1))),(1,(vi ((S/((1:Int)+(x.fD%6)))%((1:Int)+(x.fB%3)))))]) (v:=(.agg #[(vi (-1)),(vi ((S/((1:Int)+(x.fD%6)))%((1:Int)+(x.fB%3))))])) (by simp only [List.map,ev,dG]<;>rfl) (fun w=>by kernel_rfl)));rintro l dH n F ⟨O,_⟩
 have dI:l 58=(.agg #[(vi (-1)),(vi ((S/((1:Int)+(x.fD%6)))%((1:Int)+(x.fB%3))))]):=O rfl
 exact za rfl rfl rfl (z6y (T:=kEdge) (X:=G1) (ps:=[(0,(.agg #[(vi (-1)),(vi ((S/((1:Int)+(x.fD%6)))%((1:Int)+(x.fB%3))))]))]) (css:=[[(vi (-1)),(vi ((S/((1:Int)+(x.fD%6)))%((1:Int)+(x.fB%3))))]]) underlying56 zc1 (by simp only [List.map,ev,dI]<;>rfl) rfl (uh ⟨⟨_,_,rfl,rfl,rfl⟩,trivial⟩) rfl rfl (by decide))
 intro gb dJ gc dK ge dL gf dM gg dN gh dO gi dP gj bO ei bP;obtain rfl:=Eq.symm dJ;obtain rfl:=Eq.symm dK;obtain rfl:=Eq.symm dL;obtain rfl:=Eq.symm dM;obtain rfl:=Eq.symm dN;obtain rfl:=Eq.symm dO;obtain rfl:=Eq.symm dP;obtain rfl:=Eq.symm bO;obtain⟨bj,a⟩:=ze a
 refine bu (i:=3) (X:=bc) (Y:=G1) rfl underlying56 zc1 rfl rfl rfl (bN.mono (bh.trans bi)) (ja (Sub.v (B:=(tSl false kEdge)) (ku Sub.refl (fun _=>rfl)) bP)) bj.1 bj.2 fun bk bQ bR=>?_;refine zf bk (z8 (zz (zh (vi aC) ?_)));obtain⟨bS,a⟩:=ze a
 refine zq (jf rfl rfl bS) (zf (vi (aC+1)) (z8 ?_));exact⟨dkt,(bh.trans bi),jq,(bb,(bc++G1),aC+1,bk,bQ),Nat.lt_succ_self _,⟨rfl,rfl,trivial⟩,prm,a,bR,trivial⟩;refine jm ?_;exact⟨dkt,bg,jq,(bc,bM,dp),⟨rfl,trivial⟩,prm,(Option.some.inj a).symm,bN,trivial⟩;rintro⟨aB,aF,bE⟩ ej gk bl ⟨rfl,bF,_⟩
 refine zz (zq (qd uf rfl) (zq (qi (i:=1) zc2 rfl rfl rfl) (zh aF (z6c rfl (z6y (T:=tHdr) (X:=[aF]) (ps:=[(0,aF)]) (css:=[[aF]]) underlying28 q2q rfl (by simp only [List.map_cons,List.map_nil,r9 bF];rfl) (uh ⟨zok (z01 bF),trivial⟩) rfl rfl (by decide)) fun ek el ap bT=>?_))))
 obtain⟨bm,c⟩:=ze c
 refine zk4 (Oc:=[ba,bE]) (Or:=[box b6 [(vi 0),(vi 0),vs0] 30,box q [(vi ((1:Int)+(x.fA%3))),(vi ((1:Int)+(x.fB%3))),a9] 30]++A) rfl (pk 2 rfl (pk 2 rfl (pk 0 rfl (pk 0 rfl (List.Perm.refl _))))) (zer underlying28 q2q rfl rfl (bL.mono (bl.trans ap)) (bF.mono ap) (ja bT) (fun e=>nomatch e) bm.1 bm.2) ?_
 rintro aG em dQ dR ⟨rfl,bn,rfl,ae⟩;replace ae:N2 false kEdge _ bn aG (dl++[aF]) (a8++[aB]):=ae;refine zq (qd uf rfl) (jd (i:=2) (vs:=[aG]) zxp rfl rfl (zzg ae) rfl rfl rfl (zu (zil ae) jh) ?_);refine z8 (zz (zh (vi ad) ?_));obtain⟨bU,c⟩:=ze c
 refine zq (jf rfl rfl bU) (zf (vi (ad+1)) (z8 ?_));exact⟨dkt,(bl.trans ap),jq,(a7,ad+1,(a8++[aB]),aG,bn),Nat.lt_succ_self _,⟨rfl,trivial⟩,⟨[],(pk 1 rfl (pk 1 rfl (pk 0 rfl (List.Perm.refl _))))⟩,c,(oq ae),trivial⟩;refine jm ?_
 exact⟨dkt,bf,jq,(a8,a9,ba),trivial,prm,(Option.some.inj c).symm,(oq bL),trivial⟩;rintro⟨aD,o,dS⟩ en gl ar ⟨rfl,⟨gm,dT⟩,_⟩;obtain⟨af,c,y⟩:=zm y
 refine j6 (γ:=(List (List Edge))×Frag) (rs [9,13,67,137]) (fun g=>[]) (fun g=>[box b6 [(vi 0),(vi 0),vs0] 30,box q [(vi ((1:Int)+(x.fA%3))),(vi ((1:Int)+(x.fB%3))),o] 30,g.2]++A) (fun g R=>af=g.1∧NRep false kEdge R g.2 o g.1∧True) ?_ ?_
 refine zn (zf (vi 1) (z8 (zy (jg (γ:=Nat×Int×(List (List Edge))×Frag) (rs [9,13,67,137]) (fun g=>[(9,(vi g.2.1))]) (fun g=>[box b6 [(vi 0),(vi 0),vs0] 30,box q [(vi ((1:Int)+(x.fA%3))),(vi ((1:Int)+(x.fB%3))),o] 30,g.2.2.2]++A) (fun g R=>o5 N x g.1 g.2.1 g.2.2.1=some af∧NRep false kEdge R g.2.2.2 o g.2.2.1∧True) (fun g=>g.1) (N,1,aD,dS) prm ⟨c,(oq dT),trivial⟩ ?_))))
 clear c;rintro⟨au,s,I,Z⟩ eo ep aq ⟨c,⟨ag,Q⟩,_⟩;rcases au with _|au;exact j4 c;replace c:o5 N x (au+1) s I=some af:=c;rw [o5] at c
 refine q8 (zn (zh (vi s) (zh (vi ((1:Int)+(x.fD%6))) (zq (jc rfl rfl) (z8 (zw rfl c (fun c=>?_) (fun c=>?_)))))));refine qa (q8 (zy (zn (zf vs0 (z8 ?_)))));obtain⟨K,a,c⟩:=zm c
 refine j6 (γ:=(List Int)×Value×Frag) (rs [10,12,72,100]) (fun g=>[(10,g.2.1)]) (fun g=>[box b6 [(vi 0),(vi 0),vs0] 30,box q [(vi ((1:Int)+(x.fA%3))),(vi ((1:Int)+(x.fB%3))),o] 30,Z,g.2.2]++A) (fun g R=>K=g.1∧ORep (qc .i64) R g.2.2 g.2.1 g.1∧True) ?_ ?_
 refine zn (zf (vi 0) (z8 (zy (z2j ?_))))
 refine jg (γ:=Nat×(List Int)×Int×Value×Frag) (rs [10,12,72,100]) (fun g=>[(10,g.2.2.2.1),(11,(vi g.2.2.1))]) (fun g=>[box b6 [(vi 0),(vi 0),vs0] 30,box q [(vi ((1:Int)+(x.fA%3))),(vi ((1:Int)+(x.fB%3))),o] 30,Z,g.2.2.2.2]++A) (fun g R=>xg N x s I g.1 g.2.1 g.2.2.1=some K∧ORep (qc .i64) R g.2.2.2.2 g.2.2.2.1 g.2.1∧True) (fun g=>g.1) (N,[],0,vs0,emp) ⟨[],(pk 1 rfl (pk 1 rfl (pk 1 rfl (pk 0 rfl (List.Perm.refl _)))))⟩ ⟨a,(l9 (T:=(qc .i64))),trivial⟩ ?_
 clear a;rintro⟨aw,ah,f,aH,ax⟩ eq er U ⟨a,aI,_⟩;rcases aw with _|aw;exact j4 a;replace a:xg N x s I (aw+1) ah f=some K:=a;rw [xg] at a;refine q8 (zn (zh (vi f) (zh (vi s) (zq (qd av rfl) (zq (qi (i:=1) ag3 rfl rfl rfl) ?_)))))
 obtain⟨bV,a⟩:=ze a;refine zq (z8h rfl rfl bV) (zq (jc rfl rfl) (z8 (zw rfl a (fun a=>?_) (fun a=>?_))));refine qa ?_;obtain⟨aJ,p,a⟩:=zm a
 refine j6 (γ:=(List Int)×Value×Frag) (rs [10,11,80,100]) (fun g=>[(10,g.2.1)]) (fun g=>[box b6 [(vi 0),(vi 0),vs0] 30,box q [(vi ((1:Int)+(x.fA%3))),(vi ((1:Int)+(x.fB%3))),o] 30,Z,g.2.2]++A) (fun g R=>aJ=g.1∧ORep (qc .i64) R g.2.2 g.2.1 g.1∧True) ?_ ?_
 refine zy (q8 (z5k 16 mixed (by kernel_rfl) (by kernel_rfl) ?_));refine xn (v:=(.pointer (some ⟨q,2,none⟩))) (qd uf rfl) ?_;refine xn (v:=o) (qi (i:=1) zc2 rfl rfl rfl) ?_;refine xn (v:=(vi f)) (zb rfl) ?_;refine xn (v:=(.pointer (some ⟨q,0,none⟩))) (qd av rfl) ?_
 refine xn (v:=(vi ((1:Int)+(x.fA%3)))) (qi (i:=1) ag3 rfl rfl rfl) ?_;obtain⟨bW,p⟩:=ze p;refine xn (z6a rfl rfl bW) ?_;obtain⟨ai,p⟩:=ze p;refine z1r (zmu (i:=(f/((1:Int)+(x.fA%3))).toNat) (ze5 (b:=true) z5u) rfl (Q.mono U) (zl rfl ai.1) (qb ai)) fun es bX=>?_
 refine xn (v:=(ag.getD (f/((1:Int)+(x.fA%3))).toNat default)) (q7w (zqy (i:=(f/((1:Int)+(x.fA%3))).toNat) (j:=2) (zd9 (b:=true) z5t) (Q.mono U) rfl rfl bX (qb ai))) ?_;refine xn (v:=(vi f)) (zb rfl) ?_;refine xn (v:=(.pointer (some ⟨q,0,none⟩))) (qd av rfl) ?_
 refine xn (v:=(vi ((1:Int)+(x.fA%3)))) (qi (i:=1) ag3 rfl rfl rfl) ?_;obtain⟨bY,p⟩:=ze p;refine xn (rq rfl rfl bY) ?_;obtain⟨aK,p⟩:=ze p
 refine z1r (zko (i:=(f%((1:Int)+(x.fA%3))).toNat) (r:=(f/((1:Int)+(x.fA%3))).toNat) z7u (Q.mono U) (qb ai) rfl (zl rfl aK.1) (qb aK)) fun et bZ=>?_;refine z1r (zn1 l5 rfl bZ) fun b0 aL=>?_
 replace aL:zao kEdge 0 (ag.getD (f/((1:Int)+(x.fA%3))).toNat default) (I.getD (f/((1:Int)+(x.fA%3))).toNat default) b0 (f%((1:Int)+(x.fA%3))).toNat:=aL
 refine xn (fw (zss (i:=(f%((1:Int)+(x.fA%3))).toNat) (r:=(f/((1:Int)+(x.fA%3))).toNat) (j:=2) ty3 zan (Q.mono U) (qb ai) rfl rfl aL (qb aK))) ?_;refine xn (jc rfl rfl) ?_;intro eu ac;refine z8 (zw rfl p (fun p=>?_) (fun p=>?_))
 refine zz (zh aH (zh (vi f) (rf (T:=(qc .i64)) (X:=([f]:List Int)) (ps:=[(0,(vi f))]) (css:=[[(vi f)]]) rfl underlying32 zo3 rfl rfl (uh ⟨rfl,trivial⟩) rfl rfl (by decide) fun b1 ew be b2=>?_)));refine wu (i:=0) rfl b2 fun b3 aM b4=>?_
 have b5:VRep (tSl true (qc .i64)) b3 b1 ([f]:List Int):=(z1b b4 be);obtain⟨bo,p⟩:=ze p;refine bu (i:=3) (X:=ah) (Y:=([f]:List Int)) rfl underlying32 zo3 rfl rfl rfl (aI.mono (ac.trans aM)) (ja (Sub.v (B:=(tSl false (qc .i64))) (ku Sub.refl (fun _=>rfl)) b5)) bo.1 bo.2 fun bp b7 b8=>?_
 refine zf bp (z8 ?_);exact⟨dkt,(ac.trans aM),jq,((ah++([f]:List Int)),bp,b7),⟨rfl,trivial⟩,prm,(Option.some.inj p).symm,b8,trivial⟩;refine qa ?_;exact⟨dkt,ac,jq,(ah,aH,ax),⟨rfl,trivial⟩,prm,(Option.some.inj p).symm,(aI.mono ac),trivial⟩;rintro⟨aJ,b9,aN⟩ ex ey bG ⟨rfl,ca,_⟩
 refine zz (zh (vi f) ?_);obtain⟨cb,a⟩:=ze a;refine zq (jf rfl rfl cb) (zf (vi (f+1)) (z8 ?_));exact⟨dkt,bG,jq,(aw,aJ,f+1,b9,aN),Nat.lt_succ_self _,⟨rfl,rfl,trivial⟩,prm,a,ca,trivial⟩;refine jm ?_
 exact⟨dkt,U,jq,(ah,aH,ax),⟨rfl,trivial⟩,prm,(Option.some.inj a).symm,aI,trivial⟩;rintro⟨K,aO,bq⟩ ez eA P ⟨rfl,aj,_⟩;refine zn (zh aO ?_);obtain⟨aP,c⟩:=ze c;refine lm (i:=(0:Int).toNat) rfl z02 rfl aj (zl rfl aP.1) (qb aP) fun eB cc=>?_
 refine zb0 (i:=(0:Int).toNat) (j:=3) rfl ty3 aj rfl rfl cc (qb aP) fun eC cd=>?_;obtain rfl:=jb.1 cd;refine zf (vi (ix K 0)) (z8 ?_);obtain⟨k,a,c⟩:=zm c
 refine j6 (γ:=Int) (rs [12,13,103,122]) (fun g=>[(12,(vi g))]) (fun g=>[box b6 [(vi 0),(vi 0),vs0] 30,box q [(vi ((1:Int)+(x.fA%3))),(vi ((1:Int)+(x.fB%3))),o] 30,Z]++A) (fun g R=>k=g∧True) ?_ ?_;refine zn (zh (vi s) ?_);obtain⟨ce,a⟩:=ze a
 refine zq (zgx rfl rfl ce) (jo rfl q00 z9r rfl (h2.mono ((ar.trans aq).trans P)) fun eD cf=>?_);refine qh rfl q35 rfl cf fun eE cg=>?_;refine zq (qj rfl underlying25 rfl (ja cg)) (zq (jc rfl rfl) (z8 (zw rfl a (fun a=>?_) (fun a=>?_))))
 refine zz (zh aO (jo rfl q00 z9r rfl (h2.mono ((ar.trans aq).trans P)) fun eF ch=>?_));refine qh rfl q35 rfl ch fun eG ci=>?_;refine zh (vi s) ?_;obtain⟨cj,a⟩:=ze a;refine zq (zgx rfl rfl cj) ?_;obtain⟨br,a⟩:=ze a
 refine kw (i:=(s-1).toNat) rfl q7k rfl (ja ci) (zl rfl br.1) (qb br) fun eH ck=>?_;refine qh rfl ty5 rfl ck fun eI cl=>?_;obtain rfl:=jb.1 cl;obtain⟨cm,a⟩:=ze a;refine zq (z3t underlying5 underlying3 rfl cm) (zh aO (zq (zax rfl underlying32 rfl aj) ?_))
 obtain⟨cn,a⟩:=ze a;refine zq (rq rfl rfl cn) ?_;obtain⟨aQ,a⟩:=ze a;refine lm (i:=((ix x.fE (s-1))%(↑K.length:Int)).toNat) rfl z02 rfl aj (zl rfl aQ.1) (qb aQ) fun eJ co=>?_
 refine zb0 (i:=((ix x.fE (s-1))%(↑K.length:Int)).toNat) (j:=3) rfl ty3 aj rfl rfl co (qb aQ) fun eK cp=>?_;obtain rfl:=jb.1 cp;refine zf (vi (ix K ((ix x.fE (s-1))%(↑K.length:Int)))) (z8 ?_)
 exact⟨dkt,(RH.le.refl _),jq,(ix K ((ix x.fE (s-1))%(↑K.length:Int))),⟨rfl,trivial⟩,⟨[bq],(pk 3 rfl (pk 0 rfl (pk 0 rfl (pk 0 rfl (List.Perm.refl _)))))⟩,(Option.some.inj a).symm,trivial⟩;refine qa ?_
 exact⟨dkt,(RH.le.refl _),jq,(ix K 0),⟨rfl,trivial⟩,⟨[bq],(pk 3 rfl (pk 0 rfl (pk 0 rfl (pk 0 rfl (List.Perm.refl _)))))⟩,(Option.some.inj a).symm,trivial⟩;rintro k eL eM V ⟨rfl,_⟩;refine z5k 15 mixed (by kernel_rfl) (by kernel_rfl) ?_;refine xn (v:=(.pointer (some ⟨q,2,none⟩))) (qd uf rfl) ?_
 refine xn (v:=o) (qi (i:=1) zc2 rfl rfl rfl) ?_;refine xn (v:=(vi k)) (zb rfl) ?_;refine xn (v:=(.pointer (some ⟨q,0,none⟩))) (qd av rfl) ?_;refine xn (v:=(vi ((1:Int)+(x.fA%3)))) (qi (i:=1) ag3 rfl rfl rfl) ?_;obtain⟨cq,c⟩:=ze c;refine xn (z6a rfl rfl cq) ?_
 obtain⟨ak,c⟩:=ze c;refine z1r (zmu (i:=(k/((1:Int)+(x.fA%3))).toNat) (ze5 (b:=true) z5u) rfl (Q.mono (P.trans V)) (zl rfl ak.1) (qb ak)) fun eN cr=>?_
 refine xn (v:=(ag.getD (k/((1:Int)+(x.fA%3))).toNat default)) (q7w (zqy (i:=(k/((1:Int)+(x.fA%3))).toNat) (j:=2) (zd9 (b:=true) z5t) (Q.mono (P.trans V)) rfl rfl cr (qb ak))) ?_;refine xn (v:=(vi k)) (zb rfl) ?_;refine xn (v:=(.pointer (some ⟨q,0,none⟩))) (qd av rfl) ?_
 refine xn (v:=(vi ((1:Int)+(x.fA%3)))) (qi (i:=1) ag3 rfl rfl rfl) ?_;obtain⟨cs,c⟩:=ze c;refine xn (rq rfl rfl cs) ?_;refine xn (v:=(vi s)) (zb rfl) ?_;obtain⟨aR,c⟩:=ze c
 refine z1r (zko (i:=(k%((1:Int)+(x.fA%3))).toNat) (r:=(k/((1:Int)+(x.fA%3))).toNat) z7u (Q.mono (P.trans V)) (qb ak) rfl (zl rfl aR.1) (qb aR)) fun eO ct=>?_;refine z1r (zn1 l5 rfl ct) fun bs aS=>?_
 replace aS:zao kEdge 0 (ag.getD (k/((1:Int)+(x.fA%3))).toNat default) (I.getD (k/((1:Int)+(x.fA%3))).toNat default) bs (k%((1:Int)+(x.fA%3))).toNat:=aS;intro eP aT
 refine zek (Oc:=[Z]) (Or:=[box b6 [(vi 0),(vi 0),vs0] 30,box q [(vi ((1:Int)+(x.fA%3))),(vi ((1:Int)+(x.fB%3))),o] 30]++A) (pk 2 rfl (pk 0 rfl (pk 0 rfl (List.Perm.refl _)))) (zjd (i:=(k%((1:Int)+(x.fA%3))).toNat) (r:=(k/((1:Int)+(x.fA%3))).toNat) (u:=bs) zly ty3 (Q.mono ((P.trans V).trans aT)) (qb ak) rfl aS (qb aR) rfl (jb.2 rfl)) ?_
 rintro eQ eR dU dV ⟨rfl,bt,rfl,aU⟩;replace aU:N2 false kEdge _ bt o ag (up I (k/((1:Int)+(x.fA%3))) (up (ix I (k/((1:Int)+(x.fA%3)))) (k%((1:Int)+(x.fA%3))) (⟨s,(ix (ix I (k/((1:Int)+(x.fA%3)))) (k%((1:Int)+(x.fA%3)))).out⟩:Edge))):=aU
 refine z8 (zz (zh (vi s) ?_));obtain⟨cv,c⟩:=ze c;refine zq (jf rfl rfl cv) (zf (vi (s+1)) (z8 ?_))
 exact⟨dkt,((P.trans V).trans aT),jq,(au,s+1,(up I (k/((1:Int)+(x.fA%3))) (up (ix I (k/((1:Int)+(x.fA%3)))) (k%((1:Int)+(x.fA%3))) (⟨s,(ix (ix I (k/((1:Int)+(x.fA%3)))) (k%((1:Int)+(x.fA%3)))).out⟩:Edge))),bt),Nat.lt_succ_self _,⟨rfl,trivial⟩,⟨[],(pk 1 rfl (pk 1 rfl (pk 0 rfl (List.Perm.refl _))))⟩,c,(oq aU),trivial⟩
 refine jm ?_;exact⟨dkt,aq,jq,(I,Z),trivial,prm,(Option.some.inj c).symm,(oq Q),trivial⟩;rintro⟨af,cw⟩ eS eT aV ⟨rfl,⟨eU,cx⟩,_⟩;obtain⟨aa,c,y⟩:=zm y
 refine j6 (γ:=(List (List Edge))×Frag) (rs [13,15,137,177]) (fun g=>[]) (fun g=>[box b6 [(vi 0),(vi 0),vs0] 30,box q [(vi ((1:Int)+(x.fA%3))),(vi ((1:Int)+(x.fB%3))),o] 30,g.2]++A) (fun g R=>aa=g.1∧NRep false kEdge R g.2 o g.1∧True) ?_ ?_
 refine zn (zf (vi 0) (z8 (zy (jg (γ:=Nat×Int×(List (List Edge))×Frag) (rs [13,15,137,177]) (fun g=>[(13,(vi g.2.1))]) (fun g=>[box b6 [(vi 0),(vi 0),vs0] 30,box q [(vi ((1:Int)+(x.fA%3))),(vi ((1:Int)+(x.fB%3))),o] 30,g.2.2.2]++A) (fun g R=>ol N x g.1 g.2.1 g.2.2.1=some aa∧NRep false kEdge R g.2.2.2 o g.2.2.1∧True) (fun g=>g.1) (N,0,af,cw) prm ⟨c,(oq cx),trivial⟩ ?_))))
 clear c;rintro⟨ay,d,aW,bv⟩ eV eW aX ⟨c,⟨eX,bw⟩,_⟩;rcases ay with _|ay;exact j4 c;replace c:ol N x (ay+1) d aW=some aa:=c;rw [ol] at c
 refine q8 (zn (zh (vi d) (zh (vi ((1:Int)+(x.fD%6))) (zq (jc rfl rfl) (z8 (zw rfl c (fun c=>?_) (fun c=>?_)))))));refine qa ?_;obtain⟨al,a,c⟩:=zm c
 refine j6 (γ:=(List (List Edge))×Frag) (rs [14,15,142,177]) (fun g=>[]) (fun g=>[box b6 [(vi 0),(vi 0),vs0] 30,box q [(vi ((1:Int)+(x.fA%3))),(vi ((1:Int)+(x.fB%3))),o] 30,g.2]++A) (fun g R=>al=g.1∧NRep false kEdge R g.2 o g.1∧True) ?_ ?_
 refine zy (zn (zf (vi 0) (z8 (zy (jg (γ:=Nat×Int×(List (List Edge))×Frag) (rs [14,15,142,177]) (fun g=>[(14,(vi g.2.1))]) (fun g=>[box b6 [(vi 0),(vi 0),vs0] 30,box q [(vi ((1:Int)+(x.fA%3))),(vi ((1:Int)+(x.fB%3))),o] 30,g.2.2.2]++A) (fun g R=>xh N x d g.1 g.2.1 g.2.2.1=some al∧NRep false kEdge R g.2.2.2 o g.2.2.1∧True) (fun g=>g.1) (N,0,aW,bv) prm ⟨a,(oq bw),trivial⟩ ?_)))))
 clear a;rintro⟨az,m,E,aY⟩ eY eZ aZ ⟨a,⟨W,M⟩,_⟩;rcases az with _|az;exact j4 a;replace a:xh N x d (az+1) m E=some al:=a;rw [xh] at a
 refine q8 (zn (zh (vi m) (zq (qd av rfl) (zq (qi (i:=1) ag3 rfl rfl rfl) (zq (jc rfl rfl) (z8 (zw rfl a (fun a=>?_) (fun a=>?_))))))));refine qa ?_;obtain⟨a0,p,a⟩:=zm a
 refine j6 (γ:=(List (List Edge))×Frag) (rs [148,177]) (fun g=>[]) (fun g=>[box b6 [(vi 0),(vi 0),vs0] 30,box q [(vi ((1:Int)+(x.fA%3))),(vi ((1:Int)+(x.fB%3))),o] 30,g.2]++A) (fun g R=>a0=g.1∧NRep false kEdge R g.2 o g.1∧True) ?_ ?_
 refine zy (zn (zq (qd uf rfl) (zq (qi (i:=1) zc2 rfl rfl rfl) (zh (vi d) ?_))));obtain⟨am,p⟩:=ze p;refine z6c rfl (zaj (i:=d.toNat) (ze5 (b:=true) z5u) rfl M (zl rfl am.1) (qb am)) fun e0 e1 z cy=>?_
 refine z6c rfl (ze3 (i:=d.toNat) (j:=2) (zd9 (b:=true) z5t) (M.mono z) rfl rfl cy (qb am)) fun e2 e3 C cz=>?_;obtain rfl:=Eq.symm cz;refine zh (vi m) ?_;obtain⟨a1,p⟩:=ze p
 refine z6c rfl (zb4 (i:=m.toNat) (r:=d.toNat) z7u (M.mono (z.trans C)) (qb am) rfl (zl rfl a1.1) (qb a1)) fun e4 e5 G cA=>?_;refine z6c rfl (zin l5 rfl cA) fun cB e6 H a2=>?_;replace a2:zao kEdge 0 (W.getD d.toNat default) (E.getD d.toNat default) cB m.toNat:=a2
 refine z6c rfl (xc (ztn (i:=m.toNat) (r:=d.toNat) (j:=2) ty3 zan (M.mono (((z.trans C).trans G).trans H)) (qb am) rfl rfl a2 (qb a1)) (fun _ _ h=>jb.1 h)) fun e7 e8 L cC=>?_;obtain rfl:=Eq.symm cC;refine zq (jc rfl rfl) (z8 (zw rfl p (fun p=>?_) (fun p=>?_)))
 obtain⟨an,cD,cE,p⟩:=zz7 p;obtain⟨aA,cF,p⟩:=zm p;obtain⟨cG,a3,p⟩:=zyz p
 refine dn 19 [] [phX (.pointer (some ⟨q,2,none⟩)),phX o,phX (vi d),(fun u _=>z7f tHdr o W u d.toNat),phX (W.getD d.toNat default),phX (vi m),phP (tSl false (qc .u16)) x.fG,phR (tSl false (qc .u16)) x.fG,phX (vi d),phX (.pointer (some ⟨q,0,none⟩)),phX (vi ((1:Int)+(x.fA%3))),phX (vi (d*((1:Int)+(x.fA%3)))),phX (vi m),phX (vi ((d*((1:Int)+(x.fA%3)))+m)),phX (vi aA),phX (vi ((1:Int)+(x.fD%6))),phX (vi (aA%((1:Int)+(x.fD%6)))),(fun u _=>z7f kEdge (W.getD d.toNat default) (E.getD d.toNat default) u m.toNat),(fun u _=>zao kEdge 0 (W.getD d.toNat default) (E.getD d.toNat default) u m.toNat)] mixed (by kernel_rfl) (yl ⟨zi,zi,zi,(fun _ _ _ _ h=>h),zi,zi,xu,bz,zi,zi,zi,zi,zi,zi,zi,zi,zi,(fun _ _ _ _ h=>h),(fun _ _ _ _ h=>h),trivial⟩) ⟨?_,?_,?_,?_,?_,?_,?_,?_,?_,?_,?_,?_,?_,?_,?_,?_,?_,?_,?_,trivial⟩ fun e9 a4=>?_
 intro l dy n F hd;exact za rfl rfl rfl (zt (qd uf (F 4 rfl)));rintro l dz n F ⟨O,_⟩;exact za rfl rfl rfl (zt (qi (i:=1) zc2 (O rfl) rfl rfl));intro l dA n F hd;exact za rfl rfl rfl (zt (zb (F 13 rfl)));rintro l dB n F ⟨O,d1,_⟩
 exact za rfl rfl rfl (zaj (i:=d.toNat) (ze5 (b:=true) z5u) (O rfl) ((M.mono ((((z.trans C).trans G).trans H).trans L)).mono n) (zl (d1 rfl) an.1) (qb an));rintro l dC n F ⟨O,_⟩
 exact za rfl rfl rfl (ze3 (i:=d.toNat) (j:=2) (zd9 (b:=true) z5t) ((M.mono ((((z.trans C).trans G).trans H).trans L)).mono n) rfl rfl (O rfl) (qb an));intro l dD n F hd;exact za rfl rfl rfl (zt (zb (F 14 rfl)));intro l dE n F hd
 exact za rfl rfl rfl (z0o q0x z9m (F 1 rfl) ((h2.mono ((((((((ar.trans aV).trans aX).trans aZ).trans z).trans C).trans G).trans H).trans L)).mono n));rintro l dF n F ⟨O,_⟩;exact za rfl rfl rfl (ug q2p rfl (O rfl));intro l dH n F hd;exact za rfl rfl rfl (zt (zb (F 13 rfl)))
 intro l gn n F hd;exact za rfl rfl rfl (zt (qd av (F 4 rfl)));rintro l fa n F ⟨O,_⟩;exact za rfl rfl rfl (zt (qi (i:=1) ag3 (O rfl) rfl rfl));rintro l fb n F ⟨O,d1,_⟩;exact za rfl rfl rfl (zt (z8h (O rfl) (d1 rfl) cD));intro l fc n F hd;exact za rfl rfl rfl (zt (zb (F 14 rfl)))
 rintro l fd n F ⟨O,d1,_⟩;exact za rfl rfl rfl (zt (jf (O rfl) (d1 rfl) cE));rintro l fe n F ⟨O,d1,_⟩;have aN:l 171=(vi ((d*((1:Int)+(x.fA%3)))+m)):=d1 rfl
 exact za rfl rfl rfl (jy (vs:=[(l 165),(vi ((d*((1:Int)+(x.fA%3)))+m))]) q8k (by simp only [List.map,ev,aN]<;>rfl) (z8e (O rfl) cF) (fun _ _ h=>h));intro l ff n F hd;exact za rfl rfl rfl (zt (zb (F 3 rfl)));rintro l fg n F ⟨O,d1,_⟩
 exact za rfl rfl rfl (zt (rq (O rfl) (d1 rfl) cG));rintro l fh n F ⟨O,d1,d2,d3,d4,d5,d6,d7,d8,d9,dW,dX,dY,dZ,ea,eb,ec,ed,gw,_⟩;have ax:=O rfl
 exact za rfl rfl rfl (zb4 (i:=m.toNat) (r:=d.toNat) z7u ((M.mono ((((z.trans C).trans G).trans H).trans L)).mono n) (qb an) ax (zl (d1 rfl) a3.1) (qb a3));rintro l fi n F ⟨O,d1,d2,d3,d4,d5,d6,d7,d8,d9,dW,dX,dY,dZ,ea,eb,ec,ed,_⟩;exact za rfl rfl rfl (zin l5 rfl (O rfl))
 intro fj cH fk cI fl cJ fm fn fo cK fp cL fq fr fs ft fu cM fv cN fx cO fy cP fz cQ fC cR fF cS fH cT fI cU fJ fK bx a5;obtain rfl:=Eq.symm cH;obtain rfl:=Eq.symm cI;obtain rfl:=Eq.symm cJ;obtain rfl:=Eq.symm cK;obtain rfl:=Eq.symm cL;obtain rfl:=Eq.symm cM;obtain rfl:=Eq.symm cN
 obtain rfl:=Eq.symm cO;obtain rfl:=Eq.symm cP;obtain rfl:=Eq.symm cQ;obtain rfl:=Eq.symm cR;obtain rfl:=Eq.symm cS;obtain rfl:=Eq.symm cT;obtain rfl:=Eq.symm cU;replace a5:zao kEdge 0 (W.getD d.toNat default) (E.getD d.toNat default) bx m.toNat:=a5
 refine zek (Oc:=[aY]) (Or:=[box b6 [(vi 0),(vi 0),vs0] 30,box q [(vi ((1:Int)+(x.fA%3))),(vi ((1:Int)+(x.fB%3))),o] 30]++A) (pk 2 rfl (pk 0 rfl (pk 0 rfl (List.Perm.refl _)))) (zjd (i:=m.toNat) (r:=d.toNat) (u:=bx) zly ty3 (M.mono (((((z.trans C).trans G).trans H).trans L).trans a4)) (qb an) rfl a5 (qb a3) rfl (jb.2 rfl)) ?_
 rintro fL fM ee ef ⟨rfl,bA,rfl,a6⟩;replace a6:N2 false kEdge _ bA o W (up E d (up (ix E d) m (⟨aA%((1:Int)+(x.fD%6)),(ix (ix E d) m).out⟩:Edge))):=a6;refine z8 ?_
 exact⟨dkt,(((((z.trans C).trans G).trans H).trans L).trans a4),jq,((up E d (up (ix E d) m (⟨aA%((1:Int)+(x.fD%6)),(ix (ix E d) m).out⟩:Edge))),bA),trivial,⟨[],(pk 1 rfl (pk 1 rfl (pk 0 rfl (List.Perm.refl _))))⟩,(Option.some.inj p).symm,(oq a6),trivial⟩;refine qa ?_
 exact⟨dkt,((((z.trans C).trans G).trans H).trans L),jq,(E,aY),trivial,prm,(Option.some.inj p).symm,(oq (M.mono ((((z.trans C).trans G).trans H).trans L))),trivial⟩;rintro⟨a0,cV⟩ fN fO bH ⟨rfl,⟨fP,cW⟩,_⟩;refine zz (zh (vi m) ?_);obtain⟨cX,a⟩:=ze a
 refine zq (jf rfl rfl cX) (zf (vi (m+1)) (z8 ?_));exact⟨dkt,bH,jq,(az,m+1,a0,cV),Nat.lt_succ_self _,⟨rfl,trivial⟩,prm,a,(oq cW),trivial⟩;refine jm ?_;exact⟨dkt,aZ,jq,(E,aY),trivial,prm,(Option.some.inj a).symm,(oq M),trivial⟩;rintro⟨al,cY⟩ fQ fR bI ⟨rfl,⟨fS,cZ⟩,_⟩
 refine zz (zh (vi d) ?_);obtain⟨c0,c⟩:=ze c;refine zq (jf rfl rfl c0) (zf (vi (d+1)) (z8 ?_));exact⟨dkt,bI,jq,(ay,d+1,al,cY),Nat.lt_succ_self _,⟨rfl,trivial⟩,prm,c,(oq cZ),trivial⟩;refine jm ?_
 exact⟨dkt,aX,jq,(aW,bv),trivial,prm,(Option.some.inj c).symm,(oq bw),trivial⟩;rintro⟨aa,fT⟩ fU fV bJ ⟨rfl,⟨fW,bB⟩,_⟩
 refine zn (zq (ql (i:=1) ry yh rfl rfl rfl rfl) (jd (i:=0) (vs:=[(vi ((1:Int)+(x.fA%3))),(vi ((1:Int)+(x.fB%3))),o]) yh rfl rfl rfl rfl rfl rfl (zu rfl (zu rfl (zu (zil bB) jh))) ?_));refine z8 (zg0 (i:=2) rfl (oq bB) fun c1 bK c2=>?_)
 have c3:VRep (tSl false (tSl false kEdge)) c1 o aa:=(z4u c2);refine qp ?_;obtain rfl:=Option.some.inj y
 refine q9 (D:=[]) (J:=[box b6 [(vi ((1:Int)+(x.fA%3))),(vi ((1:Int)+(x.fB%3))),o] 30,box q [(vi ((1:Int)+(x.fA%3))),(vi ((1:Int)+(x.fB%3))),o] 30]) (rs:=[.cell 2 30]) (vs:=[(.agg #[(vi ((1:Int)+(x.fA%3))),(vi ((1:Int)+(x.fB%3))),o])]) ((((c6.trans ar).trans aV).trans bJ).trans bK) rfl rfl ⟨⟨_,rfl,fun w hh=>z05 (i:=0) hh rfl rfl ry yh rfl rfl⟩,trivial⟩ ?_
 exact⟨rfl,(⟨_,⟨_,_,rfl,rfl,⟨_,_,rfl,rfl,(je rfl c3)⟩⟩,rfl⟩:VRep (qz false false) _ _ (⟨(1:Int)+(x.fA%3),(1:Int)+(x.fB%3),aa⟩:Mach))⟩
theorem q7z:Enters prog 23:=enters_of func23 rfl (by kernel_rfl)
end GV
end Go.Proofs.YtkcccdcloealfaaGreat
