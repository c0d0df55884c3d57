import Derived.Test.YtplgbkaollfmkaaShWa
import Derived.Test.YtplgbkaollfmkaaShXa
import Derived.Test.YtplgbkaollfmkaaShXb
import Derived.Test.YtplgbkaollfmkaaShXc
import Derived.Test.YtplgbkaollfmkaaShXd
import Derived.Test.YtplgbkaollfmkaaShXe
import Derived.Test.YtplgbkaollfmkaaShXf
import Derived.Test.YtplgbkaollfmkaaShXg
import Derived.Test.YtplgbkaollfmkaaShXh
import Derived.Test.YtplgbkaollfmkaaRows
set_option linter.unusedVariables false
set_option linter.unusedSimpArgs false
namespace Go.Proofs.Ytplgbkaollfmkaa
namespace GV
open _root_.Go.Proofs.Try
open Go.IntWalk
set_option maxRecDepth 100000
set_option maxHeartbeats 20000000
theorem zs6:FieldOk prog 44 0 0:=by
 obtain⟨i,hi,a⟩: ∃ i,prog.info? 5=some i∧i.size=1:=kv (by kernel_rfl);exact ut underlying44 rfl rfl hi (by rw [a];rfl)
theorem q2j:FieldOk prog 44 1 1:=by
 obtain⟨i,hi,a⟩: ∃ i,prog.info? 5=some i∧i.size=1:=kv (by kernel_rfl);exact ut underlying44 rfl rfl hi (by rw [a];rfl)
theorem q3a:FieldOk prog 44 2 2:=by
 obtain⟨i,hi,a⟩: ∃ i,prog.info? 5=some i∧i.size=1:=kv (by kernel_rfl);exact ut underlying44 rfl rfl hi (by rw [a];rfl)
theorem zzd:FieldOk prog 44 4 4:=by
 obtain⟨i,hi,a⟩: ∃ i,prog.info? 42=some i∧i.size=1:=kv (by kernel_rfl);exact ut underlying44 rfl rfl hi (by rw [a];rfl)
theorem q47{a:Bool}:TyOk prog 42 (tSl a (zx .u16)):=by
 obtain⟨i,hi,b⟩: ∃ i,prog.info? 42=some i∧i.size=1:=kv (by kernel_rfl);exact z3n underlying42 hi rfl b
theorem q1h:TyOk prog 114 (zx .u16):=by
 obtain⟨i,hi,a⟩: ∃ i,prog.info? 114=some i∧i.size=1:=kv (by kernel_rfl);exact z3n underlying114 hi rfl a
theorem q7m:SlOk prog 42 114 (zx .u16):=⟨underlying42,q1h⟩
theorem z7e{N:Nat}{R:RH}{d:(List Int)}{b:Value}(c:VRep (tSl false (zx .u16)) R b d){k:Int}{r:Int}(a:lh N d k=some r):CallP prog 49 #[b,(vi k)] R (fun v R'=>v=(vi r)):=by
 refine qd (args:=[b,(vi k)]) func49 rfl rfl fun A=>?_;rw [lh] at a;refine zi (zh (vi 0) (z8 (q9 (zi (zg (vi k) (zg b (zo (qi rfl underlying42 rfl (qy c)) (zo (j3 rfl rfl) (z8 (zu rfl a (fun a=>?_) (fun a=>?_)))))))))));refine zi (zg b (zg (vi k) ?_))
 obtain⟨e,a⟩:=zf a;refine jv (i:=k.toNat) rfl q7m rfl (qy c) (ze rfl e.1) (zz e) fun j f=>?_;refine qh rfl q1h rfl f fun l g=>?_;obtain rfl:=j5.1 g;obtain⟨h,a⟩:=zf a;refine zo (z7s underlying114 underlying3 rfl h) (zh (vi (ix d k)) (z8 (qm ?_)));obtain rfl:=Option.some.inj a
 refine qa (D:=[]) (J:=[]) (rs:=[.tmp 4]) (vs:=[(vi (ix d k))]) (RH.le.refl _) rfl rfl ⟨rfl,trivial⟩ ?_;exact⟨rfl,rfl⟩;refine q8 (zi (zh (vi 0) (z8 (qm ?_))));obtain rfl:=Option.some.inj a;refine qa (D:=[]) (J:=[]) (rs:=[.tmp 4]) (vs:=[(vi 0)]) (RH.le.refl _) rfl rfl ⟨rfl,trivial⟩ ?_;exact⟨rfl,rfl⟩
theorem q5m:Enters prog 49:=enters_of func49 rfl (by kernel_rfl)
theorem zyk:FieldOk prog 44 3 3:=by
 obtain⟨i,hi,a⟩: ∃ i,prog.info? 41=some i∧i.size=1:=kv (by kernel_rfl);exact ut underlying44 rfl rfl hi (by rw [a];rfl)
theorem q3k{a:Bool}:TyOk prog 41 (tSl a (zx .u8)):=by
 obtain⟨i,hi,b⟩: ∃ i,prog.info? 41=some i∧i.size=1:=kv (by kernel_rfl);exact z3n underlying41 hi rfl b
theorem q3y:ZeroOk prog 26 tHdr vs0 24:=by
 obtain⟨i,zv,hi,a,c,d,f⟩:=z4y (P:=prog) (e:=26) (zv:=vs0) (k:=1) (b:=24) (by kernel_rfl);exact⟨i,zv,hi,a,c,d,fun R=>by subst f;exact⟨rfl,rfl⟩⟩
theorem zot:ze5 kEdge 0 (zx .i64) (fun(x:Edge) (y:Int)=>(⟨y,x.out⟩:Edge)):=q3t q28 (fun _ _=>rfl)
theorem zdr{N:Nat}{R:RH}{x:Sb}{bC:Value}(c4:VRep (o9 false false) R bC x){r:Mach}(y:z2p N x=some r):CallP prog 20 #[bC] R (fun v R'=>VRep (je false false) R' v r):=by
 refine qd (args:=[bC]) func20 rfl rfl fun A=>?_;rw [z2p] at y;refine zi (kg (T:=(o9 false false)) rfl rfl rfl c4 fun v1 R3 c5 h5 h2=>?_);refine uq rfl zlf fun b6=>?_;refine qw (jg rfl zs6 zdm rfl h2 fun v8 h9=>?_);refine qh rfl ty5 rfl h9 fun fY c6=>?_;obtain rfl:=j5.1 c6
 obtain⟨c7,y⟩:=zf y;refine zo (z5l rfl rfl c7) ?_;obtain⟨c8,y⟩:=zf y;refine zo (z7s underlying5 underlying3 rfl c8) ?_;obtain⟨c9,y⟩:=zf y;refine zo (qz rfl rfl c9) (zh (vi ((1:Int)+(x.fC%6))) (qw (jg rfl q2j zd6 rfl h2 fun fZ da=>?_)))
 refine qh rfl ty5 rfl da fun f0 db=>?_;obtain rfl:=j5.1 db;obtain⟨dc,y⟩:=zf y;refine zo (z5l rfl rfl dc) ?_;obtain⟨dd,y⟩:=zf y;refine zo (z7s underlying5 underlying3 rfl dd) ?_;obtain⟨de,y⟩:=zf y;refine zo (qz rfl rfl de) (jg rfl q3a zcz rfl h2 fun f1 dg=>?_)
 refine qh rfl ty5 rfl dg fun f2 dj=>?_;obtain rfl:=j5.1 dj;obtain⟨dk,y⟩:=zf y;refine zo (z5l rfl rfl dk) ?_;obtain⟨dl,y⟩:=zf y;refine zo (z7s underlying5 underlying3 rfl dl) ?_;obtain⟨dm,y⟩:=zf y
 refine zo (qz rfl rfl dm) (zo (gq (ps:=[(0,(vi ((1:Int)+(x.fA%3)))),(1,(vi ((1:Int)+(x.fB%3))))]) (v:=(.agg #[(vi ((1:Int)+(x.fA%3))),(vi ((1:Int)+(x.fB%3))),vs0])) rfl (fun w=>by kernel_rfl)) (uq rfl zlf fun q=>?_))
 refine jy (i:=0) (vs:=[(vi ((1:Int)+(x.fA%3))),(vi ((1:Int)+(x.fB%3))),vs0]) z6f rfl rfl rfl rfl rfl rfl (qg rfl (qg rfl (qg rfl ko))) ?_;refine z8 ?_;obtain⟨aE,c,y⟩:=zt y
 refine ql (γ:=(List (List Edge))×Value×Frag) (rs [5,9,31,67]) (fun g=>[]) (fun g=>[box b6 [(vi 0),(vi 0),vs0] 24,box q [(vi ((1:Int)+(x.fA%3))),(vi ((1:Int)+(x.fB%3))),g.2.1] 24,g.2.2]++A) (fun g R=>aE=g.1∧NRep false kEdge R g.2.2 g.2.1 g.1∧True) ?_ ?_
 refine zi (zh (vi 0) (z8 (zw (z1t ?_))))
 refine ja (γ:=Nat×Int×(List (List Edge))×Value×Frag) (rs [5,9,31,67]) (fun g=>[(5,(vi g.2.1))]) (fun g=>[box b6 [(vi 0),(vi 0),vs0] 24,box q [(vi ((1:Int)+(x.fA%3))),(vi ((1:Int)+(x.fB%3))),g.2.2.2.1] 24,g.2.2.2.2]++A) (fun g R=>gm N x g.1 g.2.1 g.2.2.1=some aE∧NRep false kEdge R g.2.2.2.2 g.2.2.2.1 g.2.2.1∧True) (fun g=>g.1) (N,0,[],vs0,emp) ⟨[],(pk 2 rfl (pk 1 rfl (pk 0 rfl (List.Perm.refl _))))⟩ ⟨c,(ax (zrm (t:=false) (T:=kEdge) (R:=R3))),trivial⟩ ?_
 clear c;rintro⟨a8,ad,a9,ba,bb⟩ eg f3 bh ⟨c,⟨dn,bL⟩,_⟩;rcases a8 with _|a8;exact qp c;replace c:gm N x (a8+1) ad a9=some aE:=c;rw [gm] at c
 refine q9 (zi (zg (vi ad) (zg (vi ((1:Int)+(x.fC%6))) (zo (j3 rfl rfl) (z8 (zu rfl c (fun c=>?_) (fun c=>?_)))))));refine q8 (q9 (zw (zi (zh vs0 (z8 ?_)))));obtain⟨aC,a,c⟩:=zt c
 refine ql (γ:=(List Edge)×Value×Frag) (rs [6,9,36,61]) (fun g=>[(6,g.2.1)]) (fun g=>[box b6 [(vi 0),(vi 0),vs0] 24,box q [(vi ((1:Int)+(x.fA%3))),(vi ((1:Int)+(x.fB%3))),ba] 24,bb,g.2.2]++A) (fun g R=>aC=g.1∧ORep kEdge R g.2.2 g.2.1 g.1∧True) ?_ ?_
 refine zi (zh (vi 0) (z8 (zw (z1t ?_))))
 refine ja (γ:=Nat×(List Edge)×Int×Value×Frag) (rs [6,9,36,61]) (fun g=>[(6,g.2.2.2.1),(7,(vi g.2.2.1))]) (fun g=>[box b6 [(vi 0),(vi 0),vs0] 24,box q [(vi ((1:Int)+(x.fA%3))),(vi ((1:Int)+(x.fB%3))),ba] 24,bb,g.2.2.2.2]++A) (fun g R=>dh N x ad g.1 g.2.1 g.2.2.1=some aC∧ORep kEdge R g.2.2.2.2 g.2.2.2.1 g.2.1∧True) (fun g=>g.1) (N,[],0,vs0,emp) ⟨[],(pk 1 rfl (pk 1 rfl (pk 1 rfl (pk 0 rfl (List.Perm.refl _)))))⟩ ⟨a,(ry (T:=kEdge)),trivial⟩ ?_
 clear a;rintro⟨bc,be,aD,bM,dp⟩ eh f4 bi ⟨a,bN,_⟩;rcases bc with _|bc;exact qp a;replace a:dh N x ad (bc+1) be aD=some aC:=a;rw [dh] at a
 refine q9 (zi (zg (vi aD) (zo (qb l6 rfl) (zo (qf (i:=1) ag3 rfl rfl rfl) (zo (j3 rfl rfl) (z8 (zu rfl a (fun a=>?_) (fun a=>?_))))))));refine q8 (q9 (zw (zi (jg rfl zzd z8f rfl (h2.mono (bh.trans bi)) fun f5 dq=>?_))));refine qh rfl q47 rfl dq fun f6 dr=>?_
 refine zg (vi ad) (zo (qb l6 rfl) (zo (qf (i:=1) ag3 rfl rfl rfl) ?_));obtain⟨ds,a⟩:=zf a;refine zo (ziy rfl rfl ds) (zg (vi aD) ?_);obtain⟨dt,a⟩:=zf a;refine zo (qz rfl rfl dt) ?_;obtain⟨S,du,a⟩:=zt a;refine jb rfl q5m rfl (z7e dr du) fun f7 f8 bj dv=>?_
 obtain rfl:=dv;refine zh (vi S) (z8 ?_);obtain⟨dw,dx,a⟩:=zxi a;let G1:=([(⟨(-1),(S/((1:Int)+(x.fC%6)))%((1:Int)+(x.fB%3))⟩:Edge)]:List Edge)
 refine og 9 [] [phX bM,phX (vi S),phX (vi ((1:Int)+(x.fC%6))),phX (vi (S/((1:Int)+(x.fC%6)))),phX (.pointer (some ⟨q,1,none⟩)),phX (vi ((1:Int)+(x.fB%3))),phX (vi ((S/((1:Int)+(x.fC%6)))%((1:Int)+(x.fB%3)))),phX (.agg #[(vi (-1)),(vi ((S/((1:Int)+(x.fC%6)))%((1:Int)+(x.fB%3))))]),phR (tSl true kEdge) G1] mixed (by kernel_rfl) (di ⟨zk,zk,zk,zk,zk,zk,zk,zk,o5,trivial⟩) ⟨?_,?_,?_,?_,?_,?_,?_,?_,?_,trivial⟩ fun f9 bk=>?_
 intro l dy n F hd;exact za rfl rfl rfl (zq (zb (F 6 rfl)));intro l dz n F hd;exact za rfl rfl rfl (zq (zb (F 8 rfl)));intro l dA n F hd;exact za rfl rfl rfl (zq (zb (F 3 rfl)));rintro l dB n F ⟨O,d1,_⟩;exact za rfl rfl rfl (zq (zjx (O rfl) (d1 rfl) dw));intro l dC n F hd
 exact za rfl rfl rfl (zq (qb zd4 (F 4 rfl)));rintro l dD n F ⟨O,_⟩;have bE:=O rfl;exact za rfl rfl rfl (zq (qf (i:=1) ag3 bE rfl rfl));rintro l dE n F ⟨O,d1,_⟩;exact za rfl rfl rfl (zq (z5l (O rfl) (d1 rfl) dx));rintro l dF n F ⟨O,_⟩
 have dG:l 57=(vi ((S/((1:Int)+(x.fC%6)))%((1:Int)+(x.fB%3)))):=O rfl
 exact za rfl rfl rfl (zq (gq (ps:=[(0,(vi (-1))),(1,(vi ((S/((1:Int)+(x.fC%6)))%((1:Int)+(x.fB%3)))))]) (v:=(.agg #[(vi (-1)),(vi ((S/((1:Int)+(x.fC%6)))%((1:Int)+(x.fB%3))))])) (by simp only [List.map,ev,dG]<;>rfl) (fun w=>by kernel_rfl)));rintro l dH n F ⟨O,_⟩
 have dI:l 58=(.agg #[(vi (-1)),(vi ((S/((1:Int)+(x.fC%6)))%((1:Int)+(x.fB%3))))]):=O rfl
 exact za rfl rfl rfl (z4h (T:=kEdge) (X:=G1) (ps:=[(0,(.agg #[(vi (-1)),(vi ((S/((1:Int)+(x.fC%6)))%((1:Int)+(x.fB%3))))]))]) (css:=[[(vi (-1)),(vi ((S/((1:Int)+(x.fC%6)))%((1:Int)+(x.fB%3))))]]) underlying26 zua (by simp only [List.map,ev,dI]<;>rfl) rfl (kw ⟨⟨_,_,rfl,rfl,rfl⟩,trivial⟩) rfl rfl (by decide))
 intro ga dJ gb dK gc dL ge dM gf dN gg dO gh dP gi bO ei bP;obtain rfl:=Eq.symm dJ;obtain rfl:=Eq.symm dK;obtain rfl:=Eq.symm dL;obtain rfl:=Eq.symm dM;obtain rfl:=Eq.symm dN;obtain rfl:=Eq.symm dO;obtain rfl:=Eq.symm dP;obtain rfl:=Eq.symm bO;obtain⟨bl,a⟩:=zf a
 refine yz (i:=3) (X:=be) (Y:=G1) rfl underlying26 zua rfl rfl rfl (bN.mono (bj.trans bk)) (qy (Sub.v (B:=(tSl false kEdge)) (ku Sub.refl (fun _=>rfl)) bP)) bl.1 bl.2 fun bm bQ bR=>?_;refine zh bm (z8 (zy (zg (vi aD) ?_)));obtain⟨bS,a⟩:=zf a
 refine zo (qz rfl rfl bS) (zh (vi (aD+1)) (z8 ?_));exact⟨dkt,(bj.trans bk),jd,(bc,(be++G1),aD+1,bm,bQ),Nat.lt_succ_self _,⟨rfl,rfl,trivial⟩,prm,a,bR,trivial⟩;refine jf ?_;exact⟨dkt,bi,jd,(be,bM,dp),⟨rfl,trivial⟩,prm,(Option.some.inj a).symm,bN,trivial⟩;rintro⟨aC,aG,bE⟩ ej gj bn ⟨rfl,bF,_⟩
 refine zy (zo (qb um rfl) (zo (qf (i:=1) zqe rfl rfl rfl) (zg aG (z7c rfl (z4h (T:=tHdr) (X:=[aG]) (ps:=[(0,aG)]) (css:=[[aG]]) underlying22 q3y rfl (by simp only [List.map_cons,List.map_nil,au bF];rfl) (kw ⟨znx (gy bF),trivial⟩) rfl rfl (by decide)) fun ek el ap bT=>?_))))
 obtain⟨bo,c⟩:=zf c
 refine znw (Oc:=[bb,bE]) (Or:=[box b6 [(vi 0),(vi 0),vs0] 24,box q [(vi ((1:Int)+(x.fA%3))),(vi ((1:Int)+(x.fB%3))),ba] 24]++A) rfl (pk 2 rfl (pk 2 rfl (pk 0 rfl (pk 0 rfl (List.Perm.refl _))))) (zdf underlying22 q3y rfl rfl (bL.mono (bn.trans ap)) (bF.mono ap) (qy bT) (fun e=>nomatch e) bo.1 bo.2) ?_
 rintro aH em dQ dR ⟨rfl,bp,rfl,ae⟩;replace ae:N2 false kEdge _ bp aH (dn++[aG]) (a9++[aC]):=ae;refine zo (qb um rfl) (jy (i:=2) (vs:=[aH]) q5e rfl rfl (zwi ae) rfl rfl rfl (qg (zxo ae) ko) ?_);refine z8 (zy (zg (vi ad) ?_));obtain⟨bU,c⟩:=zf c
 refine zo (qz rfl rfl bU) (zh (vi (ad+1)) (z8 ?_));exact⟨dkt,(bn.trans ap),jd,(a8,ad+1,(a9++[aC]),aH,bp),Nat.lt_succ_self _,⟨rfl,trivial⟩,⟨[],(pk 1 rfl (pk 1 rfl (pk 0 rfl (List.Perm.refl _))))⟩,c,(ax ae),trivial⟩;refine jf ?_
 exact⟨dkt,bh,jd,(a9,ba,bb),trivial,prm,(Option.some.inj c).symm,(ax bL),trivial⟩;rintro⟨aE,o,dS⟩ en gk ar ⟨rfl,⟨gl,dT⟩,_⟩;obtain⟨af,c,y⟩:=zt y
 refine ql (γ:=(List (List Edge))×Frag) (rs [9,13,67,137]) (fun g=>[]) (fun g=>[box b6 [(vi 0),(vi 0),vs0] 24,box q [(vi ((1:Int)+(x.fA%3))),(vi ((1:Int)+(x.fB%3))),o] 24,g.2]++A) (fun g R=>af=g.1∧NRep false kEdge R g.2 o g.1∧True) ?_ ?_
 refine zi (zh (vi 1) (z8 (zw (ja (γ:=Nat×Int×(List (List Edge))×Frag) (rs [9,13,67,137]) (fun g=>[(9,(vi g.2.1))]) (fun g=>[box b6 [(vi 0),(vi 0),vs0] 24,box q [(vi ((1:Int)+(x.fA%3))),(vi ((1:Int)+(x.fB%3))),o] 24,g.2.2.2]++A) (fun g R=>pu N x g.1 g.2.1 g.2.2.1=some af∧NRep false kEdge R g.2.2.2 o g.2.2.1∧True) (fun g=>g.1) (N,1,aE,dS) prm ⟨c,(ax dT),trivial⟩ ?_))))
 clear c;rintro⟨av,s,I,Z⟩ eo ep aq ⟨c,⟨ag,Q⟩,_⟩;rcases av with _|av;exact qp c;replace c:pu N x (av+1) s I=some af:=c;rw [pu] at c
 refine q9 (zi (zg (vi s) (zg (vi ((1:Int)+(x.fC%6))) (zo (j3 rfl rfl) (z8 (zu rfl c (fun c=>?_) (fun c=>?_)))))));refine q8 (q9 (zw (zi (zh vs0 (z8 ?_)))));obtain⟨K,a,c⟩:=zt c
 refine ql (γ:=(List Int)×Value×Frag) (rs [10,12,72,100]) (fun g=>[(10,g.2.1)]) (fun g=>[box b6 [(vi 0),(vi 0),vs0] 24,box q [(vi ((1:Int)+(x.fA%3))),(vi ((1:Int)+(x.fB%3))),o] 24,Z,g.2.2]++A) (fun g R=>K=g.1∧ORep (zx .i64) R g.2.2 g.2.1 g.1∧True) ?_ ?_
 refine zi (zh (vi 0) (z8 (zw (z1t ?_))))
 refine ja (γ:=Nat×(List Int)×Int×Value×Frag) (rs [10,12,72,100]) (fun g=>[(10,g.2.2.2.1),(11,(vi g.2.2.1))]) (fun g=>[box b6 [(vi 0),(vi 0),vs0] 24,box q [(vi ((1:Int)+(x.fA%3))),(vi ((1:Int)+(x.fB%3))),o] 24,Z,g.2.2.2.2]++A) (fun g R=>vv N x s I g.1 g.2.1 g.2.2.1=some K∧ORep (zx .i64) R g.2.2.2.2 g.2.2.2.1 g.2.1∧True) (fun g=>g.1) (N,[],0,vs0,emp) ⟨[],(pk 1 rfl (pk 1 rfl (pk 1 rfl (pk 0 rfl (List.Perm.refl _)))))⟩ ⟨a,(ry (T:=(zx .i64))),trivial⟩ ?_
 clear a;rintro⟨aw,ah,f,aI,ay⟩ eq er U ⟨a,aJ,_⟩;rcases aw with _|aw;exact qp a;replace a:vv N x s I (aw+1) ah f=some K:=a;rw [vv] at a;refine q9 (zi (zg (vi f) (zg (vi s) (zo (qb l6 rfl) (zo (qf (i:=1) ag3 rfl rfl rfl) ?_)))))
 obtain⟨bV,a⟩:=zf a;refine zo (ziy rfl rfl bV) (zo (j3 rfl rfl) (z8 (zu rfl a (fun a=>?_) (fun a=>?_))));refine q8 ?_;obtain⟨aK,p,a⟩:=zt a
 refine ql (γ:=(List Int)×Value×Frag) (rs [10,11,80,100]) (fun g=>[(10,g.2.1)]) (fun g=>[box b6 [(vi 0),(vi 0),vs0] 24,box q [(vi ((1:Int)+(x.fA%3))),(vi ((1:Int)+(x.fB%3))),o] 24,Z,g.2.2]++A) (fun g R=>aK=g.1∧ORep (zx .i64) R g.2.2 g.2.1 g.1∧True) ?_ ?_
 refine zw (q9 (z3e 16 mixed (by kernel_rfl) (by kernel_rfl) ?_));refine u6 (v:=(.pointer (some ⟨q,2,none⟩))) (qb um rfl) ?_;refine u6 (v:=o) (qf (i:=1) zqe rfl rfl rfl) ?_;refine u6 (v:=(vi f)) (zb rfl) ?_;refine u6 (v:=(.pointer (some ⟨q,0,none⟩))) (qb l6 rfl) ?_
 refine u6 (v:=(vi ((1:Int)+(x.fA%3)))) (qf (i:=1) ag3 rfl rfl rfl) ?_;obtain⟨bW,p⟩:=zf p;refine u6 (zjx rfl rfl bW) ?_;obtain⟨ai,p⟩:=zf p;refine z1u (zmp (i:=(f/((1:Int)+(x.fA%3))).toNat) (zhk (b:=true) z8p) rfl (Q.mono U) (ze rfl ai.1) (zz ai)) fun es bX=>?_
 refine u6 (v:=(ag.getD (f/((1:Int)+(x.fA%3))).toNat default)) (q41 (zp5 (i:=(f/((1:Int)+(x.fA%3))).toNat) (j:=2) (zf1 (b:=true) z7p) (Q.mono U) rfl rfl bX (zz ai))) ?_;refine u6 (v:=(vi f)) (zb rfl) ?_;refine u6 (v:=(.pointer (some ⟨q,0,none⟩))) (qb l6 rfl) ?_
 refine u6 (v:=(vi ((1:Int)+(x.fA%3)))) (qf (i:=1) ag3 rfl rfl rfl) ?_;obtain⟨bY,p⟩:=zf p;refine u6 (z5l rfl rfl bY) ?_;obtain⟨aL,p⟩:=zf p
 refine z1u (zkw (i:=(f%((1:Int)+(x.fA%3))).toNat) (r:=(f/((1:Int)+(x.fA%3))).toNat) z8w (Q.mono U) (zz ai) rfl (ze rfl aL.1) (zz aL)) fun et bZ=>?_;refine z1u (zhc ic rfl bZ) fun b0 aM=>?_
 replace aM:z6k kEdge 0 (ag.getD (f/((1:Int)+(x.fA%3))).toNat default) (I.getD (f/((1:Int)+(x.fA%3))).toNat default) b0 (f%((1:Int)+(x.fA%3))).toNat:=aM
 refine u6 (ol (zr2 (i:=(f%((1:Int)+(x.fA%3))).toNat) (r:=(f/((1:Int)+(x.fA%3))).toNat) (j:=2) ty3 z4u (Q.mono U) (zz ai) rfl rfl aM (zz aL))) ?_;refine u6 (j3 rfl rfl) ?_;intro eu ac;refine z8 (zu rfl p (fun p=>?_) (fun p=>?_))
 refine zy (zg aI (zg (vi f) (oq (T:=(zx .i64)) (X:=([f]:List Int)) (ps:=[(0,(vi f))]) (css:=[[(vi f)]]) rfl underlying25 zo3 rfl rfl (kw ⟨rfl,trivial⟩) rfl rfl (by decide) fun b1 ew bf b2=>?_)));refine uj (i:=0) rfl b2 fun b3 aN b4=>?_
 have b5:VRep (tSl true (zx .i64)) b3 b1 ([f]:List Int):=(z1d b4 bf);obtain⟨bq,p⟩:=zf p;refine yz (i:=3) (X:=ah) (Y:=([f]:List Int)) rfl underlying25 zo3 rfl rfl rfl (aJ.mono (ac.trans aN)) (qy (Sub.v (B:=(tSl false (zx .i64))) (ku Sub.refl (fun _=>rfl)) b5)) bq.1 bq.2 fun br b7 b8=>?_
 refine zh br (z8 ?_);exact⟨dkt,(ac.trans aN),jd,((ah++([f]:List Int)),br,b7),⟨rfl,trivial⟩,prm,(Option.some.inj p).symm,b8,trivial⟩;refine q8 ?_;exact⟨dkt,ac,jd,(ah,aI,ay),⟨rfl,trivial⟩,prm,(Option.some.inj p).symm,(aJ.mono ac),trivial⟩;rintro⟨aK,b9,aO⟩ ex ey bG ⟨rfl,ca,_⟩
 refine zy (zg (vi f) ?_);obtain⟨cb,a⟩:=zf a;refine zo (qz rfl rfl cb) (zh (vi (f+1)) (z8 ?_));exact⟨dkt,bG,jd,(aw,aK,f+1,b9,aO),Nat.lt_succ_self _,⟨rfl,rfl,trivial⟩,prm,a,ca,trivial⟩;refine jf ?_
 exact⟨dkt,U,jd,(ah,aI,ay),⟨rfl,trivial⟩,prm,(Option.some.inj a).symm,aJ,trivial⟩;rintro⟨K,aP,bs⟩ ez eA P ⟨rfl,aj,_⟩;refine zi (zg aP ?_);obtain⟨aQ,c⟩:=zf c;refine uz (i:=(0:Int).toNat) rfl tu rfl aj (ze rfl aQ.1) (zz aQ) fun eB cc=>?_
 refine z3t (i:=(0:Int).toNat) (j:=3) rfl ty3 aj rfl rfl cc (zz aQ) fun eC cd=>?_;obtain rfl:=j5.1 cd;refine zh (vi (ix K 0)) (z8 ?_);obtain⟨k,a,c⟩:=zt c
 refine ql (γ:=Int) (rs [12,13,103,122]) (fun g=>[(12,(vi g))]) (fun g=>[box b6 [(vi 0),(vi 0),vs0] 24,box q [(vi ((1:Int)+(x.fA%3))),(vi ((1:Int)+(x.fB%3))),o] 24,Z]++A) (fun g R=>k=g∧True) ?_ ?_;refine zi (zg (vi s) ?_);obtain⟨ce,a⟩:=zf a
 refine zo (z8a rfl rfl ce) (jg rfl zyk z8i rfl (h2.mono ((ar.trans aq).trans P)) fun eD cf=>?_);refine qh rfl q3k rfl cf fun eE cg=>?_;refine zo (qi rfl underlying41 rfl (qy cg)) (zo (j3 rfl rfl) (z8 (zu rfl a (fun a=>?_) (fun a=>?_))))
 refine zy (zg aP (jg rfl zyk z8i rfl (h2.mono ((ar.trans aq).trans P)) fun eF ch=>?_));refine qh rfl q3k rfl ch fun eG ci=>?_;refine zg (vi s) ?_;obtain⟨cj,a⟩:=zf a;refine zo (z8a rfl rfl cj) ?_;obtain⟨bt,a⟩:=zf a
 refine jv (i:=(s-1).toNat) rfl q4o rfl (qy ci) (ze rfl bt.1) (zz bt) fun eH ck=>?_;refine qh rfl ty5 rfl ck fun eI cl=>?_;obtain rfl:=j5.1 cl;obtain⟨cm,a⟩:=zf a;refine zo (z7s underlying5 underlying3 rfl cm) (zg aP (zo (z2m rfl underlying25 rfl aj) ?_))
 obtain⟨cn,a⟩:=zf a;refine zo (z5l rfl rfl cn) ?_;obtain⟨aR,a⟩:=zf a;refine uz (i:=((ix x.fH (s-1))%(↑K.length:Int)).toNat) rfl tu rfl aj (ze rfl aR.1) (zz aR) fun eJ co=>?_
 refine z3t (i:=((ix x.fH (s-1))%(↑K.length:Int)).toNat) (j:=3) rfl ty3 aj rfl rfl co (zz aR) fun eK cp=>?_;obtain rfl:=j5.1 cp;refine zh (vi (ix K ((ix x.fH (s-1))%(↑K.length:Int)))) (z8 ?_)
 exact⟨dkt,(RH.le.refl _),jd,(ix K ((ix x.fH (s-1))%(↑K.length:Int))),⟨rfl,trivial⟩,⟨[bs],(pk 3 rfl (pk 0 rfl (pk 0 rfl (pk 0 rfl (List.Perm.refl _)))))⟩,(Option.some.inj a).symm,trivial⟩;refine q8 ?_
 exact⟨dkt,(RH.le.refl _),jd,(ix K 0),⟨rfl,trivial⟩,⟨[bs],(pk 3 rfl (pk 0 rfl (pk 0 rfl (pk 0 rfl (List.Perm.refl _)))))⟩,(Option.some.inj a).symm,trivial⟩;rintro k eL eM V ⟨rfl,_⟩;refine z3e 15 mixed (by kernel_rfl) (by kernel_rfl) ?_;refine u6 (v:=(.pointer (some ⟨q,2,none⟩))) (qb um rfl) ?_
 refine u6 (v:=o) (qf (i:=1) zqe rfl rfl rfl) ?_;refine u6 (v:=(vi k)) (zb rfl) ?_;refine u6 (v:=(.pointer (some ⟨q,0,none⟩))) (qb l6 rfl) ?_;refine u6 (v:=(vi ((1:Int)+(x.fA%3)))) (qf (i:=1) ag3 rfl rfl rfl) ?_;obtain⟨cq,c⟩:=zf c;refine u6 (zjx rfl rfl cq) ?_
 obtain⟨ak,c⟩:=zf c;refine z1u (zmp (i:=(k/((1:Int)+(x.fA%3))).toNat) (zhk (b:=true) z8p) rfl (Q.mono (P.trans V)) (ze rfl ak.1) (zz ak)) fun eN cr=>?_
 refine u6 (v:=(ag.getD (k/((1:Int)+(x.fA%3))).toNat default)) (q41 (zp5 (i:=(k/((1:Int)+(x.fA%3))).toNat) (j:=2) (zf1 (b:=true) z7p) (Q.mono (P.trans V)) rfl rfl cr (zz ak))) ?_;refine u6 (v:=(vi k)) (zb rfl) ?_;refine u6 (v:=(.pointer (some ⟨q,0,none⟩))) (qb l6 rfl) ?_
 refine u6 (v:=(vi ((1:Int)+(x.fA%3)))) (qf (i:=1) ag3 rfl rfl rfl) ?_;obtain⟨cs,c⟩:=zf c;refine u6 (z5l rfl rfl cs) ?_;refine u6 (v:=(vi s)) (zb rfl) ?_;obtain⟨aS,c⟩:=zf c
 refine z1u (zkw (i:=(k%((1:Int)+(x.fA%3))).toNat) (r:=(k/((1:Int)+(x.fA%3))).toNat) z8w (Q.mono (P.trans V)) (zz ak) rfl (ze rfl aS.1) (zz aS)) fun eO ct=>?_;refine z1u (zhc ic rfl ct) fun bu aT=>?_
 replace aT:z6k kEdge 0 (ag.getD (k/((1:Int)+(x.fA%3))).toNat default) (I.getD (k/((1:Int)+(x.fA%3))).toNat default) bu (k%((1:Int)+(x.fA%3))).toNat:=aT;intro eP aU
 refine zjy (Oc:=[Z]) (Or:=[box b6 [(vi 0),(vi 0),vs0] 24,box q [(vi ((1:Int)+(x.fA%3))),(vi ((1:Int)+(x.fB%3))),o] 24]++A) (pk 2 rfl (pk 0 rfl (pk 0 rfl (List.Perm.refl _)))) (zi2 (i:=(k%((1:Int)+(x.fA%3))).toNat) (r:=(k/((1:Int)+(x.fA%3))).toNat) (u:=bu) zot ty3 (Q.mono ((P.trans V).trans aU)) (zz ak) rfl aT (zz aS) rfl (j5.2 rfl)) ?_
 rintro eQ eR dU dV ⟨rfl,bv,rfl,aV⟩;replace aV:N2 false kEdge _ bv o ag (up I (k/((1:Int)+(x.fA%3))) (up (ix I (k/((1:Int)+(x.fA%3)))) (k%((1:Int)+(x.fA%3))) (⟨s,(ix (ix I (k/((1:Int)+(x.fA%3)))) (k%((1:Int)+(x.fA%3)))).out⟩:Edge))):=aV
 refine z8 (zy (zg (vi s) ?_));obtain⟨cu,c⟩:=zf c;refine zo (qz rfl rfl cu) (zh (vi (s+1)) (z8 ?_))
 exact⟨dkt,((P.trans V).trans aU),jd,(av,s+1,(up I (k/((1:Int)+(x.fA%3))) (up (ix I (k/((1:Int)+(x.fA%3)))) (k%((1:Int)+(x.fA%3))) (⟨s,(ix (ix I (k/((1:Int)+(x.fA%3)))) (k%((1:Int)+(x.fA%3)))).out⟩:Edge))),bv),Nat.lt_succ_self _,⟨rfl,trivial⟩,⟨[],(pk 1 rfl (pk 1 rfl (pk 0 rfl (List.Perm.refl _))))⟩,c,(ax aV),trivial⟩
 refine jf ?_;exact⟨dkt,aq,jd,(I,Z),trivial,prm,(Option.some.inj c).symm,(ax Q),trivial⟩;rintro⟨af,cv⟩ eS eT aW ⟨rfl,⟨eU,cw⟩,_⟩;obtain⟨aa,c,y⟩:=zt y
 refine ql (γ:=(List (List Edge))×Frag) (rs [13,15,137,177]) (fun g=>[]) (fun g=>[box b6 [(vi 0),(vi 0),vs0] 24,box q [(vi ((1:Int)+(x.fA%3))),(vi ((1:Int)+(x.fB%3))),o] 24,g.2]++A) (fun g R=>aa=g.1∧NRep false kEdge R g.2 o g.1∧True) ?_ ?_
 refine zi (zh (vi 0) (z8 (zw (ja (γ:=Nat×Int×(List (List Edge))×Frag) (rs [13,15,137,177]) (fun g=>[(13,(vi g.2.1))]) (fun g=>[box b6 [(vi 0),(vi 0),vs0] 24,box q [(vi ((1:Int)+(x.fA%3))),(vi ((1:Int)+(x.fB%3))),o] 24,g.2.2.2]++A) (fun g R=>df N x g.1 g.2.1 g.2.2.1=some aa∧NRep false kEdge R g.2.2.2 o g.2.2.1∧True) (fun g=>g.1) (N,0,af,cv) prm ⟨c,(ax cw),trivial⟩ ?_))))
 clear c;rintro⟨az,d,aX,bw⟩ eV eW aY ⟨c,⟨eX,bx⟩,_⟩;rcases az with _|az;exact qp c;replace c:df N x (az+1) d aX=some aa:=c;rw [df] at c
 refine q9 (zi (zg (vi d) (zg (vi ((1:Int)+(x.fC%6))) (zo (j3 rfl rfl) (z8 (zu rfl c (fun c=>?_) (fun c=>?_)))))));refine q8 ?_;obtain⟨al,a,c⟩:=zt c
 refine ql (γ:=(List (List Edge))×Frag) (rs [14,15,142,177]) (fun g=>[]) (fun g=>[box b6 [(vi 0),(vi 0),vs0] 24,box q [(vi ((1:Int)+(x.fA%3))),(vi ((1:Int)+(x.fB%3))),o] 24,g.2]++A) (fun g R=>al=g.1∧NRep false kEdge R g.2 o g.1∧True) ?_ ?_
 refine zw (zi (zh (vi 0) (z8 (zw (ja (γ:=Nat×Int×(List (List Edge))×Frag) (rs [14,15,142,177]) (fun g=>[(14,(vi g.2.1))]) (fun g=>[box b6 [(vi 0),(vi 0),vs0] 24,box q [(vi ((1:Int)+(x.fA%3))),(vi ((1:Int)+(x.fB%3))),o] 24,g.2.2.2]++A) (fun g R=>vo N x d g.1 g.2.1 g.2.2.1=some al∧NRep false kEdge R g.2.2.2 o g.2.2.1∧True) (fun g=>g.1) (N,0,aX,bw) prm ⟨a,(ax bx),trivial⟩ ?_)))))
 clear a;rintro⟨aA,m,E,aZ⟩ eY eZ a0 ⟨a,⟨W,M⟩,_⟩;rcases aA with _|aA;exact qp a;replace a:vo N x d (aA+1) m E=some al:=a;rw [vo] at a
 refine q9 (zi (zg (vi m) (zo (qb l6 rfl) (zo (qf (i:=1) ag3 rfl rfl rfl) (zo (j3 rfl rfl) (z8 (zu rfl a (fun a=>?_) (fun a=>?_))))))));refine q8 ?_;obtain⟨a1,p,a⟩:=zt a
 refine ql (γ:=(List (List Edge))×Frag) (rs [148,177]) (fun g=>[]) (fun g=>[box b6 [(vi 0),(vi 0),vs0] 24,box q [(vi ((1:Int)+(x.fA%3))),(vi ((1:Int)+(x.fB%3))),o] 24,g.2]++A) (fun g R=>a1=g.1∧NRep false kEdge R g.2 o g.1∧True) ?_ ?_
 refine zw (zi (zo (qb um rfl) (zo (qf (i:=1) zqe rfl rfl rfl) (zg (vi d) ?_))));obtain⟨am,p⟩:=zf p;refine z7c rfl (ze4 (i:=d.toNat) (zhk (b:=true) z8p) rfl M (ze rfl am.1) (zz am)) fun e0 e1 z cx=>?_
 refine z7c rfl (zgh (i:=d.toNat) (j:=2) (zf1 (b:=true) z7p) (M.mono z) rfl rfl cx (zz am)) fun e2 e3 C cy=>?_;obtain rfl:=Eq.symm cy;refine zg (vi m) ?_;obtain⟨a2,p⟩:=zf p
 refine z7c rfl (zbm (i:=m.toNat) (r:=d.toNat) z8w (M.mono (z.trans C)) (zz am) rfl (ze rfl a2.1) (zz a2)) fun e4 e5 G cz=>?_;refine z7c rfl (zb1 ic rfl cz) fun cA e6 H a3=>?_;replace a3:z6k kEdge 0 (W.getD d.toNat default) (E.getD d.toNat default) cA m.toNat:=a3
 refine z7c rfl (uh (zs8 (i:=m.toNat) (r:=d.toNat) (j:=2) ty3 z4u (M.mono (((z.trans C).trans G).trans H)) (zz am) rfl rfl a3 (zz a2)) (fun _ _ h=>j5.1 h)) fun e7 e8 L cB=>?_;obtain rfl:=Eq.symm cB;refine zo (j3 rfl rfl) (z8 (zu rfl p (fun p=>?_) (fun p=>?_)))
 obtain⟨an,cC,cD,p⟩:=zxk p;obtain⟨aB,cE,p⟩:=zt p;obtain⟨cF,a4,p⟩:=zxi p
 refine og 19 [] [phX (.pointer (some ⟨q,2,none⟩)),phX o,phX (vi d),(fun u _=>z3o tHdr o W u d.toNat),phX (W.getD d.toNat default),phX (vi m),phP (tSl false (zx .u16)) x.fE,phR (tSl false (zx .u16)) x.fE,phX (vi d),phX (.pointer (some ⟨q,0,none⟩)),phX (vi ((1:Int)+(x.fA%3))),phX (vi (d*((1:Int)+(x.fA%3)))),phX (vi m),phX (vi ((d*((1:Int)+(x.fA%3)))+m)),phX (vi aB),phX (vi ((1:Int)+(x.fC%6))),phX (vi (aB%((1:Int)+(x.fC%6)))),(fun u _=>z3o kEdge (W.getD d.toNat default) (E.getD d.toNat default) u m.toNat),(fun u _=>z6k kEdge 0 (W.getD d.toNat default) (E.getD d.toNat default) u m.toNat)] mixed (by kernel_rfl) (di ⟨zk,zk,zk,(fun _ _ _ _ h=>h),zk,zk,yc,o5,zk,zk,zk,zk,zk,zk,zk,zk,zk,(fun _ _ _ _ h=>h),(fun _ _ _ _ h=>h),trivial⟩) ⟨?_,?_,?_,?_,?_,?_,?_,?_,?_,?_,?_,?_,?_,?_,?_,?_,?_,?_,?_,trivial⟩ fun e9 a5=>?_
 intro l dy n F hd;exact za rfl rfl rfl (zq (qb um (F 4 rfl)));rintro l dz n F ⟨O,_⟩;exact za rfl rfl rfl (zq (qf (i:=1) zqe (O rfl) rfl rfl));intro l dA n F hd;exact za rfl rfl rfl (zq (zb (F 13 rfl)));rintro l dB n F ⟨O,d1,_⟩
 exact za rfl rfl rfl (ze4 (i:=d.toNat) (zhk (b:=true) z8p) (O rfl) ((M.mono ((((z.trans C).trans G).trans H).trans L)).mono n) (ze (d1 rfl) an.1) (zz an));rintro l dC n F ⟨O,_⟩
 exact za rfl rfl rfl (zgh (i:=d.toNat) (j:=2) (zf1 (b:=true) z7p) ((M.mono ((((z.trans C).trans G).trans H).trans L)).mono n) rfl rfl (O rfl) (zz an));intro l dD n F hd;exact za rfl rfl rfl (zq (zb (F 14 rfl)));intro l dE n F hd
 exact za rfl rfl rfl (ik zzd z8f (F 1 rfl) ((h2.mono ((((((((ar.trans aW).trans aY).trans a0).trans z).trans C).trans G).trans H).trans L)).mono n));rintro l dF n F ⟨O,_⟩;exact za rfl rfl rfl (kz q47 rfl (O rfl));intro l dH n F hd;exact za rfl rfl rfl (zq (zb (F 13 rfl)))
 intro l gn n F hd;exact za rfl rfl rfl (zq (qb l6 (F 4 rfl)));rintro l fa n F ⟨O,_⟩;exact za rfl rfl rfl (zq (qf (i:=1) ag3 (O rfl) rfl rfl));rintro l fb n F ⟨O,d1,_⟩;exact za rfl rfl rfl (zq (ziy (O rfl) (d1 rfl) cC));intro l fc n F hd;exact za rfl rfl rfl (zq (zb (F 14 rfl)))
 rintro l fd n F ⟨O,d1,_⟩;exact za rfl rfl rfl (zq (qz (O rfl) (d1 rfl) cD));rintro l fe n F ⟨O,d1,_⟩;have aO:l 171=(vi ((d*((1:Int)+(x.fA%3)))+m)):=d1 rfl
 exact za rfl rfl rfl (wz (vs:=[(l 165),(vi ((d*((1:Int)+(x.fA%3)))+m))]) q5m (by simp only [List.map,ev,aO]<;>rfl) (z7e (O rfl) cE) (fun _ _ h=>h));intro l ff n F hd;exact za rfl rfl rfl (zq (zb (F 3 rfl)));rintro l fg n F ⟨O,d1,_⟩
 exact za rfl rfl rfl (zq (z5l (O rfl) (d1 rfl) cF));rintro l fh n F ⟨O,d1,d2,d3,d4,d5,d6,d7,d8,d9,dW,dX,dY,dZ,ea,eb,ec,ed,gx,_⟩;have ay:=O rfl
 exact za rfl rfl rfl (zbm (i:=m.toNat) (r:=d.toNat) z8w ((M.mono ((((z.trans C).trans G).trans H).trans L)).mono n) (zz an) ay (ze (d1 rfl) a4.1) (zz a4));rintro l fi n F ⟨O,d1,d2,d3,d4,d5,d6,d7,d8,d9,dW,dX,dY,dZ,ea,eb,ec,ed,_⟩;exact za rfl rfl rfl (zb1 ic rfl (O rfl))
 intro fj cG fk cH fl cI fm fn fo cJ fp cK fq fr fs ft fu cL fv cM fw cN fx cO fy cP fz cQ fD cR fF cS fG cT fI fJ bz a6;obtain rfl:=Eq.symm cG;obtain rfl:=Eq.symm cH;obtain rfl:=Eq.symm cI;obtain rfl:=Eq.symm cJ;obtain rfl:=Eq.symm cK;obtain rfl:=Eq.symm cL;obtain rfl:=Eq.symm cM
 obtain rfl:=Eq.symm cN;obtain rfl:=Eq.symm cO;obtain rfl:=Eq.symm cP;obtain rfl:=Eq.symm cQ;obtain rfl:=Eq.symm cR;obtain rfl:=Eq.symm cS;obtain rfl:=Eq.symm cT;replace a6:z6k kEdge 0 (W.getD d.toNat default) (E.getD d.toNat default) bz m.toNat:=a6
 refine zjy (Oc:=[aZ]) (Or:=[box b6 [(vi 0),(vi 0),vs0] 24,box q [(vi ((1:Int)+(x.fA%3))),(vi ((1:Int)+(x.fB%3))),o] 24]++A) (pk 2 rfl (pk 0 rfl (pk 0 rfl (List.Perm.refl _)))) (zi2 (i:=m.toNat) (r:=d.toNat) (u:=bz) zot ty3 (M.mono (((((z.trans C).trans G).trans H).trans L).trans a5)) (zz an) rfl a6 (zz a4) rfl (j5.2 rfl)) ?_
 rintro fK fL ee ef ⟨rfl,bA,rfl,a7⟩;replace a7:N2 false kEdge _ bA o W (up E d (up (ix E d) m (⟨aB%((1:Int)+(x.fC%6)),(ix (ix E d) m).out⟩:Edge))):=a7;refine z8 ?_
 exact⟨dkt,(((((z.trans C).trans G).trans H).trans L).trans a5),jd,((up E d (up (ix E d) m (⟨aB%((1:Int)+(x.fC%6)),(ix (ix E d) m).out⟩:Edge))),bA),trivial,⟨[],(pk 1 rfl (pk 1 rfl (pk 0 rfl (List.Perm.refl _))))⟩,(Option.some.inj p).symm,(ax a7),trivial⟩;refine q8 ?_
 exact⟨dkt,((((z.trans C).trans G).trans H).trans L),jd,(E,aZ),trivial,prm,(Option.some.inj p).symm,(ax (M.mono ((((z.trans C).trans G).trans H).trans L))),trivial⟩;rintro⟨a1,cU⟩ fM fN bH ⟨rfl,⟨fO,cV⟩,_⟩;refine zy (zg (vi m) ?_);obtain⟨cW,a⟩:=zf a
 refine zo (qz rfl rfl cW) (zh (vi (m+1)) (z8 ?_));exact⟨dkt,bH,jd,(aA,m+1,a1,cU),Nat.lt_succ_self _,⟨rfl,trivial⟩,prm,a,(ax cV),trivial⟩;refine jf ?_;exact⟨dkt,a0,jd,(E,aZ),trivial,prm,(Option.some.inj a).symm,(ax M),trivial⟩;rintro⟨al,cX⟩ fP fQ bI ⟨rfl,⟨fR,cY⟩,_⟩
 refine zy (zg (vi d) ?_);obtain⟨cZ,c⟩:=zf c;refine zo (qz rfl rfl cZ) (zh (vi (d+1)) (z8 ?_));exact⟨dkt,bI,jd,(az,d+1,al,cX),Nat.lt_succ_self _,⟨rfl,trivial⟩,prm,c,(ax cY),trivial⟩;refine jf ?_
 exact⟨dkt,aY,jd,(aX,bw),trivial,prm,(Option.some.inj c).symm,(ax bx),trivial⟩;rintro⟨aa,fS⟩ fT fU bJ ⟨rfl,⟨fV,bB⟩,_⟩
 refine zi (zo (bg (i:=1) zam z6f rfl rfl rfl rfl) (jy (i:=0) (vs:=[(vi ((1:Int)+(x.fA%3))),(vi ((1:Int)+(x.fB%3))),o]) z6f rfl rfl rfl rfl rfl rfl (qg rfl (qg rfl (qg (zxo bB) ko))) ?_));refine z8 (zky (i:=2) rfl (ax bB) fun c0 bK c1=>?_)
 have c2:VRep (tSl false (tSl false kEdge)) c0 o aa:=(z5a c1);refine qm ?_;obtain rfl:=Option.some.inj y
 refine qa (D:=[]) (J:=[box b6 [(vi ((1:Int)+(x.fA%3))),(vi ((1:Int)+(x.fB%3))),o] 24,box q [(vi ((1:Int)+(x.fA%3))),(vi ((1:Int)+(x.fB%3))),o] 24]) (rs:=[.cell 2 24]) (vs:=[(.agg #[(vi ((1:Int)+(x.fA%3))),(vi ((1:Int)+(x.fB%3))),o])]) ((((c5.trans ar).trans aW).trans bJ).trans bK) rfl rfl ⟨⟨_,rfl,fun w hh=>z2y (i:=0) hh rfl rfl zam z6f rfl rfl⟩,trivial⟩ ?_
 exact⟨rfl,(⟨_,⟨_,_,rfl,rfl,⟨_,_,rfl,rfl,(ui rfl c2)⟩⟩,rfl⟩:VRep (je false false) _ _ (⟨(1:Int)+(x.fA%3),(1:Int)+(x.fB%3),aa⟩:Mach))⟩
theorem q75:Enters prog 20:=enters_of func20 rfl (by kernel_rfl)
end GV
end Go.Proofs.Ytplgbkaollfmkaa
