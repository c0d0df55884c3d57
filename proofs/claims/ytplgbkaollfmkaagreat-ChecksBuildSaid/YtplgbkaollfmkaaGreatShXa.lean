import Derived.Test.YtplgbkaollfmkaaGreatShWa
import Derived.Test.YtplgbkaollfmkaaGreatRows
set_option linter.unusedVariables false
set_option linter.unusedSimpArgs false
namespace Go.Proofs.YtplgbkaollfmkaaGreat
namespace GV
open _root_.Go.Proofs.Tryz
open Go.IntWalk
set_option maxRecDepth 100000
set_option maxHeartbeats 20000000
theorem q9i{a b c:Bool}:TyOk prog 29 (iq a b c):=by
 obtain⟨i,hi,d⟩: ∃ i,prog.info? 29=some i∧i.size=6:=ky (by kernel_rfl);exact z4t underlying29 hi rfl d
theorem zn5: ∀ w,∃ z,(zeroValue 32).run prog w= .ok z w∧z.cells=([.int .i64 0,.int .i64 0,.slice none 0 0]:List Value).toArray:=fun w=>⟨(.agg #[(vi 0),(vi 0),vs0]),by kernel_rfl,rfl⟩
theorem q6y:FieldOk prog 29 0 0:=by
 obtain⟨i,hi,a⟩: ∃ i,prog.info? 27=some i∧i.size=5:=ky (by kernel_rfl);exact ul underlying29 rfl rfl hi (by rw [a];rfl)
theorem qby{a b:Bool}:TyOk prog 27 (z0n a b):=by
 obtain⟨i,hi,c⟩: ∃ i,prog.info? 27=some i∧i.size=5:=ky (by kernel_rfl);exact z4t underlying27 hi rfl c
theorem zul:FieldOk prog 27 0 0:=by
 obtain⟨i,hi,a⟩: ∃ i,prog.info? 25=some i∧i.size=5:=ky (by kernel_rfl);exact ul underlying27 rfl rfl hi (by rw [a];rfl)
theorem zvf:FieldOk prog 25 0 0:=by
 obtain⟨i,hi,a⟩: ∃ i,prog.info? 5=some i∧i.size=1:=ky (by kernel_rfl);exact ul underlying25 rfl rfl hi (by rw [a];rfl)
theorem ag5: ∀ w,(isAgg 5).run prog w= .ok false w:=fun w=>by kernel_rfl
theorem sz5: ∀ w,(sizeOf 5).run prog w= .ok 1 w:=fun w=>by kernel_rfl
theorem qc0: ∀ w,(isAgg 25).run prog w= .ok true w:=fun w=>by kernel_rfl
theorem qbv: ∀ w,(sizeOf 25).run prog w= .ok 5 w:=fun w=>by kernel_rfl
theorem q6b:FieldOk prog 25 1 1:=by
 obtain⟨i,hi,a⟩: ∃ i,prog.info? 5=some i∧i.size=1:=ky (by kernel_rfl);exact ul underlying25 rfl rfl hi (by rw [a];rfl)
theorem q7i:FieldOk prog 25 2 2:=by
 obtain⟨i,hi,a⟩: ∃ i,prog.info? 5=some i∧i.size=1:=ky (by kernel_rfl);exact ul underlying25 rfl rfl hi (by rw [a];rfl)
theorem z6y: ∀ w,(sizeOf 32).run prog w= .ok 3 w:=fun w=>by kernel_rfl
theorem ll:FieldOk prog 32 0 0:=by
 obtain⟨i,hi,a⟩: ∃ i,prog.info? 3=some i∧i.size=1:=ky (by kernel_rfl);exact ul underlying32 rfl rfl hi (by rw [a];rfl)
theorem ag3: ∀ w,(isAgg 3).run prog w= .ok false w:=fun w=>by kernel_rfl
theorem q2o:FieldOk prog 25 4 4:=by
 obtain⟨i,hi,a⟩: ∃ i,prog.info? 23=some i∧i.size=1:=ky (by kernel_rfl);exact ul underlying25 rfl rfl hi (by rw [a];rfl)
theorem q7t{a:Bool}:TyOk prog 23 (tSl a (zw .u16)):=by
 obtain⟨i,hi,b⟩: ∃ i,prog.info? 23=some i∧i.size=1:=ky (by kernel_rfl);exact z4t underlying23 hi rfl b
theorem q60:TyOk prog 123 (zw .u16):=by
 obtain⟨i,hi,a⟩: ∃ i,prog.info? 123=some i∧i.size=1:=ky (by kernel_rfl);exact z4t underlying123 hi rfl a
theorem qau:SlOk prog 23 123 (zw .u16):=⟨underlying23,q60⟩
theorem z8v{N:Nat}{R:RH}{d:(List Int)}{b:Value}(c:VRep (tSl false (zw .u16)) R b d){k:Int}{r:Int}(a:z0y N d k=some r):CallP prog 44 #[b,(vi k)] R (fun v R'=>v=(vi r)):=by
 refine qf (args:=[b,(vi k)]) func44 rfl rfl fun A=>?_;rw [z0y] at a;refine zn (zi (vi 0) (z8 (qa (zn (zg (vi k) (zg b (zt (qj rfl underlying23 rfl (j3 c)) (zt (j5 rfl rfl) (z8 (zu rfl a (fun a=>?_) (fun a=>?_)))))))))))
 refine zn (zg b (zg (vi k) ?_));obtain⟨e,a⟩:=ze a;refine ko (i:=k.toNat) rfl qau rfl (j3 c) (zf rfl e.1) (zz e) fun j f=>?_;refine qo rfl q60 rfl f fun l g=>?_;obtain rfl:=j6.1 g;obtain⟨h,a⟩:=ze a
 refine zt (z9c underlying123 underlying3 rfl h) (zi (vi (ix d k)) (z8 (qx ?_)));obtain rfl:=Option.some.inj a;refine qc (D:=[]) (J:=[]) (rs:=[.tmp 4]) (vs:=[(vi (ix d k))]) (RH.le.refl _) rfl rfl ⟨rfl,trivial⟩ ?_;exact⟨rfl,rfl⟩;refine q9 (zn (zi (vi 0) (z8 (qx ?_))));obtain rfl:=Option.some.inj a
 refine qc (D:=[]) (J:=[]) (rs:=[.tmp 4]) (vs:=[(vi 0)]) (RH.le.refl _) rfl rfl ⟨rfl,trivial⟩ ?_;exact⟨rfl,rfl⟩
theorem q94:Enters prog 44:=enters_of func44 rfl (by kernel_rfl)
theorem zf9:FieldOk prog 32 1 1:=by
 obtain⟨i,hi,a⟩: ∃ i,prog.info? 3=some i∧i.size=1:=ky (by kernel_rfl);exact ul underlying32 rfl rfl hi (by rw [a];rfl)
theorem zp9:ZeroOk prog 100 kEdge (⟨(0:Int),(0:Int)⟩:Edge) 16:=by
 obtain⟨i,zv,hi,a,c,d,f⟩:=z6b (P:=prog) (e:=100) (zv:=(.agg #[(vi 0),(vi 0)])) (k:=2) (b:=16) (by kernel_rfl);exact⟨i,zv,hi,a,c,d,fun R=>by subst f;exact⟨_,_,rfl,rfl,rfl⟩⟩
theorem mixed:prog.follows .mixedOrders=true:=by kernel_rfl
theorem uy:FieldOk prog 32 2 2:=by
 obtain⟨i,hi,a⟩: ∃ i,prog.info? 30=some i∧i.size=1:=ky (by kernel_rfl);exact ul underlying32 rfl rfl hi (by rw [a];rfl)
theorem zqh: ∀ w,(isAgg 30).run prog w= .ok false w:=fun w=>by kernel_rfl
theorem q6p{a:Bool}:ZeroOk prog 97 (tSl a kEdge) ([]:List Edge) 24:=by
 obtain⟨i,zv,hi,c,d,f,g⟩:=z6b (P:=prog) (e:=97) (zv:=vs0) (k:=1) (b:=24) (by kernel_rfl);exact⟨i,zv,hi,c,d,f,fun R=>by subst g;exact(ku rfl z4g)⟩
theorem q7v: ∀ w,(sizeOf 30).run prog w= .ok 1 w:=fun w=>by kernel_rfl
theorem z97{a:Bool}:TyOk prog 97 (tSl a kEdge):=by
 obtain⟨i,hi,b⟩: ∃ i,prog.info? 97=some i∧i.size=1:=ky (by kernel_rfl);exact z4t underlying97 hi rfl b
theorem za6{a:Bool}:SlOk prog 30 97 (tSl a kEdge):=⟨underlying30,z97⟩
theorem zai:TyOk prog 100 kEdge:=by
 obtain⟨i,hi,a⟩: ∃ i,prog.info? 100=some i∧i.size=2:=ky (by kernel_rfl);exact z4t underlying100 hi rfl a
theorem zaf:SlOk prog 97 100 kEdge:=⟨underlying97,zai⟩
theorem o8:FieldOk prog 100 0 0:=by
 obtain⟨i,hi,a⟩: ∃ i,prog.info? 3=some i∧i.size=1:=ky (by kernel_rfl);exact ul underlying100 rfl rfl hi (by rw [a];rfl)
theorem ty3:TyOk prog 3 (zw .i64):=by
 obtain⟨i,hi,a⟩: ∃ i,prog.info? 3=some i∧i.size=1:=ky (by kernel_rfl);exact z4t underlying3 hi rfl a
theorem tu:SlOk prog 33 3 (zw .i64):=⟨underlying33,ty3⟩
theorem q3e:FieldOk prog 25 3 3:=by
 obtain⟨i,hi,a⟩: ∃ i,prog.info? 22=some i∧i.size=1:=ky (by kernel_rfl);exact ul underlying25 rfl rfl hi (by rw [a];rfl)
theorem q7l{a:Bool}:TyOk prog 22 (tSl a (zw .u8)):=by
 obtain⟨i,hi,b⟩: ∃ i,prog.info? 22=some i∧i.size=1:=ky (by kernel_rfl);exact z4t underlying22 hi rfl b
theorem q9e:ZeroOk prog 97 tHdr vs0 24:=by
 obtain⟨i,zv,hi,a,c,d,f⟩:=z6b (P:=prog) (e:=97) (zv:=vs0) (k:=1) (b:=24) (by kernel_rfl);exact⟨i,zv,hi,a,c,d,fun R=>by subst f;exact⟨rfl,rfl⟩⟩
theorem ztb:zft kEdge 0 (zw .i64) (fun(x:Edge) (y:Int)=>(⟨y,x.out⟩:Edge)):=q8u q6g (fun _ _=>rfl)
theorem zbg: ∀ w,(isAgg 32).run prog w= .ok true w:=fun w=>by kernel_rfl
theorem zer{N:Nat}{R:RH}{x:Sd}{bA:Value}(c3:VRep (il false false) R bA x){r:Mach}(y:z4i N x=some r):CallP prog 18 #[bA] R (fun v R'=>VRep (je false false) R' v r):=by
 refine qf (args:=[bA]) func18 rfl rfl fun A=>?_;rw [z4i] at y;refine zn (jy (T:=(il false false)) rfl rfl rfl c3 fun v1 R3 c4 h5 h2=>?_);refine uq rfl zn5 fun b6=>?_;refine qw (jg rfl zvf zfb rfl h2 fun v8 h9=>?_);refine qo rfl ty5 rfl h9 fun fU c5=>?_;obtain rfl:=j6.1 c5
 obtain⟨c6,y⟩:=ze y;refine zt (z5z rfl rfl c6) ?_;obtain⟨c7,y⟩:=ze y;refine zt (z9c underlying5 underlying3 rfl c7) ?_;obtain⟨c8,y⟩:=ze y;refine zt (qz rfl rfl c8) (zi (vi ((1:Int)+(x.fB%6))) (qw (jg rfl q6b zf7 rfl h2 fun fV c9=>?_)))
 refine qo rfl ty5 rfl c9 fun fW da=>?_;obtain rfl:=j6.1 da;obtain⟨db,y⟩:=ze y;refine zt (z5z rfl rfl db) ?_;obtain⟨dc,y⟩:=ze y;refine zt (z9c underlying5 underlying3 rfl dc) ?_;obtain⟨dd,y⟩:=ze y;refine zt (qz rfl rfl dd) (jg rfl q7i zet rfl h2 fun fX de=>?_)
 refine qo rfl ty5 rfl de fun fY df=>?_;obtain rfl:=j6.1 df;obtain⟨dg,y⟩:=ze y;refine zt (z5z rfl rfl dg) ?_;obtain⟨dh,y⟩:=ze y;refine zt (z9c underlying5 underlying3 rfl dh) ?_;obtain⟨di,y⟩:=ze y
 refine zt (qz rfl rfl di) (zt (yw (ps:=[(0,(vi ((1:Int)+(x.fA%3)))),(1,(vi ((1:Int)+(x.fC%3))))]) (v:=(.agg #[(vi ((1:Int)+(x.fA%3))),(vi ((1:Int)+(x.fC%3))),vs0])) rfl (fun w=>by kernel_rfl)) (uq rfl zn5 fun q=>?_))
 refine jo (i:=0) (vs:=[(vi ((1:Int)+(x.fA%3))),(vi ((1:Int)+(x.fC%3))),vs0]) z6y rfl rfl rfl rfl rfl rfl (qg rfl (qg rfl (qg rfl kg))) ?_;refine z8 ?_;obtain⟨aD,c,y⟩:=zq y
 refine qm (γ:=(List (List Edge))×Value×Frag) (rs [5,9,31,67]) (fun g=>[]) (fun g=>[box b6 [(vi 0),(vi 0),vs0] 32,box q [(vi ((1:Int)+(x.fA%3))),(vi ((1:Int)+(x.fC%3))),g.2.1] 32,g.2.2]++A) (fun g R=>aD=g.1∧NRep false kEdge R g.2.2 g.2.1 g.1∧True) ?_ ?_
 refine zn (zi (vi 0) (z8 (zy (z2m ?_))))
 refine ja (γ:=Nat×Int×(List (List Edge))×Value×Frag) (rs [5,9,31,67]) (fun g=>[(5,(vi g.2.1))]) (fun g=>[box b6 [(vi 0),(vi 0),vs0] 32,box q [(vi ((1:Int)+(x.fA%3))),(vi ((1:Int)+(x.fC%3))),g.2.2.2.1] 32,g.2.2.2.2]++A) (fun g R=>p8 N x g.1 g.2.1 g.2.2.1=some aD∧NRep false kEdge R g.2.2.2.2 g.2.2.2.1 g.2.2.1∧True) (fun g=>g.1) (N,0,[],vs0,emp) ⟨[],(pk 2 rfl (pk 1 rfl (pk 0 rfl (List.Perm.refl _))))⟩ ⟨c,(lc (zto (t:=false) (T:=kEdge) (R:=R3))),trivial⟩ ?_
 clear c;rintro⟨a7,ad,a8,a9,ba⟩ ec fZ bf ⟨c,⟨dj,bJ⟩,_⟩;rcases a7 with _|a7;exact qp c;replace c:p8 N x (a7+1) ad a8=some aD:=c;rw [p8] at c
 refine qa (zn (zg (vi ad) (zg (vi ((1:Int)+(x.fB%6))) (zt (j5 rfl rfl) (z8 (zu rfl c (fun c=>?_) (fun c=>?_)))))));refine q9 (qa (zy (zn (zi vs0 (z8 ?_)))));obtain⟨aB,a,c⟩:=zq c
 refine qm (γ:=(List Edge)×Value×Frag) (rs [6,9,36,61]) (fun g=>[(6,g.2.1)]) (fun g=>[box b6 [(vi 0),(vi 0),vs0] 32,box q [(vi ((1:Int)+(x.fA%3))),(vi ((1:Int)+(x.fC%3))),a9] 32,ba,g.2.2]++A) (fun g R=>aB=g.1∧ORep kEdge R g.2.2 g.2.1 g.1∧True) ?_ ?_
 refine zn (zi (vi 0) (z8 (zy (z2m ?_))))
 refine ja (γ:=Nat×(List Edge)×Int×Value×Frag) (rs [6,9,36,61]) (fun g=>[(6,g.2.2.2.1),(7,(vi g.2.2.1))]) (fun g=>[box b6 [(vi 0),(vi 0),vs0] 32,box q [(vi ((1:Int)+(x.fA%3))),(vi ((1:Int)+(x.fC%3))),a9] 32,ba,g.2.2.2.2]++A) (fun g R=>nu N x ad g.1 g.2.1 g.2.2.1=some aB∧ORep kEdge R g.2.2.2.2 g.2.2.2.1 g.2.1∧True) (fun g=>g.1) (N,[],0,vs0,emp) ⟨[],(pk 1 rfl (pk 1 rfl (pk 1 rfl (pk 0 rfl (List.Perm.refl _)))))⟩ ⟨a,(ru (T:=kEdge)),trivial⟩ ?_
 clear a;rintro⟨bb,bc,aC,bK,dk⟩ ed f0 bg ⟨a,bL,_⟩;rcases bb with _|bb;exact qp a;replace a:nu N x ad (bb+1) bc aC=some aB:=a;rw [nu] at a
 refine qa (zn (zg (vi aC) (zt (qb ll rfl) (zt (qd (i:=1) ag3 rfl rfl rfl) (zt (j5 rfl rfl) (z8 (zu rfl a (fun a=>?_) (fun a=>?_))))))));refine q9 (qa (zy (zn (jg rfl q2o z9w rfl (h2.mono (bf.trans bg)) fun f1 dl=>?_))));refine qo rfl q7t rfl dl fun f2 dm=>?_
 refine zg (vi ad) (zt (qb ll rfl) (zt (qd (i:=1) ag3 rfl rfl rfl) ?_));obtain⟨dn,a⟩:=ze a;refine zt (zby rfl rfl dn) (zg (vi aC) ?_);obtain⟨dp,a⟩:=ze a;refine zt (qz rfl rfl dp) ?_;obtain⟨S,dq,a⟩:=zq a;refine jb rfl q94 rfl (z8v dm dq) fun f3 f4 bh dr=>?_
 obtain rfl:=dr;refine zi (vi S) (z8 ?_);obtain⟨ds,dt,a⟩:=q05 a;let G1:=([(⟨(-1),(S/((1:Int)+(x.fB%6)))%((1:Int)+(x.fC%3))⟩:Edge)]:List Edge)
 refine cu 9 [] [phX bK,phX (vi S),phX (vi ((1:Int)+(x.fB%6))),phX (vi (S/((1:Int)+(x.fB%6)))),phX (.pointer (some ⟨q,1,none⟩)),phX (vi ((1:Int)+(x.fC%3))),phX (vi ((S/((1:Int)+(x.fB%6)))%((1:Int)+(x.fC%3)))),phX (.agg #[(vi (-1)),(vi ((S/((1:Int)+(x.fB%6)))%((1:Int)+(x.fC%3))))]),phR (tSl true kEdge) G1] mixed (by kernel_rfl) (ym ⟨zk,zk,zk,zk,zk,zk,zk,zk,pq,trivial⟩) ⟨?_,?_,?_,?_,?_,?_,?_,?_,?_,trivial⟩ fun f5 bi=>?_
 intro l du n F hd;exact za rfl rfl rfl (zo (zb (F 6 rfl)));intro l dv n F hd;exact za rfl rfl rfl (zo (zb (F 8 rfl)));intro l dw n F hd;exact za rfl rfl rfl (zo (zb (F 3 rfl)));rintro l dx n F ⟨O,d1,_⟩;exact za rfl rfl rfl (zo (zng (O rfl) (d1 rfl) ds));intro l dy n F hd
 exact za rfl rfl rfl (zo (qb zf9 (F 4 rfl)));rintro l dz n F ⟨O,_⟩;have bC:=O rfl;exact za rfl rfl rfl (zo (qd (i:=1) ag3 bC rfl rfl));rintro l dA n F ⟨O,d1,_⟩;exact za rfl rfl rfl (zo (z5z (O rfl) (d1 rfl) dt));rintro l dB n F ⟨O,_⟩
 have dC:l 57=(vi ((S/((1:Int)+(x.fB%6)))%((1:Int)+(x.fC%3)))):=O rfl
 exact za rfl rfl rfl (zo (yw (ps:=[(0,(vi (-1))),(1,(vi ((S/((1:Int)+(x.fB%6)))%((1:Int)+(x.fC%3)))))]) (v:=(.agg #[(vi (-1)),(vi ((S/((1:Int)+(x.fB%6)))%((1:Int)+(x.fC%3))))])) (by simp only [List.map,ev,dC]<;>rfl) (fun w=>by kernel_rfl)));rintro l dD n F ⟨O,_⟩
 have dE:l 58=(.agg #[(vi (-1)),(vi ((S/((1:Int)+(x.fB%6)))%((1:Int)+(x.fC%3))))]):=O rfl
 exact za rfl rfl rfl (z5v (T:=kEdge) (X:=G1) (ps:=[(0,(.agg #[(vi (-1)),(vi ((S/((1:Int)+(x.fB%6)))%((1:Int)+(x.fC%3))))]))]) (css:=[[(vi (-1)),(vi ((S/((1:Int)+(x.fB%6)))%((1:Int)+(x.fC%3))))]]) underlying97 zp9 (by simp only [List.map,ev,dE]<;>rfl) rfl (kw ⟨⟨_,_,rfl,rfl,rfl⟩,trivial⟩) rfl rfl (by decide))
 intro f6 dF f7 dG f8 dH f9 dI ga dJ gb dK gc dL ge bM ee bN;obtain rfl:=Eq.symm dF;obtain rfl:=Eq.symm dG;obtain rfl:=Eq.symm dH;obtain rfl:=Eq.symm dI;obtain rfl:=Eq.symm dJ;obtain rfl:=Eq.symm dK;obtain rfl:=Eq.symm dL;obtain rfl:=Eq.symm bM;obtain⟨bj,a⟩:=ze a
 refine wh (i:=3) (X:=bc) (Y:=G1) rfl underlying97 zp9 rfl rfl rfl (bL.mono (bh.trans bi)) (j3 (Sub.v (B:=(tSl false kEdge)) (kv Sub.refl (fun _=>rfl)) bN)) bj.1 bj.2 fun bk bO bP=>?_;refine zi bk (z8 (zx (zg (vi aC) ?_)));obtain⟨bQ,a⟩:=ze a
 refine zt (qz rfl rfl bQ) (zi (vi (aC+1)) (z8 ?_));exact⟨dkt,(bh.trans bi),jd,(bb,(bc++G1),aC+1,bk,bO),Nat.lt_succ_self _,⟨rfl,rfl,trivial⟩,prm,a,bP,trivial⟩;refine jf ?_;exact⟨dkt,bg,jd,(bc,bK,dk),⟨rfl,trivial⟩,prm,(Option.some.inj a).symm,bL,trivial⟩;rintro⟨aB,aF,bC⟩ ef gf bl ⟨rfl,bD,_⟩
 refine zx (zt (qb uy rfl) (zt (qd (i:=1) zqh rfl rfl rfl) (zg aF (z8j rfl (z5v (T:=tHdr) (X:=[aF]) (ps:=[(0,aF)]) (css:=[[aF]]) underlying30 q9e rfl (by simp only [List.map_cons,List.map_nil,aj bD];rfl) (kw ⟨zqi (yj bD),trivial⟩) rfl rfl (by decide)) fun eg eh aq bR=>?_))))
 obtain⟨bm,c⟩:=ze c
 refine zqb (Oc:=[ba,bC]) (Or:=[box b6 [(vi 0),(vi 0),vs0] 32,box q [(vi ((1:Int)+(x.fA%3))),(vi ((1:Int)+(x.fC%3))),a9] 32]++A) rfl (pk 2 rfl (pk 2 rfl (pk 0 rfl (pk 0 rfl (List.Perm.refl _))))) (zfh underlying30 q9e rfl rfl (bJ.mono (bl.trans aq)) (bD.mono aq) (j3 bR) (fun e=>nomatch e) bm.1 bm.2) ?_
 rintro aG ei dM dN ⟨rfl,bn,rfl,ae⟩;replace ae:N2 false kEdge _ bn aG (dj++[aF]) (a8++[aB]):=ae;refine zt (qb uy rfl) (jo (i:=2) (vs:=[aG]) q7v rfl rfl (q26 ae) rfl rfl rfl (qg (q0i ae) kg) ?_);refine z8 (zx (zg (vi ad) ?_));obtain⟨bS,c⟩:=ze c
 refine zt (qz rfl rfl bS) (zi (vi (ad+1)) (z8 ?_));exact⟨dkt,(bl.trans aq),jd,(a7,ad+1,(a8++[aB]),aG,bn),Nat.lt_succ_self _,⟨rfl,trivial⟩,⟨[],(pk 1 rfl (pk 1 rfl (pk 0 rfl (List.Perm.refl _))))⟩,c,(lc ae),trivial⟩;refine jf ?_
 exact⟨dkt,bf,jd,(a8,a9,ba),trivial,prm,(Option.some.inj c).symm,(lc bJ),trivial⟩;rintro⟨aD,o,dO⟩ ej gg au ⟨rfl,⟨gh,dP⟩,_⟩;obtain⟨af,c,y⟩:=zq y
 refine qm (γ:=(List (List Edge))×Frag) (rs [9,13,67,137]) (fun g=>[]) (fun g=>[box b6 [(vi 0),(vi 0),vs0] 32,box q [(vi ((1:Int)+(x.fA%3))),(vi ((1:Int)+(x.fC%3))),o] 32,g.2]++A) (fun g R=>af=g.1∧NRep false kEdge R g.2 o g.1∧True) ?_ ?_
 refine zn (zi (vi 1) (z8 (zy (ja (γ:=Nat×Int×(List (List Edge))×Frag) (rs [9,13,67,137]) (fun g=>[(9,(vi g.2.1))]) (fun g=>[box b6 [(vi 0),(vi 0),vs0] 32,box q [(vi ((1:Int)+(x.fA%3))),(vi ((1:Int)+(x.fC%3))),o] 32,g.2.2.2]++A) (fun g R=>mg N x g.1 g.2.1 g.2.2.1=some af∧NRep false kEdge R g.2.2.2 o g.2.2.1∧True) (fun g=>g.1) (N,1,aD,dO) prm ⟨c,(lc dP),trivial⟩ ?_))))
 clear c;rintro⟨av,s,I,Z⟩ ek el ar ⟨c,⟨ag,Q⟩,_⟩;rcases av with _|av;exact qp c;replace c:mg N x (av+1) s I=some af:=c;rw [mg] at c
 refine qa (zn (zg (vi s) (zg (vi ((1:Int)+(x.fB%6))) (zt (j5 rfl rfl) (z8 (zu rfl c (fun c=>?_) (fun c=>?_)))))));refine q9 (qa (zy (zn (zi vs0 (z8 ?_)))));obtain⟨K,a,c⟩:=zq c
 refine qm (γ:=(List Int)×Value×Frag) (rs [10,12,72,100]) (fun g=>[(10,g.2.1)]) (fun g=>[box b6 [(vi 0),(vi 0),vs0] 32,box q [(vi ((1:Int)+(x.fA%3))),(vi ((1:Int)+(x.fC%3))),o] 32,Z,g.2.2]++A) (fun g R=>K=g.1∧ORep (zw .i64) R g.2.2 g.2.1 g.1∧True) ?_ ?_
 refine zn (zi (vi 0) (z8 (zy (z2m ?_))))
 refine ja (γ:=Nat×(List Int)×Int×Value×Frag) (rs [10,12,72,100]) (fun g=>[(10,g.2.2.2.1),(11,(vi g.2.2.1))]) (fun g=>[box b6 [(vi 0),(vi 0),vs0] 32,box q [(vi ((1:Int)+(x.fA%3))),(vi ((1:Int)+(x.fC%3))),o] 32,Z,g.2.2.2.2]++A) (fun g R=>yn N x s I g.1 g.2.1 g.2.2.1=some K∧ORep (zw .i64) R g.2.2.2.2 g.2.2.2.1 g.2.1∧True) (fun g=>g.1) (N,[],0,vs0,emp) ⟨[],(pk 1 rfl (pk 1 rfl (pk 1 rfl (pk 0 rfl (List.Perm.refl _)))))⟩ ⟨a,(ru (T:=(zw .i64))),trivial⟩ ?_
 clear a;rintro⟨aw,ah,f,aH,ax⟩ em en U ⟨a,aI,_⟩;rcases aw with _|aw;exact qp a;replace a:yn N x s I (aw+1) ah f=some K:=a;rw [yn] at a;refine qa (zn (zg (vi f) (zg (vi s) (zt (qb ll rfl) (zt (qd (i:=1) ag3 rfl rfl rfl) ?_)))))
 obtain⟨bT,a⟩:=ze a;refine zt (zby rfl rfl bT) (zt (j5 rfl rfl) (z8 (zu rfl a (fun a=>?_) (fun a=>?_))));refine q9 ?_;obtain⟨aJ,p,a⟩:=zq a
 refine qm (γ:=(List Int)×Value×Frag) (rs [10,11,80,100]) (fun g=>[(10,g.2.1)]) (fun g=>[box b6 [(vi 0),(vi 0),vs0] 32,box q [(vi ((1:Int)+(x.fA%3))),(vi ((1:Int)+(x.fC%3))),o] 32,Z,g.2.2]++A) (fun g R=>aJ=g.1∧ORep (zw .i64) R g.2.2 g.2.1 g.1∧True) ?_ ?_
 refine zy (qa (z4q 16 mixed (by kernel_rfl) (by kernel_rfl) ?_));refine uf (v:=(.pointer (some ⟨q,2,none⟩))) (qb uy rfl) ?_;refine uf (v:=o) (qd (i:=1) zqh rfl rfl rfl) ?_;refine uf (v:=(vi f)) (zb rfl) ?_;refine uf (v:=(.pointer (some ⟨q,0,none⟩))) (qb ll rfl) ?_
 refine uf (v:=(vi ((1:Int)+(x.fA%3)))) (qd (i:=1) ag3 rfl rfl rfl) ?_;obtain⟨bU,p⟩:=ze p;refine uf (zng rfl rfl bU) ?_;obtain⟨ai,p⟩:=ze p;refine z3i (zot (i:=(f/((1:Int)+(x.fA%3))).toNat) (zk4 (b:=true) za6) rfl (Q.mono U) (zf rfl ai.1) (zz ai)) fun eo bV=>?_
 refine uf (v:=(ag.getD (f/((1:Int)+(x.fA%3))).toNat default)) (qa0 (zry (i:=(f/((1:Int)+(x.fA%3))).toNat) (j:=2) (zgz (b:=true) z97) (Q.mono U) rfl rfl bV (zz ai))) ?_;refine uf (v:=(vi f)) (zb rfl) ?_;refine uf (v:=(.pointer (some ⟨q,0,none⟩))) (qb ll rfl) ?_
 refine uf (v:=(vi ((1:Int)+(x.fA%3)))) (qd (i:=1) ag3 rfl rfl rfl) ?_;obtain⟨bW,p⟩:=ze p;refine uf (z5z rfl rfl bW) ?_;obtain⟨aK,p⟩:=ze p
 refine z3i (zmm (i:=(f%((1:Int)+(x.fA%3))).toNat) (r:=(f/((1:Int)+(x.fA%3))).toNat) zaf (Q.mono U) (zz ai) rfl (zf rfl aK.1) (zz aK)) fun ep bX=>?_;refine z3i (zjb o8 rfl bX) fun bY aL=>?_
 replace aL:z8d kEdge 0 (ag.getD (f/((1:Int)+(x.fA%3))).toNat default) (I.getD (f/((1:Int)+(x.fA%3))).toNat default) bY (f%((1:Int)+(x.fA%3))).toNat:=aL
 refine uf (ow (zua (i:=(f%((1:Int)+(x.fA%3))).toNat) (r:=(f/((1:Int)+(x.fA%3))).toNat) (j:=2) ty3 z5w (Q.mono U) (zz ai) rfl rfl aL (zz aK))) ?_;refine uf (j5 rfl rfl) ?_;intro eq ac;refine z8 (zu rfl p (fun p=>?_) (fun p=>?_))
 refine zx (zg aH (zg (vi f) (nk (T:=(zw .i64)) (X:=([f]:List Int)) (ps:=[(0,(vi f))]) (css:=[[(vi f)]]) rfl underlying33 zo3 rfl rfl (kw ⟨rfl,trivial⟩) rfl rfl (by decide) fun bZ er be b0=>?_)));refine ug (i:=0) rfl b0 fun b1 aM b2=>?_
 have b3:VRep (tSl true (zw .i64)) b1 bZ ([f]:List Int):=(z1s b2 be);obtain⟨bo,p⟩:=ze p;refine wh (i:=3) (X:=ah) (Y:=([f]:List Int)) rfl underlying33 zo3 rfl rfl rfl (aI.mono (ac.trans aM)) (j3 (Sub.v (B:=(tSl false (zw .i64))) (kv Sub.refl (fun _=>rfl)) b3)) bo.1 bo.2 fun bp b4 b5=>?_
 refine zi bp (z8 ?_);exact⟨dkt,(ac.trans aM),jd,((ah++([f]:List Int)),bp,b4),⟨rfl,trivial⟩,prm,(Option.some.inj p).symm,b5,trivial⟩;refine q9 ?_;exact⟨dkt,ac,jd,(ah,aH,ax),⟨rfl,trivial⟩,prm,(Option.some.inj p).symm,(aI.mono ac),trivial⟩;rintro⟨aJ,b7,aN⟩ es et bE ⟨rfl,b8,_⟩
 refine zx (zg (vi f) ?_);obtain⟨b9,a⟩:=ze a;refine zt (qz rfl rfl b9) (zi (vi (f+1)) (z8 ?_));exact⟨dkt,bE,jd,(aw,aJ,f+1,b7,aN),Nat.lt_succ_self _,⟨rfl,rfl,trivial⟩,prm,a,b8,trivial⟩;refine jf ?_
 exact⟨dkt,U,jd,(ah,aH,ax),⟨rfl,trivial⟩,prm,(Option.some.inj a).symm,aI,trivial⟩;rintro⟨K,aO,bq⟩ eu ew P ⟨rfl,ak,_⟩;refine zn (zg aO ?_);obtain⟨aP,c⟩:=ze c;refine uu (i:=(0:Int).toNat) rfl tu rfl ak (zf rfl aP.1) (zz aP) fun ex ca=>?_
 refine z2q (i:=(0:Int).toNat) (j:=3) rfl ty3 ak rfl rfl ca (zz aP) fun ey cb=>?_;obtain rfl:=j6.1 cb;refine zi (vi (ix K 0)) (z8 ?_);obtain⟨k,a,c⟩:=zq c
 refine qm (γ:=Int) (rs [12,13,103,122]) (fun g=>[(12,(vi g))]) (fun g=>[box b6 [(vi 0),(vi 0),vs0] 32,box q [(vi ((1:Int)+(x.fA%3))),(vi ((1:Int)+(x.fC%3))),o] 32,Z]++A) (fun g R=>k=g∧True) ?_ ?_;refine zn (zg (vi s) ?_);obtain⟨cc,a⟩:=ze a
 refine zt (z8y rfl rfl cc) (jg rfl q3e za0 rfl (h2.mono ((au.trans ar).trans P)) fun ez cd=>?_);refine qo rfl q7l rfl cd fun eA ce=>?_;refine zt (qj rfl underlying22 rfl (j3 ce)) (zt (j5 rfl rfl) (z8 (zu rfl a (fun a=>?_) (fun a=>?_))))
 refine zx (zg aO (jg rfl q3e za0 rfl (h2.mono ((au.trans ar).trans P)) fun eB cf=>?_));refine qo rfl q7l rfl cf fun eC cg=>?_;refine zg (vi s) ?_;obtain⟨ch,a⟩:=ze a;refine zt (z8y rfl rfl ch) ?_;obtain⟨br,a⟩:=ze a
 refine ko (i:=(s-1).toNat) rfl q90 rfl (j3 cg) (zf rfl br.1) (zz br) fun eD ci=>?_;refine qo rfl ty5 rfl ci fun eE cj=>?_;obtain rfl:=j6.1 cj;obtain⟨ck,a⟩:=ze a;refine zt (z9c underlying5 underlying3 rfl ck) (zg aO (zt (z2l rfl underlying33 rfl ak) ?_))
 obtain⟨cl,a⟩:=ze a;refine zt (z5z rfl rfl cl) ?_;obtain⟨aQ,a⟩:=ze a;refine uu (i:=((ix x.fI (s-1))%(↑K.length:Int)).toNat) rfl tu rfl ak (zf rfl aQ.1) (zz aQ) fun eF cm=>?_
 refine z2q (i:=((ix x.fI (s-1))%(↑K.length:Int)).toNat) (j:=3) rfl ty3 ak rfl rfl cm (zz aQ) fun eG cn=>?_;obtain rfl:=j6.1 cn;refine zi (vi (ix K ((ix x.fI (s-1))%(↑K.length:Int)))) (z8 ?_)
 exact⟨dkt,(RH.le.refl _),jd,(ix K ((ix x.fI (s-1))%(↑K.length:Int))),⟨rfl,trivial⟩,⟨[bq],(pk 3 rfl (pk 0 rfl (pk 0 rfl (pk 0 rfl (List.Perm.refl _)))))⟩,(Option.some.inj a).symm,trivial⟩;refine q9 ?_
 exact⟨dkt,(RH.le.refl _),jd,(ix K 0),⟨rfl,trivial⟩,⟨[bq],(pk 3 rfl (pk 0 rfl (pk 0 rfl (pk 0 rfl (List.Perm.refl _)))))⟩,(Option.some.inj a).symm,trivial⟩;rintro k eH eI V ⟨rfl,_⟩;refine z4q 15 mixed (by kernel_rfl) (by kernel_rfl) ?_;refine uf (v:=(.pointer (some ⟨q,2,none⟩))) (qb uy rfl) ?_
 refine uf (v:=o) (qd (i:=1) zqh rfl rfl rfl) ?_;refine uf (v:=(vi k)) (zb rfl) ?_;refine uf (v:=(.pointer (some ⟨q,0,none⟩))) (qb ll rfl) ?_;refine uf (v:=(vi ((1:Int)+(x.fA%3)))) (qd (i:=1) ag3 rfl rfl rfl) ?_;obtain⟨co,c⟩:=ze c;refine uf (zng rfl rfl co) ?_
 obtain⟨al,c⟩:=ze c;refine z3i (zot (i:=(k/((1:Int)+(x.fA%3))).toNat) (zk4 (b:=true) za6) rfl (Q.mono (P.trans V)) (zf rfl al.1) (zz al)) fun eJ cp=>?_
 refine uf (v:=(ag.getD (k/((1:Int)+(x.fA%3))).toNat default)) (qa0 (zry (i:=(k/((1:Int)+(x.fA%3))).toNat) (j:=2) (zgz (b:=true) z97) (Q.mono (P.trans V)) rfl rfl cp (zz al))) ?_;refine uf (v:=(vi k)) (zb rfl) ?_;refine uf (v:=(.pointer (some ⟨q,0,none⟩))) (qb ll rfl) ?_
 refine uf (v:=(vi ((1:Int)+(x.fA%3)))) (qd (i:=1) ag3 rfl rfl rfl) ?_;obtain⟨cq,c⟩:=ze c;refine uf (z5z rfl rfl cq) ?_;refine uf (v:=(vi s)) (zb rfl) ?_;obtain⟨aR,c⟩:=ze c
 refine z3i (zmm (i:=(k%((1:Int)+(x.fA%3))).toNat) (r:=(k/((1:Int)+(x.fA%3))).toNat) zaf (Q.mono (P.trans V)) (zz al) rfl (zf rfl aR.1) (zz aR)) fun eK cr=>?_;refine z3i (zjb o8 rfl cr) fun bs aS=>?_
 replace aS:z8d kEdge 0 (ag.getD (k/((1:Int)+(x.fA%3))).toNat default) (I.getD (k/((1:Int)+(x.fA%3))).toNat default) bs (k%((1:Int)+(x.fA%3))).toNat:=aS;intro eL aT
 refine zlr (Oc:=[Z]) (Or:=[box b6 [(vi 0),(vi 0),vs0] 32,box q [(vi ((1:Int)+(x.fA%3))),(vi ((1:Int)+(x.fC%3))),o] 32]++A) (pk 2 rfl (pk 0 rfl (pk 0 rfl (List.Perm.refl _)))) (zko (i:=(k%((1:Int)+(x.fA%3))).toNat) (r:=(k/((1:Int)+(x.fA%3))).toNat) (u:=bs) ztb ty3 (Q.mono ((P.trans V).trans aT)) (zz al) rfl aS (zz aR) rfl (j6.2 rfl)) ?_
 rintro eM eN dQ dR ⟨rfl,bt,rfl,aU⟩;replace aU:N2 false kEdge _ bt o ag (up I (k/((1:Int)+(x.fA%3))) (up (ix I (k/((1:Int)+(x.fA%3)))) (k%((1:Int)+(x.fA%3))) (⟨s,(ix (ix I (k/((1:Int)+(x.fA%3)))) (k%((1:Int)+(x.fA%3)))).out⟩:Edge))):=aU
 refine z8 (zx (zg (vi s) ?_));obtain⟨cs,c⟩:=ze c;refine zt (qz rfl rfl cs) (zi (vi (s+1)) (z8 ?_))
 exact⟨dkt,((P.trans V).trans aT),jd,(av,s+1,(up I (k/((1:Int)+(x.fA%3))) (up (ix I (k/((1:Int)+(x.fA%3)))) (k%((1:Int)+(x.fA%3))) (⟨s,(ix (ix I (k/((1:Int)+(x.fA%3)))) (k%((1:Int)+(x.fA%3)))).out⟩:Edge))),bt),Nat.lt_succ_self _,⟨rfl,trivial⟩,⟨[],(pk 1 rfl (pk 1 rfl (pk 0 rfl (List.Perm.refl _))))⟩,c,(lc aU),trivial⟩
 refine jf ?_;exact⟨dkt,ar,jd,(I,Z),trivial,prm,(Option.some.inj c).symm,(lc Q),trivial⟩;rintro⟨af,ct⟩ eO eP aV ⟨rfl,⟨eQ,cv⟩,_⟩;obtain⟨aa,c,y⟩:=zq y
 refine qm (γ:=(List (List Edge))×Frag) (rs [13,15,137,177]) (fun g=>[]) (fun g=>[box b6 [(vi 0),(vi 0),vs0] 32,box q [(vi ((1:Int)+(x.fA%3))),(vi ((1:Int)+(x.fC%3))),o] 32,g.2]++A) (fun g R=>aa=g.1∧NRep false kEdge R g.2 o g.1∧True) ?_ ?_
 refine zn (zi (vi 0) (z8 (zy (ja (γ:=Nat×Int×(List (List Edge))×Frag) (rs [13,15,137,177]) (fun g=>[(13,(vi g.2.1))]) (fun g=>[box b6 [(vi 0),(vi 0),vs0] 32,box q [(vi ((1:Int)+(x.fA%3))),(vi ((1:Int)+(x.fC%3))),o] 32,g.2.2.2]++A) (fun g R=>nz N x g.1 g.2.1 g.2.2.1=some aa∧NRep false kEdge R g.2.2.2 o g.2.2.1∧True) (fun g=>g.1) (N,0,af,ct) prm ⟨c,(lc cv),trivial⟩ ?_))))
 clear c;rintro⟨ay,d,aW,bu⟩ eR eS aX ⟨c,⟨eT,bv⟩,_⟩;rcases ay with _|ay;exact qp c;replace c:nz N x (ay+1) d aW=some aa:=c;rw [nz] at c
 refine qa (zn (zg (vi d) (zg (vi ((1:Int)+(x.fB%6))) (zt (j5 rfl rfl) (z8 (zu rfl c (fun c=>?_) (fun c=>?_)))))));refine q9 ?_;obtain⟨am,a,c⟩:=zq c
 refine qm (γ:=(List (List Edge))×Frag) (rs [14,15,142,177]) (fun g=>[]) (fun g=>[box b6 [(vi 0),(vi 0),vs0] 32,box q [(vi ((1:Int)+(x.fA%3))),(vi ((1:Int)+(x.fC%3))),o] 32,g.2]++A) (fun g R=>am=g.1∧NRep false kEdge R g.2 o g.1∧True) ?_ ?_
 refine zy (zn (zi (vi 0) (z8 (zy (ja (γ:=Nat×Int×(List (List Edge))×Frag) (rs [14,15,142,177]) (fun g=>[(14,(vi g.2.1))]) (fun g=>[box b6 [(vi 0),(vi 0),vs0] 32,box q [(vi ((1:Int)+(x.fA%3))),(vi ((1:Int)+(x.fC%3))),o] 32,g.2.2.2]++A) (fun g R=>yo N x d g.1 g.2.1 g.2.2.1=some am∧NRep false kEdge R g.2.2.2 o g.2.2.1∧True) (fun g=>g.1) (N,0,aW,bu) prm ⟨a,(lc bv),trivial⟩ ?_)))))
 clear a;rintro⟨az,m,E,aY⟩ eU eV aZ ⟨a,⟨W,M⟩,_⟩;rcases az with _|az;exact qp a;replace a:yo N x d (az+1) m E=some am:=a;rw [yo] at a
 refine qa (zn (zg (vi m) (zt (qb ll rfl) (zt (qd (i:=1) ag3 rfl rfl rfl) (zt (j5 rfl rfl) (z8 (zu rfl a (fun a=>?_) (fun a=>?_))))))));refine q9 ?_;obtain⟨a0,p,a⟩:=zq a
 refine qm (γ:=(List (List Edge))×Frag) (rs [148,177]) (fun g=>[]) (fun g=>[box b6 [(vi 0),(vi 0),vs0] 32,box q [(vi ((1:Int)+(x.fA%3))),(vi ((1:Int)+(x.fC%3))),o] 32,g.2]++A) (fun g R=>a0=g.1∧NRep false kEdge R g.2 o g.1∧True) ?_ ?_
 refine zy (zn (zt (qb uy rfl) (zt (qd (i:=1) zqh rfl rfl rfl) (zg (vi d) ?_))));obtain⟨an,p⟩:=ze p;refine z8j rfl (zfq (i:=d.toNat) (zk4 (b:=true) za6) rfl M (zf rfl an.1) (zz an)) fun eW eX z cw=>?_
 refine z8j rfl (zij (i:=d.toNat) (j:=2) (zgz (b:=true) z97) (M.mono z) rfl rfl cw (zz an)) fun eY eZ C cx=>?_;obtain rfl:=Eq.symm cx;refine zg (vi m) ?_;obtain⟨a1,p⟩:=ze p
 refine z8j rfl (zdh (i:=m.toNat) (r:=d.toNat) zaf (M.mono (z.trans C)) (zz an) rfl (zf rfl a1.1) (zz a1)) fun e0 e1 G cy=>?_;refine z8j rfl (zcj o8 rfl cy) fun cz e2 H a2=>?_;replace a2:z8d kEdge 0 (W.getD d.toNat default) (E.getD d.toNat default) cz m.toNat:=a2
 refine z8j rfl (uo (zuk (i:=m.toNat) (r:=d.toNat) (j:=2) ty3 z5w (M.mono (((z.trans C).trans G).trans H)) (zz an) rfl rfl a2 (zz a1)) (fun _ _ h=>j6.1 h)) fun e3 e4 L cA=>?_;obtain rfl:=Eq.symm cA;refine zt (j5 rfl rfl) (z8 (zu rfl p (fun p=>?_) (fun p=>?_)))
 obtain⟨ao,cB,cC,p⟩:=q20 p;obtain⟨aA,cD,p⟩:=zq p;obtain⟨cE,a3,p⟩:=q05 p
 refine cu 19 [] [phX (.pointer (some ⟨q,2,none⟩)),phX o,phX (vi d),(fun u _=>z4l tHdr o W u d.toNat),phX (W.getD d.toNat default),phX (vi m),phP (tSl false (zw .u16)) x.fD,phR (tSl false (zw .u16)) x.fD,phX (vi d),phX (.pointer (some ⟨q,0,none⟩)),phX (vi ((1:Int)+(x.fA%3))),phX (vi (d*((1:Int)+(x.fA%3)))),phX (vi m),phX (vi ((d*((1:Int)+(x.fA%3)))+m)),phX (vi aA),phX (vi ((1:Int)+(x.fB%6))),phX (vi (aA%((1:Int)+(x.fB%6)))),(fun u _=>z4l kEdge (W.getD d.toNat default) (E.getD d.toNat default) u m.toNat),(fun u _=>z8d kEdge 0 (W.getD d.toNat default) (E.getD d.toNat default) u m.toNat)] mixed (by kernel_rfl) (ym ⟨zk,zk,zk,(fun _ _ _ _ h=>h),zk,zk,yl,pq,zk,zk,zk,zk,zk,zk,zk,zk,zk,(fun _ _ _ _ h=>h),(fun _ _ _ _ h=>h),trivial⟩) ⟨?_,?_,?_,?_,?_,?_,?_,?_,?_,?_,?_,?_,?_,?_,?_,?_,?_,?_,?_,trivial⟩ fun e5 a4=>?_
 intro l du n F hd;exact za rfl rfl rfl (zo (qb uy (F 4 rfl)));rintro l dv n F ⟨O,_⟩;exact za rfl rfl rfl (zo (qd (i:=1) zqh (O rfl) rfl rfl));intro l dw n F hd;exact za rfl rfl rfl (zo (zb (F 13 rfl)));rintro l dx n F ⟨O,d1,_⟩
 exact za rfl rfl rfl (zfq (i:=d.toNat) (zk4 (b:=true) za6) (O rfl) ((M.mono ((((z.trans C).trans G).trans H).trans L)).mono n) (zf (d1 rfl) ao.1) (zz ao));rintro l dy n F ⟨O,_⟩
 exact za rfl rfl rfl (zij (i:=d.toNat) (j:=2) (zgz (b:=true) z97) ((M.mono ((((z.trans C).trans G).trans H).trans L)).mono n) rfl rfl (O rfl) (zz ao));intro l dz n F hd;exact za rfl rfl rfl (zo (zb (F 14 rfl)));intro l dA n F hd
 exact za rfl rfl rfl (si q2o z9w (F 1 rfl) ((h2.mono ((((((((au.trans aV).trans aX).trans aZ).trans z).trans C).trans G).trans H).trans L)).mono n));rintro l dB n F ⟨O,_⟩;exact za rfl rfl rfl (u7 q7t rfl (O rfl));intro l dD n F hd;exact za rfl rfl rfl (zo (zb (F 13 rfl)))
 intro l gi n F hd;exact za rfl rfl rfl (zo (qb ll (F 4 rfl)));rintro l e6 n F ⟨O,_⟩;exact za rfl rfl rfl (zo (qd (i:=1) ag3 (O rfl) rfl rfl));rintro l e7 n F ⟨O,d1,_⟩;exact za rfl rfl rfl (zo (zby (O rfl) (d1 rfl) cB));intro l e8 n F hd;exact za rfl rfl rfl (zo (zb (F 14 rfl)))
 rintro l e9 n F ⟨O,d1,_⟩;exact za rfl rfl rfl (zo (qz (O rfl) (d1 rfl) cC));rintro l fa n F ⟨O,d1,_⟩;have aN:l 171=(vi ((d*((1:Int)+(x.fA%3)))+m)):=d1 rfl
 exact za rfl rfl rfl (ut (vs:=[(l 165),(vi ((d*((1:Int)+(x.fA%3)))+m))]) q94 (by simp only [List.map,ev,aN]<;>rfl) (z8v (O rfl) cD) (fun _ _ h=>h));intro l fb n F hd;exact za rfl rfl rfl (zo (zb (F 3 rfl)));rintro l fc n F ⟨O,d1,_⟩
 exact za rfl rfl rfl (zo (z5z (O rfl) (d1 rfl) cE));rintro l fd n F ⟨O,d1,d2,d3,d4,d5,d6,d7,d8,d9,dS,dT,dU,dV,dW,dX,dY,dZ,gr,_⟩;have ax:=O rfl
 exact za rfl rfl rfl (zdh (i:=m.toNat) (r:=d.toNat) zaf ((M.mono ((((z.trans C).trans G).trans H).trans L)).mono n) (zz ao) ax (zf (d1 rfl) a3.1) (zz a3));rintro l fe n F ⟨O,d1,d2,d3,d4,d5,d6,d7,d8,d9,dS,dT,dU,dV,dW,dX,dY,dZ,_⟩;exact za rfl rfl rfl (zcj o8 rfl (O rfl))
 intro ff cF fg cG fh cH fi fj fk cI fl cJ fm fn fo fp fq cK fr cL fs cM ft cN fu cO fv cP fw cQ fx cR fy cS fz fE bw a5;obtain rfl:=Eq.symm cF;obtain rfl:=Eq.symm cG;obtain rfl:=Eq.symm cH;obtain rfl:=Eq.symm cI;obtain rfl:=Eq.symm cJ;obtain rfl:=Eq.symm cK;obtain rfl:=Eq.symm cL
 obtain rfl:=Eq.symm cM;obtain rfl:=Eq.symm cN;obtain rfl:=Eq.symm cO;obtain rfl:=Eq.symm cP;obtain rfl:=Eq.symm cQ;obtain rfl:=Eq.symm cR;obtain rfl:=Eq.symm cS;replace a5:z8d kEdge 0 (W.getD d.toNat default) (E.getD d.toNat default) bw m.toNat:=a5
 refine zlr (Oc:=[aY]) (Or:=[box b6 [(vi 0),(vi 0),vs0] 32,box q [(vi ((1:Int)+(x.fA%3))),(vi ((1:Int)+(x.fC%3))),o] 32]++A) (pk 2 rfl (pk 0 rfl (pk 0 rfl (List.Perm.refl _)))) (zko (i:=m.toNat) (r:=d.toNat) (u:=bw) ztb ty3 (M.mono (((((z.trans C).trans G).trans H).trans L).trans a4)) (zz ao) rfl a5 (zz a3) rfl (j6.2 rfl)) ?_
 rintro fF fG ea eb ⟨rfl,bx,rfl,a6⟩;replace a6:N2 false kEdge _ bx o W (up E d (up (ix E d) m (⟨aA%((1:Int)+(x.fB%6)),(ix (ix E d) m).out⟩:Edge))):=a6;refine z8 ?_
 exact⟨dkt,(((((z.trans C).trans G).trans H).trans L).trans a4),jd,((up E d (up (ix E d) m (⟨aA%((1:Int)+(x.fB%6)),(ix (ix E d) m).out⟩:Edge))),bx),trivial,⟨[],(pk 1 rfl (pk 1 rfl (pk 0 rfl (List.Perm.refl _))))⟩,(Option.some.inj p).symm,(lc a6),trivial⟩;refine q9 ?_
 exact⟨dkt,((((z.trans C).trans G).trans H).trans L),jd,(E,aY),trivial,prm,(Option.some.inj p).symm,(lc (M.mono ((((z.trans C).trans G).trans H).trans L))),trivial⟩;rintro⟨a0,cT⟩ fH fJ bF ⟨rfl,⟨fK,cU⟩,_⟩;refine zx (zg (vi m) ?_);obtain⟨cV,a⟩:=ze a
 refine zt (qz rfl rfl cV) (zi (vi (m+1)) (z8 ?_));exact⟨dkt,bF,jd,(az,m+1,a0,cT),Nat.lt_succ_self _,⟨rfl,trivial⟩,prm,a,(lc cU),trivial⟩;refine jf ?_;exact⟨dkt,aZ,jd,(E,aY),trivial,prm,(Option.some.inj a).symm,(lc M),trivial⟩;rintro⟨am,cW⟩ fL fM bG ⟨rfl,⟨fN,cX⟩,_⟩
 refine zx (zg (vi d) ?_);obtain⟨cY,c⟩:=ze c;refine zt (qz rfl rfl cY) (zi (vi (d+1)) (z8 ?_));exact⟨dkt,bG,jd,(ay,d+1,am,cW),Nat.lt_succ_self _,⟨rfl,trivial⟩,prm,c,(lc cX),trivial⟩;refine jf ?_
 exact⟨dkt,aX,jd,(aW,bu),trivial,prm,(Option.some.inj c).symm,(lc bv),trivial⟩;rintro⟨aa,fO⟩ fP fQ bH ⟨rfl,⟨fR,bz⟩,_⟩
 refine zn (zt (yg (i:=1) zbg z6y rfl rfl rfl rfl) (jo (i:=0) (vs:=[(vi ((1:Int)+(x.fA%3))),(vi ((1:Int)+(x.fC%3))),o]) z6y rfl rfl rfl rfl rfl rfl (qg rfl (qg rfl (qg (q0i bz) kg))) ?_));refine z8 (zm6 (i:=2) rfl (lc bz) fun cZ bI c0=>?_)
 have c1:VRep (tSl false (tSl false kEdge)) cZ o aa:=(z4s c0);refine qx ?_;obtain rfl:=Option.some.inj y
 refine qc (D:=[]) (J:=[box b6 [(vi ((1:Int)+(x.fA%3))),(vi ((1:Int)+(x.fC%3))),o] 32,box q [(vi ((1:Int)+(x.fA%3))),(vi ((1:Int)+(x.fC%3))),o] 32]) (rs:=[.cell 2 32]) (vs:=[(.agg #[(vi ((1:Int)+(x.fA%3))),(vi ((1:Int)+(x.fC%3))),o])]) ((((c4.trans au).trans aV).trans bH).trans bI) rfl rfl ⟨⟨_,rfl,fun w hh=>z3v (i:=0) hh rfl rfl zbg z6y rfl rfl⟩,trivial⟩ ?_
 exact⟨rfl,(⟨_,⟨_,_,rfl,rfl,⟨_,_,rfl,rfl,(ku rfl c1)⟩⟩,rfl⟩:VRep (je false false) _ _ (⟨(1:Int)+(x.fA%3),(1:Int)+(x.fC%3),aa⟩:Mach))⟩
theorem qa2:Enters prog 18:=enters_of func18 rfl (by kernel_rfl)
theorem fe{a b:Bool}:TyOk prog 32 (je a b):=by
 obtain⟨i,hi,c⟩: ∃ i,prog.info? 32=some i∧i.size=3:=ky (by kernel_rfl);exact z4t underlying32 hi rfl c
theorem z1z{a b:Bool}:TyOk prog 30 (tSl a (tSl b kEdge)):=by
 obtain⟨i,hi,c⟩: ∃ i,prog.info? 30=some i∧i.size=1:=ky (by kernel_rfl);exact z4t underlying30 hi rfl c
theorem zo4:ZeroOk prog 4 jl false 1:=by
 obtain⟨i,zv,hi,a,c,d,f⟩:=z6b (P:=prog) (e:=4) (zv:=(.bool false)) (k:=1) (b:=1) (by kernel_rfl);exact⟨i,zv,hi,a,c,d,fun R=>by subst f;exact rfl⟩
theorem qb2{a:Bool}:ZeroOk prog 64 (tSl a jl) ([]:List Bool) 24:=by
 obtain⟨i,zv,hi,c,d,f,g⟩:=z6b (P:=prog) (e:=64) (zv:=vs0) (k:=1) (b:=24) (by kernel_rfl);exact⟨i,zv,hi,c,d,f,fun R=>by subst g;exact(ku rfl z4g)⟩
theorem za1: ∀ w,∃ z,(zeroValue 100).run prog w= .ok z w∧z.cells=([.int .i64 0,.int .i64 0]:List Value).toArray:=fun w=>⟨(.agg #[(vi 0),(vi 0)]),by kernel_rfl,rfl⟩
theorem z6j: ∀ w,(sizeOf 100).run prog w= .ok 2 w:=fun w=>by kernel_rfl
theorem z8l:FieldOk prog 100 1 1:=by
 obtain⟨i,hi,a⟩: ∃ i,prog.info? 3=some i∧i.size=1:=ky (by kernel_rfl);exact ul underlying100 rfl rfl hi (by rw [a];rfl)
theorem zi5{a:Bool}:TyOk prog 64 (tSl a jl):=by
 obtain⟨i,hi,b⟩: ∃ i,prog.info? 64=some i∧i.size=1:=ky (by kernel_rfl);exact z4t underlying64 hi rfl b
theorem zlx{a:Bool}:SlOk prog 121 64 (tSl a jl):=⟨underlying121,zi5⟩
theorem ty4:TyOk prog 4 jl:=by
 obtain⟨i,hi,a⟩: ∃ i,prog.info? 4=some i∧i.size=1:=ky (by kernel_rfl);exact z4t underlying4 hi rfl a
theorem z5h:SlOk prog 64 4 jl:=⟨underlying64,ty4⟩
theorem zed{N:Nat}{R:RH}{m:Mach}{P:Value}(am:VRep (je false false) R P m){marked:(List (List Bool))}{o:Value}(H:VRep (tSl false (tSl false jl)) R o marked){s:Int}{t:Int}{r:Int}(B:z3d N m marked s t=some r):CallP prog 88 #[P,o,(vi s),(vi t)] R (fun v R'=>v=(vi r)):=by
 refine qf (args:=[P,o,(vi s),(vi t)]) func88 rfl rfl fun A=>?_;rw [z3d] at B;refine zn (jy (T:=(je false false)) rfl rfl rfl am fun v1 R3 Q h5 h2=>?_);refine zi (vi 0) (z8 ?_);obtain⟨q7,j,B⟩:=zq B
 refine qm (γ:=Unit) (rs [8,60]) (fun g=>[]) (fun g=>[]++A) (fun g R=>q7=Ex.go g∧True) ?_ ?_;refine zn (zi (vi 0) (z8 (zy (ja (γ:=Nat×Int) (rs [8,60]) (fun g=>[(9,(vi g.2))]) (fun g=>[]++A) (fun g R=>yf N m marked s t g.1 g.2=some q7∧True) (fun g=>g.1) (N,0) prm ⟨j,trivial⟩ ?_))));clear j
 rintro⟨L,a⟩ a5 bB z ⟨j,_⟩;rcases L with _|L;exact qp j;replace j:yf N m marked s t (L+1) a=some q7:=j;rw [yf] at j;refine qa (zn (zg (vi a) (jg rfl ll lh rfl (h2.mono z) fun bC ap=>?_)));refine qo rfl ty3 rfl ap fun bD aq=>?_;obtain rfl:=j6.1 aq
 refine zt (j5 rfl rfl) (z8 (zu rfl j (fun j=>?_) (fun j=>?_)));refine q9 (qa (zy (qa ?_)));obtain⟨S,U,V,W,j⟩:=q0b j
 refine zd2 [16,17,18,19] [(fun es=>phP (tSl false (tSl false kEdge)) m.rows),(fun es=>phR (tSl false (tSl false kEdge)) m.rows),(fun es=>phX (vi s)),(fun es=>phP (tSl false kEdge) (ix m.rows s)),(fun es=>phR (tSl false kEdge) (ix m.rows s)),(fun es=>phX (vi a)),(fun es=>phP kEdge (ix (ix m.rows s) a)),(fun es=>phX (z2o (ix (ix m.rows s) a))),(fun es=>phP (tSl false (tSl false kEdge)) m.rows),(fun es=>phR (tSl false (tSl false kEdge)) m.rows),(fun es=>phX (vi t)),(fun es=>phP (tSl false kEdge) (ix m.rows t)),(fun es=>phR (tSl false kEdge) (ix m.rows t)),(fun es=>phX (vi a)),(fun es=>phP kEdge (ix (ix m.rows t) a)),(fun es=>phX (z2o (ix (ix m.rows t) a))),(fun es=>(fun v _=>v= .pointer (some ⟨z7l v,0,none⟩))),(fun es=>(fun v _=>v= .pointer (some ⟨z7l v,0,none⟩))),(fun es=>(fun _ _=>True)),(fun es=>(fun _ _=>True))] (fun fl es R O=>(fl=[false,false,false,false]∧O.Perm ([]++A)∧True)∨(fl=[true,false,false,false]∧O.Perm ([box (z7l (es.getD 0 undef)) [(vi 0),(vi 0)] 100]++A)∧True)∨(fl=[false,true,false,false]∧O.Perm ([box (z7l (es.getD 1 undef)) [(vi 0),(vi 0)] 100]++A)∧True)∨(fl=[true,true,false,false]∧O.Perm ([box (z7l (es.getD 0 undef)) [(vi 0),(vi 0)] 100,box (z7l (es.getD 1 undef)) [(vi 0),(vi 0)] 100]++A)∧True)∨(fl=[true,true,true,false]∧O.Perm ([box (z7l (es.getD 0 undef)) [(vi ((ix (ix m.rows s) a).to)),(vi ((ix (ix m.rows s) a).out))] 100,box (z7l (es.getD 1 undef)) [(vi 0),(vi 0)] 100]++A)∧True)∨(fl=[true,true,true,true]∧O.Perm ([box (z7l (es.getD 0 undef)) [(vi ((ix (ix m.rows s) a).to)),(vi ((ix (ix m.rows s) a).out))] 100,box (z7l (es.getD 1 undef)) [(vi ((ix (ix m.rows t) a).to)),(vi ((ix (ix m.rows t) a).out))] 100]++A)∧True)) mixed (by kernel_rfl) ⟨(ji yl),(ji pq),(ji zk),(ji yl),(ji pq),(ji zk),(ji yl),(ji zk),(ji yl),(ji pq),(ji zk),(ji yl),(ji pq),(ji zk),(ji yl),(ji zk),(fun _ _ _ _ _ h=>h),(fun _ _ _ _ _ h=>h),(fun _ _ _ _ _ h=>h),(fun _ _ _ _ _ h=>h),trivial⟩ (by rintro fl es R R' O c (⟨rfl,n,_⟩|⟨rfl,n,_⟩|⟨rfl,n,_⟩|⟨rfl,n,_⟩|⟨rfl,n,_⟩|⟨rfl,n,_⟩);exact(.inl ⟨rfl,n,trivial⟩);exact(.inr (.inl ⟨rfl,n,trivial⟩));exact(.inr (.inr (.inl ⟨rfl,n,trivial⟩)));exact(.inr (.inr (.inr (.inl ⟨rfl,n,trivial⟩))));exact(.inr (.inr (.inr (.inr (.inl ⟨rfl,n,trivial⟩)))));exact(.inr (.inr (.inr (.inr (.inr ⟨rfl,n,trivial⟩)))))) ⟨(fun _ _ _ _ _ h=>h),(fun _ _ _ _ _ h=>h),(fun _ _ _ _ _ h=>h),(fun _ _ _ _ _ h=>h),(fun _ _ _ _ _ h=>h),(fun _ _ _ _ _ h=>h),(fun _ _ _ _ _ h=>h),(fun _ _ _ _ _ h=>h),(fun _ _ _ _ _ h=>h),(fun _ _ _ _ _ h=>h),(fun _ _ _ _ _ h=>h),(fun _ _ _ _ _ h=>h),(fun _ _ _ _ _ h=>h),(fun _ _ _ _ _ h=>h),(fun _ _ _ _ _ h=>h),(fun _ _ _ _ _ h=>h),(fun _ _ _ _ _ h=>h),(fun _ _ _ _ _ h=>h),(fun _ _ _ _ _ h=>h),(fun _ _ _ _ _ h=>h),trivial⟩ (fun es=> .inl ⟨rfl,(List.Perm.refl _),trivial⟩) ⟨?_,?_,?_,?_,?_,?_,?_,?_,?_,?_,?_,?_,?_,?_,?_,?_,?_,?_,?_,?_,trivial⟩ fun bE K=>?_
 intro l ar fl O c f q x y;exact si uy u6 (f 4 rfl) ((h2.mono z).mono c);intro l au fl O c f q x y;obtain⟨d,_⟩:=q;exact u7 z1z rfl (d rfl);intro l av fl O c f q x y;exact zo (zb (f 2 rfl));intro l aw fl O c f q x y;obtain⟨d,k,_⟩:=q
 exact wz (i:=s.toNat) za6 rfl (j3 (d rfl)) (zf (k rfl) S.1) (zz S);intro l ax fl O c f q x y;obtain⟨d,_⟩:=q;exact u7 z97 rfl (d rfl);intro l ay fl O c f q x y;exact zo (zb (f 9 rfl));intro l az fl O c f q x y;obtain⟨d,k,_⟩:=q
 exact wz (i:=a.toNat) zaf rfl (j3 (d rfl)) (zf (k rfl) U.1) (zz U);intro l aA fl O c f q x y;obtain⟨d,_⟩:=q;exact uo (u7 zai rfl (d rfl)) (fun _ _ h=>z0c.1 h);intro l aB fl O c f q x y;obtain⟨d,_⟩:=q;exact si uy u6 (f 4 rfl) ((h2.mono z).mono c);intro l aC fl O c f q x y
 obtain⟨d,k,_⟩:=q;exact u7 z1z rfl (d rfl);intro l X fl O c f q x y;obtain⟨d,_⟩:=q;exact zo (zb (f 3 rfl));intro l Y fl O c f q x y;obtain⟨d,k,F,_⟩:=q;exact wz (i:=t.toNat) za6 rfl (j3 (d rfl)) (zf (k rfl) V.1) (zz V);intro l Z fl O c f q x y;obtain⟨d,k,_⟩:=q;exact u7 z97 rfl (d rfl)
 intro l aa fl O c f q x y;obtain⟨d,_⟩:=q;exact zo (zb (f 9 rfl));intro l ab fl O c f q x y;obtain⟨d,k,F,_⟩:=q;exact wz (i:=a.toNat) zaf rfl (j3 (d rfl)) (zf (k rfl) W.1) (zz W);intro l ac fl O c f q x y;obtain⟨d,k,_⟩:=q;exact uo (u7 zai rfl (d rfl)) (fun _ _ h=>z0c.1 h)
 intro l ad fl O c f q x G y;rcases y with⟨rfl,n,_⟩|⟨rfl,n,_⟩|⟨rfl,n,_⟩|⟨rfl,n,_⟩|⟨rfl,n,_⟩|⟨rfl,n,_⟩;refine om n ?_;refine Eff.mono (zat za1) ?_;rintro v R' O' hle' ⟨rfl,b,rfl,rfl⟩;exact⟨rfl,.inr (.inl ⟨rfl,(List.Perm.refl _),trivial⟩)⟩;cases G;refine om n ?_;refine Eff.mono (zat za1) ?_
 rintro v R' O' hle' ⟨rfl,b,rfl,rfl⟩;exact⟨rfl,.inr (.inr (.inr (.inl ⟨rfl,(List.Perm.refl _),trivial⟩)))⟩;cases G;cases G;cases G;intro l ae fl O c f q x G y;rcases y with⟨rfl,n,_⟩|⟨rfl,n,_⟩|⟨rfl,n,_⟩|⟨rfl,n,_⟩|⟨rfl,n,_⟩|⟨rfl,n,_⟩;refine om n ?_;refine Eff.mono (zat za1) ?_;rintro v R' O' hle' ⟨rfl,b,rfl,rfl⟩
 exact⟨rfl,.inr (.inr (.inl ⟨rfl,(List.Perm.refl _),trivial⟩))⟩;refine om n ?_;refine Eff.mono (zat za1) ?_;rintro v R' O' hle' ⟨rfl,b,rfl,rfl⟩;exact⟨rfl,.inr (.inr (.inr (.inl ⟨rfl,(pk 1 rfl (pk 0 rfl (List.Perm.refl _))),trivial⟩)))⟩;cases G;cases G;cases G;cases G;intro l af fl O c f q x G y
 obtain⟨d,k,F,d3,d4,d5,d6,d7,d8,d9,aD,aE,aF,aG,aH,aI,aJ,aK,aL,aM,_⟩:=q;rcases y with⟨rfl,n,_⟩|⟨rfl,n,_⟩|⟨rfl,n,_⟩|⟨rfl,n,_⟩|⟨rfl,n,_⟩|⟨rfl,n,_⟩;exact z3h x (by kernel_rfl);exact z3h x (by kernel_rfl);exact z3h x (by kernel_rfl);refine om n ?_
 refine Eff.mono (z5m (i:=0) (vs:=[(vi ((ix (ix m.rows s) a).to)),(vi ((ix (ix m.rows s) a).out))]) z6j (d rfl) (k rfl) rfl rfl rfl (Nat.le_of_ble_eq_true rfl) (qg rfl (qg rfl kg))) ?_;rintro v R' O' hle' ⟨_,rfl,rfl⟩;exact⟨trivial,.inr (.inr (.inr (.inr (.inl ⟨rfl,(List.Perm.refl _),trivial⟩))))⟩;cases G;cases G
 intro l ag fl O c f q x G y;obtain⟨d,k,F,d3,d4,d5,d6,d7,d8,d9,aD,aE,aF,aG,aH,aI,aJ,aK,aL,aM,bM,bN,_⟩:=q;rcases y with⟨rfl,n,_⟩|⟨rfl,n,_⟩|⟨rfl,n,_⟩|⟨rfl,n,_⟩|⟨rfl,n,_⟩|⟨rfl,n,_⟩;exact z3h x (by kernel_rfl);exact z3h x (by kernel_rfl);exact z3h x (by kernel_rfl);exact z3h x (by kernel_rfl)
 refine om n ?_;refine Eff.mono (z5m (i:=1) (vs:=[(vi ((ix (ix m.rows t) a).to)),(vi ((ix (ix m.rows t) a).out))]) z6j (d rfl) (k rfl) rfl rfl rfl (Nat.le_of_ble_eq_true rfl) (qg rfl (qg rfl kg))) ?_;rintro v R' O' hle' ⟨_,rfl,rfl⟩;exact⟨trivial,.inr (.inr (.inr (.inr (.inr ⟨rfl,(List.Perm.refl _),trivial⟩))))⟩;cases G
 intro bO bP bQ bR bS bT bU bV bW bX bY bZ b0 b1 b2 b3 aN aO b4 b5 aP b6 b7 aQ b8 aR b9 ca aS cb cc aT cd aU aV aW;rintro a6 (⟨e,_⟩|⟨e,_⟩|⟨e,_⟩|⟨e,_⟩|⟨e,_⟩|⟨_,n,_⟩);cases e;cases e;cases e;cases e;cases e;refine⟨[],_,n,?_⟩;obtain⟨C,rfl⟩: ∃ b,aN= .pointer (some ⟨b,0,none⟩):=⟨_,aV⟩
 obtain⟨E,rfl⟩: ∃ b,aO= .pointer (some ⟨b,0,none⟩):=⟨_,aW⟩;obtain rfl:=Eq.symm aP;obtain rfl:=Eq.symm aQ;obtain rfl:=Eq.symm aR;obtain rfl:=Eq.symm aS;obtain rfl:=Eq.symm aT;obtain rfl:=Eq.symm aU;refine z8 (qa ?_);obtain⟨ah,ai,j⟩:=q05 j
 let G1:=(((decide (0≤((ix (ix m.rows s) a).to)))&&(decide (0≤((ix (ix m.rows t) a).to))))&&(ix (ix marked ((ix (ix m.rows s) a).to)) ((ix (ix m.rows t) a).to)));let w:=(true&&((decide (((ix (ix m.rows s) a).out)≠((ix (ix m.rows t) a).out)))==false));let I:=((decide (0≤((ix (ix m.rows s) a).to)))&&(decide (0≤((ix (ix m.rows t) a).to))))
 refine cu 26 [] [phX (.pointer (some ⟨C,1,none⟩)),phX (vi ((ix (ix m.rows s) a).out)),phX (.pointer (some ⟨E,1,none⟩)),phX (vi ((ix (ix m.rows t) a).out)),phX (.bool (decide (((ix (ix m.rows s) a).out)≠((ix (ix m.rows t) a).out)))),phX (.bool (decide (((ix (ix m.rows s) a).out)≠((ix (ix m.rows t) a).out)))),phG w (phX (.pointer (some ⟨C,0,none⟩))),phG w (phX (vi ((ix (ix m.rows s) a).to))),phG w (phX (.bool (decide (0≤((ix (ix m.rows s) a).to))))),phG w (phX (.bool (decide (0≤((ix (ix m.rows s) a).to))))),phG (w&&((decide (0≤((ix (ix m.rows s) a).to)))==true)) (phX (.pointer (some ⟨E,0,none⟩))),phG (w&&((decide (0≤((ix (ix m.rows s) a).to)))==true)) (phX (vi ((ix (ix m.rows t) a).to))),phG (w&&((decide (0≤((ix (ix m.rows s) a).to)))==true)) (phX (.bool (decide (0≤((ix (ix m.rows t) a).to))))),phG w (phX (.bool I)),phG w (phX (.bool I)),phG (w&&(I==true)) (phX o),phG (w&&(I==true)) (phX (.pointer (some ⟨C,0,none⟩))),phG (w&&(I==true)) (phX (vi ((ix (ix m.rows s) a).to))),phG (w&&(I==true)) (phP (tSl false jl) (ix marked ((ix (ix m.rows s) a).to))),phG (w&&(I==true)) (phR (tSl false jl) (ix marked ((ix (ix m.rows s) a).to))),phG (w&&(I==true)) (phX (.pointer (some ⟨E,0,none⟩))),phG (w&&(I==true)) (phX (vi ((ix (ix m.rows t) a).to))),phG (w&&(I==true)) (phP jl (ix (ix marked ((ix (ix m.rows s) a).to)) ((ix (ix m.rows t) a).to))),phG (w&&(I==true)) (phX (.bool (ix (ix marked ((ix (ix m.rows s) a).to)) ((ix (ix m.rows t) a).to)))),phG w (phX (.bool G1)),phX (.bool ((decide (((ix (ix m.rows s) a).out)≠((ix (ix m.rows t) a).out)))||G1))] mixed (by kernel_rfl) (ym ⟨zk,zk,zk,zk,zk,zk,(qi zk),(qi zk),(qi zk),(qi zk),(qi zk),(qi zk),(qi zk),(qi zk),(qi zk),(qi zk),(qi zk),(qi zk),(qi yl),(qi pq),(qi zk),(qi zk),(qi yl),(qi zk),(qi zk),zk,trivial⟩) ⟨?_,?_,?_,?_,?_,?_,?_,?_,?_,?_,?_,?_,?_,?_,?_,?_,?_,?_,?_,?_,?_,?_,?_,?_,?_,?_,trivial⟩ fun ce M=>?_
 intro l ar c f q;exact za rfl rfl rfl (zo (qb z8l (f 10 rfl)));rintro l au c f ⟨d,_⟩;exact za rfl rfl rfl (zo (qd (i:=0) ag3 (d rfl) rfl rfl));intro l av c f q;exact za rfl rfl rfl (zo (qb z8l (f 11 rfl)));rintro l aw c f ⟨d,_⟩
 exact za rfl rfl rfl (zo (qd (i:=1) ag3 (d rfl) rfl rfl));rintro l ax c f ⟨d,k,_⟩;exact za rfl rfl rfl (zo (vk (d rfl) (k rfl)));rintro l ay c f ⟨d,_⟩;exact za rfl rfl rfl (zo (zb (d rfl)));rintro l az c f ⟨d,_⟩
 exact zl (Gj:=true) (Bj:=decide (((ix (ix m.rows s) a).out)≠((ix (ix m.rows t) a).out))) rfl rfl rfl (jc (d rfl)) rfl (fun u p=>zo (qb o8 (f 10 rfl)));rintro l aA c f ⟨d,k,_⟩
 exact zl (Gj:=true) (Bj:=decide (((ix (ix m.rows s) a).out)≠((ix (ix m.rows t) a).out))) rfl rfl rfl (jc (k rfl)) rfl (fun u p=>zo (qd (i:=0) ag3 (show l 40=(.pointer (some ⟨C,0,none⟩)) from(d rfl).1 (zm rfl p)) rfl rfl));rintro l aB c f ⟨d,k,_⟩
 exact zl (Gj:=true) (Bj:=decide (((ix (ix m.rows s) a).out)≠((ix (ix m.rows t) a).out))) rfl rfl rfl (jc (k rfl)) rfl (fun u p=>zo (z2z (show l 41=(vi ((ix (ix m.rows s) a).to)) from(d rfl).1 (zm rfl p)) rfl));rintro l aC c f ⟨d,k,F,_⟩
 exact zl (Gj:=true) (Bj:=decide (((ix (ix m.rows s) a).out)≠((ix (ix m.rows t) a).out))) rfl rfl rfl (jc (k rfl)) rfl (fun u p=>zo (zb (show l 42=(.bool (decide (0≤((ix (ix m.rows s) a).to)))) from(d rfl).1 (zm rfl p))));rintro l X c f ⟨d,_⟩
 exact zl (Gj:=w) (Bj:=decide (0≤((ix (ix m.rows s) a).to))) rfl rfl rfl (d rfl) rfl (fun u p=>zo (qb o8 (f 11 rfl)));rintro l Y c f ⟨d,k,_⟩
 exact zl (Gj:=w) (Bj:=decide (0≤((ix (ix m.rows s) a).to))) rfl rfl rfl (k rfl) rfl (fun u p=>zo (qd (i:=1) ag3 (show l 44=(.pointer (some ⟨E,0,none⟩)) from(d rfl).1 (zm u p)) rfl rfl));rintro l Z c f ⟨d,k,_⟩
 exact zl (Gj:=w) (Bj:=decide (0≤((ix (ix m.rows s) a).to))) rfl rfl rfl (k rfl) rfl (fun u p=>zo (z2z (show l 45=(vi ((ix (ix m.rows t) a).to)) from(d rfl).1 (zm u p)) rfl));rintro l aa c f ⟨d,k,F,_⟩
 exact zl (Gj:=true) (Bj:=decide (((ix (ix m.rows s) a).out)≠((ix (ix m.rows t) a).out))) rfl rfl rfl (jc (F rfl)) rfl (fun u p=>zo (wu (show l 43=(.bool (decide (0≤((ix (ix m.rows s) a).to)))) from(d rfl).1 (zm rfl p)) (fun hb=>(show l 46=(.bool (decide (0≤((ix (ix m.rows t) a).to)))) from(k rfl).1 (zm (zm rfl p) hb))) rfl))
 rintro l ab c f ⟨d,k,F,_⟩;exact zl (Gj:=true) (Bj:=decide (((ix (ix m.rows s) a).out)≠((ix (ix m.rows t) a).out))) rfl rfl rfl (jc (F rfl)) rfl (fun u p=>zo (zb (show l 47=(.bool I) from(d rfl).1 (zm rfl p))));rintro l ac c f ⟨d,_⟩
 exact zl (Gj:=w) (Bj:=(decide (0≤((ix (ix m.rows s) a).to)))&&(decide (0≤((ix (ix m.rows t) a).to)))) rfl rfl rfl (d rfl) rfl (fun u p=>zo (zb (f 1 rfl)));rintro l ad c f ⟨d,_⟩
 exact zl (Gj:=w) (Bj:=(decide (0≤((ix (ix m.rows s) a).to)))&&(decide (0≤((ix (ix m.rows t) a).to)))) rfl rfl rfl (d rfl) rfl (fun u p=>zo (qb o8 (f 10 rfl)));rintro l ae c f ⟨d,k,_⟩
 exact zl (Gj:=w) (Bj:=(decide (0≤((ix (ix m.rows s) a).to)))&&(decide (0≤((ix (ix m.rows t) a).to)))) rfl rfl rfl (k rfl) rfl (fun u p=>zo (qd (i:=0) ag3 (show l 50=(.pointer (some ⟨C,0,none⟩)) from(d rfl).1 (zm u p)) rfl rfl));rintro l af c f ⟨d,k,F,_⟩
 exact zl (Gj:=w) (Bj:=(decide (0≤((ix (ix m.rows s) a).to)))&&(decide (0≤((ix (ix m.rows t) a).to)))) rfl rfl rfl (F rfl) rfl (fun u p=>wz (i:=((ix (ix m.rows s) a).to).toNat) zlx (show l 49=o from(d rfl).1 (zm u p)) (j3 ((H.mono ((Q.trans z).trans K)).mono c)) (zf (show l 51=(vi ((ix (ix m.rows s) a).to)) from(k rfl).1 (zm u p)) (ah (zm u p)).1) (zz (ah (zm u p))))
 rintro l ag c f ⟨d,k,_⟩;exact zl (Gj:=w) (Bj:=(decide (0≤((ix (ix m.rows s) a).to)))&&(decide (0≤((ix (ix m.rows t) a).to)))) rfl rfl rfl (k rfl) rfl (fun u p=>u7 zi5 rfl ((d rfl).1 (zm u p)));rintro l a7 c f ⟨d,_⟩
 exact zl (Gj:=w) (Bj:=(decide (0≤((ix (ix m.rows s) a).to)))&&(decide (0≤((ix (ix m.rows t) a).to)))) rfl rfl rfl (d rfl) rfl (fun u p=>zo (qb o8 (f 11 rfl)));rintro l a8 c f ⟨d,k,_⟩
 exact zl (Gj:=w) (Bj:=(decide (0≤((ix (ix m.rows s) a).to)))&&(decide (0≤((ix (ix m.rows t) a).to)))) rfl rfl rfl (k rfl) rfl (fun u p=>zo (qd (i:=1) ag3 (show l 54=(.pointer (some ⟨E,0,none⟩)) from(d rfl).1 (zm u p)) rfl rfl));rintro l a9 c f ⟨d,k,F,_⟩
 exact zl (Gj:=w) (Bj:=(decide (0≤((ix (ix m.rows s) a).to)))&&(decide (0≤((ix (ix m.rows t) a).to)))) rfl rfl rfl (F rfl) rfl (fun u p=>wz (i:=((ix (ix m.rows t) a).to).toNat) z5h rfl (j3 ((d rfl).1 (zm u p))) (zf (show l 55=(vi ((ix (ix m.rows t) a).to)) from(k rfl).1 (zm u p)) (ai (zm u p)).1) (zz (ai (zm u p))))
 rintro l ba c f ⟨d,k,_⟩;exact zl (Gj:=w) (Bj:=(decide (0≤((ix (ix m.rows s) a).to)))&&(decide (0≤((ix (ix m.rows t) a).to)))) rfl rfl rfl (k rfl) rfl (fun u p=>uo (u7 ty4 rfl ((d rfl).1 (zm u p))) (fun _ _ h=>uj.1 h));rintro l bb c f ⟨d,k,F,_⟩
 exact zl (Gj:=true) (Bj:=decide (((ix (ix m.rows s) a).out)≠((ix (ix m.rows t) a).out))) rfl rfl rfl (jc (F rfl)) rfl (fun u p=>zo (wu (show l 48=(.bool I) from(d rfl).1 (zm rfl p)) (fun hb=>(show l 57=(.bool (ix (ix marked ((ix (ix m.rows s) a).to)) ((ix (ix m.rows t) a).to))) from(k rfl).1 (zm (zm rfl p) hb))) rfl))
 rintro l bc c f ⟨d,k,_⟩;exact za rfl rfl rfl (zo (z0l (d rfl) rfl (fun hb=>(show l 58=(.bool G1) from(k rfl).1 (zm rfl hb)))));intro cf aY cg aZ ch a0 ci a1 cj a2 ck a3 cl cm cn co cp cq cr cs ct cv cw cx cy cz cA cB cC cD be bf bg bh bi bj bk bl bm bn bo bp bq br bs bt bu bv bw bx bz ak
 obtain rfl:=Eq.symm aY;obtain rfl:=Eq.symm aZ;obtain rfl:=Eq.symm a0;obtain rfl:=Eq.symm a1;obtain rfl:=Eq.symm a2;obtain rfl:=Eq.symm a3;obtain rfl:=Eq.symm ak;refine z8 (zu rfl j (fun j=>?_) (fun j=>?_));refine zn (zi (vi 1) (z8 (qx ?_)));replace B:=z3f j B;obtain rfl:=Option.some.inj B
 refine qc (D:=[]) (J:=[box C [(vi ((ix (ix m.rows s) a).to)),(vi ((ix (ix m.rows s) a).out))] 100,box E [(vi ((ix (ix m.rows t) a).to)),(vi ((ix (ix m.rows t) a).out))] 100]) (rs:=[.tmp 8]) (vs:=[(vi 1)]) (((Q.trans z).trans K).trans M) rfl rfl ⟨rfl,trivial⟩ ?_;exact⟨rfl,rfl⟩
 refine q9 (zx (zg (vi a) ?_));obtain⟨al,j⟩:=ze j;refine zt (qz rfl rfl al) (zi (vi (a+1)) (z8 ?_))
 exact⟨dkt,(K.trans M),jd,(L,a+1),Nat.lt_succ_self _,⟨rfl,trivial⟩,⟨[box C [(vi ((ix (ix m.rows s) a).to)),(vi ((ix (ix m.rows s) a).out))] 100,box E [(vi ((ix (ix m.rows t) a).to)),(vi ((ix (ix m.rows t) a).out))] 100],(List.Perm.refl _)⟩,j,trivial⟩;refine jf ?_
 exact⟨dkt,z,jd,(),trivial,prm,(Option.some.inj j).symm,trivial⟩;rintro o6 bA R8 a4 ⟨rfl,_⟩;replace B:=z5c B;refine zn (zi (vi 0) (z8 (qx ?_)));obtain rfl:=Option.some.inj B;refine qc (D:=[]) (J:=[]) (rs:=[.tmp 8]) (vs:=[(vi 0)]) (Q.trans a4) rfl rfl ⟨rfl,trivial⟩ ?_;exact⟨rfl,rfl⟩
theorem qal:Enters prog 88:=enters_of func88 rfl (by kernel_rfl)
theorem q49:ZeroOk prog 64 tHdr vs0 24:=by
 obtain⟨i,zv,hi,a,c,d,f⟩:=z6b (P:=prog) (e:=64) (zv:=vs0) (k:=1) (b:=24) (by kernel_rfl);exact⟨i,zv,hi,a,c,d,fun R=>by subst f;exact⟨rfl,rfl⟩⟩
theorem zdq{N:Nat}{R:RH}{m:Mach}{L:Value}(aG:VRep (je false false) R L m){k:Int}{r:(List (List Bool))}(Y:z19 N m k=some r):CallP prog 68 #[L,(vi k)] R (fun v R'=>VRep (tSl false (tSl true jl)) R' v r):=by
 refine qf (args:=[L,(vi k)]) func68 rfl rfl fun A=>?_;rw [z19] at Y;refine zn (jy (T:=(je false false)) rfl rfl rfl aG fun v1 R3 aH h5 h2=>?_);refine zi vs0 (qw (jg rfl uy u6 rfl h2 fun v6 h7=>?_));refine qo rfl z1z rfl h7 fun v8 h9=>?_
 refine zt (qj rfl underlying30 rfl (j3 h9)) (zi (vi (↑m.rows.length:Int)) (qw (zi vs0 (z8 ?_))));obtain⟨ab,f,Y⟩:=zq Y;refine qm (γ:=(List (List Bool))×Value×Frag) (rs [6,8,15,25]) (fun g=>[(6,g.2.1)]) (fun g=>[g.2.2]++A) (fun g R=>ab=g.1∧NRep true jl R g.2.2 g.2.1 g.1∧True) ?_ ?_
 refine zn (zi (vi 0) (z8 (zy (z2m ?_))))
 refine ja (γ:=Nat×(List (List Bool))×Int×Value×Frag) (rs [6,8,15,25]) (fun g=>[(6,g.2.2.2.1),(7,(vi g.2.2.1))]) (fun g=>[g.2.2.2.2]++A) (fun g R=>gm N m g.1 g.2.1 g.2.2.1=some ab∧NRep true jl R g.2.2.2.2 g.2.2.2.1 g.2.1∧True) (fun g=>g.1) (N,[],0,vs0,emp) prm ⟨f,(lc (zto (t:=true) (T:=jl) (R:=R3))),trivial⟩ ?_
 clear f;rintro⟨ar,au,ac,aQ,aR⟩ cU cV aS ⟨f,⟨bv,aT⟩,_⟩;rcases ar with _|ar;exact qp f;replace f:gm N m (ar+1) au ac=some ab:=f;rw [gm] at f
 refine qa (zn (zg (vi ac) (zg (vi (↑m.rows.length:Int)) (zt (j5 rfl rfl) (z8 (zu rfl f (fun f=>?_) (fun f=>?_)))))));refine q9 (qa (zy (zx (zg aQ (zg (vi (↑m.rows.length:Int)) ?_)))));obtain⟨av,f⟩:=ze f
 refine z2y (T:=jl) (m:=(↑m.rows.length:Int).toNat) (c:=(↑m.rows.length:Int).toNat) rfl underlying64 zo4 (zf rfl av.1) (zf rfl av.1) (Nat.le_refl _) (z3s av) (z3u av) fun aw bw aI aJ=>?_
 refine z8j rfl (z5v (T:=tHdr) (X:=[aw]) (ps:=[(0,aw)]) (css:=[[aw]]) underlying121 q49 rfl (by simp only [List.map_cons,List.map_nil,aj aJ];rfl) (kw ⟨zqi (yj aJ),trivial⟩) rfl rfl (by decide)) fun cW cX ad bx=>?_;obtain⟨aU,f⟩:=ze f
 refine zqb (Oc:=[aR,bw]) (Or:=[]++A) rfl (pk 1 rfl (pk 0 rfl (List.Perm.refl _))) (zfh underlying121 q49 rfl rfl (aT.mono ad) (aJ.mono ad) (j3 bx) (fun _=>(aI.trans List.length_replicate.symm)) aU.1 aU.2) ?_;rintro aK cY bQ bR ⟨rfl,aV,rfl,aL⟩;replace aL:N2 true jl _ aV aK (bv++[aw]) (au++[(mk (↑m.rows.length:Int) false)]):=aL
 refine zi aK (z8 (zx (zg (vi ac) ?_)));obtain⟨bz,f⟩:=ze f;refine zt (qz rfl rfl bz) (zi (vi (ac+1)) (z8 ?_));exact⟨dkt,ad,jd,(ar,(au++[(mk (↑m.rows.length:Int) false)]),ac+1,aK,aV),Nat.lt_succ_self _,⟨rfl,rfl,trivial⟩,prm,f,(lc aL),trivial⟩;refine jf ?_
 exact⟨dkt,aS,jd,(au,aQ,aR),⟨rfl,trivial⟩,prm,(Option.some.inj f).symm,(lc aT),trivial⟩;rintro⟨ab,bA,bB⟩ cZ c0 O ⟨rfl,⟨c1,bC⟩,_⟩;obtain⟨ae,f,Y⟩:=zq Y
 refine qm (γ:=(List (List Bool))×Value×Frag) (rs [6,7,8,12,25,67]) (fun g=>[(6,g.2.1)]) (fun g=>[g.2.2]++A) (fun g R=>ae=g.1∧NRep true jl R g.2.2 g.2.1 g.1∧True) ?_ ?_
 refine zn (zi (vi 0) (z8 (zy (ja (γ:=Nat×(List (List Bool))×Int×Value×Frag) (rs [6,7,8,12,25,67]) (fun g=>[(6,g.2.2.2.1),(8,(vi g.2.2.1))]) (fun g=>[g.2.2.2.2]++A) (fun g R=>gz N m k g.1 g.2.1 g.2.2.1=some ae∧NRep true jl R g.2.2.2.2 g.2.2.2.1 g.2.1∧True) (fun g=>g.1) (N,ab,0,bA,bB) prm ⟨f,(lc bC),trivial⟩ ?_))))
 clear f;rintro⟨ax,q,af,G,M⟩ bS bD P ⟨f,⟨aM,Z⟩,_⟩;rcases ax with _|ax;exact qp f;replace f:gz N m k (ax+1) q af=some ae:=f;rw [gz] at f;refine qa (zn (zg (vi af) (zg (vi k) (zt (j5 rfl rfl) (z8 (zu rfl f (fun f=>?_) (fun f=>?_)))))))
 refine q9 (qa (zy (zn (zi vs0 (z8 ?_)))));obtain⟨ag,w,f⟩:=zq f;refine qm (γ:=(List (List Bool))×Value×Frag) (rs [9,12,30,66]) (fun g=>[(9,g.2.1)]) (fun g=>[g.2.2]++A) (fun g R=>ag=g.1∧NRep true jl R g.2.2 g.2.1 g.1∧True) ?_ ?_;refine zn (zi (vi 0) (z8 (zy (z2m ?_))))
 refine ja (γ:=Nat×(List (List Bool))×Int×Value×Frag) (rs [9,12,30,66]) (fun g=>[(9,g.2.2.2.1),(10,(vi g.2.2.1))]) (fun g=>[M,g.2.2.2.2]++A) (fun g R=>gu N m q g.1 g.2.1 g.2.2.1=some ag∧NRep true jl R g.2.2.2.2 g.2.2.2.1 g.2.1∧True) (fun g=>g.1) (N,[],0,vs0,emp) ⟨[],(pk 1 rfl (pk 0 rfl (List.Perm.refl _)))⟩ ⟨w,(lc (zto (t:=true) (T:=jl) (R:=bD))),trivial⟩ ?_
 clear w;rintro⟨ay,az,d,aW,aX⟩ bT c2 y ⟨w,⟨bE,aY⟩,_⟩;rcases ay with _|ay;exact qp w;replace w:gu N m q (ay+1) az d=some ag:=w;rw [gu] at w
 refine qa (zn (zg (vi d) (zg (vi (↑m.rows.length:Int)) (zt (j5 rfl rfl) (z8 (zu rfl w (fun w=>?_) (fun w=>?_)))))));refine q9 ?_;obtain⟨ah,o,w⟩:=zq w
 refine qm (γ:=(List (List Bool))×Value×Frag) (rs [9,10,11,12,35,66]) (fun g=>[(9,g.2.1)]) (fun g=>[M,g.2.2]++A) (fun g R=>ah=g.1∧NRep true jl R g.2.2 g.2.1 g.1∧True) ?_ ?_;refine zy (zn (zg aW (zg (vi (↑m.rows.length:Int)) ?_)));obtain⟨Q,o⟩:=ze o
 refine z2y (T:=jl) (m:=(↑m.rows.length:Int).toNat) (c:=(↑m.rows.length:Int).toNat) rfl underlying64 zo4 (zf rfl Q.1) (zf rfl Q.1) (Nat.le_refl _) (z3s Q) (z3u Q) fun S aZ aA ai=>?_
 refine z8j rfl (z5v (T:=tHdr) (X:=[S]) (ps:=[(0,S)]) (css:=[[S]]) underlying121 q49 rfl (by simp only [List.map_cons,List.map_nil,aj ai];rfl) (kw ⟨zqi (yj ai),trivial⟩) rfl rfl (by decide)) fun bU bV p a0=>?_;obtain⟨aC,o⟩:=ze o
 refine zqb (Oc:=[aX,aZ]) (Or:=[M]++A) rfl (pk 2 rfl (pk 0 rfl (pk 0 rfl (List.Perm.refl _)))) (zfh underlying121 q49 rfl rfl (aY.mono p) (ai.mono p) (j3 a0) (fun _=>(aA.trans List.length_replicate.symm)) aC.1 aC.2) ?_;rintro E bW bF bG ⟨rfl,aD,rfl,ak⟩
 replace ak:N2 true jl _ aD E (bE++[S]) (az++[(mk (↑m.rows.length:Int) false)]):=ak
 refine zi E (qw (zi (vi 0) (z8 (zy (ja (γ:=Nat×Int×(List (List Bool))×Frag) (rs [11,12,40,66]) (fun g=>[(11,(vi g.2.1))]) (fun g=>[M,g.2.2.2]++A) (fun g R=>gp N m q d g.1 g.2.1 g.2.2.1=some ah∧NRep true jl R g.2.2.2 E g.2.2.1∧True) (fun g=>g.1) (N,0,(az++[(mk (↑m.rows.length:Int) false)]),aD) ⟨[],(pk 1 rfl (pk 0 rfl (List.Perm.refl _)))⟩ ⟨o,(lc ak),trivial⟩ ?_)))))
 clear o;rintro⟨U,a,F,aE⟩ bX bY s ⟨o,⟨V,H⟩,_⟩;rcases U with _|U;exact qp o;replace o:gp N m q d (U+1) a F=some ah:=o;rw [gp] at o
 refine qa (zn (zg (vi a) (zg (vi (↑m.rows.length:Int)) (zt (j5 rfl rfl) (z8 (zu rfl o (fun o=>?_) (fun o=>?_)))))));refine q9 (qa (zy ?_));obtain⟨I,K,al,o⟩:=q20 o;obtain⟨C,a1,o⟩:=zq o;obtain⟨am,o⟩:=ze o
 let G1:=(true&&((ix (ix q d) a)==false))
 refine cu 21 [] [phX E,phX (vi d),(fun u _=>z4l tHdr E V u d.toNat),phX (V.getD d.toNat default),phX (vi a),phX G,phX (vi d),(fun u _=>z4l tHdr G aM u d.toNat),phX (aM.getD d.toNat default),phX (vi a),(fun u _=>z4l jl (aM.getD d.toNat default) (q.getD d.toNat default) u a.toNat),phX (.bool (ix (ix q d) a)),phX (.bool (ix (ix q d) a)),phG G1 (phX L),phG G1 (phX G),phG G1 (phX (vi d)),phG G1 (phX (vi a)),phG G1 (phX (vi (C.getD default))),phG G1 (phX (.bool (decide ((C.getD default)=1)))),phX (.bool ((ix (ix q d) a)||(decide ((C.getD default)=1)))),(fun u _=>z4l jl (V.getD d.toNat default) (F.getD d.toNat default) u a.toNat)] mixed (by kernel_rfl) (ym ⟨zk,zk,(fun _ _ _ _ h=>h),zk,zk,zk,zk,(fun _ _ _ _ h=>h),zk,zk,(fun _ _ _ _ h=>h),zk,zk,(qi zk),(qi zk),(qi zk),(qi zk),(qi zk),(qi zk),zk,(fun _ _ _ _ h=>h),trivial⟩) ⟨?_,?_,?_,?_,?_,?_,?_,?_,?_,?_,?_,?_,?_,?_,?_,?_,?_,?_,?_,?_,?_,trivial⟩ fun bZ an=>?_
 intro l c3 n x hd;exact za rfl rfl rfl (zo (zb (x 9 rfl)));intro l a3 n x hd;exact za rfl rfl rfl (zo (zb (x 10 rfl)));rintro l c4 n x ⟨z,d1,_⟩;exact za rfl rfl rfl (zfq (i:=d.toNat) (zk4 (b:=true) zlx) (z rfl) (H.mono n) (zf (d1 rfl) I.1) (zz I));rintro l c5 n x ⟨z,_⟩
 exact za rfl rfl rfl (zij (i:=d.toNat) (j:=1) (zgz (b:=true) zi5) (H.mono n) rfl rfl (z rfl) (zz I));intro l c6 n x hd;exact za rfl rfl rfl (zo (zb (x 11 rfl)));intro l c7 n x hd;exact za rfl rfl rfl (zo (zb (x 6 rfl)));intro l c8 n x hd;exact za rfl rfl rfl (zo (zb (x 10 rfl)))
 rintro l c9 n x ⟨z,d1,_⟩;exact za rfl rfl rfl (zfq (i:=d.toNat) (zk4 (b:=true) zlx) (z rfl) ((Z.mono ((y.trans p).trans s)).mono n) (zf (d1 rfl) K.1) (zz K));rintro l da n x ⟨z,_⟩
 exact za rfl rfl rfl (zij (i:=d.toNat) (j:=0) (zgz (b:=true) zi5) ((Z.mono ((y.trans p).trans s)).mono n) rfl rfl (z rfl) (zz K));intro l db n x hd;exact za rfl rfl rfl (zo (zb (x 11 rfl)));rintro l b0 n x ⟨z,d1,_⟩
 exact za rfl rfl rfl (zdh (i:=a.toNat) (r:=d.toNat) z5h ((Z.mono ((y.trans p).trans s)).mono n) (zz K) (z rfl) (zf (d1 rfl) al.1) (zz al));rintro l b1 n x ⟨z,_⟩
 exact za rfl rfl rfl (uo (zz6 (i:=a.toNat) (r:=d.toNat) (j:=0) ty4 ((Z.mono ((y.trans p).trans s)).mono n) (zz K) rfl rfl (z rfl) (zz al)) (fun _ _ h=>uj.1 h));rintro l b2 n x ⟨z,_⟩;exact za rfl rfl rfl (zo (zb (z rfl)));rintro l b3 n x ⟨z,_⟩
 exact zl (Gj:=true) (Bj:=(ix (ix q d) a)) rfl rfl rfl (jc (z rfl)) rfl (fun hG hB=>zo (jh fe rfl (x 2 rfl) ((h5.mono ((((O.trans P).trans y).trans p).trans s)).mono n) ((aG.mono (((((aH.trans O).trans P).trans y).trans p).trans s)).mono n)));rintro l b4 n x ⟨z,_⟩
 exact zl (Gj:=true) (Bj:=(ix (ix q d) a)) rfl rfl rfl (jc (z rfl)) rfl (fun hG hB=>zo (zb (x 6 rfl)));rintro l b5 n x ⟨z,_⟩;exact zl (Gj:=true) (Bj:=(ix (ix q d) a)) rfl rfl rfl (jc (z rfl)) rfl (fun hG hB=>zo (zb (x 10 rfl)));rintro l b6 n x ⟨z,_⟩
 exact zl (Gj:=true) (Bj:=(ix (ix q d) a)) rfl rfl rfl (jc (z rfl)) rfl (fun hG hB=>zo (zb (x 11 rfl)));rintro l W n x ⟨z,d1,d2,d3,d4,d5,_⟩;have a4:phG G1 (phX L) (l 58) W:=z rfl;have a5:phG G1 (phX G) (l 59) W:=d1 rfl;have a6:phG G1 (phX (vi d)) (l 60) W:=d2 rfl
 have a7:phG G1 (phX (vi a)) (l 61) W:=d3 rfl
 exact zl (Gj:=true) (Bj:=(ix (ix q d) a)) rfl rfl rfl (jc (d4 rfl)) rfl (fun hG hB=>zlh (cs:=[]) (vs:=[L,G,(vi d),(vi a)]) (φ:=fun v=>v=(vi (C.getD default))) qal rfl (by simp only [List.map,ev,(show l 58=L from a4.1 (zm rfl hB)),(show l 59=G from a5.1 (zm rfl hB)),(show l 60=(vi d) from a6.1 (zm rfl hB)),(show l 61=(vi a) from a7.1 (zm rfl hB))]<;>rfl) (fun a3 a8 llq=>(by have bH:=(lv a1 (zm hG hB));exact zed (((aG.mono (((((aH.trans O).trans P).trans y).trans p).trans s)).mono n).mono a8) (Sub.v (B:=(tSl false (tSl false jl))) (kv (kv Sub.refl (fun _=>rfl)) (fun e=>e)) (z4s ((q6c 0 rfl ((lc (Z.mono ((y.trans p).trans s))).mono n) a8 llq):VRep (xm (tSl true jl)) a3 G q))) bH)))
 rintro l ca n x ⟨z,d1,_⟩;exact zl (Gj:=true) (Bj:=(ix (ix q d) a)) rfl rfl rfl (jc (d1 rfl)) rfl (fun hG hB=>zo (xy (show l 62=(vi (C.getD default)) from(z rfl).1 (zm rfl hB)) rfl));rintro l cb n x ⟨z,d1,_⟩
 exact za rfl rfl rfl (zo (z0l (z rfl) rfl (fun hb=>(show l 63=(.bool (decide ((C.getD default)=1))) from(d1 rfl).1 (zm rfl hb)))));rintro l cc n x ⟨z,d1,d2,d3,d4,d5,d6,d7,d8,d9,de,df,dg,dh,di,dj,dk,dl,dm,dn,dp,dq,_⟩
 exact za rfl rfl rfl (zdh (i:=a.toNat) (r:=d.toNat) z5h (H.mono n) (zz I) (z rfl) (zf (d1 rfl) am.1) (zz am));intro cd a9 ce ba cf cg ch bb ci bc cj be ck bf cl cm cn bg co bh cp cq cr bi ct bj cv cw cx cy cz cA cB cC cD cE cF cG cH bk cI bl
 obtain rfl:=Eq.symm a9;obtain rfl:=Eq.symm ba;obtain rfl:=Eq.symm bb;obtain rfl:=Eq.symm bc;obtain rfl:=Eq.symm be;obtain rfl:=Eq.symm bf;obtain rfl:=Eq.symm bg;obtain rfl:=Eq.symm bh;obtain rfl:=Eq.symm bi;obtain rfl:=Eq.symm bj;obtain rfl:=Eq.symm bk
 refine zlr (Oc:=[aE]) (Or:=[M]++A) (pk 1 rfl (pk 0 rfl (List.Perm.refl _))) (zuh (i:=a.toNat) (r:=d.toNat) ty4 (H.mono an) (zz I) rfl bl (zz am) rfl (uj.2 rfl)) ?_;rintro cJ cK bI bJ ⟨rfl,aF,rfl,ap⟩
 replace ap:N2 true jl _ aF E V (up F d (up (ix F d) a ((ix (ix q d) a)||(decide ((C.getD default)=1))))):=ap;refine z8 (zx (zg (vi a) ?_));obtain⟨bm,o⟩:=ze o;refine zt (qz rfl rfl bm) (zi (vi (a+1)) (z8 ?_))
 exact⟨dkt,an,jd,(U,a+1,(up F d (up (ix F d) a ((ix (ix q d) a)||(decide ((C.getD default)=1))))),aF),Nat.lt_succ_self _,⟨rfl,trivial⟩,⟨[],(pk 1 rfl (pk 0 rfl (List.Perm.refl _)))⟩,o,(lc ap),trivial⟩;refine jf ?_
 exact⟨dkt,(p.trans s),jd,(F,E,aE),⟨rfl,trivial⟩,prm,(Option.some.inj o).symm,(lc H),trivial⟩;rintro⟨ah,bK,bL⟩ cL dr bn ⟨rfl,⟨cM,bM⟩,_⟩;refine zx (zg (vi d) ?_);obtain⟨bo,w⟩:=ze w;refine zt (qz rfl rfl bo) (zi (vi (d+1)) (z8 ?_))
 exact⟨dkt,bn,jd,(ay,ah,d+1,bK,bL),Nat.lt_succ_self _,⟨rfl,rfl,trivial⟩,prm,w,(lc bM),trivial⟩;refine jf ?_;exact⟨dkt,y,jd,(az,aW,aX),⟨rfl,trivial⟩,⟨[M],(List.Perm.refl _)⟩,(Option.some.inj w).symm,(lc aY),trivial⟩;rintro⟨ag,aN,bN⟩ cN ds bp ⟨rfl,⟨dt,bO⟩,_⟩
 refine zx (zg aN (zi aN (z8 (zx (zg (vi af) ?_)))));obtain⟨bq,f⟩:=ze f;refine zt (qz rfl rfl bq) (zi (vi (af+1)) (z8 ?_));exact⟨dkt,bp,jd,(ax,ag,af+1,aN,bN),Nat.lt_succ_self _,⟨rfl,rfl,trivial⟩,prm,f,(lc bO),trivial⟩;refine jf ?_
 exact⟨dkt,P,jd,(q,G,M),⟨rfl,trivial⟩,prm,(Option.some.inj f).symm,(lc Z),trivial⟩;rintro⟨ae,aB,du⟩ cO dv br ⟨rfl,⟨dw,bP⟩,_⟩;refine zn (zg aB (zi aB (z8 (zm6 (i:=0) rfl (lc bP) fun bs aO bt=>?_))));have bu:VRep (tSl false (tSl true jl)) bs aB ae:=(z4s bt);refine qx ?_
 obtain rfl:=Option.some.inj Y;refine qc (D:=[]) (J:=[]) (rs:=[.tmp 4]) (vs:=[aB]) (((aH.trans O).trans br).trans aO) rfl rfl ⟨rfl,trivial⟩ ?_;exact⟨rfl,bu⟩
end GV
end Go.Proofs.YtplgbkaollfmkaaGreat
