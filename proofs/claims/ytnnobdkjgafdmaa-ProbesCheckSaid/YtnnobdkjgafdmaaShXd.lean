import Derived.Test.YtnnobdkjgafdmaaShWe
import Derived.Test.YtnnobdkjgafdmaaShXb
import Derived.Test.YtnnobdkjgafdmaaShXc
import Derived.Test.YtnnobdkjgafdmaaRows
set_option linter.unusedVariables false
set_option linter.unusedSimpArgs false
set_option linter.unusedSectionVars false
namespace Go.Proofs.Ytnnobdkjgafdmaa
namespace GV
open _root_.Go.Proofs.Try
open Go.IntWalk
set_option maxRecDepth 100000
set_option maxHeartbeats 20000000
theorem q4o{a b:Bool}:TyOk prog 27 (z02 a b):=by
 obtain⟨i,hi,c⟩: ∃ i,prog.info? 27=some i∧i.size=5:=uf (by kernel_rfl);exact z01 underlying27 hi rfl c
theorem zpc:FieldOk prog 27 0 0:=by
 obtain⟨i,hi,a⟩: ∃ i,prog.info? 25=some i∧i.size=5:=uf (by kernel_rfl);exact dm underlying27 rfl rfl hi (by rw [a];rfl)
theorem zqy:FieldOk prog 25 0 0:=by
 obtain⟨i,hi,a⟩: ∃ i,prog.info? 5=some i∧i.size=1:=uf (by kernel_rfl);exact dm underlying25 rfl rfl hi (by rw [a];rfl)
theorem ag5: ∀ w,(isAgg 5).run prog w= .ok false w:=fun w=>by kernel_rfl
theorem sz5: ∀ w,(sizeOf 5).run prog w= .ok 1 w:=fun w=>by kernel_rfl
theorem q56: ∀ w,(isAgg 25).run prog w= .ok true w:=fun w=>by kernel_rfl
theorem q5r: ∀ w,(sizeOf 25).run prog w= .ok 5 w:=fun w=>by kernel_rfl
theorem ty5:TyOk prog 5 (qf .u8):=by
 obtain⟨i,hi,a⟩: ∃ i,prog.info? 5=some i∧i.size=1:=uf (by kernel_rfl);exact z01 underlying5 hi rfl a
theorem q0f:FieldOk prog 25 1 1:=by
 obtain⟨i,hi,a⟩: ∃ i,prog.info? 5=some i∧i.size=1:=uf (by kernel_rfl);exact dm underlying25 rfl rfl hi (by rw [a];rfl)
theorem q0i:FieldOk prog 25 2 2:=by
 obtain⟨i,hi,a⟩: ∃ i,prog.info? 5=some i∧i.size=1:=uf (by kernel_rfl);exact dm underlying25 rfl rfl hi (by rw [a];rfl)
theorem zw9:FieldOk prog 25 4 4:=by
 obtain⟨i,hi,a⟩: ∃ i,prog.info? 23=some i∧i.size=1:=uf (by kernel_rfl);exact dm underlying25 rfl rfl hi (by rw [a];rfl)
theorem q41{a:Bool}:TyOk prog 23 (tSl a (qf .u16)):=by
 obtain⟨i,hi,b⟩: ∃ i,prog.info? 23=some i∧i.size=1:=uf (by kernel_rfl);exact z01 underlying23 hi rfl b
theorem q5h:SlOk prog 23 71 (qf .u16):=⟨underlying23,zsx⟩
theorem z5w{N:Nat}{R:RH}{d:(List Int)}{b:Value}(c:VRep (tSl false (qf .u16)) R b d){k:Int}{r:Int}(a:au N d k=some r):CallP prog 55 #[b,(vi k)] R (fun v R'=>v=(vi r)):=by
 refine qd (args:=[b,(vi k)]) func55 rfl rfl fun A=>?_;rw [au] at a;refine zl (zi (vi 0) (z8 (zt (zl (zg (vi k) (zg b (zm (qo rfl underlying23 rfl (j5 c)) (zm (j4 rfl rfl) (z8 (zu rfl a (fun a=>?_) (fun a=>?_)))))))))));refine zl (zg b (zg (vi k) ?_))
 obtain⟨e,a⟩:=zb a;refine kv (i:=k.toNat) rfl q5h rfl (j5 c) (zf rfl e.1) (zx e) fun j f=>?_;refine qh rfl zsx rfl f fun l g=>?_;obtain rfl:=jb.1 g;obtain⟨h,a⟩:=zb a;refine zm (z4u underlying71 underlying3 rfl h) (zi (vi (ix d k)) (z8 (qm ?_)));obtain rfl:=Option.some.inj a
 refine qa (D:=[]) (J:=[]) (rs:=[.tmp 4]) (vs:=[(vi (ix d k))]) (RH.le.refl _) rfl rfl ⟨rfl,trivial⟩ ?_;exact⟨rfl,rfl⟩;refine qb (zl (zi (vi 0) (z8 (qm ?_))));obtain rfl:=Option.some.inj a;refine qa (D:=[]) (J:=[]) (rs:=[.tmp 4]) (vs:=[(vi 0)]) (RH.le.refl _) rfl rfl ⟨rfl,trivial⟩ ?_;exact⟨rfl,rfl⟩
theorem q3k:Enters prog 55:=enters_of func55 rfl (by kernel_rfl)
theorem zx8:FieldOk prog 25 3 3:=by
 obtain⟨i,hi,a⟩: ∃ i,prog.info? 22=some i∧i.size=1:=uf (by kernel_rfl);exact dm underlying25 rfl rfl hi (by rw [a];rfl)
theorem q2l{a:Bool}:TyOk prog 22 (tSl a (qf .u8)):=by
 obtain⟨i,hi,b⟩: ∃ i,prog.info? 22=some i∧i.size=1:=uf (by kernel_rfl);exact z01 underlying22 hi rfl b
theorem q54:SlOk prog 22 5 (qf .u8):=⟨underlying22,ty5⟩
theorem zn6:z7u kEdge 0 (qf .i64) (fun(x:Edge) (y:Int)=>(⟨y,x.out⟩:Edge)):=q2k zpk (fun _ _=>rfl)
theorem zc0{N:Nat}{R:RH}{x:Sg}{bC:Value}(c4:VRep (pg false false) R bC x){r:Mach}(y:z0r N x=some r):CallP prog 30 #[bC] R (fun v R'=>VRep (jv false false) R' v r):=by
 refine qd (args:=[bC]) func30 rfl rfl fun A=>?_;rw [z0r] at y;refine zl (kz (T:=(pg false false)) rfl rfl rfl c4 fun v1 R3 c5 h5 h2=>?_);refine kw rfl zof fun b6=>?_;refine qy (j6 rfl zqy zc1 rfl h2 fun v8 h9=>?_);refine qh rfl ty5 rfl h9 fun fW c6=>?_;obtain rfl:=jb.1 c6
 obtain⟨c7,y⟩:=zb y;refine zm (z5t rfl rfl c7) ?_;obtain⟨c8,y⟩:=zb y;refine zm (z4u underlying5 underlying3 rfl c8) ?_;obtain⟨c9,y⟩:=zb y;refine zm (ji rfl rfl c9) (zi (vi ((1:Int)+(x.fG%6))) (qy (j6 rfl q0f zcb rfl h2 fun fX da=>?_)))
 refine qh rfl ty5 rfl da fun fY db=>?_;obtain rfl:=jb.1 db;obtain⟨dc,y⟩:=zb y;refine zm (z5t rfl rfl dc) ?_;obtain⟨dd,y⟩:=zb y;refine zm (z4u underlying5 underlying3 rfl dd) ?_;obtain⟨de,y⟩:=zb y;refine zm (ji rfl rfl de) (j6 rfl q0i zcm rfl h2 fun fZ df=>?_)
 refine qh rfl ty5 rfl df fun f0 dg=>?_;obtain rfl:=jb.1 dg;obtain⟨dh,y⟩:=zb y;refine zm (z5t rfl rfl dh) ?_;obtain⟨di,y⟩:=zb y;refine zm (z4u underlying5 underlying3 rfl di) ?_;obtain⟨dj,y⟩:=zb y
 refine zm (ji rfl rfl dj) (zm (xn (ps:=[(0,(vi ((1:Int)+(x.fE%3)))),(1,(vi ((1:Int)+(x.fF%3))))]) (v:=(.agg #[(vi ((1:Int)+(x.fE%3))),(vi ((1:Int)+(x.fF%3))),vs0])) rfl (fun w=>by kernel_rfl)) (kw rfl zof fun q=>?_))
 refine jy (i:=0) (vs:=[(vi ((1:Int)+(x.fE%3))),(vi ((1:Int)+(x.fF%3))),vs0]) z8w rfl rfl rfl rfl rfl rfl (qc rfl (qc rfl (qc rfl kg))) ?_;refine z8 ?_;obtain⟨aD,c,y⟩:=zq y
 refine qx (γ:=(List (List Edge))×Value×Frag) (rs [5,9,31,67]) (fun g=>[]) (fun g=>[box b6 [(vi 0),(vi 0),vs0] 30,box q [(vi ((1:Int)+(x.fE%3))),(vi ((1:Int)+(x.fF%3))),g.2.1] 30,g.2.2]++A) (fun g R=>aD=g.1∧NRep false kEdge R g.2.2 g.2.1 g.1∧True) ?_ ?_
 refine zl (zi (vi 0) (z8 (zw (z4h ?_))))
 refine je (γ:=Nat×Int×(List (List Edge))×Value×Frag) (rs [5,9,31,67]) (fun g=>[(5,(vi g.2.1))]) (fun g=>[box b6 [(vi 0),(vi 0),vs0] 30,box q [(vi ((1:Int)+(x.fE%3))),(vi ((1:Int)+(x.fF%3))),g.2.2.2.1] 30,g.2.2.2.2]++A) (fun g R=>yt N x g.1 g.2.1 g.2.2.1=some aD∧NRep false kEdge R g.2.2.2.2 g.2.2.2.1 g.2.2.1∧True) (fun g=>g.1) (N,0,[],vs0,emp) ⟨[],(pk 2 rfl (pk 1 rfl (pk 0 rfl (List.Perm.refl _))))⟩ ⟨c,(nz (zqv (t:=false) (T:=kEdge) (R:=R3))),trivial⟩ ?_
 clear c;rintro⟨a7,ad,a8,a9,ba⟩ ee f1 bf ⟨c,⟨dk,bL⟩,_⟩;rcases a7 with _|a7;exact qw c;replace c:yt N x (a7+1) ad a8=some aD:=c;rw [yt] at c
 refine zt (zl (zg (vi ad) (zg (vi ((1:Int)+(x.fG%6))) (zm (j4 rfl rfl) (z8 (zu rfl c (fun c=>?_) (fun c=>?_)))))));refine qb (zt (zw (zl (zi vs0 (z8 ?_)))));obtain⟨aB,a,c⟩:=zq c
 refine qx (γ:=(List Edge)×Value×Frag) (rs [6,9,36,61]) (fun g=>[(6,g.2.1)]) (fun g=>[box b6 [(vi 0),(vi 0),vs0] 30,box q [(vi ((1:Int)+(x.fE%3))),(vi ((1:Int)+(x.fF%3))),a9] 30,ba,g.2.2]++A) (fun g R=>aB=g.1∧ORep kEdge R g.2.2 g.2.1 g.1∧True) ?_ ?_
 refine zl (zi (vi 0) (z8 (zw (z4h ?_))))
 refine je (γ:=Nat×(List Edge)×Int×Value×Frag) (rs [6,9,36,61]) (fun g=>[(6,g.2.2.2.1),(7,(vi g.2.2.1))]) (fun g=>[box b6 [(vi 0),(vi 0),vs0] 30,box q [(vi ((1:Int)+(x.fE%3))),(vi ((1:Int)+(x.fF%3))),a9] 30,ba,g.2.2.2.2]++A) (fun g R=>xx N x ad g.1 g.2.1 g.2.2.1=some aB∧ORep kEdge R g.2.2.2.2 g.2.2.2.1 g.2.1∧True) (fun g=>g.1) (N,[],0,vs0,emp) ⟨[],(pk 1 rfl (pk 1 rfl (pk 1 rfl (pk 0 rfl (List.Perm.refl _)))))⟩ ⟨a,(z14 (T:=kEdge)),trivial⟩ ?_
 clear a;rintro⟨bb,bc,aC,bM,dl⟩ ef f2 bg ⟨a,bN,_⟩;rcases bb with _|bb;exact qw a;replace a:xx N x ad (bb+1) bc aC=some aB:=a;rw [xx] at a
 refine zt (zl (zg (vi aC) (zm (qi z1o rfl) (zm (qj (i:=1) ag3 rfl rfl rfl) (zm (j4 rfl rfl) (z8 (zu rfl a (fun a=>?_) (fun a=>?_))))))));refine qb (zt (zw (zl (j6 rfl zw9 z7i rfl (h2.mono (bf.trans bg)) fun f3 dm=>?_))));refine qh rfl q41 rfl dm fun f4 dn=>?_
 refine zg (vi ad) (zm (qi z1o rfl) (zm (qj (i:=1) ag3 rfl rfl rfl) ?_));obtain⟨dp,a⟩:=zb a;refine zm (zmd rfl rfl dp) (zg (vi aC) ?_);obtain⟨dq,a⟩:=zb a;refine zm (ji rfl rfl dq) ?_;obtain⟨S,dr,a⟩:=zq a;refine jf rfl q3k rfl (z5w dn dr) fun f5 f6 bh ds=>?_
 obtain rfl:=ds;refine zi (vi S) (z8 ?_);obtain⟨dt,du,a⟩:=zwe a;let G1:=([(⟨(-1),(S/((1:Int)+(x.fG%6)))%((1:Int)+(x.fF%3))⟩:Edge)]:List Edge)
 refine dz 9 [] [phX bM,phX (vi S),phX (vi ((1:Int)+(x.fG%6))),phX (vi (S/((1:Int)+(x.fG%6)))),phX (.pointer (some ⟨q,1,none⟩)),phX (vi ((1:Int)+(x.fF%3))),phX (vi ((S/((1:Int)+(x.fG%6)))%((1:Int)+(x.fF%3)))),phX (.agg #[(vi (-1)),(vi ((S/((1:Int)+(x.fG%6)))%((1:Int)+(x.fF%3))))]),phR (tSl true kEdge) G1] mixed (by kernel_rfl) (gu ⟨zo,zo,zo,zo,zo,zo,zo,zo,yz,trivial⟩) ⟨?_,?_,?_,?_,?_,?_,?_,?_,?_,trivial⟩ fun f7 bj=>?_
 intro l dv n F hd;exact za rfl rfl rfl (zz (ze (F 6 rfl)));intro l dw n F hd;exact za rfl rfl rfl (zz (ze (F 8 rfl)));intro l dx n F hd;exact za rfl rfl rfl (zz (ze (F 3 rfl)));rintro l dy n F ⟨O,d1,_⟩;exact za rfl rfl rfl (zz (zi7 (O rfl) (d1 rfl) dt));intro l dA n F hd
 exact za rfl rfl rfl (zz (qi zba (F 4 rfl)));rintro l dB n F ⟨O,_⟩;have bE:=O rfl;exact za rfl rfl rfl (zz (qj (i:=1) ag3 bE rfl rfl));rintro l dC n F ⟨O,d1,_⟩;exact za rfl rfl rfl (zz (z5t (O rfl) (d1 rfl) du));rintro l dD n F ⟨O,_⟩
 have dE:l 57=(vi ((S/((1:Int)+(x.fG%6)))%((1:Int)+(x.fF%3)))):=O rfl
 exact za rfl rfl rfl (zz (xn (ps:=[(0,(vi (-1))),(1,(vi ((S/((1:Int)+(x.fG%6)))%((1:Int)+(x.fF%3)))))]) (v:=(.agg #[(vi (-1)),(vi ((S/((1:Int)+(x.fG%6)))%((1:Int)+(x.fF%3))))])) (by simp only [List.map,ev,dE]<;>rfl) (fun w=>by kernel_rfl)));rintro l dF n F ⟨O,_⟩
 have dG:l 58=(.agg #[(vi (-1)),(vi ((S/((1:Int)+(x.fG%6)))%((1:Int)+(x.fF%3))))]):=O rfl
 exact za rfl rfl rfl (z4c (T:=kEdge) (X:=G1) (ps:=[(0,(.agg #[(vi (-1)),(vi ((S/((1:Int)+(x.fG%6)))%((1:Int)+(x.fF%3))))]))]) (css:=[[(vi (-1)),(vi ((S/((1:Int)+(x.fG%6)))%((1:Int)+(x.fF%3))))]]) underlying58 zpg (by simp only [List.map,ev,dG]<;>rfl) rfl (uj ⟨⟨_,_,rfl,rfl,rfl⟩,trivial⟩) rfl rfl (by decide))
 intro f8 dH f9 dI ga dJ gb dK gc dL ge dM gf dN gg bO eg bP;obtain rfl:=Eq.symm dH;obtain rfl:=Eq.symm dI;obtain rfl:=Eq.symm dJ;obtain rfl:=Eq.symm dK;obtain rfl:=Eq.symm dL;obtain rfl:=Eq.symm dM;obtain rfl:=Eq.symm dN;obtain rfl:=Eq.symm bO;obtain⟨bk,a⟩:=zb a
 refine ow (i:=3) (X:=bc) (Y:=G1) rfl underlying58 zpg rfl rfl rfl (bN.mono (bh.trans bj)) (j5 (Sub.v (B:=(tSl false kEdge)) (ut Sub.refl (fun _=>rfl)) bP)) bk.1 bk.2 fun bl bQ bR=>?_;refine zi bl (z8 (zn (zg (vi aC) ?_)));obtain⟨bS,a⟩:=zb a
 refine zm (ji rfl rfl bS) (zi (vi (aC+1)) (z8 ?_));exact⟨dkt,(bh.trans bj),jm,(bb,(bc++G1),aC+1,bl,bQ),Nat.lt_succ_self _,⟨rfl,rfl,trivial⟩,prm,a,bR,trivial⟩;refine jg ?_;exact⟨dkt,bg,jm,(bc,bM,dl),⟨rfl,trivial⟩,prm,(Option.some.inj a).symm,bN,trivial⟩;rintro⟨aB,aF,bE⟩ eh gh bm ⟨rfl,bF,_⟩
 refine zn (zm (qi yu rfl) (zm (qj (i:=1) zt7 rfl rfl rfl) (zg aF (z1w rfl (z4c (T:=tHdr) (X:=[aF]) (ps:=[(0,aF)]) (css:=[[aF]]) underlying28 q2v rfl (by simp only [List.map_cons,List.map_nil,aj bF];rfl) (uj ⟨zmv (z07 bF),trivial⟩) rfl rfl (by decide)) fun ei ej aq bT=>?_))))
 obtain⟨bn,c⟩:=zb c
 refine zhm (Oc:=[ba,bE]) (Or:=[box b6 [(vi 0),(vi 0),vs0] 30,box q [(vi ((1:Int)+(x.fE%3))),(vi ((1:Int)+(x.fF%3))),a9] 30]++A) rfl (pk 2 rfl (pk 2 rfl (pk 0 rfl (pk 0 rfl (List.Perm.refl _))))) (zcj underlying28 q2v rfl rfl (bL.mono (bm.trans aq)) (bF.mono aq) (j5 bT) (fun e=>nomatch e) bn.1 bn.2) ?_
 rintro aG ek dO dP ⟨rfl,bo,rfl,ae⟩;replace ae:N2 false kEdge _ bo aG (dk++[aF]) (a8++[aB]):=ae;refine zm (qi yu rfl) (jy (i:=2) (vs:=[aG]) q33 rfl rfl (zul ae) rfl rfl rfl (qc (zw3 ae) kg) ?_);refine z8 (zn (zg (vi ad) ?_));obtain⟨bU,c⟩:=zb c
 refine zm (ji rfl rfl bU) (zi (vi (ad+1)) (z8 ?_));exact⟨dkt,(bm.trans aq),jm,(a7,ad+1,(a8++[aB]),aG,bo),Nat.lt_succ_self _,⟨rfl,trivial⟩,⟨[],(pk 1 rfl (pk 1 rfl (pk 0 rfl (List.Perm.refl _))))⟩,c,(nz ae),trivial⟩;refine jg ?_
 exact⟨dkt,bf,jm,(a8,a9,ba),trivial,prm,(Option.some.inj c).symm,(nz bL),trivial⟩;rintro⟨aD,o,dQ⟩ el gi au ⟨rfl,⟨gj,dR⟩,_⟩;obtain⟨af,c,y⟩:=zq y
 refine qx (γ:=(List (List Edge))×Frag) (rs [9,13,67,137]) (fun g=>[]) (fun g=>[box b6 [(vi 0),(vi 0),vs0] 30,box q [(vi ((1:Int)+(x.fE%3))),(vi ((1:Int)+(x.fF%3))),o] 30,g.2]++A) (fun g R=>af=g.1∧NRep false kEdge R g.2 o g.1∧True) ?_ ?_
 refine zl (zi (vi 1) (z8 (zw (je (γ:=Nat×Int×(List (List Edge))×Frag) (rs [9,13,67,137]) (fun g=>[(9,(vi g.2.1))]) (fun g=>[box b6 [(vi 0),(vi 0),vs0] 30,box q [(vi ((1:Int)+(x.fE%3))),(vi ((1:Int)+(x.fF%3))),o] 30,g.2.2.2]++A) (fun g R=>xu N x g.1 g.2.1 g.2.2.1=some af∧NRep false kEdge R g.2.2.2 o g.2.2.1∧True) (fun g=>g.1) (N,1,aD,dQ) prm ⟨c,(nz dR),trivial⟩ ?_))))
 clear c;rintro⟨av,s,I,Z⟩ em en ar ⟨c,⟨ag,Q⟩,_⟩;rcases av with _|av;exact qw c;replace c:xu N x (av+1) s I=some af:=c;rw [xu] at c
 refine zt (zl (zg (vi s) (zg (vi ((1:Int)+(x.fG%6))) (zm (j4 rfl rfl) (z8 (zu rfl c (fun c=>?_) (fun c=>?_)))))));refine qb (zt (zw (zl (zi vs0 (z8 ?_)))));obtain⟨K,a,c⟩:=zq c
 refine qx (γ:=(List Int)×Value×Frag) (rs [10,12,72,100]) (fun g=>[(10,g.2.1)]) (fun g=>[box b6 [(vi 0),(vi 0),vs0] 30,box q [(vi ((1:Int)+(x.fE%3))),(vi ((1:Int)+(x.fF%3))),o] 30,Z,g.2.2]++A) (fun g R=>K=g.1∧ORep (qf .i64) R g.2.2 g.2.1 g.1∧True) ?_ ?_
 refine zl (zi (vi 0) (z8 (zw (z4h ?_))))
 refine je (γ:=Nat×(List Int)×Int×Value×Frag) (rs [10,12,72,100]) (fun g=>[(10,g.2.2.2.1),(11,(vi g.2.2.1))]) (fun g=>[box b6 [(vi 0),(vi 0),vs0] 30,box q [(vi ((1:Int)+(x.fE%3))),(vi ((1:Int)+(x.fF%3))),o] 30,Z,g.2.2.2.2]++A) (fun g R=>wu N x s I g.1 g.2.1 g.2.2.1=some K∧ORep (qf .i64) R g.2.2.2.2 g.2.2.2.1 g.2.1∧True) (fun g=>g.1) (N,[],0,vs0,emp) ⟨[],(pk 1 rfl (pk 1 rfl (pk 1 rfl (pk 0 rfl (List.Perm.refl _)))))⟩ ⟨a,(z14 (T:=(qf .i64))),trivial⟩ ?_
 clear a;rintro⟨aw,ah,f,aH,ax⟩ eo ep U ⟨a,aI,_⟩;rcases aw with _|aw;exact qw a;replace a:wu N x s I (aw+1) ah f=some K:=a;rw [wu] at a;refine zt (zl (zg (vi f) (zg (vi s) (zm (qi z1o rfl) (zm (qj (i:=1) ag3 rfl rfl rfl) ?_)))))
 obtain⟨bV,a⟩:=zb a;refine zm (zmd rfl rfl bV) (zm (j4 rfl rfl) (z8 (zu rfl a (fun a=>?_) (fun a=>?_))));refine qb ?_;obtain⟨aJ,p,a⟩:=zq a
 refine qx (γ:=(List Int)×Value×Frag) (rs [10,11,80,100]) (fun g=>[(10,g.2.1)]) (fun g=>[box b6 [(vi 0),(vi 0),vs0] 30,box q [(vi ((1:Int)+(x.fE%3))),(vi ((1:Int)+(x.fF%3))),o] 30,Z,g.2.2]++A) (fun g R=>aJ=g.1∧ORep (qf .i64) R g.2.2 g.2.1 g.1∧True) ?_ ?_
 refine zw (zt (z2k 16 mixed (by kernel_rfl) (by kernel_rfl) ?_));refine uo (v:=(.pointer (some ⟨q,2,none⟩))) (qi yu rfl) ?_;refine uo (v:=o) (qj (i:=1) zt7 rfl rfl rfl) ?_;refine uo (v:=(vi f)) (ze rfl) ?_;refine uo (v:=(.pointer (some ⟨q,0,none⟩))) (qi z1o rfl) ?_
 refine uo (v:=(vi ((1:Int)+(x.fE%3)))) (qj (i:=1) ag3 rfl rfl rfl) ?_;obtain⟨bW,p⟩:=zb p;refine uo (zi7 rfl rfl bW) ?_;obtain⟨ai,p⟩:=zb p;refine z2h (zkt (i:=(f/((1:Int)+(x.fE%3))).toNat) (zgd (b:=true) za4) rfl (Q.mono U) (zf rfl ai.1) (zx ai)) fun eq bX=>?_
 refine uo (v:=(ag.getD (f/((1:Int)+(x.fE%3))).toNat default)) (q1n (zn5 (i:=(f/((1:Int)+(x.fE%3))).toNat) (j:=2) (ze1 (b:=true) z9h) (Q.mono U) rfl rfl bX (zx ai))) ?_;refine uo (v:=(vi f)) (ze rfl) ?_;refine uo (v:=(.pointer (some ⟨q,0,none⟩))) (qi z1o rfl) ?_
 refine uo (v:=(vi ((1:Int)+(x.fE%3)))) (qj (i:=1) ag3 rfl rfl rfl) ?_;obtain⟨bY,p⟩:=zb p;refine uo (z5t rfl rfl bY) ?_;obtain⟨aK,p⟩:=zb p
 refine z2h (zj0 (i:=(f%((1:Int)+(x.fE%3))).toNat) (r:=(f/((1:Int)+(x.fE%3))).toNat) za2 (Q.mono U) (zx ai) rfl (zf rfl aK.1) (zx aK)) fun er bZ=>?_;refine z2h (zg2 ll rfl bZ) fun b0 aL=>?_
 replace aL:z7r kEdge 0 (ag.getD (f/((1:Int)+(x.fE%3))).toNat default) (I.getD (f/((1:Int)+(x.fE%3))).toNat default) b0 (f%((1:Int)+(x.fE%3))).toNat:=aL
 refine uo (bi (zqu (i:=(f%((1:Int)+(x.fE%3))).toNat) (r:=(f/((1:Int)+(x.fE%3))).toNat) (j:=2) ty3 za7 (Q.mono U) (zx ai) rfl rfl aL (zx aK))) ?_;refine uo (j4 rfl rfl) ?_;intro es ac;refine z8 (zu rfl p (fun p=>?_) (fun p=>?_))
 refine zn (zg aH (zg (vi f) (il (T:=(qf .i64)) (X:=([f]:List Int)) (ps:=[(0,(vi f))]) (css:=[[(vi f)]]) rfl underlying32 zo3 rfl rfl (uj ⟨rfl,trivial⟩) rfl rfl (by decide) fun b1 et be b2=>?_)));refine gq (i:=0) rfl b2 fun b3 aM b4=>?_
 have b5:VRep (tSl true (qf .i64)) b3 b1 ([f]:List Int):=(z3i b4 be);obtain⟨bp,p⟩:=zb p;refine ow (i:=3) (X:=ah) (Y:=([f]:List Int)) rfl underlying32 zo3 rfl rfl rfl (aI.mono (ac.trans aM)) (j5 (Sub.v (B:=(tSl false (qf .i64))) (ut Sub.refl (fun _=>rfl)) b5)) bp.1 bp.2 fun bq b7 b8=>?_
 refine zi bq (z8 ?_);exact⟨dkt,(ac.trans aM),jm,((ah++([f]:List Int)),bq,b7),⟨rfl,trivial⟩,prm,(Option.some.inj p).symm,b8,trivial⟩;refine qb ?_;exact⟨dkt,ac,jm,(ah,aH,ax),⟨rfl,trivial⟩,prm,(Option.some.inj p).symm,(aI.mono ac),trivial⟩;rintro⟨aJ,b9,aN⟩ eu ew bG ⟨rfl,ca,_⟩
 refine zn (zg (vi f) ?_);obtain⟨cb,a⟩:=zb a;refine zm (ji rfl rfl cb) (zi (vi (f+1)) (z8 ?_));exact⟨dkt,bG,jm,(aw,aJ,f+1,b9,aN),Nat.lt_succ_self _,⟨rfl,rfl,trivial⟩,prm,a,ca,trivial⟩;refine jg ?_
 exact⟨dkt,U,jm,(ah,aH,ax),⟨rfl,trivial⟩,prm,(Option.some.inj a).symm,aI,trivial⟩;rintro⟨K,aO,br⟩ ex ey P ⟨rfl,ak,_⟩;refine zl (zg aO ?_);obtain⟨aP,c⟩:=zb c;refine oz (i:=(0:Int).toNat) rfl ig rfl ak (zf rfl aP.1) (zx aP) fun ez cc=>?_
 refine z7g (i:=(0:Int).toNat) (j:=3) rfl ty3 ak rfl rfl cc (zx aP) fun eA cd=>?_;obtain rfl:=jb.1 cd;refine zi (vi (ix K 0)) (z8 ?_);obtain⟨k,a,c⟩:=zq c
 refine qx (γ:=Int) (rs [12,13,103,122]) (fun g=>[(12,(vi g))]) (fun g=>[box b6 [(vi 0),(vi 0),vs0] 30,box q [(vi ((1:Int)+(x.fE%3))),(vi ((1:Int)+(x.fF%3))),o] 30,Z]++A) (fun g R=>k=g∧True) ?_ ?_;refine zl (zg (vi s) ?_);obtain⟨ce,a⟩:=zb a
 refine zm (z5u rfl rfl ce) (j6 rfl zx8 z7j rfl (h2.mono ((au.trans ar).trans P)) fun eB cf=>?_);refine qh rfl q2l rfl cf fun eC cg=>?_;refine zm (qo rfl underlying22 rfl (j5 cg)) (zm (j4 rfl rfl) (z8 (zu rfl a (fun a=>?_) (fun a=>?_))))
 refine zn (zg aO (j6 rfl zx8 z7j rfl (h2.mono ((au.trans ar).trans P)) fun eD ch=>?_));refine qh rfl q2l rfl ch fun eE ci=>?_;refine zg (vi s) ?_;obtain⟨cj,a⟩:=zb a;refine zm (z5u rfl rfl cj) ?_;obtain⟨bs,a⟩:=zb a
 refine kv (i:=(s-1).toNat) rfl q54 rfl (j5 ci) (zf rfl bs.1) (zx bs) fun eF ck=>?_;refine qh rfl ty5 rfl ck fun eG cl=>?_;obtain rfl:=jb.1 cl;obtain⟨cm,a⟩:=zb a;refine zm (z4u underlying5 underlying3 rfl cm) (zg aO (zm (z0h rfl underlying32 rfl ak) ?_))
 obtain⟨cn,a⟩:=zb a;refine zm (z5t rfl rfl cn) ?_;obtain⟨aQ,a⟩:=zb a;refine oz (i:=((ix x.fH (s-1))%(↑K.length:Int)).toNat) rfl ig rfl ak (zf rfl aQ.1) (zx aQ) fun eH co=>?_
 refine z7g (i:=((ix x.fH (s-1))%(↑K.length:Int)).toNat) (j:=3) rfl ty3 ak rfl rfl co (zx aQ) fun eI cp=>?_;obtain rfl:=jb.1 cp;refine zi (vi (ix K ((ix x.fH (s-1))%(↑K.length:Int)))) (z8 ?_)
 exact⟨dkt,(RH.le.refl _),jm,(ix K ((ix x.fH (s-1))%(↑K.length:Int))),⟨rfl,trivial⟩,⟨[br],(pk 3 rfl (pk 0 rfl (pk 0 rfl (pk 0 rfl (List.Perm.refl _)))))⟩,(Option.some.inj a).symm,trivial⟩;refine qb ?_
 exact⟨dkt,(RH.le.refl _),jm,(ix K 0),⟨rfl,trivial⟩,⟨[br],(pk 3 rfl (pk 0 rfl (pk 0 rfl (pk 0 rfl (List.Perm.refl _)))))⟩,(Option.some.inj a).symm,trivial⟩;rintro k eJ eK V ⟨rfl,_⟩;refine z2k 15 mixed (by kernel_rfl) (by kernel_rfl) ?_;refine uo (v:=(.pointer (some ⟨q,2,none⟩))) (qi yu rfl) ?_
 refine uo (v:=o) (qj (i:=1) zt7 rfl rfl rfl) ?_;refine uo (v:=(vi k)) (ze rfl) ?_;refine uo (v:=(.pointer (some ⟨q,0,none⟩))) (qi z1o rfl) ?_;refine uo (v:=(vi ((1:Int)+(x.fE%3)))) (qj (i:=1) ag3 rfl rfl rfl) ?_;obtain⟨cq,c⟩:=zb c;refine uo (zi7 rfl rfl cq) ?_
 obtain⟨al,c⟩:=zb c;refine z2h (zkt (i:=(k/((1:Int)+(x.fE%3))).toNat) (zgd (b:=true) za4) rfl (Q.mono (P.trans V)) (zf rfl al.1) (zx al)) fun eL cr=>?_
 refine uo (v:=(ag.getD (k/((1:Int)+(x.fE%3))).toNat default)) (q1n (zn5 (i:=(k/((1:Int)+(x.fE%3))).toNat) (j:=2) (ze1 (b:=true) z9h) (Q.mono (P.trans V)) rfl rfl cr (zx al))) ?_;refine uo (v:=(vi k)) (ze rfl) ?_;refine uo (v:=(.pointer (some ⟨q,0,none⟩))) (qi z1o rfl) ?_
 refine uo (v:=(vi ((1:Int)+(x.fE%3)))) (qj (i:=1) ag3 rfl rfl rfl) ?_;obtain⟨cs,c⟩:=zb c;refine uo (z5t rfl rfl cs) ?_;refine uo (v:=(vi s)) (ze rfl) ?_;obtain⟨aR,c⟩:=zb c
 refine z2h (zj0 (i:=(k%((1:Int)+(x.fE%3))).toNat) (r:=(k/((1:Int)+(x.fE%3))).toNat) za2 (Q.mono (P.trans V)) (zx al) rfl (zf rfl aR.1) (zx aR)) fun eM ct=>?_;refine z2h (zg2 ll rfl ct) fun bt aS=>?_
 replace aS:z7r kEdge 0 (ag.getD (k/((1:Int)+(x.fE%3))).toNat default) (I.getD (k/((1:Int)+(x.fE%3))).toNat default) bt (k%((1:Int)+(x.fE%3))).toNat:=aS;intro eN aT
 refine za8 (Oc:=[Z]) (Or:=[box b6 [(vi 0),(vi 0),vs0] 30,box q [(vi ((1:Int)+(x.fE%3))),(vi ((1:Int)+(x.fF%3))),o] 30]++A) (pk 2 rfl (pk 0 rfl (pk 0 rfl (List.Perm.refl _)))) (zgq (i:=(k%((1:Int)+(x.fE%3))).toNat) (r:=(k/((1:Int)+(x.fE%3))).toNat) (u:=bt) zn6 ty3 (Q.mono ((P.trans V).trans aT)) (zx al) rfl aS (zx aR) rfl (jb.2 rfl)) ?_
 rintro eO eP dS dT ⟨rfl,bv,rfl,aU⟩;replace aU:N2 false kEdge _ bv o ag (up I (k/((1:Int)+(x.fE%3))) (up (ix I (k/((1:Int)+(x.fE%3)))) (k%((1:Int)+(x.fE%3))) (⟨s,(ix (ix I (k/((1:Int)+(x.fE%3)))) (k%((1:Int)+(x.fE%3)))).out⟩:Edge))):=aU
 refine z8 (zn (zg (vi s) ?_));obtain⟨cu,c⟩:=zb c;refine zm (ji rfl rfl cu) (zi (vi (s+1)) (z8 ?_))
 exact⟨dkt,((P.trans V).trans aT),jm,(av,s+1,(up I (k/((1:Int)+(x.fE%3))) (up (ix I (k/((1:Int)+(x.fE%3)))) (k%((1:Int)+(x.fE%3))) (⟨s,(ix (ix I (k/((1:Int)+(x.fE%3)))) (k%((1:Int)+(x.fE%3)))).out⟩:Edge))),bv),Nat.lt_succ_self _,⟨rfl,trivial⟩,⟨[],(pk 1 rfl (pk 1 rfl (pk 0 rfl (List.Perm.refl _))))⟩,c,(nz aU),trivial⟩
 refine jg ?_;exact⟨dkt,ar,jm,(I,Z),trivial,prm,(Option.some.inj c).symm,(nz Q),trivial⟩;rintro⟨af,cv⟩ eQ eR aV ⟨rfl,⟨eS,cw⟩,_⟩;obtain⟨aa,c,y⟩:=zq y
 refine qx (γ:=(List (List Edge))×Frag) (rs [13,15,137,177]) (fun g=>[]) (fun g=>[box b6 [(vi 0),(vi 0),vs0] 30,box q [(vi ((1:Int)+(x.fE%3))),(vi ((1:Int)+(x.fF%3))),o] 30,g.2]++A) (fun g R=>aa=g.1∧NRep false kEdge R g.2 o g.1∧True) ?_ ?_
 refine zl (zi (vi 0) (z8 (zw (je (γ:=Nat×Int×(List (List Edge))×Frag) (rs [13,15,137,177]) (fun g=>[(13,(vi g.2.1))]) (fun g=>[box b6 [(vi 0),(vi 0),vs0] 30,box q [(vi ((1:Int)+(x.fE%3))),(vi ((1:Int)+(x.fF%3))),o] 30,g.2.2.2]++A) (fun g R=>xw N x g.1 g.2.1 g.2.2.1=some aa∧NRep false kEdge R g.2.2.2 o g.2.2.1∧True) (fun g=>g.1) (N,0,af,cv) prm ⟨c,(nz cw),trivial⟩ ?_))))
 clear c;rintro⟨ay,d,aW,bw⟩ eT eU aX ⟨c,⟨eV,bx⟩,_⟩;rcases ay with _|ay;exact qw c;replace c:xw N x (ay+1) d aW=some aa:=c;rw [xw] at c
 refine zt (zl (zg (vi d) (zg (vi ((1:Int)+(x.fG%6))) (zm (j4 rfl rfl) (z8 (zu rfl c (fun c=>?_) (fun c=>?_)))))));refine qb ?_;obtain⟨am,a,c⟩:=zq c
 refine qx (γ:=(List (List Edge))×Frag) (rs [14,15,142,177]) (fun g=>[]) (fun g=>[box b6 [(vi 0),(vi 0),vs0] 30,box q [(vi ((1:Int)+(x.fE%3))),(vi ((1:Int)+(x.fF%3))),o] 30,g.2]++A) (fun g R=>am=g.1∧NRep false kEdge R g.2 o g.1∧True) ?_ ?_
 refine zw (zl (zi (vi 0) (z8 (zw (je (γ:=Nat×Int×(List (List Edge))×Frag) (rs [14,15,142,177]) (fun g=>[(14,(vi g.2.1))]) (fun g=>[box b6 [(vi 0),(vi 0),vs0] 30,box q [(vi ((1:Int)+(x.fE%3))),(vi ((1:Int)+(x.fF%3))),o] 30,g.2.2.2]++A) (fun g R=>wm N x d g.1 g.2.1 g.2.2.1=some am∧NRep false kEdge R g.2.2.2 o g.2.2.1∧True) (fun g=>g.1) (N,0,aW,bw) prm ⟨a,(nz bx),trivial⟩ ?_)))))
 clear a;rintro⟨az,m,E,aY⟩ eW eX aZ ⟨a,⟨W,M⟩,_⟩;rcases az with _|az;exact qw a;replace a:wm N x d (az+1) m E=some am:=a;rw [wm] at a
 refine zt (zl (zg (vi m) (zm (qi z1o rfl) (zm (qj (i:=1) ag3 rfl rfl rfl) (zm (j4 rfl rfl) (z8 (zu rfl a (fun a=>?_) (fun a=>?_))))))));refine qb ?_;obtain⟨a0,p,a⟩:=zq a
 refine qx (γ:=(List (List Edge))×Frag) (rs [148,177]) (fun g=>[]) (fun g=>[box b6 [(vi 0),(vi 0),vs0] 30,box q [(vi ((1:Int)+(x.fE%3))),(vi ((1:Int)+(x.fF%3))),o] 30,g.2]++A) (fun g R=>a0=g.1∧NRep false kEdge R g.2 o g.1∧True) ?_ ?_
 refine zw (zl (zm (qi yu rfl) (zm (qj (i:=1) zt7 rfl rfl rfl) (zg (vi d) ?_))));obtain⟨an,p⟩:=zb p;refine z1w rfl (zd2 (i:=d.toNat) (zgd (b:=true) za4) rfl M (zf rfl an.1) (zx an)) fun eY eZ z cx=>?_
 refine z1w rfl (zft (i:=d.toNat) (j:=2) (ze1 (b:=true) z9h) (M.mono z) rfl rfl cx (zx an)) fun e0 e1 C cy=>?_;obtain rfl:=Eq.symm cy;refine zg (vi m) ?_;obtain⟨a1,p⟩:=zb p
 refine z1w rfl (zay (i:=m.toNat) (r:=d.toNat) za2 (M.mono (z.trans C)) (zx an) rfl (zf rfl a1.1) (zx a1)) fun e2 e3 G cz=>?_;refine z1w rfl (zd5 ll rfl cz) fun cA e4 H a2=>?_;replace a2:z7r kEdge 0 (W.getD d.toNat default) (E.getD d.toNat default) cA m.toNat:=a2
 refine z1w rfl (yf (zpf (i:=m.toNat) (r:=d.toNat) (j:=2) ty3 za7 (M.mono (((z.trans C).trans G).trans H)) (zx an) rfl rfl a2 (zx a1)) (fun _ _ h=>jb.1 h)) fun e5 e6 L cB=>?_;obtain rfl:=Eq.symm cB;refine zm (j4 rfl rfl) (z8 (zu rfl p (fun p=>?_) (fun p=>?_)))
 obtain⟨ao,cC,cD,p⟩:=zxh p;obtain⟨aA,cE,p⟩:=zq p;obtain⟨cF,a3,p⟩:=zwe p
 refine dz 19 [] [phX (.pointer (some ⟨q,2,none⟩)),phX o,phX (vi d),(fun u _=>z4r tHdr o W u d.toNat),phX (W.getD d.toNat default),phX (vi m),phP (tSl false (qf .u16)) x.fJ,phR (tSl false (qf .u16)) x.fJ,phX (vi d),phX (.pointer (some ⟨q,0,none⟩)),phX (vi ((1:Int)+(x.fE%3))),phX (vi (d*((1:Int)+(x.fE%3)))),phX (vi m),phX (vi ((d*((1:Int)+(x.fE%3)))+m)),phX (vi aA),phX (vi ((1:Int)+(x.fG%6))),phX (vi (aA%((1:Int)+(x.fG%6)))),(fun u _=>z4r kEdge (W.getD d.toNat default) (E.getD d.toNat default) u m.toNat),(fun u _=>z7r kEdge 0 (W.getD d.toNat default) (E.getD d.toNat default) u m.toNat)] mixed (by kernel_rfl) (gu ⟨zo,zo,zo,(fun _ _ _ _ h=>h),zo,zo,u6,yz,zo,zo,zo,zo,zo,zo,zo,zo,zo,(fun _ _ _ _ h=>h),(fun _ _ _ _ h=>h),trivial⟩) ⟨?_,?_,?_,?_,?_,?_,?_,?_,?_,?_,?_,?_,?_,?_,?_,?_,?_,?_,?_,trivial⟩ fun e7 a4=>?_
 intro l dv n F hd;exact za rfl rfl rfl (zz (qi yu (F 4 rfl)));rintro l dw n F ⟨O,_⟩;exact za rfl rfl rfl (zz (qj (i:=1) zt7 (O rfl) rfl rfl));intro l dx n F hd;exact za rfl rfl rfl (zz (ze (F 13 rfl)));rintro l dy n F ⟨O,d1,_⟩
 exact za rfl rfl rfl (zd2 (i:=d.toNat) (zgd (b:=true) za4) (O rfl) ((M.mono ((((z.trans C).trans G).trans H).trans L)).mono n) (zf (d1 rfl) ao.1) (zx ao));rintro l dA n F ⟨O,_⟩
 exact za rfl rfl rfl (zft (i:=d.toNat) (j:=2) (ze1 (b:=true) z9h) ((M.mono ((((z.trans C).trans G).trans H).trans L)).mono n) rfl rfl (O rfl) (zx ao));intro l dB n F hd;exact za rfl rfl rfl (zz (ze (F 14 rfl)));intro l dC n F hd
 exact za rfl rfl rfl (ui zw9 z7i (F 1 rfl) ((h2.mono ((((((((au.trans aV).trans aX).trans aZ).trans z).trans C).trans G).trans H).trans L)).mono n));rintro l dD n F ⟨O,_⟩;exact za rfl rfl rfl (jh q41 rfl (O rfl));intro l dF n F hd;exact za rfl rfl rfl (zz (ze (F 13 rfl)))
 intro l gk n F hd;exact za rfl rfl rfl (zz (qi z1o (F 4 rfl)));rintro l e8 n F ⟨O,_⟩;exact za rfl rfl rfl (zz (qj (i:=1) ag3 (O rfl) rfl rfl));rintro l e9 n F ⟨O,d1,_⟩;exact za rfl rfl rfl (zz (zmd (O rfl) (d1 rfl) cC));intro l fa n F hd;exact za rfl rfl rfl (zz (ze (F 14 rfl)))
 rintro l fb n F ⟨O,d1,_⟩;exact za rfl rfl rfl (zz (ji (O rfl) (d1 rfl) cD));rintro l fc n F ⟨O,d1,_⟩;have aN:l 171=(vi ((d*((1:Int)+(x.fE%3)))+m)):=d1 rfl
 exact za rfl rfl rfl (bu (vs:=[(l 165),(vi ((d*((1:Int)+(x.fE%3)))+m))]) q3k (by simp only [List.map,ev,aN]<;>rfl) (z5w (O rfl) cE) (fun _ _ h=>h));intro l fd n F hd;exact za rfl rfl rfl (zz (ze (F 3 rfl)));rintro l fe n F ⟨O,d1,_⟩
 exact za rfl rfl rfl (zz (z5t (O rfl) (d1 rfl) cF));rintro l ff n F ⟨O,d1,d2,d3,d4,d5,d6,d7,d8,d9,dU,dV,dW,dX,dY,dZ,ea,eb,gv,_⟩;have ax:=O rfl
 exact za rfl rfl rfl (zay (i:=m.toNat) (r:=d.toNat) za2 ((M.mono ((((z.trans C).trans G).trans H).trans L)).mono n) (zx ao) ax (zf (d1 rfl) a3.1) (zx a3));rintro l fg n F ⟨O,d1,d2,d3,d4,d5,d6,d7,d8,d9,dU,dV,dW,dX,dY,dZ,ea,eb,_⟩;exact za rfl rfl rfl (zd5 ll rfl (O rfl))
 intro fh cG fi cH fj cI fk fl fm cJ fn cK fo fp fq fr fs cL ft cM fu cN fv cO fw cP fx cQ fy cR fz cS fA cT fB fC bz a5;obtain rfl:=Eq.symm cG;obtain rfl:=Eq.symm cH;obtain rfl:=Eq.symm cI;obtain rfl:=Eq.symm cJ;obtain rfl:=Eq.symm cK;obtain rfl:=Eq.symm cL;obtain rfl:=Eq.symm cM
 obtain rfl:=Eq.symm cN;obtain rfl:=Eq.symm cO;obtain rfl:=Eq.symm cP;obtain rfl:=Eq.symm cQ;obtain rfl:=Eq.symm cR;obtain rfl:=Eq.symm cS;obtain rfl:=Eq.symm cT;replace a5:z7r kEdge 0 (W.getD d.toNat default) (E.getD d.toNat default) bz m.toNat:=a5
 refine za8 (Oc:=[aY]) (Or:=[box b6 [(vi 0),(vi 0),vs0] 30,box q [(vi ((1:Int)+(x.fE%3))),(vi ((1:Int)+(x.fF%3))),o] 30]++A) (pk 2 rfl (pk 0 rfl (pk 0 rfl (List.Perm.refl _)))) (zgq (i:=m.toNat) (r:=d.toNat) (u:=bz) zn6 ty3 (M.mono (((((z.trans C).trans G).trans H).trans L).trans a4)) (zx ao) rfl a5 (zx a3) rfl (jb.2 rfl)) ?_
 rintro fD fI ec ed ⟨rfl,bA,rfl,a6⟩;replace a6:N2 false kEdge _ bA o W (up E d (up (ix E d) m (⟨aA%((1:Int)+(x.fG%6)),(ix (ix E d) m).out⟩:Edge))):=a6;refine z8 ?_
 exact⟨dkt,(((((z.trans C).trans G).trans H).trans L).trans a4),jm,((up E d (up (ix E d) m (⟨aA%((1:Int)+(x.fG%6)),(ix (ix E d) m).out⟩:Edge))),bA),trivial,⟨[],(pk 1 rfl (pk 1 rfl (pk 0 rfl (List.Perm.refl _))))⟩,(Option.some.inj p).symm,(nz a6),trivial⟩;refine qb ?_
 exact⟨dkt,((((z.trans C).trans G).trans H).trans L),jm,(E,aY),trivial,prm,(Option.some.inj p).symm,(nz (M.mono ((((z.trans C).trans G).trans H).trans L))),trivial⟩;rintro⟨a0,cU⟩ fK fL bH ⟨rfl,⟨fM,cV⟩,_⟩;refine zn (zg (vi m) ?_);obtain⟨cW,a⟩:=zb a
 refine zm (ji rfl rfl cW) (zi (vi (m+1)) (z8 ?_));exact⟨dkt,bH,jm,(az,m+1,a0,cU),Nat.lt_succ_self _,⟨rfl,trivial⟩,prm,a,(nz cV),trivial⟩;refine jg ?_;exact⟨dkt,aZ,jm,(E,aY),trivial,prm,(Option.some.inj a).symm,(nz M),trivial⟩;rintro⟨am,cX⟩ fN fO bI ⟨rfl,⟨fP,cY⟩,_⟩
 refine zn (zg (vi d) ?_);obtain⟨cZ,c⟩:=zb c;refine zm (ji rfl rfl cZ) (zi (vi (d+1)) (z8 ?_));exact⟨dkt,bI,jm,(ay,d+1,am,cX),Nat.lt_succ_self _,⟨rfl,trivial⟩,prm,c,(nz cY),trivial⟩;refine jg ?_
 exact⟨dkt,aX,jm,(aW,bw),trivial,prm,(Option.some.inj c).symm,(nz bx),trivial⟩;rintro⟨aa,fQ⟩ fR fS bJ ⟨rfl,⟨fT,bB⟩,_⟩
 refine zl (zm (vz (i:=1) zfa z8w rfl rfl rfl rfl) (jy (i:=0) (vs:=[(vi ((1:Int)+(x.fE%3))),(vi ((1:Int)+(x.fF%3))),o]) z8w rfl rfl rfl rfl rfl rfl (qc rfl (qc rfl (qc (zw3 bB) kg))) ?_));refine z8 (zj4 (i:=2) rfl (nz bB) fun c0 bK c1=>?_)
 have c2:VRep (tSl false (tSl false kEdge)) c0 o aa:=(z7h c1);refine qm ?_;obtain rfl:=Option.some.inj y
 refine qa (D:=[]) (J:=[box b6 [(vi ((1:Int)+(x.fE%3))),(vi ((1:Int)+(x.fF%3))),o] 30,box q [(vi ((1:Int)+(x.fE%3))),(vi ((1:Int)+(x.fF%3))),o] 30]) (rs:=[.cell 2 30]) (vs:=[(.agg #[(vi ((1:Int)+(x.fE%3))),(vi ((1:Int)+(x.fF%3))),o])]) ((((c5.trans au).trans aV).trans bJ).trans bK) rfl rfl ⟨⟨_,rfl,fun w hh=>z04 (i:=0) hh rfl rfl zfa z8w rfl rfl⟩,trivial⟩ ?_
 exact⟨rfl,(⟨_,⟨_,_,rfl,rfl,⟨_,_,rfl,rfl,(um rfl c2)⟩⟩,rfl⟩:VRep (jv false false) _ _ (⟨(1:Int)+(x.fE%3),(1:Int)+(x.fF%3),aa⟩:Mach))⟩
theorem q5w:Enters prog 30:=enters_of func30 rfl (by kernel_rfl)
theorem zzi:Enters prog 105:=enters_of func105 rfl (by kernel_rfl)
theorem z8v{N:Nat}(F:Nat): ∀ {R:RH} {m:Mach} {d:Value} (j:VRep (jv false false) R d m) {s:Int} {n:(List Int)} {c:Value} (g:VRep (tSl false (qf .i64)) R c n) {r:Int} (b:cz N F m s n=some r),CallP prog 105 #[d,(vi s),c] R (fun v R'=>v=(vi r)):=by
  induction F with
  |zero=>intros;rename_i b;exact qw b
  |succ F ih=>
    intro R m d j s n c g r b
    refine qd (args:=[d,(vi s),c]) func105 rfl rfl fun A=>?_
    rw [cz] at b
    refine zt ?_
    refine zn ?_
    refine kz (T:=(jv false false)) rfl rfl rfl j fun v1 R3 e h5 h2=>?_
    refine zi (vi 0) ?_
    refine z8 ?_
    refine zt ?_
    refine zt ?_
    refine zn ?_
    refine zg c ?_
    refine zm (qo rfl underlying32 rfl (j5 (g.mono e))) ?_
    refine zm (yw rfl rfl) ?_
    refine z8 ?_
    refine zu rfl b (fun b=>?_) (fun b=>?_)
    · refine zt ?_
      refine zn ?_
      refine zg (vi s) ?_
      refine zi (vi s) ?_
      refine z8 ?_
      refine qm ?_
      obtain rfl:=Option.some.inj b
      refine qa (D:=[]) (J:=[]) (rs:=[.tmp 6]) (vs:=[(vi s)]) e rfl rfl ⟨rfl,trivial⟩ ?_
      exact⟨rfl,rfl⟩
    · refine qb ?_
      refine zt ?_
      obtain⟨g7,b⟩:=zb b
      obtain⟨q,c9,b⟩:=zq b
      obtain⟨o,b⟩:=zb b
      obtain⟨p,B,b⟩:=zq b
      refine dz 12 [] [phX d,phX d,phX (vi s),phX c,phP (qf .i64) (ix n 0),phX (vi (ix n 0)),phX (ik q),phX (vi q.to),phX c,phR (tSl false (qf .i64)) (cut n 1 (↑n.length:Int)),phX (vi p),phX (vi p)] mixed (by kernel_rfl) (gu ⟨zo,zo,zo,zo,u6,zo,zo,zo,zo,yz,zo,zo,trivial⟩) ⟨?_,?_,?_,?_,?_,?_,?_,?_,?_,?_,?_,?_,trivial⟩ fun al t=>?_
      · intro l am a f x
        have C:l 3=v1:=f 3 rfl
        exact za rfl rfl rfl (zz (ky z0w rfl C (h5.mono a) ((j.mono e).mono a)))
      · intro l an a f x
        have C:l 3=v1:=f 3 rfl
        exact za rfl rfl rfl (zz (ky z0w rfl C (h5.mono a) ((j.mono e).mono a)))
      · intro l ao a f x
        have a1:l 1=(vi s):=f 1 rfl
        exact za rfl rfl rfl (zz (ze a1))
      · intro l aq a f x
        have E:l 2=c:=f 2 rfl
        exact za rfl rfl rfl (zz (ze E))
      · rintro l ar a f ⟨k,_⟩
        have G:=k rfl
        exact za rfl rfl rfl (ul (i:=(0:Int).toNat) ig G (j5 ((g.mono e).mono a)) (zf rfl g7.1) (zx g7))
      · rintro l au a f ⟨k,_⟩
        have H:=k rfl
        exact za rfl rfl rfl (yf (jh ty3 rfl H) (fun _ _ h=>jb.1 h))
      · rintro l av a f ⟨k,y,z,_⟩
        have I:l 12=d:=k rfl
        have K:l 13=(vi s):=y rfl
        have L:l 16=(vi (ix n 0)):=z rfl
        exact za rfl rfl rfl (bu (vs:=[d,(vi s),(vi (ix n 0))]) q5i (by simp only [List.map,ev,I,K,L]<;>rfl) (zci ((j.mono e).mono a) c9) (fun _ _ h=>h))
      · rintro l aw a f ⟨k,_⟩
        have M:=k rfl
        exact za rfl rfl rfl (zz (zta (v:=(ik q)) (u:=(vi q.to)) M (fun w=>by kernel_rfl)))
      · intro l ax a f x
        have E:l 2=c:=f 2 rfl
        exact za rfl rfl rfl (zz (ze E))
      · rintro l ay a f ⟨k,_⟩
        have O:=k rfl
        exact za rfl rfl rfl (zu3 (lo:=(1:Int).toNat) (hi:=(↑n.length:Int).toNat) (mx:=(capOf c)) (X':=(cut n 1 (↑n.length:Int))) ig O (j5 ((g.mono e).mono a)) (.inr ⟨_,congrArg some (zf rfl o.1)⟩) (.inl ⟨rfl,rfl,rfl⟩) (.inl ⟨rfl,rfl⟩) (zjy o) (z95 o) (fun h=>Nat.le_trans (z95 o) h) (fun _=>Nat.le_refl _) rfl)
      · rintro l ai a f ⟨k,y,z,d3,_⟩
        have P:l 11=d:=k rfl
        have Q:l 18=(vi q.to):=y rfl
        have S:=z rfl
        exact za rfl rfl rfl (bu (vs:=[d,(vi q.to),(l 20)]) zzi (by simp only [List.map,ev,P,Q]<;>rfl) (ih ((j.mono e).mono a) S B) (fun _ _ h=>h))
      · rintro l aj a f ⟨k,y,z,d3,d4,d5,d6,d7,d8,d9,aA,aB,aC,_⟩
        have U:=k rfl
        exact za rfl rfl rfl (zz (mh U))
      intro aD V
      intro aE W
      intro aF X
      intro aG Y
      intro aH aI
      intro aJ Z
      intro aK aa
      intro aL ab
      intro aM ac
      intro aN aO
      intro aP ad
      intro aQ ae
      obtain rfl:=Eq.symm V
      obtain rfl:=Eq.symm W
      obtain rfl:=Eq.symm X
      obtain rfl:=Eq.symm Y
      obtain rfl:=Eq.symm Z
      obtain rfl:=Eq.symm aa
      obtain rfl:=Eq.symm ab
      obtain rfl:=Eq.symm ac
      obtain rfl:=Eq.symm ad
      obtain rfl:=Eq.symm ae
      refine z8 ?_
      refine qm ?_
      obtain rfl:=Option.some.inj b
      refine qa (D:=[]) (J:=[]) (rs:=[.tmp 6]) (vs:=[(vi p)]) (e.trans t) rfl rfl ⟨rfl,trivial⟩ ?_
      exact⟨rfl,rfl⟩
theorem zbp{N:Nat}{R:RH}{m:Mach}{b:Value}(d:VRep (jv false false) R b m){s:Int}{f:(List Int)}{a:Value}(c:VRep (tSl false (qf .i64)) R a f){r:Int}(e:cz N N m s f=some r):CallP prog 105 #[b,(vi s),a] R (fun v R'=>v=(vi r)):=z8v N d c e
theorem zcc{N:Nat}{R:RH}{w:(List Int)}{e:Value}(x:VRep (tSl false (qf .i64)) R e w){inputs:Int}{r:(List Int)}(c:fw N w inputs=some r):CallP prog 104 #[e,(vi inputs)] R (fun v R'=>VRep (tSl false (qf .i64)) R' v r):=by
 refine qd (args:=[e,(vi inputs)]) func104 rfl rfl fun A=>?_;rw [fw] at c;refine zl (zi vs0 (qy (il (T:=(qf .i64)) (X:=([]:List Int)) (ps:=[]) (css:=[]) rfl underlying32 zo3 rfl rfl (uj trivial) rfl rfl (by decide) fun v1 f2 an h4=>?_)));refine zg e ?_;obtain⟨g6,c⟩:=zb c
 refine ow (i:=0) (X:=([]:List Int)) (Y:=w) rfl underlying32 zo3 rfl rfl rfl h4 (j5 x) g6.1 g6.2 fun f f8 h9=>?_;refine zi f (z8 ?_);obtain⟨n,a,c⟩:=zq c;refine qx (γ:=(List Int)×Frag) (rs [4,5,6,7,10,34]) (fun g=>[]) (fun g=>[g.2]++A) (fun g R=>n=Ex.go g.1∧ORep (qf .i64) R g.2 f g.1∧True) ?_ ?_
 refine zl (zg f (zm (z0h rfl underlying32 rfl h9) ?_));obtain⟨G,a⟩:=zb a
 refine zm (z5u rfl rfl G) (zi (vi ((↑(([]:List Int)++w).length:Int)-1)) (z8 (zw (je (γ:=Nat×Int×(List Int)×Frag) (rs [4,5,6,7,13,34]) (fun g=>[(6,(vi g.2.1))]) (fun g=>[g.2.2.2]++A) (fun g R=>yn N inputs g.1 g.2.1 g.2.2.1=some n∧ORep (qf .i64) R g.2.2.2 f g.2.2.1∧True) (fun g=>g.1) (N,(↑(([]:List Int)++w).length:Int)-1,(([]:List Int)++w),f8) prm ⟨a,h9,trivial⟩ ?_))))
 clear a;rintro⟨k,b,h,H⟩ au av l ⟨a,d,_⟩;rcases k with _|k;exact qw a;replace a:yn N inputs (k+1) b h=some n:=a;rw [yn] at a;refine zt (zl (zg (vi b) (zm (r9 rfl rfl) (z8 (zu rfl a (fun a=>?_) (fun a=>?_))))))
 refine qb (zt (zw (zt (zl (zg f (zg (vi b) ?_))))));obtain⟨o,a⟩:=zb a;refine oz (i:=b.toNat) rfl ig rfl d (zf rfl o.1) (zx o) fun aw I=>?_;refine z7g (i:=b.toNat) (j:=0) rfl ty3 d rfl rfl I (zx o) fun ax K=>?_;obtain rfl:=jb.1 K;obtain⟨L,a⟩:=zb a
 refine zm (ji rfl rfl L) (zg (vi inputs) (zm (j4 rfl rfl) (z8 (zu rfl a (fun a=>?_) (fun a=>?_)))));refine zl (zg f (zg (vi b) ?_));obtain⟨p,a⟩:=zb a;refine oz (i:=b.toNat) rfl ig rfl d (zf rfl p.1) (zx p) fun ay M=>?_
 refine z7g (i:=b.toNat) (j:=0) rfl ty3 d rfl rfl M (zx p) fun az O=>?_;obtain rfl:=jb.1 O;obtain⟨P,a⟩:=zb a;refine zm (ji rfl rfl P) ?_;obtain⟨q,a⟩:=zb a;refine oz (i:=b.toNat) rfl ig rfl d (zf rfl q.1) (zx q) fun aA Q=>?_
 refine z3f (i:=b.toNat) (j:=0) ty3 d rfl rfl Q (zx q) rfl (jb.2 rfl) fun aB S=>?_;refine qy (zg f (zi f (z8 (fq (i:=0) rfl S fun U y V=>?_))));have W:VRep (tSl false (qf .i64)) U f (up h b ((ix h b)+1)):=(z7h V);refine qm ?_;replace c:=z00 a c;obtain rfl:=Option.some.inj c
 refine qa (D:=[]) (J:=[]) (rs:=[.tmp 4]) (vs:=[f]) (l.trans y) rfl rfl ⟨rfl,trivial⟩ ?_;exact⟨rfl,W⟩;refine qb (zn (zg f (zg (vi b) ?_)));obtain⟨s,a⟩:=zb a;refine oz (i:=b.toNat) rfl ig rfl d (zf rfl s.1) (zx s) fun aC Z=>?_
 refine z3f (i:=b.toNat) (j:=0) ty3 d rfl rfl Z (zx s) rfl (jb.2 rfl) fun aa ab=>?_;refine z8 (zn (zg (vi b) ?_));obtain⟨ac,a⟩:=zb a;refine zm (z5u rfl rfl ac) (zi (vi (b-1)) (z8 ?_))
 exact⟨dkt,(RH.le.refl _),jm,(k,b-1,(up h b 0),aa),Nat.lt_succ_self _,⟨rfl,trivial⟩,prm,a,ab,trivial⟩;refine jg ?_;exact⟨dkt,l,jm,(h,H),trivial,prm,(Option.some.inj a).symm,d,trivial⟩;rintro⟨z,aD⟩ aE aF C ⟨rfl,ad,_⟩;replace c:=z0v c
 refine zl (zg f (il (T:=(qf .i64)) (X:=([0]:List Int)) (ps:=[(0,(vi 0))]) (css:=[[(vi 0)]]) rfl underlying32 zo3 rfl rfl (uj ⟨rfl,trivial⟩) rfl rfl (by decide) fun ae aG t af=>?_));refine gq (i:=0) rfl af fun ag m ah=>?_;have ai:VRep (tSl true (qf .i64)) ag ae ([0]:List Int):=(z3i ah t)
 obtain⟨E,c⟩:=zb c;refine ow (i:=0) (X:=z) (Y:=([0]:List Int)) rfl underlying32 zo3 rfl rfl rfl (ad.mono m) (j5 (Sub.v (B:=(tSl false (qf .i64))) (ut Sub.refl (fun _=>rfl)) ai)) E.1 E.2 fun u aH aj=>?_;refine zi u (z8 (fq (i:=0) rfl aj fun ak F al=>?_))
 have am:VRep (tSl false (qf .i64)) ak u (z++([0]:List Int)):=(z7h al);refine qm ?_;obtain rfl:=Option.some.inj c;refine qa (D:=[]) (J:=[]) (rs:=[.tmp 4]) (vs:=[u]) ((C.trans m).trans F) rfl rfl ⟨rfl,trivial⟩ ?_;exact⟨rfl,am⟩
theorem q1r:Enters prog 104:=enters_of func104 rfl (by kernel_rfl)
theorem zbq{N:Nat}{R:RH}{m:Mach}{Q:Value}(S:VRep (jv false false) R Q m){f:Int}{r:(List (List Int))×(List Bool)}(o:su N m f=some r):CallP prog 97 #[Q,(vi f)] R (fun v R'=> ∃ u0 u1,v= .tuple #[u0,u1]∧VRep (tSl true (tSl false (qf .i64))) R' u0 r.1∧VRep (tSl true xe) R' u1 r.2):=by
 refine qd (args:=[Q,(vi f)]) func97 rfl rfl fun A=>?_;rw [su] at o;refine zl (kz (T:=(jv false false)) rfl rfl rfl S fun v1 R3 U h5 h2=>?_);refine zi vs0 (zi vs0 (qy (j6 rfl yu ug rfl h2 fun v6 h7=>?_)));refine qh rfl z1n rfl h7 fun v8 h9=>?_
 refine zm (qo rfl underlying28 rfl (j5 h9)) ?_;obtain⟨E,o⟩:=zb o;refine z6u (T:=(tSl false (qf .i64))) (m:=(↑m.rows.length:Int).toNat) (c:=(↑m.rows.length:Int).toNat) rfl underlying72 zw4 (zf rfl E.1) (zf rfl E.1) (Nat.le_refl _) (zdm E) (zdi E) fun h aE V aF=>?_
 refine zi h (qy (j6 rfl yu ug rfl h2 fun bf aG=>?_));refine qh rfl z1n rfl aG fun bg aH=>?_;refine zm (qo rfl underlying28 rfl (j5 aH)) ?_;obtain⟨F,o⟩:=zb o
 refine z6u (T:=xe) (m:=(↑m.rows.length:Int).toNat) (c:=(↑m.rows.length:Int).toNat) rfl underlying117 zo4 (zf rfl F.1) (zf rfl F.1) (Nat.le_refl _) (zdm F) (zdi F) fun d aI W aJ=>?_;refine zi d (z8 ?_);obtain⟨q,b,o⟩:=zq o
 refine qx (γ:=(List (List Int)×List Bool)×Frag×Frag) (rs [8,10,18,49]) (fun g=>[]) (fun g=>[g.2.1,g.2.2]++A) (fun g R=>q=g.1∧ORep (tSl false (qf .i64)) R g.2.1 h g.1.1∧capOf h=g.1.1.length∧ORep xe R g.2.2 d g.1.2∧capOf d=g.1.2.length∧True) ?_ ?_
 refine zl (il (T:=(qf .i64)) (X:=([]:List Int)) (ps:=[]) (css:=[]) rfl underlying32 zo3 rfl rfl (uj trivial) rfl rfl (by decide) fun Y bh Z aK=>?_);refine zi Y (z8 (zw (fq (i:=0) rfl aK fun aL l aM=>?_)));have aN:VRep (tSl true (qf .i64)) aL Y ([]:List Int):=(z3i aM Z)
 refine je (γ:=Nat×((List Int))×(List (List Int))×(List Bool)×Value×Frag×Frag) (rs [8,10,19,49]) (fun g=>[(8,g.2.2.2.2.1)]) (fun g=>[g.2.2.2.2.2.1,g.2.2.2.2.2.2]++A) (fun g R=>uw N m f g.1 g.2.1 g.2.2.1 g.2.2.2.1=some q∧VRep (tSl false (qf .i64)) R g.2.2.2.2.1 g.2.1∧ORep (tSl false (qf .i64)) R g.2.2.2.2.2.1 h g.2.2.1∧capOf h=g.2.2.1.length∧ORep xe R g.2.2.2.2.2.2 d g.2.2.2.1∧capOf d=g.2.2.2.1.length∧True) (fun g=>g.1) (N,[],(mk (↑m.rows.length:Int) ([]:List Int)),(mk (↑m.rows.length:Int) false),Y,aE,aI) ⟨[],(pk 1 rfl (pk 0 rfl (List.Perm.refl _)))⟩ ⟨b,(Sub.v (B:=(tSl false (qf .i64))) (ut Sub.refl (fun _=>rfl)) aN),(aF.mono l),(V.trans List.length_replicate.symm),(aJ.mono l),(W.trans List.length_replicate.symm),trivial⟩ ?_
 clear b;rintro⟨G,ac,H,I,K,ad,ae⟩ a4 bi n ⟨b,L,M,t,s,u,_⟩;rcases G with _|G;exact qw b;replace b:uw N m f (G+1) ac H I=some q:=b;rw [uw] at b
 refine zt (zl (zg K (zm (qo rfl underlying32 rfl (j5 L)) (j6 rfl yu ug rfl (h2.mono (l.trans n)) fun bj aO=>?_))));refine qh rfl z1n rfl aO fun bk aP=>?_;refine zm (qo rfl underlying28 rfl (j5 aP)) (zm (j4 rfl rfl) (z8 (zu rfl b (fun b=>?_) (fun b=>?_))));refine qb ?_
 obtain⟨O,k,b⟩:=zq b;refine qx (γ:=(List (List Int)×List Bool)×Frag×Frag) (rs [9,10,29,49]) (fun g=>[]) (fun g=>[g.2.1,g.2.2]++A) (fun g R=>O=g.1∧ORep (tSl false (qf .i64)) R g.2.1 h g.1.1∧capOf h=g.1.1.length∧ORep xe R g.2.2 d g.1.2∧capOf d=g.1.2.length∧True) ?_ ?_
 refine zw (zl (zm (ky z0w rfl rfl (h5.mono (l.trans n)) (S.mono ((U.trans l).trans n))) (zg (vi f) (zg K ?_))));obtain⟨e,aQ,k⟩:=zq k;refine jf rfl zzi rfl (zbp (S.mono ((U.trans l).trans n)) L aQ) fun bl bm a aR=>?_;obtain rfl:=aR
 refine zi (vi e) (qy (jq (v:=(vi e)) rfl (ze rfl) (jq rfl (r9 rfl rfl) (jq (v:=(.bool (decide (0≤e)))) rfl (ze rfl) (qp rfl rfl rfl rfl (fun w=>qg (v:=d) (ze rfl)) fun bn aS=>?_)))));refine qp rfl rfl rfl rfl (fun w=>qg (v:=(vi e)) (ze rfl)) fun bo aT=>?_;obtain⟨aa,k⟩:=zb k
 refine qp rfl rfl rfl rfl (fun w=>z3c (i:=e.toNat) z99 (aS.1 (zh rfl w)) (s.mono a) (zf (aT.1 (zh rfl w)) (aa (zh rfl w)).1) (zx (aa (zh rfl w)))) fun bp aU=>?_
 refine qp rfl rfl rfl rfl (fun w=>qg (zmx (za9 (i:=e.toNat) (j:=1) ty4 (s.mono a) rfl rfl (aU.1 (zh rfl w)) (zx (aa (zh rfl w)))))) fun bq aV=>?_;refine qp rfl rfl rfl rfl (fun w=>qg (rf (aV.1 (zh rfl w)))) fun br aW=>?_
 refine jq rfl (bz rfl (fun hb=>(aW.1 (zh rfl hb))) rfl) (z8 (zu rfl k (fun k=>?_) (fun k=>?_)));refine zl (zg d (zg (vi e) ?_));obtain⟨ab,k⟩:=zb k;refine oz (i:=e.toNat) rfl z99 rfl (s.mono a) (zf rfl ab.1) (zx ab) fun bt af=>?_
 refine z3f (i:=e.toNat) (j:=1) ty4 (s.mono a) rfl rfl af (zx ab) rfl (sw.2 rfl) fun ag ah=>?_;refine z8 (zn (zg h (zg (vi e) (zg K ?_))));obtain⟨x,k⟩:=zb k;refine oz (i:=e.toNat) rfl zvb rfl (M.mono a) (zf rfl x.1) (zx x) fun a5 ai=>?_
 refine z3f (i:=e.toNat) (j:=0) zc3 (M.mono a) rfl rfl ai (zx x) rfl (L.mono a) fun aj ak=>?_;refine z8 ?_;exact⟨dkt,a,jm,(((up H e ac),(up I e true)),aj,ag),trivial,prm,(Option.some.inj k).symm,ak,(t.trans List.length_set.symm),ah,(u.trans List.length_set.symm),trivial⟩;refine qb ?_
 exact⟨dkt,a,jm,((H,I),ad,ae),trivial,prm,(Option.some.inj k).symm,(M.mono a),t,(s.mono a),u,trivial⟩;rintro⟨O,aX,aY⟩ a6 bu y ⟨rfl,aZ,al,a0,am,_⟩;refine zn (zg K (j6 rfl z1o z2v rfl (h2.mono ((l.trans n).trans y)) fun a7 an=>?_));refine qh rfl ty3 rfl an fun a8 ao=>?_
 obtain rfl:=jb.1 ao;obtain⟨ap,aq,b⟩:=zq b;refine jf rfl q1r rfl (zcc (L.mono y) aq) fun P a9 p ar=>?_;refine zi P (z8 ?_);exact⟨dkt,(y.trans p),jm,(G,ap,O.1,O.2,P,aX,aY),Nat.lt_succ_self _,⟨rfl,trivial⟩,prm,b,ar,(aZ.mono p),al,(a0.mono p),am,trivial⟩
 refine jg ?_;exact⟨dkt,(l.trans n),jm,((H,I),ad,ae),trivial,prm,(Option.some.inj b).symm,M,t,s,u,trivial⟩;rintro⟨q,bv,bw⟩ ba bx au ⟨rfl,a1,av,a2,aw,_⟩;refine zl (zg h (zg d (zi h (zi d (z8 (fq (i:=0) rfl a1 fun ax z ay=>?_))))))
 have az:VRep (tSl true (tSl false (qf .i64))) ax h q.1:=(z3i ay av);refine fq (i:=0) rfl (a2.mono z) fun aA C aB=>?_;have aC:VRep (tSl true xe) aA d q.2:=(z3i aB aw);refine qm ?_;obtain rfl:=Option.some.inj o
 refine qa (D:=[]) (J:=[]) (rs:=[.tmp 4,.tmp 5]) (vs:=[h,d]) (((U.trans au).trans z).trans C) rfl rfl ⟨rfl,rfl,trivial⟩ ?_;exact⟨rfl,⟨h,d,rfl,(az.mono C),aC⟩⟩
theorem q5f:Enters prog 97:=enters_of func97 rfl (by kernel_rfl)
theorem zak{N:Nat}{R:RH}{m:Mach}{b:Value}(c:VRep (jv false false) R b m){r:(List (List Int))×(List Bool)}(a:lg N m=some r):CallP prog 83 #[b] R (fun v R'=> ∃ u0 j,v= .tuple #[u0,j]∧VRep (tSl true (tSl false (qf .i64))) R' u0 r.1∧VRep (tSl true xe) R' j r.2):=by
 refine qd (args:=[b]) func83 rfl rfl fun A=>?_;rw [lg] at a;refine zl (kz (T:=(jv false false)) rfl rfl rfl c fun p q d k s=>?_);refine zi vs0 (zi vs0 (qy (zm (ky z0w rfl rfl k (c.mono d)) ?_)));obtain⟨t,l,a⟩:=zq a
 refine jf rfl q5f rfl (zbq (c.mono d) l) fun u n g o=>?_;obtain⟨e,f,rfl,h,i⟩:=o;refine zm (jr rfl rfl) (zm (jr rfl rfl) (zi e (zi f (z8 (qm ?_)))));obtain rfl:=Option.some.inj a
 refine qa (D:=[]) (J:=[]) (rs:=[.tmp 2,.tmp 3]) (vs:=[e,f]) (d.trans g) rfl rfl ⟨rfl,rfl,trivial⟩ ?_;exact⟨rfl,⟨e,f,rfl,h,i⟩⟩
theorem q4j:Enters prog 83:=enters_of func83 rfl (by kernel_rfl)
theorem zcl{N:Nat}{R:RH}{a:(List Int)}{f:Value}(l:VRep (tSl false (qf .i64)) R f a){b:(List Int)}{j:Value}(m:VRep (tSl false (qf .i64)) R j b){r:Int}(d:ai N a b=some r):CallP prog 84 #[f,j] R (fun v R'=>v=(vi r)):=by
 refine qd (args:=[f,j]) func84 rfl rfl fun A=>?_;rw [ai] at d;refine zl (zi (vi 0) (z8 (zt (zl (zg f (zm (qo rfl underlying32 rfl (j5 l)) (zg j (zm (qo rfl underlying32 rfl (j5 m)) (zm (ww rfl rfl) (z8 (zu rfl d (fun d=>?_) (fun d=>?_))))))))))))
 refine zt (zl (zg f (zm (qo rfl underlying32 rfl (j5 l)) (zg j (zm (qo rfl underlying32 rfl (j5 m)) (zm (j4 rfl rfl) (z8 (zu rfl d (fun d=>?_) (fun d=>?_)))))))));refine zl (zi (vi 1) (z8 (qm ?_)));obtain rfl:=Option.some.inj d
 refine qa (D:=[]) (J:=[]) (rs:=[.tmp 4]) (vs:=[(vi 1)]) (RH.le.refl _) rfl rfl ⟨rfl,trivial⟩ ?_;exact⟨rfl,rfl⟩;refine qb (zl (zi (vi 0) (z8 (qm ?_))));obtain rfl:=Option.some.inj d;refine qa (D:=[]) (J:=[]) (rs:=[.tmp 4]) (vs:=[(vi 0)]) (RH.le.refl _) rfl rfl ⟨rfl,trivial⟩ ?_;exact⟨rfl,rfl⟩;refine qb ?_
 obtain⟨u,c,d⟩:=zq d;refine qx (γ:=Unit) (rs [4,6,16,40]) (fun g=>[]) (fun g=>[]++A) (fun g R=>u=Ex.go g∧True) ?_ ?_
 refine zl (zi (vi 0) (z8 (zw (je (γ:=Nat×Int) (rs [4,6,16,40]) (fun g=>[(5,(vi g.2))]) (fun g=>[]++A) (fun g R=>xq N a b g.1 g.2=some u∧True) (fun g=>g.1) (N,0) prm ⟨c,trivial⟩ ?_))));clear c;rintro⟨t,k⟩ E O e ⟨c,_⟩;rcases t with _|t;exact qw c
 replace c:xq N a b (t+1) k=some u:=c;rw [xq] at c;refine zt (zl (zg (vi k) (zg f (zm (qo rfl underlying32 rfl (j5 (l.mono e))) (zm (j4 rfl rfl) (z8 (zu rfl c (fun c=>?_) (fun c=>?_))))))))
 refine qb (zt (zw (zt (z2k 9 mixed (by kernel_rfl) (by kernel_rfl) ?_))));refine uo (v:=f) (ze rfl) ?_;refine uo (v:=(vi k)) (ze rfl) ?_;obtain⟨o,c⟩:=zb c;refine z2h (gm (i:=k.toNat) ig rfl (j5 (l.mono e)) (zf rfl o.1) (zx o)) fun F w=>?_;refine uo (bi (ko ty3 rfl w)) ?_
 refine uo (v:=j) (ze rfl) ?_;refine uo (v:=(vi k)) (ze rfl) ?_;obtain⟨p,c⟩:=zb c;refine z2h (gm (i:=k.toNat) ig rfl (j5 (m.mono e)) (zf rfl p.1) (zx p)) fun G x=>?_;refine uo (bi (ko ty3 rfl x)) ?_;refine uo (ww rfl rfl) ?_;intro H h
 refine z8 (zu rfl c (fun c=>?_) (fun c=>?_));refine zt (zt (z2k 9 mixed (by kernel_rfl) (by kernel_rfl) ?_));refine uo (v:=f) (ze rfl) ?_;refine uo (v:=(vi k)) (ze rfl) ?_;obtain⟨q,c⟩:=zb c
 refine z2h (gm (i:=k.toNat) ig rfl (j5 (l.mono (e.trans h))) (zf rfl q.1) (zx q)) fun I y=>?_;refine uo (bi (ko ty3 rfl y)) ?_;refine uo (v:=j) (ze rfl) ?_;refine uo (v:=(vi k)) (ze rfl) ?_;obtain⟨s,c⟩:=zb c
 refine z2h (gm (i:=k.toNat) ig rfl (j5 (m.mono (e.trans h))) (zf rfl s.1) (zx s)) fun K z=>?_;refine uo (bi (ko ty3 rfl z)) ?_;refine uo (j4 rfl rfl) ?_;intro L n;refine z8 (zu rfl c (fun c=>?_) (fun c=>?_));refine zl (zi (vi 1) (z8 (qm ?_)));replace d:=z00 c d
 obtain rfl:=Option.some.inj d;refine qa (D:=[]) (J:=[]) (rs:=[.tmp 4]) (vs:=[(vi 1)]) ((e.trans h).trans n) rfl rfl ⟨rfl,trivial⟩ ?_;exact⟨rfl,rfl⟩;refine qb (zl (zi (vi 0) (z8 (qm ?_))));replace d:=z00 c d;obtain rfl:=Option.some.inj d
 refine qa (D:=[]) (J:=[]) (rs:=[.tmp 4]) (vs:=[(vi 0)]) ((e.trans h).trans n) rfl rfl ⟨rfl,trivial⟩ ?_;exact⟨rfl,rfl⟩;refine qb (zn (zg (vi k) ?_));obtain⟨B,c⟩:=zb c;refine zm (ji rfl rfl B) (zi (vi (k+1)) (z8 ?_))
 exact⟨dkt,h,jm,(t,k+1),Nat.lt_succ_self _,⟨rfl,trivial⟩,prm,c,trivial⟩;refine jg ?_;exact⟨dkt,e,jm,(),trivial,prm,(Option.some.inj c).symm,trivial⟩;rintro P M Q C ⟨rfl,_⟩;replace d:=z0v d;refine zl (zi (vi 0) (z8 (qm ?_)));obtain rfl:=Option.some.inj d
 refine qa (D:=[]) (J:=[]) (rs:=[.tmp 4]) (vs:=[(vi 0)]) C rfl rfl ⟨rfl,trivial⟩ ?_;exact⟨rfl,rfl⟩
theorem q5x:Enters prog 84:=enters_of func84 rfl (by kernel_rfl)
theorem zbn{N:Nat}{R:RH}{m:Mach}{ah:Value}(ai:VRep (jv false false) R ah m){r:(List Int)}(H:z06 N m=some r):CallP prog 74 #[ah] R (fun v R'=>VRep (tSl false (qf .i64)) R' v r):=by
 refine qd (args:=[ah]) func74 rfl rfl fun A=>?_;rw [z06] at H;refine zl (kz (T:=(jv false false)) rfl rfl rfl ai fun v1 R3 aj h5 h2=>?_);refine zi vs0 (qy (zm (ky z0w rfl rfl h5 (ai.mono aj)) ?_));obtain⟨U,c7,H⟩:=zq H
 refine jf rfl q4j rfl (zak (ai.mono aj) c7) fun v8 bv ar h9=>?_;obtain⟨C,ak,rfl,al,aV⟩:=h9;refine zg (.tuple #[C,ak]) (zm (jr rfl rfl) (zm (jr rfl rfl) (zi C (zi ak (qy (zi vs0 (z8 ?_)))))));obtain⟨K,n,H⟩:=zq H
 refine qx (γ:=(List Int)×Value×Frag) (rs [5,9,14,60]) (fun g=>[(5,g.2.1)]) (fun g=>[g.2.2]++A) (fun g R=>K=g.1∧ORep (qf .i64) R g.2.2 g.2.1 g.1∧True) ?_ ?_;refine zl (zi (vi 0) (z8 (zw (z4h ?_))))
 refine je (γ:=Nat×(List Int)×Int×Value×Frag) (rs [5,9,14,60]) (fun g=>[(5,g.2.2.2.1),(6,(vi g.2.2.1))]) (fun g=>[g.2.2.2.2]++A) (fun g R=>xc N U g.1 g.2.1 g.2.2.1=some K∧ORep (qf .i64) R g.2.2.2.2 g.2.2.2.1 g.2.1∧True) (fun g=>g.1) (N,[],0,vs0,emp) prm ⟨n,(z14 (T:=(qf .i64))),trivial⟩ ?_;clear n
 rintro⟨M,a,d,q,O⟩ ba bx z ⟨n,I,_⟩;rcases M with _|M;exact qw n;replace n:xc N U (M+1) a d=some K:=n;rw [xc] at n
 refine zt (zl (zg (vi d) (zg C (zm (qo rfl underlying72 rfl (j5 (al.mono z))) (zm (j4 rfl rfl) (z8 (zu rfl n (fun n=>?_) (fun n=>?_))))))));refine qb ?_;obtain⟨am,e,n⟩:=zq n
 refine qx (γ:=(List Int)×Value×Frag) (rs [5,6,7,9,20,60]) (fun g=>[(5,g.2.1)]) (fun g=>[g.2.2]++A) (fun g R=>am=g.1∧ORep (qf .i64) R g.2.2 g.2.1 g.1∧True) ?_ ?_;refine zw (zt (zl (zg ak (zg (vi d) ?_))));obtain⟨au,e⟩:=zb e
 refine kv (i:=d.toNat) rfl z99 rfl (j5 (aV.mono z)) (zf rfl au.1) (zx au) fun bA aW=>?_;refine qh rfl ty4 rfl aW fun bB aX=>?_;obtain rfl:=sw.1 aX;refine zm (rf rfl) (z8 (zu rfl e (fun e=>?_) (fun e=>?_)));refine jg ?_
 exact⟨dkt,(RH.le.refl _),jm,(a,q,O),⟨rfl,trivial⟩,prm,(Option.some.inj e).symm,I,trivial⟩;refine qb (zl (zi (vi 0) (z8 ?_)));obtain⟨f,k,e⟩:=zq e;refine qx (γ:=Int) (rs [7,8,25,46]) (fun g=>[(7,(vi g))]) (fun g=>[O]++A) (fun g R=>f=g∧True) ?_ ?_
 refine zw (je (γ:=Nat×Int) (rs [7,8,25,46]) (fun g=>[(7,(vi g.2))]) (fun g=>[O]++A) (fun g R=>yx N U a d g.1 g.2=some f∧True) (fun g=>g.1) (N,0) prm ⟨k,trivial⟩ ?_);clear k;rintro⟨P,b⟩ bb bC t ⟨k,_⟩;rcases P with _|P;exact qw k
 replace k:yx N U a d (P+1) b=some f:=k;rw [yx] at k;refine zt (zt ?_);obtain⟨an,av,aw,k⟩:=zxh k;obtain⟨L,aY,k⟩:=zq k
 refine dz 19 [] [phX (vi b),phX q,phX (vi (↑a.length:Int)),phX (.bool (decide (b<(↑a.length:Int)))),phX (.bool (decide (b<(↑a.length:Int)))),phG (true&&((decide (b<(↑a.length:Int)))==true)) (phX C),phG (true&&((decide (b<(↑a.length:Int)))==true)) (phX q),phG (true&&((decide (b<(↑a.length:Int)))==true)) (phX (vi b)),phG (true&&((decide (b<(↑a.length:Int)))==true)) ((fun u _=>z4r (qf .i64) q a u b.toNat)),phG (true&&((decide (b<(↑a.length:Int)))==true)) (phX (vi (ix a b))),phG (true&&((decide (b<(↑a.length:Int)))==true)) (phP (tSl false (qf .i64)) (ix U.1 (ix a b))),phG (true&&((decide (b<(↑a.length:Int)))==true)) (phR (tSl false (qf .i64)) (ix U.1 (ix a b))),phG (true&&((decide (b<(↑a.length:Int)))==true)) (phX C),phG (true&&((decide (b<(↑a.length:Int)))==true)) (phX (vi d)),phG (true&&((decide (b<(↑a.length:Int)))==true)) (phP (tSl false (qf .i64)) (ix U.1 d)),phG (true&&((decide (b<(↑a.length:Int)))==true)) (phR (tSl false (qf .i64)) (ix U.1 d)),phG (true&&((decide (b<(↑a.length:Int)))==true)) (phX (vi (L.getD default))),phG (true&&((decide (b<(↑a.length:Int)))==true)) (phX (.bool (decide ((L.getD default)=1)))),phX (.bool ((decide (b<(↑a.length:Int)))&&(decide ((L.getD default)=1))))] mixed (by kernel_rfl) (gu ⟨zo,zo,zo,zo,zo,(ql zo),(ql zo),(ql zo),(ql (fun _ _ _ _ h=>h)),(ql zo),(ql u6),(ql yz),(ql zo),(ql zo),(ql u6),(ql yz),(ql zo),(ql zo),zo,trivial⟩) ⟨?_,?_,?_,?_,?_,?_,?_,?_,?_,?_,?_,?_,?_,?_,?_,?_,?_,?_,?_,trivial⟩ fun bD V=>?_
 intro l bE c s hd;exact za rfl rfl rfl (zz (ze (s 7 rfl)));intro l bG c s hd;exact za rfl rfl rfl (zz (ze (s 5 rfl)));rintro l bH c s ⟨o,_⟩;exact za rfl rfl rfl (zz (z0h rfl underlying32 (o rfl) ((I.mono t).mono c)));rintro l bI c s ⟨o,x,_⟩;exact za rfl rfl rfl (zz (j4 (o rfl) (x rfl)))
 rintro l bJ c s ⟨o,_⟩;exact za rfl rfl rfl (zz (ze (o rfl)));rintro l bK c s ⟨o,_⟩;exact zk (Gj:=true) (Bj:=decide (b<(↑a.length:Int))) rfl rfl rfl (jo (o rfl)) rfl (fun w p=>zz (ze (s 3 rfl)));rintro l bL c s ⟨o,_⟩
 exact zk (Gj:=true) (Bj:=decide (b<(↑a.length:Int))) rfl rfl rfl (jo (o rfl)) rfl (fun w p=>zz (ze (s 5 rfl)));rintro l bM c s ⟨o,_⟩;exact zk (Gj:=true) (Bj:=decide (b<(↑a.length:Int))) rfl rfl rfl (jo (o rfl)) rfl (fun w p=>zz (ze (s 7 rfl)));rintro l bN c s ⟨o,x,d2,_⟩
 exact zk (Gj:=true) (Bj:=decide (b<(↑a.length:Int))) rfl rfl rfl (jo (d2 rfl)) rfl (fun w p=>zaf (i:=b.toNat) ig (show l 31=q from(o rfl).1 (zh rfl p)) ((I.mono t).mono c) (zf (show l 32=(vi b) from(x rfl).1 (zh rfl p)) (an (zh w p)).1) (zx (an (zh w p))));rintro l bO c s ⟨o,x,_⟩
 exact zk (Gj:=true) (Bj:=decide (b<(↑a.length:Int))) rfl rfl rfl (jo (x rfl)) rfl (fun w p=>yf (zwv (i:=b.toNat) (j:=0) ty3 ((I.mono t).mono c) rfl rfl ((o rfl).1 (zh rfl p)) (zx (an (zh w p)))) (fun _ _ h=>jb.1 h));rintro l bc c s ⟨o,x,d2,_⟩
 exact zk (Gj:=true) (Bj:=decide (b<(↑a.length:Int))) rfl rfl rfl (jo (d2 rfl)) rfl (fun w p=>ul (i:=(ix a b).toNat) zvb (show l 30=C from(o rfl).1 (zh rfl p)) (j5 ((al.mono (z.trans t)).mono c)) (zf (show l 34=(vi (ix a b)) from(x rfl).1 (zh rfl p)) (av (zh w p)).1) (zx (av (zh w p))))
 rintro l be c s ⟨o,x,_⟩;exact zk (Gj:=true) (Bj:=decide (b<(↑a.length:Int))) rfl rfl rfl (jo (x rfl)) rfl (fun w p=>jh zc3 rfl ((o rfl).1 (zh rfl p)));rintro l bf c s ⟨o,_⟩;exact zk (Gj:=true) (Bj:=decide (b<(↑a.length:Int))) rfl rfl rfl (jo (o rfl)) rfl (fun w p=>zz (ze (s 3 rfl)))
 rintro l bg c s ⟨o,_⟩;exact zk (Gj:=true) (Bj:=decide (b<(↑a.length:Int))) rfl rfl rfl (jo (o rfl)) rfl (fun w p=>zz (ze (s 6 rfl)));rintro l bh c s ⟨o,x,d2,_⟩
 exact zk (Gj:=true) (Bj:=decide (b<(↑a.length:Int))) rfl rfl rfl (jo (d2 rfl)) rfl (fun w p=>ul (i:=d.toNat) zvb (show l 37=C from(o rfl).1 (zh rfl p)) (j5 ((al.mono (z.trans t)).mono c)) (zf (show l 38=(vi d) from(x rfl).1 (zh rfl p)) (aw (zh w p)).1) (zx (aw (zh w p))))
 rintro l bi c s ⟨o,x,_⟩;exact zk (Gj:=true) (Bj:=decide (b<(↑a.length:Int))) rfl rfl rfl (jo (x rfl)) rfl (fun w p=>jh zc3 rfl ((o rfl).1 (zh rfl p)));rintro l bj c s ⟨o,x,d2,d3,_⟩
 exact zk (Gj:=true) (Bj:=decide (b<(↑a.length:Int))) rfl rfl rfl (jo (d2 rfl)) rfl (fun w p=>bu (vs:=[(l 36),(l 40)]) q5x rfl ((by have aZ:=(z0x aY (zh w p));exact zcl ((o rfl).1 (zh rfl p)) ((x rfl).1 (zh rfl p)) aZ)) (fun _ _ h=>h));rintro l bk c s ⟨o,x,_⟩
 exact zk (Gj:=true) (Bj:=decide (b<(↑a.length:Int))) rfl rfl rfl (jo (x rfl)) rfl (fun w p=>zz (yw (show l 41=(vi (L.getD default)) from(o rfl).1 (zh rfl p)) rfl));rintro l bl c s ⟨o,x,_⟩
 exact za rfl rfl rfl (zz (bz (o rfl) (fun hb=>(show l 42=(.bool (decide ((L.getD default)=1))) from(x rfl).1 (zh rfl hb))) rfl));intro bQ a0 bR a1 bS a2 bT a3 bU a4 bV bW bX bY bZ b0 b1 b2 b3 b4 b5 b6 b7 b8 b9 ca cb cc cd ce cf cg ch ci cj ck cl a5;obtain rfl:=Eq.symm a0;obtain rfl:=Eq.symm a1;obtain rfl:=Eq.symm a2
 obtain rfl:=Eq.symm a3;obtain rfl:=Eq.symm a4;obtain rfl:=Eq.symm a5;refine z8 (zu rfl k (fun k=>?_) (fun k=>?_));refine qb (zw (zn (zg (vi b) ?_)));obtain⟨ax,k⟩:=zb k;refine zm (ji rfl rfl ax) (zi (vi (b+1)) (z8 ?_))
 exact⟨dkt,V,jm,(P,b+1),Nat.lt_succ_self _,⟨rfl,trivial⟩,prm,k,trivial⟩;refine jg ?_;exact⟨dkt,(t.trans V),jm,b,⟨rfl,trivial⟩,prm,(Option.some.inj k).symm,trivial⟩;rintro f bm cm W ⟨rfl,_⟩
 refine zl (zi vs0 (qy (zg vs0 (zg q (zg (vi f) (gq (i:=0) rfl (I.mono W) fun Z ap ay=>?_))))));have E:VRep (tSl false (qf .i64)) Z q a:=(z7h ay);obtain⟨F,e⟩:=zb e
 refine zab (v:=q) (lo:=(0:Int).toNat) (hi:=f.toNat) (mx:=(capOf q)) rfl ig rfl (j5 E) (.inl ⟨rfl,rfl⟩) (.inr ⟨_,congrArg some (zf rfl (zgw F))⟩) (.inl ⟨rfl,rfl⟩) (zjy F) (z95 F) (Nat.le_trans (z95 F) (zql (j5 E))) (Nat.le_refl _) (X':=(cut a 0 f)) rfl fun az aA aT=>?_
 have aB:VRep (tSl false (qf .i64)) Z az (cut a 0 f):=z7h aA;refine zun ?_;obtain⟨aa,e⟩:=zb e;refine ow (i:=0) (X:=([]:List Int)) (Y:=(cut a 0 f)) rfl underlying32 zo3 rfl rfl rfl (z14 (T:=(qf .i64))) (j5 aB) aa.1 aa.2 fun ab bn aC=>?_
 refine zi ab (qy (zg ab (zg (vi d) (il (T:=(qf .i64)) (X:=([d]:List Int)) (ps:=[(0,(vi d))]) (css:=[[(vi d)]]) rfl underlying32 zo3 rfl rfl (uj ⟨rfl,trivial⟩) rfl rfl (by decide) fun aD bo Q aE=>?_))));refine gq (i:=0) rfl aE fun ac y aF=>?_
 have aG:VRep (tSl true (qf .i64)) ac aD ([d]:List Int):=(z3i aF Q);obtain⟨ad,e⟩:=zb e;refine ow (i:=0) (X:=(([]:List Int)++(cut a 0 f))) (Y:=([d]:List Int)) rfl underlying32 zo3 rfl rfl rfl (aC.mono y) (j5 (Sub.v (B:=(tSl false (qf .i64))) (ut Sub.refl (fun _=>rfl)) aG)) ad.1 ad.2 fun ae bp aH=>?_
 refine zi ae (z8 (zn (zg ae (zg q (zg (vi f) ?_)))));obtain⟨G,e⟩:=zb e
 refine zab (v:=q) (lo:=f.toNat) (hi:=(↑a.length:Int).toNat) (mx:=(capOf q)) rfl ig rfl (j5 (E.mono y)) (.inr ⟨_,congrArg some (zf rfl G.1)⟩) (.inl ⟨rfl,rfl,rfl⟩) (.inl ⟨rfl,rfl⟩) (zjy G) (z95 G) (Nat.le_trans (z95 G) (zql (j5 (E.mono y)))) (Nat.le_refl _) (X':=(cut a f (↑a.length:Int))) rfl fun aI aJ aU=>?_
 have aK:VRep (tSl false (qf .i64)) ac aI (cut a f (↑a.length:Int)):=z7h aJ;obtain⟨af,e⟩:=zb e;refine ow (i:=0) (X:=((([]:List Int)++(cut a 0 f))++([d]:List Int))) (Y:=(cut a f (↑a.length:Int))) rfl underlying32 zo3 rfl rfl rfl aH (j5 aK) af.1 af.2 fun ag aL aM=>?_;refine zi ag (z8 ?_)
 exact⟨dkt,((W.trans ap).trans y),jm,((((([]:List Int)++(cut a 0 f))++([d]:List Int))++(cut a f (↑a.length:Int))),ag,aL),⟨rfl,trivial⟩,prm,(Option.some.inj e).symm,aM,trivial⟩;rintro⟨am,a6,a7⟩ bq cn aN ⟨rfl,a8,_⟩;refine zn (zg (vi d) ?_);obtain⟨aO,n⟩:=zb n
 refine zm (ji rfl rfl aO) (zi (vi (d+1)) (z8 ?_));exact⟨dkt,aN,jm,(M,am,d+1,a6,a7),Nat.lt_succ_self _,⟨rfl,rfl,trivial⟩,prm,n,a8,trivial⟩;refine jg ?_;exact⟨dkt,z,jm,(a,q,O),⟨rfl,trivial⟩,prm,(Option.some.inj n).symm,I,trivial⟩;rintro⟨K,S,co⟩ br cp aP ⟨rfl,a9,_⟩
 refine zl (zg S (zi S (z8 (fq (i:=0) rfl a9 fun aQ aq aR=>?_))));have aS:VRep (tSl false (qf .i64)) aQ S K:=(z7h aR);refine qm ?_;obtain rfl:=Option.some.inj H;refine qa (D:=[]) (J:=[]) (rs:=[.tmp 2]) (vs:=[S]) (((aj.trans ar).trans aP).trans aq) rfl rfl ⟨rfl,trivial⟩ ?_;exact⟨rfl,aS⟩
theorem q57:Enters prog 74:=enters_of func74 rfl (by kernel_rfl)
theorem z5r{N:Nat}{R:RH}{m:Mach}{O:Value}(p:VRep (jv false false) R O m){r:(List Int)}(j:ic N m=some r):CallP prog 53 #[O] R (fun v R'=>VRep (tSl false (qf .i64)) R' v r):=by
 refine qd (args:=[O]) func53 rfl rfl fun A=>?_;rw [ic] at j;refine zl (kz (T:=(jv false false)) rfl rfl rfl p fun v1 R3 q h5 h2=>?_);refine zi vs0 (qy (zm (ky z0w rfl rfl h5 (p.mono q)) ?_));obtain⟨y6,c7,j⟩:=zq j
 refine jf rfl q2m rfl (z5c (p.mono q) c7) fun v8 aQ o h9=>?_;refine zi v8 (qy (zm (ky z0w rfl rfl (h5.mono o) (p.mono (q.trans o))) ?_));obtain⟨e,ax,j⟩:=zq j;refine jf rfl q57 rfl (zbn (p.mono (q.trans o)) ax) fun s aR t C=>?_
 refine zi s (qy (zi vs0 (z8 ?_)));obtain⟨u,b,j⟩:=zq j;refine qx (γ:=(List Int)×Value×Frag) (rs [5,9,13,48]) (fun g=>[(5,g.2.1)]) (fun g=>[g.2.2]++A) (fun g R=>u=g.1∧ORep (qf .i64) R g.2.2 g.2.1 g.1∧True) ?_ ?_;refine zl (zi (vi 0) (z8 (zw (z4h ?_))))
 refine je (γ:=Nat×(List Int)×Int×Value×Frag) (rs [5,9,13,48]) (fun g=>[(5,g.2.2.2.1),(6,(vi g.2.2.1))]) (fun g=>[g.2.2.2.2]++A) (fun g R=>yg N y6 e g.1 g.2.1 g.2.2.1=some u∧ORep (qf .i64) R g.2.2.2.2 g.2.2.2.1 g.2.1∧True) (fun g=>g.1) (N,[],0,vs0,emp) prm ⟨b,(z14 (T:=(qf .i64))),trivial⟩ ?_
 clear b;rintro⟨E,w,a,P,x⟩ aJ aS f ⟨b,Q,_⟩;rcases E with _|E;exact qw b;replace b:yg N y6 e (E+1) w a=some u:=b;rw [yg] at b
 refine zt (zl (zg (vi a) (zg s (zm (qo rfl underlying32 rfl (j5 (C.mono f))) (zm (j4 rfl rfl) (z8 (zu rfl b (fun b=>?_) (fun b=>?_))))))));refine qb ?_;obtain⟨S,h,b⟩:=zq b
 refine qx (γ:=(List Int)×Value×Frag) (rs [5,6,7,9,19,48]) (fun g=>[(5,g.2.1)]) (fun g=>[g.2.2]++A) (fun g R=>S=g.1∧ORep (qf .i64) R g.2.2 g.2.1 g.1∧True) ?_ ?_;refine zw (zl (zi (vi 0) (z8 ?_)));obtain⟨y,c,h⟩:=zq h
 refine qx (γ:=Int) (rs [7,9,19,39]) (fun g=>[(7,(vi g))]) (fun g=>[x]++A) (fun g R=>y=g∧True) ?_ ?_
 refine zl (zi (vi 0) (z8 (zw (je (γ:=Nat×Int×Int) (rs [7,9,19,39]) (fun g=>[(7,(vi g.2.1)),(8,(vi g.2.2))]) (fun g=>[x]++A) (fun g R=>yc N y6 e a g.1 g.2.1 g.2.2=some y∧True) (fun g=>g.1) (N,0,0) prm ⟨c,trivial⟩ ?_))));clear c;rintro⟨F,U,k⟩ aT aU l ⟨c,_⟩;rcases F with _|F
 exact qw c;replace c:yc N y6 e a (F+1) U k=some y:=c;rw [yc] at c;refine zt (zl (zg (vi k) (zg (vi a) (zm (j4 rfl rfl) (z8 (zu rfl c (fun c=>?_) (fun c=>?_)))))));refine qb ?_;obtain⟨V,d,c⟩:=zq c
 refine qx (γ:=Int) (rs [7,8,24,39]) (fun g=>[(7,(vi g))]) (fun g=>[x]++A) (fun g R=>V=g∧True) ?_ ?_;refine zw (zt (z2k 15 mixed (by kernel_rfl) (by kernel_rfl) ?_));refine uo (v:=v8) (ze rfl) ?_;refine uo (v:=s) (ze rfl) ?_;refine uo (v:=(vi k)) (ze rfl) ?_;obtain⟨Z,d⟩:=zb d
 refine z2h (gm (i:=k.toNat) ig rfl (j5 (C.mono (f.trans l))) (zf rfl Z.1) (zx Z)) fun aV ay=>?_;refine uo (bi (ko ty3 rfl ay)) ?_;obtain⟨aa,d⟩:=zb d;refine z2h (gm (i:=(ix e k).toNat) ig rfl (j5 (h9.mono ((t.trans f).trans l))) (zf rfl aa.1) (zx aa)) fun aW az=>?_
 refine uo (bi (ko ty3 rfl az)) ?_;refine uo (v:=v8) (ze rfl) ?_;refine uo (v:=s) (ze rfl) ?_;refine uo (v:=(vi a)) (ze rfl) ?_;obtain⟨ab,d⟩:=zb d;refine z2h (gm (i:=a.toNat) ig rfl (j5 (C.mono (f.trans l))) (zf rfl ab.1) (zx ab)) fun aX aA=>?_;refine uo (bi (ko ty3 rfl aA)) ?_
 obtain⟨ac,d⟩:=zb d;refine z2h (gm (i:=(ix e a).toNat) ig rfl (j5 (h9.mono ((t.trans f).trans l))) (zf rfl ac.1) (zx ac)) fun aY aB=>?_;refine uo (bi (ko ty3 rfl aB)) ?_;refine uo (yw rfl rfl) ?_;intro aZ I;refine z8 (zu rfl d (fun d=>?_) (fun d=>?_))
 refine zn (zi (vi 1) (z8 ?_));exact⟨dkt,I,jm,1,⟨rfl,trivial⟩,prm,(Option.some.inj d).symm,trivial⟩;refine qb ?_;exact⟨dkt,I,jm,U,⟨rfl,trivial⟩,prm,(Option.some.inj d).symm,trivial⟩;rintro V a0 a1 ad ⟨rfl,_⟩;refine zn (zg (vi k) ?_);obtain⟨aC,c⟩:=zb c
 refine zm (ji rfl rfl aC) (zi (vi (k+1)) (z8 ?_));exact⟨dkt,ad,jm,(F,V,k+1),Nat.lt_succ_self _,⟨rfl,rfl,trivial⟩,prm,c,trivial⟩;refine jg ?_;exact⟨dkt,l,jm,U,⟨rfl,trivial⟩,prm,(Option.some.inj c).symm,trivial⟩;rintro y a2 a3 n ⟨rfl,_⟩
 refine zl (zg (vi y) (zm (yw rfl rfl) (z8 (zu rfl h (fun h=>?_) (fun h=>?_)))));refine zn (zg P (zg s (zg (vi a) ?_)));obtain⟨K,h⟩:=zb h;refine kv (i:=a.toNat) rfl ig rfl (j5 (C.mono (f.trans n))) (zf rfl K.1) (zx K) fun aK ae=>?_
 refine qh rfl ty3 rfl ae fun aL af=>?_;obtain rfl:=jb.1 af;refine il (T:=(qf .i64)) (X:=([(ix e a)]:List Int)) (ps:=[(0,(vi (ix e a)))]) (css:=[[(vi (ix e a))]]) rfl underlying32 zo3 rfl rfl (uj ⟨rfl,trivial⟩) rfl rfl (by decide) fun ag aM G ah=>?_;refine gq (i:=0) rfl ah fun ai z aj=>?_
 have ak:VRep (tSl true (qf .i64)) ai ag ([(ix e a)]:List Int):=(z3i aj G);obtain⟨L,h⟩:=zb h;refine ow (i:=0) (X:=w) (Y:=([(ix e a)]:List Int)) rfl underlying32 zo3 rfl rfl rfl (Q.mono (n.trans z)) (j5 (Sub.v (B:=(tSl false (qf .i64))) (ut Sub.refl (fun _=>rfl)) ak)) L.1 L.2 fun M al am=>?_
 refine zi M (z8 ?_);exact⟨dkt,(n.trans z),jm,((w++([(ix e a)]:List Int)),M,al),⟨rfl,trivial⟩,prm,(Option.some.inj h).symm,am,trivial⟩;refine qb ?_;exact⟨dkt,n,jm,(w,P,x),⟨rfl,trivial⟩,prm,(Option.some.inj h).symm,(Q.mono n),trivial⟩;rintro⟨S,aD,aE⟩ aN a4 an ⟨rfl,aF,_⟩
 refine zn (zg (vi a) ?_);obtain⟨ao,b⟩:=zb b;refine zm (ji rfl rfl ao) (zi (vi (a+1)) (z8 ?_));exact⟨dkt,an,jm,(E,S,a+1,aD,aE),Nat.lt_succ_self _,⟨rfl,rfl,trivial⟩,prm,b,aF,trivial⟩;refine jg ?_;exact⟨dkt,f,jm,(w,P,x),⟨rfl,trivial⟩,prm,(Option.some.inj b).symm,Q,trivial⟩
 rintro⟨u,H,a5⟩ aO a6 ap ⟨rfl,aG,_⟩;refine zl (zg H (zi H (z8 (fq (i:=0) rfl aG fun aq W ar=>?_))));have au:VRep (tSl false (qf .i64)) aq H u:=(z7h ar);refine qm ?_;obtain rfl:=Option.some.inj j
 refine qa (D:=[]) (J:=[]) (rs:=[.tmp 2]) (vs:=[H]) ((((q.trans o).trans t).trans ap).trans W) rfl rfl ⟨rfl,trivial⟩ ?_;exact⟨rfl,au⟩
end GV
end Go.Proofs.Ytnnobdkjgafdmaa
