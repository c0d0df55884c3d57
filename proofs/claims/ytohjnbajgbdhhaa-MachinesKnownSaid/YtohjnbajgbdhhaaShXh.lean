
import Derived.Test.YtohjnbajgbdhhaaShWc
import Derived.Test.YtohjnbajgbdhhaaRows
set_option linter.unusedVariables false
set_option linter.unusedSimpArgs false
namespace Go.Proofs.Ytohjnbajgbdhhaa
namespace GV
open _root_.Go.Proofs.Try
open Go.IntWalk
set_option maxRecDepth 100000
set_option maxHeartbeats 20000000
theorem zij{a:Bool}:TyOk prog 24 (z0j a):=by
 obtain⟨i,hi,b⟩: ∃ i,prog.info? 24=some i∧i.size=5:=bi (by kernel_rfl);exact z1t underlying24 hi rfl b
theorem zoa:FieldOk prog 24 0 0:=by
 obtain⟨i,hi,a⟩: ∃ i,prog.info? 5=some i∧i.size=1:=bi (by kernel_rfl);exact z03 underlying24 rfl rfl hi (by rw [a];rfl)
theorem ty5:TyOk prog 5 (j3 .u8):=by
 obtain⟨i,hi,a⟩: ∃ i,prog.info? 5=some i∧i.size=1:=bi (by kernel_rfl);exact z1t underlying5 hi rfl a
theorem znx:FieldOk prog 24 1 1:=by
 obtain⟨i,hi,a⟩: ∃ i,prog.info? 5=some i∧i.size=1:=bi (by kernel_rfl);exact z03 underlying24 rfl rfl hi (by rw [a];rfl)
theorem zns:FieldOk prog 24 2 2:=by
 obtain⟨i,hi,a⟩: ∃ i,prog.info? 5=some i∧i.size=1:=bi (by kernel_rfl);exact z03 underlying24 rfl rfl hi (by rw [a];rfl)
theorem zlk:FieldOk prog 24 4 4:=by
 obtain⟨i,hi,a⟩: ∃ i,prog.info? 22=some i∧i.size=1:=bi (by kernel_rfl);exact z03 underlying24 rfl rfl hi (by rw [a];rfl)
theorem zph{a:Bool}:TyOk prog 22 (tSl a (j3 .u16)):=by
 obtain⟨i,hi,b⟩: ∃ i,prog.info? 22=some i∧i.size=1:=bi (by kernel_rfl);exact z1t underlying22 hi rfl b
theorem zok:TyOk prog 75 (j3 .u16):=by
 obtain⟨i,hi,a⟩: ∃ i,prog.info? 75=some i∧i.size=1:=bi (by kernel_rfl);exact z1t underlying75 hi rfl a
theorem zpm:SlOk prog 22 75 (j3 .u16):=⟨underlying22,zok⟩
theorem zo1:FieldOk prog 24 3 3:=by
 obtain⟨i,hi,a⟩: ∃ i,prog.info? 4=some i∧i.size=1:=bi (by kernel_rfl);exact z03 underlying24 rfl rfl hi (by rw [a];rfl)
theorem zmb: ∀ w,(sizeOf 25).run prog w= .ok 1 w:=fun w=>by kernel_rfl
theorem mf{N:Nat}{R:RH}{x:MDat}{ae:Value}(bk:VRep (z0j false) R ae x){r:Mach}(b:xh N x=some r):CallP prog 10 #[ae] R (fun v R'=>VRep (qm false false) R' v r):=by
 refine qw (args:=[ae]) func10 rfl rfl fun A=>?_;rw [xh] at b;refine zq (w9 (T:=(z0j false)) rfl rfl rfl bk fun v1 R3 bl h5 h2=>?_);refine wh rfl z1r fun b6=>?_;refine jh (kg rfl zoa zlj rfl h2 fun v8 h9=>?_);refine qz rfl ty5 rfl h9 fun cn bm=>?_;obtain rfl:=ko.1 bm;obtain⟨bn,b⟩:=zk b
 refine zz (rf rfl rfl bn) ?_;obtain⟨bo,b⟩:=zk b;refine zz (z0o underlying5 underlying3 rfl bo) ?_;obtain⟨bp,b⟩:=zk b;refine zz (kz rfl rfl bp) (zl (vi ((1:Int)+(x.states%6))) (jh (kg rfl znx zk9 rfl h2 fun co bq=>?_)));refine qz rfl ty5 rfl bq fun cp br=>?_;obtain rfl:=ko.1 br
 obtain⟨bs,b⟩:=zk b;refine zz (rf rfl rfl bs) ?_;obtain⟨bt,b⟩:=zk b;refine zz (z0o underlying5 underlying3 rfl bt) ?_;obtain⟨bv,b⟩:=zk b;refine zz (kz rfl rfl bv) (kg rfl zns zk4 rfl h2 fun cq bw=>?_);refine qz rfl ty5 rfl bw fun cr bx=>?_;obtain rfl:=ko.1 bx
 obtain⟨bz,b⟩:=zk b;refine zz (rf rfl rfl bz) ?_;obtain⟨bA,b⟩:=zk b;refine zz (z0o underlying5 underlying3 rfl bA) ?_;obtain⟨bB,b⟩:=zk b
 refine zz (kz rfl rfl bB) (zz (xm (ps:=[(0,(vi ((1:Int)+(x.ins%3)))),(1,(vi ((1:Int)+(x.outs%3))))]) (v:=(.agg #[(vi ((1:Int)+(x.ins%3))),(vi ((1:Int)+(x.outs%3))),vs0])) rfl (fun w=>by kernel_rfl)) (wh rfl z1r fun o=>?_))
 refine jm (i:=0) (vs:=[(vi ((1:Int)+(x.ins%3))),(vi ((1:Int)+(x.outs%3))),vs0]) wu rfl rfl rfl rfl rfl rfl (zt rfl (zt rfl (zt rfl jq))) ?_;refine zg ?_;obtain⟨u,c,b⟩:=zi b
 refine jy (γ:=(List (List Edge))×Value×Frag) (rs [5,10,26,86]) (fun g=>[]) (fun g=>[box b6 [(vi 0),(vi 0),vs0] 27,box o [(vi ((1:Int)+(x.ins%3))),(vi ((1:Int)+(x.outs%3))),g.2.1] 27,g.2.2]++A) (fun g R=>u=g.1∧ORep (tSl false kEdge) R g.2.2 g.2.1 g.1∧True) ?_ ?_
 refine zq (zl (vi 0) (zg (qp (z2k ?_))))
 refine uz (γ:=Nat×Int×(List (List Edge))×Value×Frag) (rs [5,10,26,86]) (fun g=>[(5,(vi g.2.1))]) (fun g=>[box b6 [(vi 0),(vi 0),vs0] 27,box o [(vi ((1:Int)+(x.ins%3))),(vi ((1:Int)+(x.outs%3))),g.2.2.2.1] 27,g.2.2.2.2]++A) (fun g R=>bu N x g.1 g.2.1 g.2.2.1=some u∧ORep (tSl false kEdge) R g.2.2.2.2 g.2.2.2.1 g.2.2.1∧True) (fun g=>g.1) (N,0,[],vs0,emp) ⟨[],(pk 2 rfl (pk 1 rfl (pk 0 rfl (List.Perm.refl _))))⟩ ⟨c,(z0t (T:=(tSl false kEdge))),trivial⟩ ?_
 clear c;rintro⟨L,f,M,z,C⟩ bS cs s ⟨c,an,_⟩;rcases L with _|L;exact jv c;replace c:bu N x (L+1) f M=some u:=c;rw [bu] at c
 refine zy (zq (zo (vi f) (zo (vi ((1:Int)+(x.states%6))) (zz (jl rfl rfl) (zg (qb rfl c (fun c=>?_) (fun c=>?_)))))));refine qg (zy (qp (zq (zl vs0 (zg ?_)))));obtain⟨m,d,c⟩:=zi c
 refine jy (γ:=(List Edge)×Value×Frag) (rs [6,10,31,80]) (fun g=>[(6,g.2.1)]) (fun g=>[box b6 [(vi 0),(vi 0),vs0] 27,box o [(vi ((1:Int)+(x.ins%3))),(vi ((1:Int)+(x.outs%3))),z] 27,C,g.2.2]++A) (fun g R=>m=g.1∧ORep kEdge R g.2.2 g.2.1 g.1∧True) ?_ ?_
 refine zq (zl (vi 0) (zg (qp (z2k ?_))))
 refine uz (γ:=Nat×(List Edge)×Int×Value×Frag) (rs [6,10,31,80]) (fun g=>[(6,g.2.2.2.1),(7,(vi g.2.2.1))]) (fun g=>[box b6 [(vi 0),(vi 0),vs0] 27,box o [(vi ((1:Int)+(x.ins%3))),(vi ((1:Int)+(x.outs%3))),z] 27,C,g.2.2.2.2]++A) (fun g R=>xq N x f g.1 g.2.1 g.2.2.1=some m∧ORep kEdge R g.2.2.2.2 g.2.2.2.1 g.2.1∧True) (fun g=>g.1) (N,[],0,vs0,emp) ⟨[],(pk 1 rfl (pk 1 rfl (pk 1 rfl (pk 0 rfl (List.Perm.refl _)))))⟩ ⟨d,(z0t (T:=kEdge)),trivial⟩ ?_
 clear d;rintro⟨O,y,k,ag,ao⟩ bT ct t ⟨d,ah,_⟩;rcases O with _|O;exact jv d;replace d:xq N x f (O+1) y k=some m:=d;rw [xq] at d
 refine zy (zq (zo (vi k) (zz (j6 ma rfl) (zz (j5 (i:=1) ag3 rfl rfl rfl) (zz (jl rfl rfl) (zg (qb rfl d (fun d=>?_) (fun d=>?_))))))));refine qg ?_;obtain⟨ai,e,d⟩:=zi d
 refine jy (γ:=(List Edge)×Value×Frag) (rs [6,7,8,10,37,80]) (fun g=>[(6,g.2.1)]) (fun g=>[box b6 [(vi 0),(vi 0),vs0] 27,box o [(vi ((1:Int)+(x.ins%3))),(vi ((1:Int)+(x.outs%3))),z] 27,C,g.2.2]++A) (fun g R=>ai=g.1∧ORep kEdge R g.2.2 g.2.1 g.1∧True) ?_ ?_
 refine qp (zq (zl (vi 0) (zg ?_)));obtain⟨a,h,e⟩:=zi e;refine jy (γ:=Int) (rs [8,10,37,54]) (fun g=>[(8,(vi g))]) (fun g=>[box b6 [(vi 0),(vi 0),vs0] 27,box o [(vi ((1:Int)+(x.ins%3))),(vi ((1:Int)+(x.outs%3))),z] 27,C,ao]++A) (fun g R=>a=g∧True) ?_ ?_
 refine zq (zo (vi f) (zz (j6 ma rfl) (zz (j5 (i:=1) ag3 rfl rfl rfl) ?_)));obtain⟨bC,h⟩:=zk h;refine zz (z5r rfl rfl bC) (zo (vi k) ?_);obtain⟨bD,h⟩:=zk h
 refine zz (kz rfl rfl bD) (zl (vi ((f*((1:Int)+(x.ins%3)))+k)) (jh (zo (vi ((f*((1:Int)+(x.ins%3)))+k)) (kg rfl zlk zf4 rfl (h2.mono (s.trans t)) fun cu bE=>?_))));refine qz rfl zph rfl bE fun cv bF=>?_
 refine zz (ql rfl underlying22 rfl (jd bF)) (zz (jl rfl rfl) (zg (qb rfl h (fun h=>?_) (fun h=>?_))));refine qd (kg rfl zlk zf4 rfl (h2.mono (s.trans t)) fun cw bG=>?_);refine qz rfl zph rfl bG fun cx bH=>?_;refine zo (vi ((f*((1:Int)+(x.ins%3)))+k)) ?_;obtain⟨ap,h⟩:=zk h
 refine vo (i:=((f*((1:Int)+(x.ins%3)))+k).toNat) rfl zpm rfl (jd bH) (zw rfl ap.1) (j4 ap) fun cy bI=>?_;refine qz rfl zok rfl bI fun cz bJ=>?_;obtain rfl:=ko.1 bJ;obtain⟨bK,h⟩:=zk h
 refine zz (z0o underlying75 underlying3 rfl bK) (zl (vi (ix x.edges ((f*((1:Int)+(x.ins%3)))+k))) (zg ?_));exact⟨dkt,(RH.le.refl _),yo,(ix x.edges ((f*((1:Int)+(x.ins%3)))+k)),⟨rfl,trivial⟩,prm,(Option.some.inj h).symm,trivial⟩;refine qg ?_
 exact⟨dkt,(RH.le.refl _),yo,0,⟨rfl,trivial⟩,prm,(Option.some.inj h).symm,trivial⟩;rintro a cA cB p ⟨rfl,_⟩;refine zq (zba rfl (kv zo1 zl4 rfl (h2.mono ((s.trans t).trans p))) fun cC bL=>?_)
 refine qi rfl (ze8 (ja ty4 rfl bL)) (qi (v:=(.bool x.part)) rfl (z8 rfl) (zx rfl rfl rfl rfl (fun hB=>zn (v:=(vi a)) (z8 rfl)) fun bU ar=>?_));obtain⟨av,e⟩:=zk e;refine zx rfl rfl rfl rfl (fun hB=>zn (rf (ar.1 (za rfl hB)) rfl (av (za rfl hB)))) fun bV aw=>?_
 refine zx rfl rfl rfl rfl (fun hB=>zn (wm (aw.1 (za rfl hB)) rfl)) fun bW ax=>?_;refine qi rfl (ul rfl (fun hb=>(ax.1 (za rfl hb))) rfl) (zg (qb rfl e (fun e=>?_) (fun e=>?_)))
 refine qd (zo ag (zz (xm (ps:=[(0,(vi (-1))),(1,(vi (-1)))]) (v:=(.agg #[(vi (-1)),(vi (-1))])) rfl (fun w=>by kernel_rfl)) (z0k (T:=kEdge) (X:=([(⟨(-1),(-1)⟩:Edge)]:List Edge)) (ps:=[(0,(.agg #[(vi (-1)),(vi (-1))]))]) (css:=[[(vi (-1)),(vi (-1))]]) rfl underlying41 za0 rfl rfl (gp ⟨⟨_,_,rfl,rfl,rfl⟩,trivial⟩) rfl rfl (by decide) fun az bX P aA=>?_)))
 refine o7 (i:=0) rfl aA fun aB E aC=>?_;have aD:VRep (tSl true kEdge) aB az ([(⟨(-1),(-1)⟩:Edge)]:List Edge):=(z2e aC P);obtain⟨U,e⟩:=zk e
 refine lm (i:=3) (X:=y) (Y:=([(⟨(-1),(-1)⟩:Edge)]:List Edge)) rfl underlying41 za0 rfl rfl rfl (ah.mono (p.trans E)) (jd (Sub.v (B:=(tSl false kEdge)) (ut Sub.refl (fun _=>rfl)) aD)) U.1 U.2 fun V aE aF=>?_;refine zl V (zg ?_)
 exact⟨dkt,(p.trans E),yo,((y++([(⟨(-1),(-1)⟩:Edge)]:List Edge)),V,aE),⟨rfl,trivial⟩,prm,(Option.some.inj e).symm,aF,trivial⟩;obtain⟨aG,aH,aI,aJ,aK,e⟩:=zl2 e
 let G1:=([(⟨(a/4)%((1:Int)+(x.states%6)),((a/4)/((1:Int)+(x.states%6)))%((1:Int)+(x.outs%3))⟩:Edge)]:List Edge)
 refine ou 14 [] [phX ag,phX (vi a),phX (vi (a/4)),phX (vi ((1:Int)+(x.states%6))),phX (vi ((a/4)%((1:Int)+(x.states%6)))),phX (vi a),phX (vi (a/4)),phX (vi ((1:Int)+(x.states%6))),phX (vi ((a/4)/((1:Int)+(x.states%6)))),phX (.pointer (some ⟨o,1,none⟩)),phX (vi ((1:Int)+(x.outs%3))),phX (vi (((a/4)/((1:Int)+(x.states%6)))%((1:Int)+(x.outs%3)))),phX (.agg #[(vi ((a/4)%((1:Int)+(x.states%6)))),(vi (((a/4)/((1:Int)+(x.states%6)))%((1:Int)+(x.outs%3))))]),phR (tSl true kEdge) G1] mixed (by kernel_rfl) (df ⟨zf,zf,zf,zf,zf,zf,zf,zf,zf,zf,zf,zf,zf,gm,trivial⟩) ⟨?_,?_,?_,?_,?_,?_,?_,?_,?_,?_,?_,?_,?_,?_,trivial⟩ fun bY F=>?_
 intro l cE j n hd;exact ze rfl rfl rfl (zh (z8 (n 6 rfl)));intro l cF j n hd;exact ze rfl rfl rfl (zh (z8 (n 8 rfl)));rintro l cG j n ⟨q,_⟩;exact ze rfl rfl rfl (zh (z3y (q rfl) rfl aG));intro l cH j n hd;exact ze rfl rfl rfl (zh (z8 (n 3 rfl)));rintro l cI j n ⟨q,d1,_⟩
 exact ze rfl rfl rfl (zh (rf (q rfl) (d1 rfl) aH));intro l cJ j n hd;exact ze rfl rfl rfl (zh (z8 (n 8 rfl)));rintro l cK j n ⟨q,_⟩;exact ze rfl rfl rfl (zh (z3y (q rfl) rfl aI));intro l cL j n hd;exact ze rfl rfl rfl (zh (z8 (n 3 rfl)));rintro l cM j n ⟨q,d1,_⟩;have ak:=q rfl
 exact ze rfl rfl rfl (zh (z3y ak (d1 rfl) aJ));intro l cN j n hd;exact ze rfl rfl rfl (zh (j6 z13 (n 4 rfl)));rintro l bZ j n ⟨q,_⟩;exact ze rfl rfl rfl (zh (j5 (i:=1) ag3 (q rfl) rfl rfl));rintro l b0 j n ⟨q,d1,_⟩;exact ze rfl rfl rfl (zh (rf (q rfl) (d1 rfl) aK))
 rintro l b1 j n ⟨q,d1,_⟩;have bM:l 69=(vi ((a/4)%((1:Int)+(x.states%6)))):=q rfl;have bN:l 76=(vi (((a/4)/((1:Int)+(x.states%6)))%((1:Int)+(x.outs%3)))):=d1 rfl
 exact ze rfl rfl rfl (zh (xm (ps:=[(0,(vi ((a/4)%((1:Int)+(x.states%6))))),(1,(vi (((a/4)/((1:Int)+(x.states%6)))%((1:Int)+(x.outs%3)))))]) (v:=(.agg #[(vi ((a/4)%((1:Int)+(x.states%6)))),(vi (((a/4)/((1:Int)+(x.states%6)))%((1:Int)+(x.outs%3))))])) (by simp only [List.map,ev,bM,bN]<;>rfl) (fun w=>by kernel_rfl)))
 rintro l b2 j n ⟨q,_⟩;have bO:l 77=(.agg #[(vi ((a/4)%((1:Int)+(x.states%6)))),(vi (((a/4)/((1:Int)+(x.states%6)))%((1:Int)+(x.outs%3))))]):=q rfl
 exact ze rfl rfl rfl (z5o (T:=kEdge) (X:=G1) (ps:=[(0,(.agg #[(vi ((a/4)%((1:Int)+(x.states%6)))),(vi (((a/4)/((1:Int)+(x.states%6)))%((1:Int)+(x.outs%3))))]))]) (css:=[[(vi ((a/4)%((1:Int)+(x.states%6)))),(vi (((a/4)/((1:Int)+(x.states%6)))%((1:Int)+(x.outs%3))))]]) underlying41 za0 (by simp only [List.map,ev,bO]<;>rfl) rfl (gp ⟨⟨_,_,rfl,rfl,rfl⟩,trivial⟩) rfl rfl (by decide))
 intro b3 aM b4 aN b5 aO b7 aP b8 aQ b9 aR ca aS cb aT cc aU cd aV ce aW cf aX cg aY ch aZ;obtain rfl:=Eq.symm aM;obtain rfl:=Eq.symm aN;obtain rfl:=Eq.symm aO;obtain rfl:=Eq.symm aP;obtain rfl:=Eq.symm aQ;obtain rfl:=Eq.symm aR;obtain rfl:=Eq.symm aS;obtain rfl:=Eq.symm aT;obtain rfl:=Eq.symm aU
 obtain rfl:=Eq.symm aV;obtain rfl:=Eq.symm aW;obtain rfl:=Eq.symm aX;obtain rfl:=Eq.symm aY;obtain⟨W,e⟩:=zk e;refine lm (i:=3) (X:=y) (Y:=G1) rfl underlying41 za0 rfl rfl rfl (ah.mono (p.trans F)) (jd (Sub.v (B:=(tSl false kEdge)) (ut Sub.refl (fun _=>rfl)) aZ)) W.1 W.2 fun Z a0 a1=>?_
 refine zl Z (zg ?_);exact⟨dkt,(p.trans F),yo,((y++G1),Z,a0),⟨rfl,trivial⟩,prm,(Option.some.inj e).symm,a1,trivial⟩;rintro⟨ai,bP,ak⟩ ci cO a2 ⟨rfl,bQ,_⟩;refine qd (zo (vi k) ?_);obtain⟨a3,d⟩:=zk d;refine zz (kz rfl rfl a3) (zl (vi (k+1)) (zg ?_))
 exact⟨dkt,a2,yo,(O,ai,k+1,bP,ak),Nat.lt_succ_self _,⟨rfl,rfl,trivial⟩,prm,d,bQ,trivial⟩;refine vz ?_;exact⟨dkt,t,yo,(y,ag,ao),⟨rfl,trivial⟩,prm,(Option.some.inj d).symm,ah,trivial⟩;rintro⟨m,Q,cP⟩ cj cQ aa ⟨rfl,bR,_⟩
 refine qd (zz (j6 ku rfl) (zz (j5 (i:=1) z3e rfl rfl rfl) (zo Q (o7 (i:=3) rfl bR fun a4 G a5=>?_))));have ab:VRep (tSl false kEdge) a4 Q m:=(z5t a5)
 refine z0k (T:=(tSl false kEdge)) (X:=([m]:List (List Edge))) (ps:=[(0,Q)]) (css:=[[Q]]) rfl underlying25 zgg rfl (by simp only [List.map_cons,List.map_nil,z4s ab];rfl) (gp ⟨(qy rfl ab),trivial⟩) rfl rfl (by decide) fun a6 ck S a7=>?_;refine o7 (i:=0) rfl a7 fun a8 H a9=>?_
 have ba:VRep (tSl true (tSl false kEdge)) a8 a6 ([m]:List (List Edge)):=(z2e a9 S);obtain⟨ac,c⟩:=zk c
 refine lm (i:=2) (X:=M) (Y:=([m]:List (List Edge))) rfl underlying25 zgg rfl rfl rfl (an.mono ((aa.trans G).trans H)) (jd (Sub.v (B:=(tSl false (tSl false kEdge))) (ut Sub.refl (fun _=>rfl)) ba)) ac.1 ac.2 fun ad bb I=>?_
 refine zz (j6 ku rfl) (jm (i:=1) (vs:=[ad]) zmb rfl rfl (z0q I) rfl rfl rfl (zt (au I) jq) ?_);refine zg (qd (zo (vi f) ?_));obtain⟨bc,c⟩:=zk c;refine zz (kz rfl rfl bc) (zl (vi (f+1)) (zg ?_))
 exact⟨dkt,((aa.trans G).trans H),yo,(L,f+1,(M++([m]:List (List Edge))),ad,bb),Nat.lt_succ_self _,⟨rfl,trivial⟩,prm,c,I,trivial⟩;refine vz ?_;exact⟨dkt,s,yo,(M,z,C),trivial,prm,(Option.some.inj c).symm,an,trivial⟩;rintro⟨u,K,cR⟩ cl cS be ⟨rfl,bf,_⟩
 refine zq (zz (qa (i:=1) gy wu rfl rfl rfl rfl) (jm (i:=0) (vs:=[(vi ((1:Int)+(x.ins%3))),(vi ((1:Int)+(x.outs%3))),K]) wu rfl rfl rfl rfl rfl rfl (zt rfl (zt rfl (zt (au bf) jq))) ?_));refine zg (z0y (i:=2) rfl bf fun bg al bh=>?_)
 have bi:VRep (tSl false (tSl false kEdge)) bg K u:=(z5t bh);refine qo ?_;obtain rfl:=Option.some.inj b
 refine qc (D:=[]) (J:=[box b6 [(vi ((1:Int)+(x.ins%3))),(vi ((1:Int)+(x.outs%3))),K] 27,box o [(vi ((1:Int)+(x.ins%3))),(vi ((1:Int)+(x.outs%3))),K] 27]) (rs:=[.cell 2 27]) (vs:=[(.agg #[(vi ((1:Int)+(x.ins%3))),(vi ((1:Int)+(x.outs%3))),K])]) ((bl.trans be).trans al) rfl rfl ⟨⟨_,rfl,fun w hh=>ay (i:=0) hh rfl rfl gy wu rfl rfl⟩,trivial⟩ ?_
 exact⟨rfl,(⟨_,⟨_,_,rfl,rfl,⟨_,_,rfl,rfl,(qy rfl bi)⟩⟩,rfl⟩:VRep (qm false false) _ _ (⟨(1:Int)+(x.ins%3),(1:Int)+(x.outs%3),u⟩:Mach))⟩
theorem zgf:Enters prog 10:=enters_of func10 rfl (by kernel_rfl)
end GV
end Go.Proofs.Ytohjnbajgbdhhaa

namespace Go.Proofs.Ytohjnbajgbdhhaa
namespace GV
open _root_.Go.Proofs.Try
open Go.IntWalk
set_option maxRecDepth 100000
set_option maxHeartbeats 20000000
theorem z11{N:Nat}{R:RH}{m:Mach}{x:Value}(am:VRep (qm false false) R x m){r:Int}(f:og N m=some r):CallP prog 30 #[x] R (fun v R'=>v=(vi r)):=by
 refine qw (args:=[x]) func30 rfl rfl fun A=>?_;rw [og] at f;refine zq (w9 (T:=(qm false false)) rfl rfl rfl am fun v1 R3 s h5 q=>?_);refine zl (vi 0) (zg (zy (zq (zba rfl (kv ma p9 rfl q) fun v6 h7=>?_))))
 refine qi rfl (ni (ja ty3 rfl h7)) (qi rfl (z0b rfl rfl) (qi (v:=(.bool (decide (16<m.inputs)))) rfl (z8 rfl) (zx rfl rfl rfl rfl (fun d=>kv z13 z09 rfl q) fun bl an=>?_)));refine zx rfl rfl rfl rfl (fun d=>zn (ni (ja ty3 rfl (an.1 (za rfl d))))) fun bm ao=>?_
 refine zx rfl rfl rfl rfl (fun d=>zn (z0b (ao.1 (za rfl d)) rfl)) fun bn ap=>?_;refine qi rfl (jg rfl rfl (fun o=>(ap.1 (za rfl o)))) (qi (v:=(.bool ((decide (16<m.inputs))||(decide (16<m.outputs))))) rfl (z8 rfl) (zx rfl rfl rfl rfl (fun d=>kv ku kw rfl q) fun bo aq=>?_))
 refine zx rfl rfl rfl rfl (fun d=>ja lq rfl (aq.1 (za rfl d))) fun bp ar=>?_;refine zx rfl rfl rfl rfl (fun d=>zn (ql rfl underlying25 rfl (jd (ar.1 (za rfl d))))) fun bq au=>?_;refine zx rfl rfl rfl rfl (fun d=>zn (z0b (au.1 (za rfl d)) rfl)) fun br av=>?_
 refine qi rfl (jg rfl rfl (fun o=>(av.1 (za rfl o)))) (zg (qb rfl f (fun f=>?_) (fun f=>?_)));refine zq (zl (vi 3) (zg (qo ?_)));obtain rfl:=Option.some.inj f;refine qc (D:=[]) (J:=[]) (rs:=[.tmp 2]) (vs:=[(vi 3)]) s rfl rfl ⟨rfl,trivial⟩ ?_;exact⟨rfl,rfl⟩
 refine qg (zy (zq (zba rfl (kv ma p9 rfl q) fun bs aw=>?_)));refine qi rfl (ni (ja ty3 rfl aw)) (qi rfl (jl rfl rfl) (qi (v:=(.bool (decide (m.inputs<1)))) rfl (z8 rfl) (zx rfl rfl rfl rfl (fun d=>kv z13 z09 rfl q) fun bt ax=>?_)))
 refine zx rfl rfl rfl rfl (fun d=>zn (ni (ja ty3 rfl (ax.1 (za rfl d))))) fun bu ay=>?_;refine zx rfl rfl rfl rfl (fun d=>zn (jl (ay.1 (za rfl d)) rfl)) fun bv az=>?_
 refine qi rfl (jg rfl rfl (fun o=>(az.1 (za rfl o)))) (qi (v:=(.bool ((decide (m.inputs<1))||(decide (m.outputs<1))))) rfl (z8 rfl) (zx rfl rfl rfl rfl (fun d=>kv ku kw rfl q) fun bw aA=>?_));refine zx rfl rfl rfl rfl (fun d=>ja lq rfl (aA.1 (za rfl d))) fun bx aB=>?_
 refine zx rfl rfl rfl rfl (fun d=>zn (ql rfl underlying25 rfl (jd (aB.1 (za rfl d))))) fun bz aC=>?_;refine zx rfl rfl rfl rfl (fun d=>zn (wm (aC.1 (za rfl d)) rfl)) fun bA aD=>?_;refine qi rfl (jg rfl rfl (fun o=>(aD.1 (za rfl o)))) (zg (qb rfl f (fun f=>?_) (fun f=>?_)))
 refine zq (zl (vi 1) (zg (qo ?_)));obtain rfl:=Option.some.inj f;refine qc (D:=[]) (J:=[]) (rs:=[.tmp 2]) (vs:=[(vi 1)]) s rfl rfl ⟨rfl,trivial⟩ ?_;exact⟨rfl,rfl⟩;refine qg ?_;obtain⟨y,e,f⟩:=zi f;refine jy (γ:=Unit) (rs [2,6,34,95]) (fun g=>[]) (fun g=>[]++A) (fun g R=>y=Ex.go g∧True) ?_ ?_
 refine zq (zl (vi 0) (zg (qp (uz (γ:=Nat×Int) (rs [2,6,34,95]) (fun g=>[(3,(vi g.2))]) (fun g=>[]++A) (fun g R=>vg N m g.1 g.2=some y∧True) (fun g=>g.1) (N,0) prm ⟨e,trivial⟩ ?_))));clear e;rintro⟨t,b⟩ aL bB h ⟨e,_⟩;rcases t with _|t;exact jv e
 replace e:vg N m (t+1) b=some y:=e;rw [vg] at e;refine zy (zq (zo (vi b) (kg rfl ku kw rfl (q.mono h) fun bC aE=>?_)));refine qz rfl lq rfl aE fun bD aF=>?_
 refine zz (ql rfl underlying25 rfl (jd aF)) (zz (jl rfl rfl) (zg (qb rfl e (fun e=>?_) (fun e=>?_))));refine qg ?_;obtain⟨z,c,e⟩:=zi e;refine jy (γ:=Unit) (rs [2,3,4,6,41,95]) (fun g=>[]) (fun g=>[]++A) (fun g R=>z=Ex.go g∧True) ?_ ?_
 refine qp (zy (zy (z2x 9 mixed (by kernel_rfl) (by kernel_rfl) ?_)));refine z0m (kv ku kw rfl (q.mono h)) fun bE aG=>?_;refine z0m (ja lq rfl aG) fun bF aH=>?_;refine ny (v:=(vi b)) (z8 rfl) ?_;obtain⟨C,c⟩:=zk c
 refine z0m (si (i:=b.toNat) z2f rfl (jd aH) (zw rfl C.1) (j4 C)) fun bG aI=>?_;refine z0m (ja z1w rfl aI) fun bH aJ=>?_;refine ny (ql rfl underlying41 rfl (jd aJ)) ?_;refine z0m (kv ma p9 rfl (q.mono h)) fun bI aK=>?_;refine ny (ni (ja ty3 rfl aK)) ?_;refine ny (jk rfl rfl) ?_
 intro aM j;refine zg (qb rfl c (fun c=>?_) (fun c=>?_));refine zq (zl (vi 1) (zg (qo ?_)));replace e:=z0d c e;replace f:=z0d e f;obtain rfl:=Option.some.inj f;refine qc (D:=[]) (J:=[]) (rs:=[.tmp 2]) (vs:=[(vi 1)]) ((s.trans h).trans j) rfl rfl ⟨rfl,trivial⟩ ?_;exact⟨rfl,rfl⟩
 refine qg (zq (zl (vi 0) (zg (qp (uz (γ:=Nat×Int) (rs [2,3,4,6,50,95]) (fun g=>[(4,(vi g.2))]) (fun g=>[]++A) (fun g R=>yh N m b g.1 g.2=some z∧True) (fun g=>g.1) (N,0) prm ⟨c,trivial⟩ ?_)))));clear c;rintro⟨p,a⟩ aN aO l ⟨c,_⟩;rcases p with _|p;exact jv c
 replace c:yh N m b (p+1) a=some z:=c;rw [yh] at c;refine zy (zq (zo (vi a) (kg rfl ma p9 rfl (q.mono ((h.trans j).trans l)) fun aP E=>?_)));refine qz rfl ty3 rfl E fun aQ F=>?_;obtain rfl:=ko.1 F
 refine zz (jl rfl rfl) (zg (qb rfl c (fun c=>?_) (fun c=>?_)));refine qg ?_;obtain⟨G,n,c⟩:=zi c;refine jy (γ:=Unit) (rs [2,3,5,6,56,95]) (fun g=>[]) (fun g=>[]++A) (fun g R=>G=Ex.go g∧True) ?_ ?_;refine qp (zq (kg rfl ku kw rfl (q.mono ((h.trans j).trans l)) fun aR H=>?_))
 refine qz rfl lq rfl H fun aS I=>?_;refine zo (vi b) ?_;obtain⟨u,n⟩:=zk n;refine vo (i:=b.toNat) rfl z2f rfl (jd I) (zw rfl u.1) (j4 u) fun aT K=>?_;refine qz rfl z1w rfl K fun aU L=>?_;refine zo (vi a) ?_;obtain⟨w,n⟩:=zk n
 refine vo (i:=a.toNat) rfl z5l rfl (jd L) (zw rfl w.1) (j4 w) fun aV M=>?_;refine qz rfl z2v rfl M fun aW O=>?_;obtain rfl:=uy.1 O;refine wh rfl z8m fun k=>?_
 refine jm (i:=0) (vs:=[(vi ((ix (ix m.rows b) a).to)),(vi ((ix (ix m.rows b) a).out))]) z1u rfl rfl rfl rfl rfl rfl (zt rfl (zt rfl jq)) ?_
 refine zg (zy (zq (qi (v:=(.pointer (some ⟨k,0,none⟩))) rfl (j6 z4w rfl) (qi (v:=(vi ((ix (ix m.rows b) a).to))) rfl (j5 (i:=0) ag3 rfl rfl rfl) (qi rfl (wm rfl rfl) (qi (v:=(.bool (decide (((ix (ix m.rows b) a).to)=(-1))))) rfl (z8 rfl) (zx rfl rfl rfl rfl (fun d=>zn (v:=(.pointer (some ⟨k,1,none⟩))) (j6 z7y rfl)) fun aX P=>?_)))))))
 refine zx rfl rfl rfl rfl (fun d=>zn (v:=(vi ((ix (ix m.rows b) a).out))) (j5 (i:=0) ag3 (P.1 (za rfl d)) rfl rfl)) fun aY Q=>?_;refine zx rfl rfl rfl rfl (fun d=>zn (wm (Q.1 (za rfl d)) rfl)) fun aZ S=>?_
 refine qi rfl (ul rfl (fun o=>(S.1 (za rfl o))) rfl) (zg (qb rfl n (fun n=>?_) (fun n=>?_)));refine vz ?_;exact⟨dkt,(RH.le.refl _),yo,(),trivial,⟨[box k [(vi ((ix (ix m.rows b) a).to)),(vi ((ix (ix m.rows b) a).out))] 40],(List.Perm.refl _)⟩,(Option.some.inj n).symm,trivial⟩
 refine qg (zq (qi (v:=(.pointer (some ⟨k,0,none⟩))) rfl (j6 z4w rfl) (qi (v:=(vi ((ix (ix m.rows b) a).to))) rfl (j5 (i:=0) ag3 rfl rfl rfl) (qi rfl (jl rfl rfl) (qi (v:=(.bool (decide (((ix (ix m.rows b) a).to)<0)))) rfl (z8 rfl) (zx rfl rfl rfl rfl (fun d=>zn (v:=(.pointer (some ⟨k,0,none⟩))) (j6 z4w rfl)) fun a0 U=>?_))))))
 refine zx rfl rfl rfl rfl (fun d=>zn (v:=(vi ((ix (ix m.rows b) a).to))) (j5 (i:=0) ag3 (U.1 (za rfl d)) rfl rfl)) fun a1 V=>?_;refine zx rfl rfl rfl rfl (fun d=>kv ku kw rfl (q.mono ((h.trans j).trans l))) fun a2 W=>?_
 refine zx rfl rfl rfl rfl (fun d=>ja lq rfl (W.1 (za rfl d))) fun a3 X=>?_;refine zx rfl rfl rfl rfl (fun d=>zn (ql rfl underlying25 rfl (jd (X.1 (za rfl d))))) fun a4 Y=>?_;refine zx rfl rfl rfl rfl (fun d=>zn (z04 (V.1 (za rfl d)) (Y.1 (za rfl d)))) fun a5 Z=>?_
 refine qi rfl (jg rfl rfl (fun o=>(Z.1 (za rfl o)))) (qi (v:=(.bool ((decide (((ix (ix m.rows b) a).to)<0))||(decide ((↑m.rows.length:Int)≤((ix (ix m.rows b) a).to)))))) rfl (z8 rfl) (zx rfl rfl rfl rfl (fun d=>zn (v:=(.pointer (some ⟨k,1,none⟩))) (j6 z7y rfl)) fun a6 aa=>?_))
 refine zx rfl rfl rfl rfl (fun d=>zn (v:=(vi ((ix (ix m.rows b) a).out))) (j5 (i:=0) ag3 (aa.1 (za rfl d)) rfl rfl)) fun a7 ab=>?_;refine zx rfl rfl rfl rfl (fun d=>zn (jl (ab.1 (za rfl d)) rfl)) fun a8 ac=>?_
 refine qi rfl (jg rfl rfl (fun o=>(ac.1 (za rfl o)))) (qi (v:=(.bool (((decide (((ix (ix m.rows b) a).to)<0))||(decide ((↑m.rows.length:Int)≤((ix (ix m.rows b) a).to))))||(decide (((ix (ix m.rows b) a).out)<0))))) rfl (z8 rfl) (zx rfl rfl rfl rfl (fun d=>zn (v:=(.pointer (some ⟨k,1,none⟩))) (j6 z7y rfl)) fun a9 ad=>?_))
 refine zx rfl rfl rfl rfl (fun d=>zn (v:=(vi ((ix (ix m.rows b) a).out))) (j5 (i:=0) ag3 (ad.1 (za rfl d)) rfl rfl)) fun ba ae=>?_;refine zx rfl rfl rfl rfl (fun d=>kv z13 z09 rfl (q.mono ((h.trans j).trans l))) fun bb af=>?_
 refine zx rfl rfl rfl rfl (fun d=>zn (ni (ja ty3 rfl (af.1 (za rfl d))))) fun bc ag=>?_;refine zx rfl rfl rfl rfl (fun d=>zn (z04 (ae.1 (za rfl d)) (ag.1 (za rfl d)))) fun be ah=>?_;refine qi rfl (jg rfl rfl (fun o=>(ah.1 (za rfl o)))) (zg (qb rfl n (fun n=>?_) (fun n=>?_)))
 refine zq (zl (vi 1) (zg (qo ?_)));replace c:=z0d n c;replace e:=z0d c e;replace f:=z0d e f;obtain rfl:=Option.some.inj f
 refine qc (D:=[]) (J:=[box k [(vi ((ix (ix m.rows b) a).to)),(vi ((ix (ix m.rows b) a).out))] 40]) (rs:=[.tmp 2]) (vs:=[(vi 1)]) (((s.trans h).trans j).trans l) rfl rfl ⟨rfl,trivial⟩ ?_;exact⟨rfl,rfl⟩;refine qg ?_
 exact⟨dkt,(RH.le.refl _),yo,(),trivial,⟨[box k [(vi ((ix (ix m.rows b) a).to)),(vi ((ix (ix m.rows b) a).out))] 40],(List.Perm.refl _)⟩,(Option.some.inj n).symm,trivial⟩;rintro bf bg bh B ⟨rfl,_⟩;replace c:=z2c c;refine qd (zo (vi a) ?_);obtain⟨ai,c⟩:=zk c
 refine zz (kz rfl rfl ai) (zl (vi (a+1)) (zg ?_));exact⟨dkt,B,yo,(p,a+1),Nat.lt_succ_self _,⟨rfl,trivial⟩,prm,c,trivial⟩;refine vz ?_;exact⟨dkt,(j.trans l),yo,(),trivial,prm,(Option.some.inj c).symm,trivial⟩;rintro bJ bi bK aj ⟨rfl,_⟩;replace e:=z2c e;refine qd (zo (vi b) ?_)
 obtain⟨ak,e⟩:=zk e;refine zz (kz rfl rfl ak) (zl (vi (b+1)) (zg ?_));exact⟨dkt,aj,yo,(t,b+1),Nat.lt_succ_self _,⟨rfl,trivial⟩,prm,e,trivial⟩;refine vz ?_;exact⟨dkt,h,yo,(),trivial,prm,(Option.some.inj e).symm,trivial⟩;rintro bL bj bM al ⟨rfl,_⟩;replace f:=z2c f
 refine zq (zl (vi 0) (zg (qo ?_)));obtain rfl:=Option.some.inj f;refine qc (D:=[]) (J:=[]) (rs:=[.tmp 2]) (vs:=[(vi 0)]) (s.trans al) rfl rfl ⟨rfl,trivial⟩ ?_;exact⟨rfl,rfl⟩
theorem zno:Enters prog 30:=enters_of func30 rfl (by kernel_rfl)
theorem z4d{N:Nat}{R:RH}{s1_:(List (List Edge))}{c:Value}(e:VRep (tSl false (tSl false kEdge)) R c s1_){s2_:(List (List Edge))}{d:Value}(h:VRep (tSl false (tSl false kEdge)) R d s2_){eq:(List Edge)→(List Edge)→Option Bool}{f:Value}(m:FOk2 prog R f (tSl false kEdge) (tSl false kEdge) fe eq){r:Bool}(b:mg N s1_ s2_ eq=some r):CallP prog 50 #[c,d,f] R (fun v R'=>v=(.bool r)):=by
 refine qw (args:=[c,d,f]) func50 rfl rfl fun A=>?_;rw [mg] at b
 refine zq (zl (.bool false) (zg (zy (zq (zo c (zz (ql rfl underlying25 rfl (jd e)) (zo d (zz (ql rfl underlying25 rfl (jd h)) (zz (jk rfl rfl) (zg (qb rfl b (fun b=>?_) (fun b=>?_))))))))))));refine zq (zl (.bool false) (zg (qo ?_)));obtain rfl:=Option.some.inj b
 refine qc (D:=[]) (J:=[]) (rs:=[.tmp 6]) (vs:=[(.bool false)]) (RH.le.refl _) rfl rfl ⟨rfl,trivial⟩ ?_;exact⟨rfl,rfl⟩;refine qg ?_;obtain⟨t,a,b⟩:=zi b;refine jy (γ:=Unit) (rs [6,10,15,32]) (fun g=>[]) (fun g=>[]++A) (fun g R=>t=Ex.go g∧True) ?_ ?_
 refine zq (zo c (zz (ql rfl underlying25 rfl (jd e)) (zo (vi 0) (zg (qp (uz (γ:=Nat×Int) (rs [6,10,17,32]) (fun g=>[(17,(vi g.2))]) (fun g=>[]++A) (fun g R=>uo N s1_ s2_ eq g.1 g.2=some t∧True) (fun g=>g.1) (N,0) prm ⟨a,trivial⟩ ?_))))));clear a;rintro⟨s,k⟩ F O j ⟨a,_⟩
 rcases s with _|s;exact jv a;replace a:uo N s1_ s2_ eq (s+1) k=some t:=a;rw [uo] at a;refine zq (zz (jl rfl rfl) (zg (zy (qb rfl a (fun a=>?_) (fun a=>?_)))));refine qg (zy (qp (zq (zo (vi k) ?_))));obtain⟨n,a⟩:=zk a
 refine vo (i:=k.toNat) rfl z2f rfl (jd (e.mono j)) (zw rfl n.1) (j4 n) fun G u=>?_;refine qz rfl z1w rfl u fun o w=>?_;refine zl (vi k) (zl o (jh (zo d (zo (vi k) ?_))));obtain⟨p,a⟩:=zk a
 refine vo (i:=k.toNat) rfl z2f rfl (jd (h.mono j)) (zw rfl p.1) (j4 p) fun H x=>?_;refine qz rfl z1w rfl x fun q y=>?_;refine zl q (jh (zo f (zo o (zo q ?_))));obtain⟨I,z,a⟩:=zi a
 refine zbm rfl rfl rfl ((m.mono j) _ (RH.le.refl _) (ix s1_ k) (ix s2_ k) _ _ _ w y z) fun K L l B=>?_;obtain rfl:=z06.1 B;refine zz (ik rfl) (zg (qb rfl a (fun a=>?_) (fun a=>?_)));refine zq (zl (.bool false) (zg (qo ?_)));replace b:=z0d a b;obtain rfl:=Option.some.inj b
 refine qc (D:=[]) (J:=[]) (rs:=[.tmp 6]) (vs:=[(.bool false)]) (j.trans l) rfl rfl ⟨rfl,trivial⟩ ?_;exact⟨rfl,rfl⟩;refine qg (qd ?_);obtain⟨C,a⟩:=zk a;refine zz (kz rfl rfl C) (zo (vi (k+1)) (zg ?_));exact⟨dkt,l,yo,(s,k+1),Nat.lt_succ_self _,⟨rfl,trivial⟩,prm,a,trivial⟩;refine vz ?_
 exact⟨dkt,j,yo,(),trivial,prm,(Option.some.inj a).symm,trivial⟩;rintro P M Q E ⟨rfl,_⟩;replace b:=z2c b;refine zq (zl (.bool true) (zg (qo ?_)));obtain rfl:=Option.some.inj b;refine qc (D:=[]) (J:=[]) (rs:=[.tmp 6]) (vs:=[(.bool true)]) E rfl rfl ⟨rfl,trivial⟩ ?_;exact⟨rfl,rfl⟩
theorem zpo:Enters prog 50:=enters_of func50 rfl (by kernel_rfl)
theorem z6c{N:Nat}{R:RH}{s1_:(List Edge)}{b:Value}(e:VRep (tSl false kEdge) R b s1_){s2_:(List Edge)}{d:Value}(f:VRep (tSl false kEdge) R d s2_){r:Bool}(c:r9 N s1_ s2_=some r):CallP prog 51 #[b,d] R (fun v R'=>v=(.bool r)):=by
 refine qw (args:=[b,d]) func51 rfl rfl fun A=>?_;rw [r9] at c;refine zq (zl (.bool false) (zg (zy (zq (zo b (zz (ql rfl underlying41 rfl (jd e)) (zo d (zz (ql rfl underlying41 rfl (jd f)) (zz (jk rfl rfl) (zg (qb rfl c (fun c=>?_) (fun c=>?_))))))))))))
 refine zq (zl (.bool false) (zg (qo ?_)));obtain rfl:=Option.some.inj c;refine qc (D:=[]) (J:=[]) (rs:=[.tmp 4]) (vs:=[(.bool false)]) (RH.le.refl _) rfl rfl ⟨rfl,trivial⟩ ?_;exact⟨rfl,rfl⟩;refine qg ?_;obtain⟨p,a,c⟩:=zi c;refine jy (γ:=Unit) (rs [4,6,11,26]) (fun g=>[]) (fun g=>[]++A) (fun g R=>p=Ex.go g∧True) ?_ ?_
 refine zq (zo b (zz (ql rfl underlying41 rfl (jd e)) (zo (vi 0) (zg (qp (uz (γ:=Nat×Int) (rs [4,6,13,26]) (fun g=>[(13,(vi g.2))]) (fun g=>[]++A) (fun g R=>yg N s1_ s2_ g.1 g.2=some p∧True) (fun g=>g.1) (N,0) prm ⟨a,trivial⟩ ?_))))));clear a;rintro⟨o,j⟩ w C k ⟨a,_⟩
 rcases o with _|o;exact jv a;replace a:yg N s1_ s2_ (o+1) j=some p:=a;rw [yg] at a;refine zq (zz (jl rfl rfl) (zg (zy (qb rfl a (fun a=>?_) (fun a=>?_)))))
 refine qg (zy (qp (zq (zo (vi j) (zl (vi j) (zg (zy (z2x 9 mixed (by kernel_rfl) (by kernel_rfl) ?_))))))));refine ny (v:=b) (z8 rfl) ?_;refine ny (v:=(vi j)) (z8 rfl) ?_;obtain⟨m,a⟩:=zk a
 refine z0m (si (i:=j.toNat) z5l rfl (jd (e.mono k)) (zw rfl m.1) (j4 m)) fun x q=>?_;refine ny (v:=(qx (ix s1_ j))) (z0u (ja z2v rfl q) (fun _ _ h=>uy.1 h)) ?_;refine ny (v:=d) (z8 rfl) ?_;refine ny (v:=(vi j)) (z8 rfl) ?_;obtain⟨n,a⟩:=zk a
 refine z0m (si (i:=j.toNat) z5l rfl (jd (f.mono k)) (zw rfl n.1) (j4 n)) fun y s=>?_;refine ny (v:=(qx (ix s2_ j))) (z0u (ja z2v rfl s) (fun _ _ h=>uy.1 h)) ?_;refine ny (z6a zcq rfl rfl) ?_;intro z l;refine zg (qb rfl a (fun a=>?_) (fun a=>?_))
 refine zq (zl (.bool false) (zg (qo ?_)));replace c:=z0d a c;obtain rfl:=Option.some.inj c;refine qc (D:=[]) (J:=[]) (rs:=[.tmp 4]) (vs:=[(.bool false)]) (k.trans l) rfl rfl ⟨rfl,trivial⟩ ?_;exact⟨rfl,rfl⟩;refine qg (qd ?_);obtain⟨t,a⟩:=zk a;refine zz (kz rfl rfl t) (zo (vi (j+1)) (zg ?_))
 exact⟨dkt,l,yo,(o,j+1),Nat.lt_succ_self _,⟨rfl,trivial⟩,prm,a,trivial⟩;refine vz ?_;exact⟨dkt,k,yo,(),trivial,prm,(Option.some.inj a).symm,trivial⟩;rintro E B F u ⟨rfl,_⟩;replace c:=z2c c;refine zq (zl (.bool true) (zg (qo ?_)));obtain rfl:=Option.some.inj c
 refine qc (D:=[]) (J:=[]) (rs:=[.tmp 4]) (vs:=[(.bool true)]) u rfl rfl ⟨rfl,trivial⟩ ?_;exact⟨rfl,rfl⟩
theorem zps:Enters prog 51:=enters_of func51 rfl (by kernel_rfl)
theorem ow{N:Nat}{R:RH}{a:Mach}{k:Value}(n:VRep (qm false false) R k a){b:Mach}{l:Value}(o:VRep (qm false false) R l b){r:Bool}(g:dh N a b=some r):CallP prog 32 #[k,l] R (fun v R'=>v=(.bool r)):=by
 refine qw (args:=[k,l]) func32 rfl rfl fun A=>?_;rw [dh] at g;refine zq (w9 (T:=(qm false false)) rfl rfl rfl n fun v1 R3 j h5 x=>?_);refine w9 (T:=(qm false false)) rfl rfl rfl (o.mono j) fun v6 R8 f z B=>?_
 refine zl (.bool false) (jh (qi (v:=k) rfl (je z00 rfl rfl (h5.mono f) (n.mono (j.trans f))) ?_));obtain⟨i,C,g⟩:=zi g;refine z4v (φ:=phX (vi i)) rfl (qj (vs:=[k]) zb9 rfl (gq (n.mono (j.trans f)) C) (fun _ _ h=>h)) fun ak al d E=>?_;obtain rfl:=Eq.symm E
 refine qi rfl (wm rfl rfl) (qi (v:=(.bool (decide (i=0)))) rfl (z8 rfl) (zx rfl rfl rfl rfl (fun c=>zn (v:=l) (je z00 rfl rfl (z.mono d) (o.mono ((j.trans f).trans d)))) fun am F=>?_));obtain⟨m,G,g⟩:=zi g
 refine lg rfl rfl rfl rfl (fun c=>qj (vs:=[l]) zb9 (z1s (F.1 (za rfl c)) rfl) ((by have p:=(uq G (za rfl c));exact gq (o.mono ((j.trans f).trans d)) p)) (fun _ _ h=>h)) fun H I e q=>?_;replace q:phG (true&&((decide (i=0))==true)) (phX (vi (m.getD default))) H I:=q
 refine zx rfl rfl rfl rfl (fun c=>zn (wm (q.1 (za rfl c)) rfl)) fun an K=>?_;refine qi rfl (ul rfl (fun s=>(K.1 (za rfl s))) rfl) (qi (v:=(.bool ((decide (i=0))&&(decide ((m.getD default)=0))))) rfl (z8 rfl) (zx rfl rfl rfl rfl (fun c=>kv ma p9 rfl (x.mono ((f.trans d).trans e))) fun ao L=>?_))
 refine zx rfl rfl rfl rfl (fun c=>zn (ni (ja ty3 rfl (L.1 (za rfl c))))) fun ap M=>?_;refine zx rfl rfl rfl rfl (fun c=>kv ma p9 rfl (B.mono (d.trans e))) fun aq O=>?_;refine zx rfl rfl rfl rfl (fun c=>zn (ni (ja ty3 rfl (O.1 (za rfl c))))) fun ar P=>?_
 refine zx rfl rfl rfl rfl (fun c=>zn (wm (M.1 (za rfl c)) (P.1 (za rfl c)))) fun au Q=>?_
 refine qi rfl (ul rfl (fun s=>(Q.1 (za rfl s))) rfl) (qi (v:=(.bool (((decide (i=0))&&(decide ((m.getD default)=0)))&&(decide (a.inputs=b.inputs))))) rfl (z8 rfl) (zx rfl rfl rfl rfl (fun c=>kv z13 z09 rfl (x.mono ((f.trans d).trans e))) fun av S=>?_))
 refine zx rfl rfl rfl rfl (fun c=>zn (ni (ja ty3 rfl (S.1 (za rfl c))))) fun aw U=>?_;refine zx rfl rfl rfl rfl (fun c=>kv z13 z09 rfl (B.mono (d.trans e))) fun ax V=>?_;refine zx rfl rfl rfl rfl (fun c=>zn (ni (ja ty3 rfl (V.1 (za rfl c))))) fun ay W=>?_
 refine zx rfl rfl rfl rfl (fun c=>zn (wm (U.1 (za rfl c)) (W.1 (za rfl c)))) fun az X=>?_;refine qi rfl (ul rfl (fun s=>(X.1 (za rfl s))) rfl) ?_;let G2:=((((decide (i=0))&&(decide ((m.getD default)=0)))&&(decide (a.inputs=b.inputs)))&&(decide (a.outputs=b.outputs)))
 refine qi (v:=(.bool G2)) rfl (z8 rfl) (zx rfl rfl rfl rfl (fun c=>kv ku kw rfl (x.mono ((f.trans d).trans e))) fun aA Y=>?_);refine zx rfl rfl rfl rfl (fun c=>ja lq rfl (Y.1 (za rfl c))) fun Z aa=>?_;refine zx rfl rfl rfl rfl (fun c=>kv ku kw rfl (B.mono (d.trans e))) fun aB ab=>?_
 refine zx rfl rfl rfl rfl (fun c=>ja lq rfl (ab.1 (za rfl c))) fun ac ad=>?_;obtain⟨u,ae,g⟩:=zi g
 refine lg rfl rfl rfl rfl (fun c=>qj (vs:=[Z,ac,(.func (.func 51) #[] #[])]) zpo rfl ((by have p:=(uq ae (za rfl c));exact z4d (aa.1 (za rfl c)) (ad.1 (za rfl c)) (zmd (cs:=[]) zps fun R1 hq z0 z1 u0 u1 y k0 k1 hy=>by exact CallP.mono (z6c k0 k1 hy) fun v R2 _ hv=>z06.2 hv) p)) (fun _ _ h=>h)) fun af ag w t=>?_
 replace t:phG (true&&(G2==true)) (phX (.bool (u.getD default))) af ag:=t;refine qi rfl (ul rfl (fun s=>(t.1 (za rfl s))) rfl) ?_;let G1:=(((((decide (i=0))&&(decide ((m.getD default)=0)))&&(decide (a.inputs=b.inputs)))&&(decide (a.outputs=b.outputs)))&&(u.getD default));refine qi (v:=(.bool G1)) rfl (ui rfl) (zg (qo ?_))
 obtain rfl:=Option.some.inj g;refine qc (D:=[]) (J:=[]) (rs:=[.tmp 4]) (vs:=[(.bool G1)]) ((((j.trans f).trans d).trans e).trans w) rfl rfl ⟨rfl,trivial⟩ ?_;exact⟨rfl,rfl⟩
theorem zdv:Enters prog 32:=enters_of func32 rfl (by kernel_rfl)
end GV
end Go.Proofs.Ytohjnbajgbdhhaa

namespace Go.Proofs.Ytohjnbajgbdhhaa
namespace GV
open _root_.Go.Proofs.Try
open Go.IntWalk
set_option maxRecDepth 100000
set_option maxHeartbeats 20000000
theorem z3q{N:Nat}{R:RH}{m:Mach}{b:Value}(f:VRep (qm false false) R b m){s:Int}{i:Int}{r:Edge}(a:rz N m s i=some r):CallP prog 45 #[b,(vi s),(vi i)] R (fun v R'=>v=(qx r)):=by
 refine qw (args:=[b,(vi s),(vi i)]) func45 rfl rfl fun A=>?_;rw [rz] at a;refine zq (w9 (T:=(qm false false)) rfl rfl rfl f fun B C c E q=>?_);refine wh rfl z8m fun p=>?_;refine zg (zy (zq (zo (vi s) (zz (jl rfl rfl) (zg (qb rfl a (fun a=>?_) (fun a=>?_)))))))
 refine zq (zz (xm (ps:=[(0,(vi (-1))),(1,(vi (-1)))]) (v:=(.agg #[(vi (-1)),(vi (-1))])) rfl (fun w=>by kernel_rfl)) (jm (i:=0) (vs:=[(vi (-1)),(vi (-1))]) z1u rfl rfl rfl rfl rfl rfl (zt rfl (zt rfl jq)) ?_));refine zg (qo ?_);obtain rfl:=Option.some.inj a
 refine qc (D:=[]) (J:=[box p [(vi (-1)),(vi (-1))] 40]) (rs:=[.cell 6 40]) (vs:=[(.agg #[(vi (-1)),(vi (-1))])]) c rfl rfl ⟨⟨_,rfl,fun w g=>ay (i:=0) g rfl rfl zaq z1u rfl rfl⟩,trivial⟩ ?_;exact⟨rfl,rfl⟩;refine qg (zq (kg rfl ku kw rfl q fun F h=>?_));refine qz rfl lq rfl h fun t j=>?_
 refine zo (vi s) ?_;obtain⟨d,a⟩:=zk a;refine vo (i:=s.toNat) rfl z2f rfl (jd j) (zw rfl d.1) (j4 d) fun u k=>?_;refine qz rfl z1w rfl k fun x l=>?_;refine zo (vi i) ?_;obtain⟨e,a⟩:=zk a;refine vo (i:=i.toNat) rfl z5l rfl (jd l) (zw rfl e.1) (j4 e) fun y n=>?_
 refine qz rfl z2v rfl n fun z o=>?_;obtain rfl:=uy.1 o;refine jm (i:=0) (vs:=[(vi ((ix (ix m.rows s) i).to)),(vi ((ix (ix m.rows s) i).out))]) z1u rfl rfl rfl rfl rfl rfl (zt rfl (zt rfl jq)) ?_;refine zg (qo ?_);obtain rfl:=Option.some.inj a
 refine qc (D:=[]) (J:=[box p [(vi ((ix (ix m.rows s) i).to)),(vi ((ix (ix m.rows s) i).out))] 40]) (rs:=[.cell 6 40]) (vs:=[(.agg #[(vi ((ix (ix m.rows s) i).to)),(vi ((ix (ix m.rows s) i).out))])]) c rfl rfl ⟨⟨_,rfl,fun w g=>ay (i:=0) g rfl rfl zaq z1u rfl rfl⟩,trivial⟩ ?_;exact⟨rfl,rfl⟩
theorem zp1:Enters prog 45:=enters_of func45 rfl (by kernel_rfl)
theorem z4i{N:Nat}{R:RH}{m:Mach}{j:Value}(z:VRep (qm false false) R j m){s:Int}{u:(List Int)}{f:Value}(w:VRep (tSl false (j3 .i64)) R f u){r:(List Int)}(o:lc N m s u=some r):CallP prog 24 #[j,(vi s),f] R (fun v R'=>VRep (tSl false (j3 .i64)) R' v r):=by
 refine qw (args:=[j,(vi s),f]) func24 rfl rfl fun A=>?_;rw [lc] at o;refine zq (w9 (T:=(qm false false)) rfl rfl rfl z fun v1 R3 k h5 h2=>?_);refine zl vs0 (jh (zl vs0 (zg ?_)));obtain⟨F,a,o⟩:=zi o
 refine jy (γ:=(List Int)×Value×Frag) (rs [1,2,7,30]) (fun g=>[(7,g.2.1)]) (fun g=>[g.2.2]++A) (fun g R=>F=g.1∧ORep (j3 .i64) R g.2.2 g.2.1 g.1∧True) ?_ ?_;refine zq (zl (vi 0) (zg (qp (z2k ?_))))
 refine uz (γ:=Nat×Int×(List Int)×Int×Value×Frag) (rs [1,2,7,30]) (fun g=>[(1,(vi g.2.1)),(7,g.2.2.2.2.1),(8,(vi g.2.2.2.1))]) (fun g=>[g.2.2.2.2.2]++A) (fun g R=>p8 N m u g.1 g.2.1 g.2.2.1 g.2.2.2.1=some F∧ORep (j3 .i64) R g.2.2.2.2.2 g.2.2.2.2.1 g.2.2.1∧True) (fun g=>g.1) (N,s,[],0,vs0,emp) prm ⟨a,(z0t (T:=(j3 .i64))),trivial⟩ ?_
 clear a;rintro⟨p,q,t,c,G,C⟩ ax ay e ⟨a,H,_⟩;rcases p with _|p;exact jv a;replace a:p8 N m u (p+1) q t c=some F:=a;rw [p8] at a
 refine zy (zq (zo (vi c) (zo f (zz (ql rfl underlying49 rfl (jd (w.mono (k.trans e)))) (zz (jl rfl rfl) (zg (qb rfl a (fun a=>?_) (fun a=>?_))))))));refine qg (zy (qp (zy ?_)));obtain⟨I,a⟩:=zk a;obtain⟨b,S,a⟩:=zi a
 refine ou 8 [⟨7,[.int .i64 0,.int .i64 0],40⟩] [phX j,phX (vi q),phX f,phX (vi c),phP (j3 .i64) (ix u c),phX (vi (ix u c)),phX (qx b),phB] mixed (by kernel_rfl) (df ⟨zf,zf,zf,zf,xg,zf,zf,zha,trivial⟩) ⟨?_,?_,?_,?_,?_,?_,?_,?_,trivial⟩ fun az x=>?_;intro l aA d n P
 exact ze rfl rfl rfl (zh (je z00 rfl (n 3 rfl) ((h5.mono e).mono d) ((z.mono (k.trans e)).mono d)));intro l aB d n P;exact ze rfl rfl rfl (zh (z8 (n 1 rfl)));intro l aC d n P;exact ze rfl rfl rfl (zh (z8 (n 2 rfl)));intro l aD d n P;exact ze rfl rfl rfl (zh (z8 (n 8 rfl)))
 rintro l aE d n ⟨K,U,_⟩;exact ze rfl rfl rfl (di (i:=c.toNat) z5u (K rfl) (jd ((w.mono (k.trans e)).mono d)) (zw (U rfl) I.1) (j4 I));rintro l aF d n ⟨K,_⟩;exact ze rfl rfl rfl (gz (uk ty3 rfl (K rfl)) (fun _ _ h=>ko.1 h));rintro l aG d n ⟨K,U,d2,_⟩;have V:l 16=j:=K rfl
 have W:l 17=(vi q):=U rfl;have C:l 21=(vi (ix u c)):=d2 rfl;exact ze rfl rfl rfl (qj (vs:=[j,(vi q),(vi (ix u c))]) zp1 (by simp only [List.map,ev,V,W,C]<;>rfl) (z3q ((z.mono (k.trans e)).mono d) S) (fun _ _ h=>h));intro l aI d n P;exact zas rfl rfl rfl rfl z8m
 intro aJ Z aK aa aL ab aM ac aN aO aP ad aQ ae aR af;obtain rfl:=Eq.symm Z;obtain rfl:=Eq.symm aa;obtain rfl:=Eq.symm ab;obtain rfl:=Eq.symm ac;obtain rfl:=Eq.symm ad;obtain rfl:=Eq.symm ae;obtain⟨ag,rfl⟩:=af;refine jm (i:=0) (vs:=[(vi b.to),(vi b.out)]) z1u rfl rfl rfl rfl rfl rfl (zt rfl (zt rfl jq)) ?_
 refine jh (zo G (zz (j6 z7y rfl) (zz (j5 (i:=0) ag3 rfl rfl rfl) (z0k (T:=(j3 .i64)) (X:=([b.out]:List Int)) (ps:=[(0,(vi b.out))]) (css:=[[(vi b.out)]]) rfl underlying49 zo3 rfl rfl (gp ⟨rfl,trivial⟩) rfl rfl (by decide) fun ah aS E ai=>?_))));refine o7 (i:=0) rfl ai fun aj y ak=>?_
 have al:VRep (tSl true (j3 .i64)) aj ah ([b.out]:List Int):=(z2e ak E);obtain⟨L,a⟩:=zk a;refine lm (i:=1) (X:=t) (Y:=([b.out]:List Int)) rfl underlying49 zo3 rfl rfl rfl (H.mono (x.trans y)) (jd (Sub.v (B:=(tSl false (j3 .i64))) (ut Sub.refl (fun _=>rfl)) al)) L.1 L.2 fun M am an=>?_
 refine zl M (zg (qd (zz (j6 z4w rfl) (zz (j5 (i:=0) ag3 rfl rfl rfl) (zl (vi b.to) (zg (qd (zo (vi c) ?_))))))));obtain⟨ao,a⟩:=zk a;refine zz (kz rfl rfl ao) (zl (vi (c+1)) (zg ?_))
 exact⟨dkt,(x.trans y),yo,(p,b.to,(t++([b.out]:List Int)),c+1,M,am),Nat.lt_succ_self _,⟨rfl,rfl,rfl,trivial⟩,⟨[box ag [(vi b.to),(vi b.out)] 40],(List.Perm.refl _)⟩,a,an,trivial⟩;refine vz ?_;exact⟨dkt,e,yo,(t,G,C),⟨rfl,trivial⟩,prm,(Option.some.inj a).symm,H,trivial⟩
 rintro⟨F,Q,aT⟩ aU R7 ap ⟨rfl,aq,_⟩;refine zq (zo Q (zl Q (zg (z0y (i:=0) rfl aq fun ar O au=>?_))));have av:VRep (tSl false (j3 .i64)) ar Q F:=(z5t au);refine qo ?_;obtain rfl:=Option.some.inj o;refine qc (D:=[]) (J:=[]) (rs:=[.tmp 6]) (vs:=[Q]) ((k.trans ap).trans O) rfl rfl ⟨rfl,trivial⟩ ?_;exact⟨rfl,av⟩
theorem znf:Enters prog 25:=enters_of func25 rfl (by kernel_rfl)
theorem z5k{N:Nat}(F:Nat): ∀ {R:RH} {m:Mach} {d:Value} (j:VRep (qm false false) R d m) {s:Int} {n:(List Int)} {c:Value} (g:VRep (tSl false (j3 .i64)) R c n) {r:Int} (b:dm N F m s n=some r),CallP prog 25 #[d,(vi s),c] R (fun v R'=>v=(vi r)):=by
  induction F with
  |zero=>intros;rename_i b;exact jv b
  |succ F ih=>
    intro R m d j s n c g r b
    refine qw (args:=[d,(vi s),c]) func25 rfl rfl fun A=>?_
    rw [dm] at b
    refine zy ?_
    refine qd ?_
    refine w9 (T:=(qm false false)) rfl rfl rfl j fun v1 R3 e h5 h2=>?_
    refine zl (vi 0) ?_
    refine zg ?_
    refine zy ?_
    refine zy ?_
    refine qd ?_
    refine zo c ?_
    refine zz (ql rfl underlying49 rfl (jd (g.mono e))) ?_
    refine zz (wm rfl rfl) ?_
    refine zg ?_
    refine qb rfl b (fun b=>?_) (fun b=>?_)
    · refine zy ?_
      refine qd ?_
      refine zo (vi s) ?_
      refine zl (vi s) ?_
      refine zg ?_
      refine qo ?_
      obtain rfl:=Option.some.inj b
      refine qc (D:=[]) (J:=[]) (rs:=[.tmp 6]) (vs:=[(vi s)]) e rfl rfl ⟨rfl,trivial⟩ ?_
      exact⟨rfl,rfl⟩
    · refine qg ?_
      refine zy ?_
      obtain⟨g7,b⟩:=zk b
      obtain⟨q,c9,b⟩:=zi b
      obtain⟨o,b⟩:=zk b
      obtain⟨p,B,b⟩:=zi b
      refine ou 12 [] [phX d,phX d,phX (vi s),phX c,phP (j3 .i64) (ix n 0),phX (vi (ix n 0)),phX (qx q),phX (vi q.to),phX c,phR (tSl false (j3 .i64)) (cut n 1 (↑n.length:Int)),phX (vi p),phX (vi p)] mixed (by kernel_rfl) (df ⟨zf,zf,zf,zf,xg,zf,zf,zf,zf,gm,zf,zf,trivial⟩) ⟨?_,?_,?_,?_,?_,?_,?_,?_,?_,?_,?_,?_,trivial⟩ fun al t=>?_
      · intro l am a f x
        have C:l 3=v1:=f 3 rfl
        exact ze rfl rfl rfl (zh (je z00 rfl C (h5.mono a) ((j.mono e).mono a)))
      · intro l an a f x
        have C:l 3=v1:=f 3 rfl
        exact ze rfl rfl rfl (zh (je z00 rfl C (h5.mono a) ((j.mono e).mono a)))
      · intro l ao a f x
        have a1:l 1=(vi s):=f 1 rfl
        exact ze rfl rfl rfl (zh (z8 a1))
      · intro l aq a f x
        have E:l 2=c:=f 2 rfl
        exact ze rfl rfl rfl (zh (z8 E))
      · rintro l ar a f ⟨k,_⟩
        have G:=k rfl
        exact ze rfl rfl rfl (di (i:=(0:Int).toNat) z5u G (jd ((g.mono e).mono a)) (zw rfl g7.1) (j4 g7))
      · rintro l au a f ⟨k,_⟩
        have H:=k rfl
        exact ze rfl rfl rfl (gz (uk ty3 rfl H) (fun _ _ h=>ko.1 h))
      · rintro l av a f ⟨k,y,z,_⟩
        have I:l 12=d:=k rfl
        have K:l 13=(vi s):=y rfl
        have L:l 16=(vi (ix n 0)):=z rfl
        exact ze rfl rfl rfl (qj (vs:=[d,(vi s),(vi (ix n 0))]) zp1 (by simp only [List.map,ev,I,K,L]<;>rfl) (z3q ((j.mono e).mono a) c9) (fun _ _ h=>h))
      · rintro l aw a f ⟨k,_⟩
        have M:=k rfl
        exact ze rfl rfl rfl (zh (zjl (v:=(qx q)) (u:=(vi q.to)) M (fun w=>by kernel_rfl)))
      · intro l ax a f x
        have E:l 2=c:=f 2 rfl
        exact ze rfl rfl rfl (zh (z8 E))
      · rintro l ay a f ⟨k,_⟩
        have O:=k rfl
        exact ze rfl rfl rfl (ziy (lo:=(1:Int).toNat) (hi:=(↑n.length:Int).toNat) (mx:=(capOf c)) (X':=(cut n 1 (↑n.length:Int))) z5u O (jd ((g.mono e).mono a)) (.inr ⟨_,congrArg some (zw rfl o.1)⟩) (.inl ⟨rfl,rfl,rfl⟩) (.inl ⟨rfl,rfl⟩) (zfm o) (z8q o) (fun h=>Nat.le_trans (z8q o) h) (fun _=>Nat.le_refl _) rfl)
      · rintro l ai a f ⟨k,y,z,d3,_⟩
        have P:l 11=d:=k rfl
        have Q:l 18=(vi q.to):=y rfl
        have S:=z rfl
        exact ze rfl rfl rfl (qj (vs:=[d,(vi q.to),(l 20)]) znf (by simp only [List.map,ev,P,Q]<;>rfl) (ih ((j.mono e).mono a) S B) (fun _ _ h=>h))
      · rintro l aj a f ⟨k,y,z,d3,d4,d5,d6,d7,d8,d9,aA,aB,aC,_⟩
        have U:=k rfl
        exact ze rfl rfl rfl (zh (ui U))
      intro aD V
      intro aE W
      intro aF X
      intro aG Y
      intro aH aI
      intro aJ Z
      intro aK aa
      intro aL ab
      intro aM ac
      intro aN aO
      intro aP ad
      intro aQ ae
      obtain rfl:=Eq.symm V
      obtain rfl:=Eq.symm W
      obtain rfl:=Eq.symm X
      obtain rfl:=Eq.symm Y
      obtain rfl:=Eq.symm Z
      obtain rfl:=Eq.symm aa
      obtain rfl:=Eq.symm ab
      obtain rfl:=Eq.symm ac
      obtain rfl:=Eq.symm ad
      obtain rfl:=Eq.symm ae
      refine zg ?_
      refine qo ?_
      obtain rfl:=Option.some.inj b
      refine qc (D:=[]) (J:=[]) (rs:=[.tmp 6]) (vs:=[(vi p)]) (e.trans t) rfl rfl ⟨rfl,trivial⟩ ?_
      exact⟨rfl,rfl⟩
theorem z3g{N:Nat}{R:RH}{m:Mach}{b:Value}(d:VRep (qm false false) R b m){s:Int}{f:(List Int)}{a:Value}(c:VRep (tSl false (j3 .i64)) R a f){r:Int}(e:dm N N m s f=some r):CallP prog 25 #[b,(vi s),a] R (fun v R'=>v=(vi r)):=z5k N d c e
theorem zpa:Enters prog 24:=enters_of func24 rfl (by kernel_rfl)
end GV
end Go.Proofs.Ytohjnbajgbdhhaa

namespace Go.Proofs.Ytohjnbajgbdhhaa
namespace GV
open _root_.Go.Proofs.Try
open Go.IntWalk
set_option maxRecDepth 100000
set_option maxHeartbeats 20000000
theorem z3f{N:Nat}{R:RH}{m:Mach}{f:Value}(n:VRep (qm false false) R f m){r:Int}(b:iw N m=some r):CallP prog 29 #[f] R (fun v R'=>v=(vi r)):=by
 refine qw (args:=[f]) func29 rfl rfl fun A=>?_;rw [iw] at b;refine zq (w9 (T:=(qm false false)) rfl rfl rfl n fun P Q h S o=>?_);refine zl (vi 0) (zg (zy (zq (kg rfl ku kw rfl o fun U y=>?_))));refine qz rfl lq rfl y fun V z=>?_
 refine zz (ql rfl underlying25 rfl (jd z)) (zz (z0b rfl rfl) (zg (qb rfl b (fun b=>?_) (fun b=>?_))));refine zq (zl (vi 1) (zg (qo ?_)));obtain rfl:=Option.some.inj b;refine qc (D:=[]) (J:=[]) (rs:=[.tmp 2]) (vs:=[(vi 1)]) h rfl rfl ⟨rfl,trivial⟩ ?_;exact⟨rfl,rfl⟩;refine qg ?_
 obtain⟨j,a,b⟩:=zi b;refine jy (γ:=Unit) (rs [2,4,8,22]) (fun g=>[]) (fun g=>[]++A) (fun g R=>j=Ex.go g∧True) ?_ ?_
 refine zq (zl (vi 0) (zg (qp (uz (γ:=Nat×Int) (rs [2,4,8,22]) (fun g=>[(3,(vi g.2))]) (fun g=>[]++A) (fun g R=>yx N m g.1 g.2=some j∧True) (fun g=>g.1) (N,0) prm ⟨a,trivial⟩ ?_))));clear a;rintro⟨e,c⟩ B C d ⟨a,_⟩;rcases e with _|e;exact jv a
 replace a:yx N m (e+1) c=some j:=a;rw [yx] at a;refine zy (zq (zo (vi c) (kg rfl ku kw rfl (o.mono d) fun E p=>?_)));refine qz rfl lq rfl p fun F q=>?_
 refine zz (ql rfl underlying25 rfl (jd q)) (zz (jl rfl rfl) (zg (qb rfl a (fun a=>?_) (fun a=>?_))));refine qg (zy (qp (zq (kg rfl ku kw rfl (o.mono d) fun G s=>?_))));refine qz rfl lq rfl s fun H t=>?_;refine zo (vi c) ?_;obtain⟨k,a⟩:=zk a
 refine vo (i:=c.toNat) rfl z2f rfl (jd t) (zw rfl k.1) (j4 k) fun I u=>?_;refine qz rfl z1w rfl u fun K w=>?_;refine zz (ql rfl underlying41 rfl (jd w)) (zz (z0b rfl rfl) (zg (qb rfl a (fun a=>?_) (fun a=>?_))));refine zq (zl (vi 1) (zg (qo ?_)));replace b:=z0d a b
 obtain rfl:=Option.some.inj b;refine qc (D:=[]) (J:=[]) (rs:=[.tmp 2]) (vs:=[(vi 1)]) (h.trans d) rfl rfl ⟨rfl,trivial⟩ ?_;exact⟨rfl,rfl⟩;refine qg (qd (zo (vi c) ?_));obtain⟨x,a⟩:=zk a;refine zz (kz rfl rfl x) (zl (vi (c+1)) (zg ?_))
 exact⟨dkt,(RH.le.refl _),yo,(e,c+1),Nat.lt_succ_self _,⟨rfl,trivial⟩,prm,a,trivial⟩;refine vz ?_;exact⟨dkt,d,yo,(),trivial,prm,(Option.some.inj a).symm,trivial⟩;rintro L M O l ⟨rfl,_⟩;replace b:=z2c b;refine zq (zl (vi 0) (zg (qo ?_)));obtain rfl:=Option.some.inj b
 refine qc (D:=[]) (J:=[]) (rs:=[.tmp 2]) (vs:=[(vi 0)]) (h.trans l) rfl rfl ⟨rfl,trivial⟩ ?_;exact⟨rfl,rfl⟩
theorem zot:Enters prog 29:=enters_of func29 rfl (by kernel_rfl)
end GV
end Go.Proofs.Ytohjnbajgbdhhaa

namespace Go.Proofs.Ytohjnbajgbdhhaa
namespace GV
open Go.IntWalk
set_option maxRecDepth 100000
set_option maxHeartbeats 20000000
theorem zev:ArrOk Try.prog 42 2 1:=zcb (e:=3) Try.underlying42 (fun w=>by kernel_rfl)
end GV
end Go.Proofs.Ytohjnbajgbdhhaa

namespace Go.Proofs.Ytohjnbajgbdhhaa
namespace GV
open _root_.Go.Proofs.Try
open Go.IntWalk
set_option maxRecDepth 100000
set_option maxHeartbeats 20000000
theorem z2u{N:Nat}{R:RH}{m:Mach}{o:Value}(z:VRep (qm false false) R o m){r:Int}(l:om N m=some r):CallP prog 17 #[o] R (fun v R'=>v=(vi r)):=by
 refine qw (args:=[o]) func17 rfl rfl fun A=>?_;rw [om] at l;refine zq (w9 (T:=(qm false false)) rfl rfl rfl z fun v1 R3 B h5 C=>?_);refine zl (vi 0) (jh (zl (vi 0) (zg ?_)));obtain⟨p,a,l⟩:=zi l
 refine jy (γ:=Int) (rs [3,31]) (fun g=>[(3,(vi g))]) (fun g=>[]++A) (fun g R=>p=g∧True) ?_ ?_
 refine zq (zl (vi 0) (zg (qp (uz (γ:=Nat×Int×Int) (rs [3,31]) (fun g=>[(3,(vi g.2.1)),(4,(vi g.2.2))]) (fun g=>[]++A) (fun g R=>xe N m g.1 g.2.1 g.2.2=some p∧True) (fun g=>g.1) (N,0,0) prm ⟨a,trivial⟩ ?_))));clear a;rintro⟨y,q,d⟩ X Y f ⟨a,_⟩;rcases y with _|y;exact jv a
 replace a:xe N m (y+1) q d=some p:=a;rw [xe] at a;refine zy (zq (zo (vi d) (kg rfl ku kw rfl (C.mono f) fun Z E=>?_)));refine qz rfl lq rfl E fun aa F=>?_
 refine zz (ql rfl underlying25 rfl (jd F)) (zz (jl rfl rfl) (zg (qb rfl a (fun a=>?_) (fun a=>?_))));refine qg ?_;obtain⟨j,b,a⟩:=zi a;refine jy (γ:=Int) (rs [3,4,5,6,13,31]) (fun g=>[(3,(vi g))]) (fun g=>[]++A) (fun g R=>j=g∧True) ?_ ?_
 refine qp (zq (zl (vi 0) (zg (qp (uz (γ:=Nat×Int×Int) (rs [3,4,5,6,13,31]) (fun g=>[(3,(vi g.2.1)),(5,(vi g.2.2))]) (fun g=>[]++A) (fun g R=>yf N m d g.1 g.2.1 g.2.2=some j∧True) (fun g=>g.1) (N,q,0) prm ⟨b,trivial⟩ ?_)))));clear b;rintro⟨n,h,e⟩ ab ac k ⟨b,_⟩
 rcases n with _|n;exact jv b;replace b:yf N m d (n+1) h e=some j:=b;rw [yf] at b;refine zy (zq (zo (vi e) (kg rfl ma p9 rfl (C.mono (f.trans k)) fun ad G=>?_)));refine qz rfl ty3 rfl G fun ae H=>?_;obtain rfl:=ko.1 H
 refine zz (jl rfl rfl) (zg (qb rfl b (fun b=>?_) (fun b=>?_)));refine qg ?_;obtain⟨s,c,b⟩:=zi b;refine jy (γ:=Int) (rs [3,4,19,31]) (fun g=>[(3,(vi g))]) (fun g=>[]++A) (fun g R=>s=g∧True) ?_ ?_;refine qp (zq (kg rfl ku kw rfl (C.mono (f.trans k)) fun af I=>?_))
 refine qz rfl lq rfl I fun ag K=>?_;refine zo (vi d) ?_;obtain⟨t,c⟩:=zk c;refine vo (i:=d.toNat) rfl z2f rfl (jd K) (zw rfl t.1) (j4 t) fun ah L=>?_;refine qz rfl z1w rfl L fun ai M=>?_;refine zo (vi e) ?_;obtain⟨u,c⟩:=zk c
 refine vo (i:=e.toNat) rfl z5l rfl (jd M) (zw rfl u.1) (j4 u) fun aj O=>?_;refine kg rfl z4w z9i rfl O fun ak P=>?_;refine qz rfl ty3 rfl P fun al Q=>?_;obtain rfl:=ko.1 Q;refine zz (z04 rfl rfl) (zg (qb rfl c (fun c=>?_) (fun c=>?_)));refine qd (zo (vi h) ?_)
 obtain⟨S,c⟩:=zk c;refine zz (kz rfl rfl S) (zl (vi (h+1)) (zg ?_));exact⟨dkt,(RH.le.refl _),yo,h+1,⟨rfl,trivial⟩,prm,(Option.some.inj c).symm,trivial⟩;refine qg ?_;exact⟨dkt,(RH.le.refl _),yo,h,⟨rfl,trivial⟩,prm,(Option.some.inj c).symm,trivial⟩;rintro s am an w ⟨rfl,_⟩;refine qd (zo (vi e) ?_)
 obtain⟨U,b⟩:=zk b;refine zz (kz rfl rfl U) (zl (vi (e+1)) (zg ?_));exact⟨dkt,w,yo,(n,s,e+1),Nat.lt_succ_self _,⟨rfl,rfl,trivial⟩,prm,b,trivial⟩;refine vz ?_;exact⟨dkt,k,yo,h,⟨rfl,trivial⟩,prm,(Option.some.inj b).symm,trivial⟩;rintro j ao ap x ⟨rfl,_⟩;refine qd (zo (vi d) ?_)
 obtain⟨V,a⟩:=zk a;refine zz (kz rfl rfl V) (zl (vi (d+1)) (zg ?_));exact⟨dkt,x,yo,(y,j,d+1),Nat.lt_succ_self _,⟨rfl,rfl,trivial⟩,prm,a,trivial⟩;refine vz ?_;exact⟨dkt,f,yo,q,⟨rfl,trivial⟩,prm,(Option.some.inj a).symm,trivial⟩;rintro p aq R7 W ⟨rfl,_⟩
 refine zq (zo (vi p) (zl (vi p) (zg (qo ?_))));obtain rfl:=Option.some.inj l;refine qc (D:=[]) (J:=[]) (rs:=[.tmp 2]) (vs:=[(vi p)]) (B.trans W) rfl rfl ⟨rfl,trivial⟩ ?_;exact⟨rfl,rfl⟩
theorem zpe:Enters prog 17:=enters_of func17 rfl (by kernel_rfl)
theorem z2d{N:Nat}{R:RH}{m:Mach}{b:Value}(f:VRep (qm false false) R b m){r:Bool}(c:tu N m=some r):CallP prog 15 #[b] R (fun v R'=>v=(.bool r)):=by
 refine qw (args:=[b]) func15 rfl rfl fun A=>?_;rw [tu] at c;refine zq (w9 (T:=(qm false false)) rfl rfl rfl f fun v1 R3 g y w=>?_);refine zl (.bool false) (zg (zy ?_));obtain⟨j,z,c⟩:=zi c;obtain⟨B,c⟩:=zk c
 refine ou 10 [] [phX b,phX (vi j),phP (tSl false (tSl false kEdge)) m.rows,phR (tSl false (tSl false kEdge)) m.rows,phX (vi (↑m.rows.length:Int)),phP (j3 .i64) m.inputs,phX (vi m.inputs),phX (vi ((↑m.rows.length:Int)*m.inputs)),phX (.bool (decide (j=((↑m.rows.length:Int)*m.inputs)))),phX (.bool (decide (j=((↑m.rows.length:Int)*m.inputs))))] mixed (by kernel_rfl) (df ⟨zf,zf,xg,gm,zf,xg,zf,zf,zf,zf,trivial⟩) ⟨?_,?_,?_,?_,?_,?_,?_,?_,?_,?_,trivial⟩ fun R9 i=>?_
 intro l C a e x;exact ze rfl rfl rfl (zh (je z00 rfl (e 1 rfl) (y.mono a) ((f.mono g).mono a)));rintro l E a e ⟨d,_⟩;have F:l 3=b:=d rfl;exact ze rfl rfl rfl (qj (vs:=[b]) zpe (by simp only [List.map,ev,F]<;>rfl) (z2u ((f.mono g).mono a) z) (fun _ _ h=>h));intro l G a e x
 exact ze rfl rfl rfl (mr ku kw (e 1 rfl) (w.mono a));rintro l H a e ⟨d,_⟩;exact ze rfl rfl rfl (uk lq rfl (d rfl));rintro l I a e ⟨d,_⟩;exact ze rfl rfl rfl (zh (ql rfl underlying25 rfl (jd (d rfl))));intro l K a e x;exact ze rfl rfl rfl (mr ma p9 (e 1 rfl) (w.mono a))
 rintro l L a e ⟨d,_⟩;exact ze rfl rfl rfl (gz (uk ty3 rfl (d rfl)) (fun _ _ h=>ko.1 h));rintro l M a e ⟨d,k,_⟩;exact ze rfl rfl rfl (zh (z5r (d rfl) (k rfl) B));rintro l O a e ⟨d,k,_⟩;exact ze rfl rfl rfl (zh (wm (d rfl) (k rfl)));rintro l P a e ⟨d,k,d2,d3,d4,d5,d6,d7,d8,d9,Q,_⟩
 exact ze rfl rfl rfl (zh (ui (d rfl)));intro S n U o V W X Y Z p aa ab ac q ad s ae t af u;obtain rfl:=Eq.symm n;obtain rfl:=Eq.symm o;obtain rfl:=Eq.symm p;obtain rfl:=Eq.symm q;obtain rfl:=Eq.symm s;obtain rfl:=Eq.symm t;obtain rfl:=Eq.symm u;refine zg (qo ?_);obtain rfl:=Option.some.inj c
 refine qc (D:=[]) (J:=[]) (rs:=[.tmp 2]) (vs:=[(.bool (decide (j=((↑m.rows.length:Int)*m.inputs))))]) (g.trans i) rfl rfl ⟨rfl,trivial⟩ ?_;exact⟨rfl,rfl⟩
theorem zov:Enters prog 15:=enters_of func15 rfl (by kernel_rfl)
end GV
end Go.Proofs.Ytohjnbajgbdhhaa

namespace Go.Proofs.Ytohjnbajgbdhhaa
namespace GV
open _root_.Go.Proofs.Try
open Go.IntWalk
set_option maxRecDepth 100000
set_option maxHeartbeats 20000000
theorem zo2{a:Bool}:TyOk prog 48 (z15 a):=by
 obtain⟨i,hi,b⟩: ∃ i,prog.info? 48=some i∧i.size=1:=bi (by kernel_rfl);exact z1t underlying48 hi rfl b
theorem zk5:FieldOk prog 48 0 0:=by
 obtain⟨i,hi,a⟩: ∃ i,prog.info? 46=some i∧i.size=1:=bi (by kernel_rfl);exact z03 underlying48 rfl rfl hi (by rw [a];rfl)
theorem zol{a:Bool}:TyOk prog 46 (tSl a (j3 .u8)):=by
 obtain⟨i,hi,b⟩: ∃ i,prog.info? 46=some i∧i.size=1:=bi (by kernel_rfl);exact z1t underlying46 hi rfl b
theorem zpl:SlOk prog 46 5 (j3 .u8):=⟨underlying46,ty5⟩
theorem z16{N:Nat}{R:RH}{x:WDat}{j:Value}(u:VRep (z15 false) R j x){inputs:Int}{r:(List Int)}(d:ai N x inputs=some r):CallP prog 20 #[j,(vi inputs)] R (fun v R'=>VRep (tSl false (j3 .i64)) R' v r):=by
 refine qw (args:=[j,(vi inputs)]) func20 rfl rfl fun A=>?_;rw [ai] at d;refine zq (w9 (T:=(z15 false)) rfl rfl rfl u fun v1 R3 w h5 h2=>?_);refine zl vs0 (jh (zl vs0 (zg ?_)));obtain⟨l,a,d⟩:=zi d
 refine jy (γ:=(List Int)×Value×Frag) (rs [5,29]) (fun g=>[(5,g.2.1)]) (fun g=>[g.2.2]++A) (fun g R=>l=g.1∧ORep (j3 .i64) R g.2.2 g.2.1 g.1∧True) ?_ ?_;refine zq (zl (vi 0) (zg (qp (z2k ?_))))
 refine uz (γ:=Nat×(List Int)×Int×Value×Frag) (rs [5,29]) (fun g=>[(5,g.2.2.2.1),(6,(vi g.2.2.1))]) (fun g=>[g.2.2.2.2]++A) (fun g R=>bq N x inputs g.1 g.2.1 g.2.2.1=some l∧ORep (j3 .i64) R g.2.2.2.2 g.2.2.2.1 g.2.1∧True) (fun g=>g.1) (N,[],0,vs0,emp) prm ⟨a,(z0t (T:=(j3 .i64))),trivial⟩ ?_;clear a
 rintro⟨e,f,b,m,y⟩ ah aj c ⟨a,n,_⟩;rcases e with _|e;exact jv a;replace a:bq N x inputs (e+1) f b=some l:=a;rw [bq] at a;refine zy (zq (qi (v:=(vi b)) rfl (z8 rfl) (zba rfl (kv zk5 zfd rfl (h2.mono c)) fun ak z=>?_)))
 refine zba rfl (ja zol rfl z) fun al C=>?_;refine qi rfl (ql rfl underlying46 rfl (jd C)) (qi rfl (jl rfl rfl) (qi (v:=(.bool (decide (b<(↑x.syms.length:Int))))) rfl (z8 rfl) (zx rfl rfl rfl rfl (fun hB=>zn (v:=(vi b)) (z8 rfl)) fun am E=>?_)))
 refine zx rfl rfl rfl rfl (fun hB=>zn (jl (E.1 (za rfl hB)) rfl)) fun an F=>?_;refine qi rfl (ul rfl (fun hb=>(F.1 (za rfl hb))) rfl) (zg (qb rfl a (fun a=>?_) (fun a=>?_)));refine qg (zy (qp (qd (zo m (kg rfl zk5 zfd rfl (h2.mono c) fun ap G=>?_)))))
 refine qz rfl zol rfl G fun aq H=>?_;refine zo (vi b) ?_;obtain⟨o,a⟩:=zk a;refine vo (i:=b.toNat) rfl zpl rfl (jd H) (zw rfl o.1) (j4 o) fun ar I=>?_;refine qz rfl ty5 rfl I fun au K=>?_;obtain rfl:=ko.1 K;obtain⟨L,a⟩:=zk a
 refine zz (z0o underlying5 underlying3 rfl L) (zo (vi inputs) ?_);obtain⟨M,a⟩:=zk a
 refine zz (rf rfl rfl M) (z0k (T:=(j3 .i64)) (X:=([(ix x.syms b)%inputs]:List Int)) (ps:=[(0,(vi ((ix x.syms b)%inputs)))]) (css:=[[(vi ((ix x.syms b)%inputs))]]) rfl underlying49 zo3 rfl rfl (gp ⟨rfl,trivial⟩) rfl rfl (by decide) fun O av k P=>?_);refine o7 (i:=0) rfl P fun Q h S=>?_
 have U:VRep (tSl true (j3 .i64)) Q O ([(ix x.syms b)%inputs]:List Int):=(z2e S k);obtain⟨p,a⟩:=zk a;refine lm (i:=0) (X:=f) (Y:=([(ix x.syms b)%inputs]:List Int)) rfl underlying49 zo3 rfl rfl rfl (n.mono h) (jd (Sub.v (B:=(tSl false (j3 .i64))) (ut Sub.refl (fun _=>rfl)) U)) p.1 p.2 fun q V W=>?_
 refine zl q (zg (qd (zo (vi b) ?_)));obtain⟨Z,a⟩:=zk a;refine zz (kz rfl rfl Z) (zl (vi (b+1)) (zg ?_));exact⟨dkt,h,yo,(e,(f++([(ix x.syms b)%inputs]:List Int)),b+1,q,V),Nat.lt_succ_self _,⟨rfl,rfl,trivial⟩,prm,a,W,trivial⟩;refine vz ?_
 exact⟨dkt,c,yo,(f,m,y),⟨rfl,trivial⟩,prm,(Option.some.inj a).symm,n,trivial⟩;rintro⟨l,t,aw⟩ ax R7 aa ⟨rfl,ab,_⟩;refine zq (zo t (zl t (zg (z0y (i:=0) rfl ab fun ac s ad=>?_))));have ae:VRep (tSl false (j3 .i64)) ac t l:=(z5t ad);refine qo ?_;obtain rfl:=Option.some.inj d
 refine qc (D:=[]) (J:=[]) (rs:=[.tmp 4]) (vs:=[t]) ((w.trans aa).trans s) rfl rfl ⟨rfl,trivial⟩ ?_;exact⟨rfl,ae⟩
theorem zob:Enters prog 20:=enters_of func20 rfl (by kernel_rfl)
end GV
end Go.Proofs.Ytohjnbajgbdhhaa

namespace Go.Proofs.Ytohjnbajgbdhhaa
namespace GV
open _root_.Go.Proofs.Try
open Go.IntWalk
set_option maxRecDepth 100000
set_option maxHeartbeats 20000000
theorem ax{N:Nat}{R:RH}{a:Mach}{B:Value}(ag:VRep (qm false false) R B a){b:Mach}{C:Value}(ah:VRep (qm false false) R C b){r:Bool}(j:bg N a b=some r):CallP prog 36 #[B,C] R (fun v R'=>v=(.bool r)):=by
 refine qw (args:=[B,C]) func36 rfl rfl fun A=>?_;rw [bg] at j;refine zq (w9 (T:=(qm false false)) rfl rfl rfl ag fun v1 R3 q h5 E=>?_);refine w9 (T:=(qm false false)) rfl rfl rfl (ah.mono q) fun v6 R8 m a4 H=>?_
 refine zl (.bool false) (zg (zy (zq (zba rfl (kv ma p9 rfl (E.mono m)) fun a5 ai=>?_))));refine qi rfl (ni (ja ty3 rfl ai)) (zba rfl (kv ma p9 rfl H) fun a6 aj=>?_)
 refine qi rfl (ni (ja ty3 rfl aj)) (qi rfl (jk rfl rfl) (qi (v:=(.bool (decide (a.inputs≠b.inputs)))) rfl (z8 rfl) (zx rfl rfl rfl rfl (fun o=>kv z13 z09 rfl (E.mono m)) fun a7 ak=>?_)));refine zx rfl rfl rfl rfl (fun o=>zn (ni (ja ty3 rfl (ak.1 (za rfl o))))) fun a8 al=>?_
 refine zx rfl rfl rfl rfl (fun o=>kv z13 z09 rfl H) fun a9 am=>?_;refine zx rfl rfl rfl rfl (fun o=>zn (ni (ja ty3 rfl (am.1 (za rfl o))))) fun ba an=>?_;refine zx rfl rfl rfl rfl (fun o=>zn (jk (al.1 (za rfl o)) (an.1 (za rfl o)))) fun bb ao=>?_
 refine qi rfl (jg rfl rfl (fun hb=>(ao.1 (za rfl hb)))) (qi (v:=(.bool ((decide (a.inputs≠b.inputs))||(decide (a.outputs≠b.outputs))))) rfl (z8 rfl) (zx rfl rfl rfl rfl (fun o=>kv ku kw rfl (E.mono m)) fun bc aq=>?_));refine zx rfl rfl rfl rfl (fun o=>ja lq rfl (aq.1 (za rfl o))) fun be ar=>?_
 refine zx rfl rfl rfl rfl (fun o=>zn (ql rfl underlying25 rfl (jd (ar.1 (za rfl o))))) fun bf au=>?_;refine zx rfl rfl rfl rfl (fun o=>kv ku kw rfl H) fun bh av=>?_;refine zx rfl rfl rfl rfl (fun o=>ja lq rfl (av.1 (za rfl o))) fun bi aw=>?_
 refine zx rfl rfl rfl rfl (fun o=>zn (ql rfl underlying25 rfl (jd (aw.1 (za rfl o))))) fun bj ay=>?_;refine zx rfl rfl rfl rfl (fun o=>zn (jk (au.1 (za rfl o)) (ay.1 (za rfl o)))) fun bk az=>?_;refine qi rfl (jg rfl rfl (fun hb=>(az.1 (za rfl hb)))) (zg (qb rfl j (fun j=>?_) (fun j=>?_)))
 refine zq (zl (.bool false) (zg (qo ?_)));obtain rfl:=Option.some.inj j;refine qc (D:=[]) (J:=[]) (rs:=[.tmp 4]) (vs:=[(.bool false)]) (q.trans m) rfl rfl ⟨rfl,trivial⟩ ?_;exact⟨rfl,rfl⟩;refine qg ?_;obtain⟨F,d,j⟩:=zi j
 refine jy (γ:=Unit) (rs [4,7,28,75]) (fun g=>[]) (fun g=>[]++A) (fun g R=>F=Ex.go g∧True) ?_ ?_;refine zq (zl (vi 0) (zg (qp (uz (γ:=Nat×Int) (rs [4,7,28,75]) (fun g=>[(5,(vi g.2))]) (fun g=>[]++A) (fun g R=>vv N a b g.1 g.2=some F∧True) (fun g=>g.1) (N,0) prm ⟨d,trivial⟩ ?_))));clear d
 rintro⟨t,e⟩ aK bl k ⟨d,_⟩;rcases t with _|t;exact jv d;replace d:vv N a b (t+1) e=some F:=d;rw [vv] at d;refine zy (zq (zo (vi e) (kg rfl ku kw rfl (E.mono (m.trans k)) fun bm aA=>?_)));refine qz rfl lq rfl aA fun bn aB=>?_
 refine zz (ql rfl underlying25 rfl (jd aB)) (zz (jl rfl rfl) (zg (qb rfl d (fun d=>?_) (fun d=>?_))));refine qg ?_;obtain⟨G,c,d⟩:=zi d;refine jy (γ:=Unit) (rs [4,5,6,7,35,75]) (fun g=>[]) (fun g=>[]++A) (fun g R=>G=Ex.go g∧True) ?_ ?_
 refine qp (zy (zy (z2x 13 mixed (by kernel_rfl) (by kernel_rfl) ?_)));refine z0m (kv ku kw rfl (E.mono (m.trans k))) fun bo aC=>?_;refine z0m (ja lq rfl aC) fun bp aD=>?_;refine ny (v:=(vi e)) (z8 rfl) ?_;obtain⟨I,c⟩:=zk c
 refine z0m (si (i:=e.toNat) z2f rfl (jd aD) (zw rfl I.1) (j4 I)) fun bq aE=>?_;refine z0m (ja z1w rfl aE) fun br aF=>?_;refine ny (ql rfl underlying41 rfl (jd aF)) ?_;refine z0m (kv ku kw rfl (H.mono k)) fun bs aG=>?_;refine z0m (ja lq rfl aG) fun bt aH=>?_
 refine ny (v:=(vi e)) (z8 rfl) ?_;obtain⟨K,c⟩:=zk c;refine z0m (si (i:=e.toNat) z2f rfl (jd aH) (zw rfl K.1) (j4 K)) fun bu aI=>?_;refine z0m (ja z1w rfl aI) fun bv aJ=>?_;refine ny (ql rfl underlying41 rfl (jd aJ)) ?_;refine ny (jk rfl rfl) ?_;intro bw l
 refine zg (qb rfl c (fun c=>?_) (fun c=>?_));refine zq (zl (.bool false) (zg (qo ?_)));replace d:=z0d c d;replace j:=z0d d j;obtain rfl:=Option.some.inj j;refine qc (D:=[]) (J:=[]) (rs:=[.tmp 4]) (vs:=[(.bool false)]) (((q.trans m).trans k).trans l) rfl rfl ⟨rfl,trivial⟩ ?_;exact⟨rfl,rfl⟩
 refine qg (zq (zl (vi 0) (zg (qp (uz (γ:=Nat×Int) (rs [4,5,6,7,48,75]) (fun g=>[(6,(vi g.2))]) (fun g=>[]++A) (fun g R=>yn N a b e g.1 g.2=some G∧True) (fun g=>g.1) (N,0) prm ⟨c,trivial⟩ ?_)))));clear c;rintro⟨p,f⟩ aL aM n ⟨c,_⟩;rcases p with _|p;exact jv c
 replace c:yn N a b e (p+1) f=some G:=c;rw [yn] at c;refine zy (zq (zo (vi f) (kg rfl ku kw rfl (E.mono (((m.trans k).trans l).trans n)) fun aN L=>?_)));refine qz rfl lq rfl L fun aO M=>?_;refine zo (vi e) ?_;obtain⟨u,c⟩:=zk c
 refine vo (i:=e.toNat) rfl z2f rfl (jd M) (zw rfl u.1) (j4 u) fun aP O=>?_;refine qz rfl z1w rfl O fun aQ P=>?_;refine zz (ql rfl underlying41 rfl (jd P)) (zz (jl rfl rfl) (zg (qb rfl c (fun c=>?_) (fun c=>?_))))
 refine qg (zy (qp (zy (z2x 17 mixed (by kernel_rfl) (by kernel_rfl) ?_))));refine z0m (kv ku kw rfl (E.mono (((m.trans k).trans l).trans n))) fun aR Q=>?_;refine z0m (ja lq rfl Q) fun aS S=>?_;refine ny (v:=(vi e)) (z8 rfl) ?_;obtain⟨w,c⟩:=zk c
 refine z0m (si (i:=e.toNat) z2f rfl (jd S) (zw rfl w.1) (j4 w)) fun aT U=>?_;refine z0m (ja z1w rfl U) fun aU V=>?_;refine ny (v:=(vi f)) (z8 rfl) ?_;obtain⟨x,c⟩:=zk c;refine z0m (si (i:=f.toNat) z5l rfl (jd V) (zw rfl x.1) (j4 x)) fun aV W=>?_
 refine ny (v:=(qx (ix (ix a.rows e) f))) (z0u (ja z2v rfl W) (fun _ _ h=>uy.1 h)) ?_;refine z0m (kv ku kw rfl (H.mono ((k.trans l).trans n))) fun aW X=>?_;refine z0m (ja lq rfl X) fun aX Y=>?_;refine ny (v:=(vi e)) (z8 rfl) ?_;obtain⟨y,c⟩:=zk c
 refine z0m (si (i:=e.toNat) z2f rfl (jd Y) (zw rfl y.1) (j4 y)) fun aY Z=>?_;refine z0m (ja z1w rfl Z) fun aZ aa=>?_;refine ny (v:=(vi f)) (z8 rfl) ?_;obtain⟨z,c⟩:=zk c;refine z0m (si (i:=f.toNat) z5l rfl (jd aa) (zw rfl z.1) (j4 z)) fun a0 ab=>?_
 refine ny (v:=(qx (ix (ix b.rows e) f))) (z0u (ja z2v rfl ab) (fun _ _ h=>uy.1 h)) ?_;refine ny (z6a zcq rfl rfl) ?_;intro a1 s;refine zg (qb rfl c (fun c=>?_) (fun c=>?_));refine zq (zl (.bool false) (zg (qo ?_)));replace d:=z0d c d;replace j:=z0d d j;obtain rfl:=Option.some.inj j
 refine qc (D:=[]) (J:=[]) (rs:=[.tmp 4]) (vs:=[(.bool false)]) (((((q.trans m).trans k).trans l).trans n).trans s) rfl rfl ⟨rfl,trivial⟩ ?_;exact⟨rfl,rfl⟩;refine qg (qd (zo (vi f) ?_));obtain⟨ac,c⟩:=zk c;refine zz (kz rfl rfl ac) (zl (vi (f+1)) (zg ?_))
 exact⟨dkt,s,yo,(p,f+1),Nat.lt_succ_self _,⟨rfl,trivial⟩,prm,c,trivial⟩;refine vz ?_;exact⟨dkt,(l.trans n),yo,(),trivial,prm,(Option.some.inj c).symm,trivial⟩;rintro bx a2 bz ad ⟨rfl,_⟩;replace d:=z2c d;refine qd (zo (vi e) ?_);obtain⟨ae,d⟩:=zk d
 refine zz (kz rfl rfl ae) (zl (vi (e+1)) (zg ?_));exact⟨dkt,ad,yo,(t,e+1),Nat.lt_succ_self _,⟨rfl,trivial⟩,prm,d,trivial⟩;refine vz ?_;exact⟨dkt,k,yo,(),trivial,prm,(Option.some.inj d).symm,trivial⟩;rintro bA a3 bB af ⟨rfl,_⟩;replace j:=z2c j;refine zq (zl (.bool true) (zg (qo ?_)))
 obtain rfl:=Option.some.inj j;refine qc (D:=[]) (J:=[]) (rs:=[.tmp 4]) (vs:=[(.bool true)]) ((q.trans m).trans af) rfl rfl ⟨rfl,trivial⟩ ?_;exact⟨rfl,rfl⟩
theorem zj0:Enters prog 36:=enters_of func36 rfl (by kernel_rfl)
end GV
end Go.Proofs.Ytohjnbajgbdhhaa
