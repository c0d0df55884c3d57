import Derived.Test.YtkcccdcloealfaaGreatShWd
import Derived.Test.YtkcccdcloealfaaGreatRows
set_option linter.unusedVariables false
set_option linter.unusedSimpArgs false
namespace Go.Proofs.YtkcccdcloealfaaGreat
namespace GV
open _root_.Go.Proofs.Tryz
open Go.IntWalk
set_option maxRecDepth 100000
set_option maxHeartbeats 20000000
theorem zx0{a:Bool}:TyOk prog 24 (z3k a):=by
 obtain⟨i,hi,b⟩: ∃ i,prog.info? 24=some i∧i.size=5:=wy (by kernel_rfl);exact z2n underlying24 hi rfl b
theorem q6m:FieldOk prog 24 0 0:=by
 obtain⟨i,hi,a⟩: ∃ i,prog.info? 5=some i∧i.size=1:=wy (by kernel_rfl);exact ru underlying24 rfl rfl hi (by rw [a];rfl)
theorem q5b:FieldOk prog 24 1 1:=by
 obtain⟨i,hi,a⟩: ∃ i,prog.info? 5=some i∧i.size=1:=wy (by kernel_rfl);exact ru underlying24 rfl rfl hi (by rw [a];rfl)
theorem q5d:FieldOk prog 24 2 2:=by
 obtain⟨i,hi,a⟩: ∃ i,prog.info? 5=some i∧i.size=1:=wy (by kernel_rfl);exact ru underlying24 rfl rfl hi (by rw [a];rfl)
theorem q1g:FieldOk prog 24 4 4:=by
 obtain⟨i,hi,a⟩: ∃ i,prog.info? 22=some i∧i.size=1:=wy (by kernel_rfl);exact ru underlying24 rfl rfl hi (by rw [a];rfl)
theorem q5e:FieldOk prog 24 3 3:=by
 obtain⟨i,hi,a⟩: ∃ i,prog.info? 4=some i∧i.size=1:=wy (by kernel_rfl);exact ru underlying24 rfl rfl hi (by rw [a];rfl)
theorem z15{N:Nat}{R:RH}{x:MDat}{ae:Value}(bk:VRep (z3k false) R ae x){r:Mach}(b:ax N x=some r):CallP prog 9 #[ae] R (fun v R'=>VRep (qz false false) R' v r):=by
 refine qf (args:=[ae]) func9 rfl rfl fun A=>?_;rw [ax] at b;refine zn (ky (T:=(z3k false)) rfl rfl rfl bk fun v1 R3 bl h5 h2=>?_);refine kv rfl z5j fun b6=>?_;refine qw (jo rfl q6m zyl rfl h2 fun v8 h9=>?_);refine qh rfl ty5 rfl h9 fun co bm=>?_;obtain rfl:=jb.1 bm;obtain⟨bn,b⟩:=ze b
 refine zq (rq rfl rfl bn) ?_;obtain⟨bo,b⟩:=ze b;refine zq (z3t underlying5 underlying3 rfl bo) ?_;obtain⟨bp,b⟩:=ze b;refine zq (jf rfl rfl bp) (zf (vi ((1:Int)+(x.states%6))) (qw (jo rfl q5b zzk rfl h2 fun cp bq=>?_)));refine qh rfl ty5 rfl bq fun cq br=>?_;obtain rfl:=jb.1 br
 obtain⟨bs,b⟩:=ze b;refine zq (rq rfl rfl bs) ?_;obtain⟨bt,b⟩:=ze b;refine zq (z3t underlying5 underlying3 rfl bt) ?_;obtain⟨bv,b⟩:=ze b;refine zq (jf rfl rfl bv) (jo rfl q5d zyw rfl h2 fun cr bw=>?_);refine qh rfl ty5 rfl bw fun cs bx=>?_;obtain rfl:=jb.1 bx
 obtain⟨bA,b⟩:=ze b;refine zq (rq rfl rfl bA) ?_;obtain⟨bB,b⟩:=ze b;refine zq (z3t underlying5 underlying3 rfl bB) ?_;obtain⟨bC,b⟩:=ze b
 refine zq (jf rfl rfl bC) (zq (yt (ps:=[(0,(vi ((1:Int)+(x.ins%3)))),(1,(vi ((1:Int)+(x.outs%3))))]) (v:=(.agg #[(vi ((1:Int)+(x.ins%3))),(vi ((1:Int)+(x.outs%3))),vs0])) rfl (fun w=>by kernel_rfl)) (kv rfl z5j fun o=>?_))
 refine jd (i:=0) (vs:=[(vi ((1:Int)+(x.ins%3))),(vi ((1:Int)+(x.outs%3))),vs0]) yh rfl rfl rfl rfl rfl rfl (zu rfl (zu rfl (zu rfl jh))) ?_;refine z8 ?_;obtain⟨u,c,b⟩:=zm b
 refine j6 (γ:=(List (List Edge))×Value×Frag) (rs [5,10,26,86]) (fun g=>[]) (fun g=>[box b6 [(vi 0),(vi 0),vs0] 30,box o [(vi ((1:Int)+(x.ins%3))),(vi ((1:Int)+(x.outs%3))),g.2.1] 30,g.2.2]++A) (fun g R=>u=g.1∧ORep (tSl false kEdge) R g.2.2 g.2.1 g.1∧True) ?_ ?_
 refine zn (zf (vi 0) (z8 (zy (z2j ?_))))
 refine jg (γ:=Nat×Int×(List (List Edge))×Value×Frag) (rs [5,10,26,86]) (fun g=>[(5,(vi g.2.1))]) (fun g=>[box b6 [(vi 0),(vi 0),vs0] 30,box o [(vi ((1:Int)+(x.ins%3))),(vi ((1:Int)+(x.outs%3))),g.2.2.2.1] 30,g.2.2.2.2]++A) (fun g R=>ic N x g.1 g.2.1 g.2.2.1=some u∧ORep (tSl false kEdge) R g.2.2.2.2 g.2.2.2.1 g.2.2.1∧True) (fun g=>g.1) (N,0,[],vs0,emp) ⟨[],(pk 2 rfl (pk 1 rfl (pk 0 rfl (List.Perm.refl _))))⟩ ⟨c,(l9 (T:=(tSl false kEdge))),trivial⟩ ?_
 clear c;rintro⟨L,f,M,z,C⟩ bT ct s ⟨c,an,_⟩;rcases L with _|L;exact j4 c;replace c:ic N x (L+1) f M=some u:=c;rw [ic] at c
 refine q8 (zn (zh (vi f) (zh (vi ((1:Int)+(x.states%6))) (zq (jc rfl rfl) (z8 (zw rfl c (fun c=>?_) (fun c=>?_)))))));refine qa (q8 (zy (zn (zf vs0 (z8 ?_)))));obtain⟨m,d,c⟩:=zm c
 refine j6 (γ:=(List Edge)×Value×Frag) (rs [6,10,31,80]) (fun g=>[(6,g.2.1)]) (fun g=>[box b6 [(vi 0),(vi 0),vs0] 30,box o [(vi ((1:Int)+(x.ins%3))),(vi ((1:Int)+(x.outs%3))),z] 30,C,g.2.2]++A) (fun g R=>m=g.1∧ORep kEdge R g.2.2 g.2.1 g.1∧True) ?_ ?_
 refine zn (zf (vi 0) (z8 (zy (z2j ?_))))
 refine jg (γ:=Nat×(List Edge)×Int×Value×Frag) (rs [6,10,31,80]) (fun g=>[(6,g.2.2.2.1),(7,(vi g.2.2.1))]) (fun g=>[box b6 [(vi 0),(vi 0),vs0] 30,box o [(vi ((1:Int)+(x.ins%3))),(vi ((1:Int)+(x.outs%3))),z] 30,C,g.2.2.2.2]++A) (fun g R=>tq N x f g.1 g.2.1 g.2.2.1=some m∧ORep kEdge R g.2.2.2.2 g.2.2.2.1 g.2.1∧True) (fun g=>g.1) (N,[],0,vs0,emp) ⟨[],(pk 1 rfl (pk 1 rfl (pk 1 rfl (pk 0 rfl (List.Perm.refl _)))))⟩ ⟨d,(l9 (T:=kEdge)),trivial⟩ ?_
 clear d;rintro⟨O,y,k,ag,ao⟩ bU cu t ⟨d,ah,_⟩;rcases O with _|O;exact j4 d;replace d:tq N x f (O+1) y k=some m:=d;rw [tq] at d
 refine q8 (zn (zh (vi k) (zq (qd av rfl) (zq (qi (i:=1) ag3 rfl rfl rfl) (zq (jc rfl rfl) (z8 (zw rfl d (fun d=>?_) (fun d=>?_))))))));refine qa ?_;obtain⟨ai,e,d⟩:=zm d
 refine j6 (γ:=(List Edge)×Value×Frag) (rs [6,7,8,10,37,80]) (fun g=>[(6,g.2.1)]) (fun g=>[box b6 [(vi 0),(vi 0),vs0] 30,box o [(vi ((1:Int)+(x.ins%3))),(vi ((1:Int)+(x.outs%3))),z] 30,C,g.2.2]++A) (fun g R=>ai=g.1∧ORep kEdge R g.2.2 g.2.1 g.1∧True) ?_ ?_
 refine zy (zn (zf (vi 0) (z8 ?_)));obtain⟨a,h,e⟩:=zm e;refine j6 (γ:=Int) (rs [8,10,37,54]) (fun g=>[(8,(vi g))]) (fun g=>[box b6 [(vi 0),(vi 0),vs0] 30,box o [(vi ((1:Int)+(x.ins%3))),(vi ((1:Int)+(x.outs%3))),z] 30,C,ao]++A) (fun g R=>a=g∧True) ?_ ?_
 refine zn (zh (vi f) (zq (qd av rfl) (zq (qi (i:=1) ag3 rfl rfl rfl) ?_)));obtain⟨bD,h⟩:=ze h;refine zq (z8h rfl rfl bD) (zh (vi k) ?_);obtain⟨bE,h⟩:=ze h
 refine zq (jf rfl rfl bE) (zf (vi ((f*((1:Int)+(x.ins%3)))+k)) (qw (zh (vi ((f*((1:Int)+(x.ins%3)))+k)) (jo rfl q1g zs4 rfl (h2.mono (s.trans t)) fun cv bF=>?_))));refine qh rfl q2p rfl bF fun cw bG=>?_
 refine zq (qj rfl underlying22 rfl (ja bG)) (zq (jc rfl rfl) (z8 (zw rfl h (fun h=>?_) (fun h=>?_))));refine zz (jo rfl q1g zs4 rfl (h2.mono (s.trans t)) fun cx bH=>?_);refine qh rfl q2p rfl bH fun cy bI=>?_;refine zh (vi ((f*((1:Int)+(x.ins%3)))+k)) ?_;obtain⟨ap,h⟩:=ze h
 refine kw (i:=((f*((1:Int)+(x.ins%3)))+k).toNat) rfl q5f rfl (ja bI) (zl rfl ap.1) (qb ap) fun cz bJ=>?_;refine qh rfl q27 rfl bJ fun cA bK=>?_;obtain rfl:=jb.1 bK;obtain⟨bL,h⟩:=ze h
 refine zq (z3t underlying64 underlying3 rfl bL) (zf (vi (ix x.edges ((f*((1:Int)+(x.ins%3)))+k))) (z8 ?_));exact⟨dkt,(RH.le.refl _),jq,(ix x.edges ((f*((1:Int)+(x.ins%3)))+k)),⟨rfl,trivial⟩,prm,(Option.some.inj h).symm,trivial⟩;refine qa ?_
 exact⟨dkt,(RH.le.refl _),jq,0,⟨rfl,trivial⟩,prm,(Option.some.inj h).symm,trivial⟩;rintro a cB cC p ⟨rfl,_⟩;refine zn (zm0 rfl (ww q5e q0v rfl (h2.mono ((s.trans t).trans p))) fun cD bM=>?_)
 refine ji rfl (zh6 (jv ty4 rfl bM)) (ji (v:=(.bool x.part)) rfl (zb rfl) (j5 rfl rfl rfl rfl (fun hB=>qx (v:=(vi a)) (zb rfl)) fun bV ar=>?_));obtain⟨au,e⟩:=ze e;refine j5 rfl rfl rfl rfl (fun hB=>qx (rq (ar.1 (zo rfl hB)) rfl (au (zo rfl hB)))) fun bW aw=>?_
 refine j5 rfl rfl rfl rfl (fun hB=>qx (x9 (aw.1 (zo rfl hB)) rfl)) fun bX ay=>?_;refine ji rfl (uk rfl (fun hb=>(ay.1 (zo rfl hb))) rfl) (z8 (zw rfl e (fun e=>?_) (fun e=>?_)))
 refine zz (zh ag (zq (yt (ps:=[(0,(vi (-1))),(1,(vi (-1)))]) (v:=(.agg #[(vi (-1)),(vi (-1))])) rfl (fun w=>by kernel_rfl)) (rf (T:=kEdge) (X:=([(⟨(-1),(-1)⟩:Edge)]:List Edge)) (ps:=[(0,(.agg #[(vi (-1)),(vi (-1))]))]) (css:=[[(vi (-1)),(vi (-1))]]) rfl underlying56 zc1 rfl rfl (uh ⟨⟨_,_,rfl,rfl,rfl⟩,trivial⟩) rfl rfl (by decide) fun az bY P aA=>?_)))
 refine wu (i:=0) rfl aA fun aB E aC=>?_;have aD:VRep (tSl true kEdge) aB az ([(⟨(-1),(-1)⟩:Edge)]:List Edge):=(z1b aC P);obtain⟨U,e⟩:=ze e
 refine bu (i:=3) (X:=y) (Y:=([(⟨(-1),(-1)⟩:Edge)]:List Edge)) rfl underlying56 zc1 rfl rfl rfl (ah.mono (p.trans E)) (ja (Sub.v (B:=(tSl false kEdge)) (ku Sub.refl (fun _=>rfl)) aD)) U.1 U.2 fun V aE aF=>?_;refine zf V (z8 ?_)
 exact⟨dkt,(p.trans E),jq,((y++([(⟨(-1),(-1)⟩:Edge)]:List Edge)),V,aE),⟨rfl,trivial⟩,prm,(Option.some.inj e).symm,aF,trivial⟩;obtain⟨aG,aH,aI,aJ,aK,e⟩:=zzd e
 let G1:=([(⟨(a/4)%((1:Int)+(x.states%6)),((a/4)/((1:Int)+(x.states%6)))%((1:Int)+(x.outs%3))⟩:Edge)]:List Edge)
 refine dn 14 [] [phX ag,phX (vi a),phX (vi (a/4)),phX (vi ((1:Int)+(x.states%6))),phX (vi ((a/4)%((1:Int)+(x.states%6)))),phX (vi a),phX (vi (a/4)),phX (vi ((1:Int)+(x.states%6))),phX (vi ((a/4)/((1:Int)+(x.states%6)))),phX (.pointer (some ⟨o,1,none⟩)),phX (vi ((1:Int)+(x.outs%3))),phX (vi (((a/4)/((1:Int)+(x.states%6)))%((1:Int)+(x.outs%3)))),phX (.agg #[(vi ((a/4)%((1:Int)+(x.states%6)))),(vi (((a/4)/((1:Int)+(x.states%6)))%((1:Int)+(x.outs%3))))]),phR (tSl true kEdge) G1] mixed (by kernel_rfl) (yl ⟨zi,zi,zi,zi,zi,zi,zi,zi,zi,zi,zi,zi,zi,bz,trivial⟩) ⟨?_,?_,?_,?_,?_,?_,?_,?_,?_,?_,?_,?_,?_,?_,trivial⟩ fun bZ F=>?_
 intro l cF j n hd;exact za rfl rfl rfl (zt (zb (n 6 rfl)));intro l cG j n hd;exact za rfl rfl rfl (zt (zb (n 8 rfl)));rintro l cH j n ⟨q,_⟩;exact za rfl rfl rfl (zt (z6a (q rfl) rfl aG));intro l cI j n hd;exact za rfl rfl rfl (zt (zb (n 3 rfl)));rintro l cJ j n ⟨q,d1,_⟩
 exact za rfl rfl rfl (zt (rq (q rfl) (d1 rfl) aH));intro l cK j n hd;exact za rfl rfl rfl (zt (zb (n 8 rfl)));rintro l cL j n ⟨q,_⟩;exact za rfl rfl rfl (zt (z6a (q rfl) rfl aI));intro l cM j n hd;exact za rfl rfl rfl (zt (zb (n 3 rfl)));rintro l cN j n ⟨q,d1,_⟩;have ak:=q rfl
 exact za rfl rfl rfl (zt (z6a ak (d1 rfl) aJ));intro l cO j n hd;exact za rfl rfl rfl (zt (qd z6o (n 4 rfl)));rintro l b0 j n ⟨q,_⟩;exact za rfl rfl rfl (zt (qi (i:=1) ag3 (q rfl) rfl rfl));rintro l b1 j n ⟨q,d1,_⟩;exact za rfl rfl rfl (zt (rq (q rfl) (d1 rfl) aK))
 rintro l b2 j n ⟨q,d1,_⟩;have bN:l 69=(vi ((a/4)%((1:Int)+(x.states%6)))):=q rfl;have bO:l 76=(vi (((a/4)/((1:Int)+(x.states%6)))%((1:Int)+(x.outs%3)))):=d1 rfl
 exact za rfl rfl rfl (zt (yt (ps:=[(0,(vi ((a/4)%((1:Int)+(x.states%6))))),(1,(vi (((a/4)/((1:Int)+(x.states%6)))%((1:Int)+(x.outs%3)))))]) (v:=(.agg #[(vi ((a/4)%((1:Int)+(x.states%6)))),(vi (((a/4)/((1:Int)+(x.states%6)))%((1:Int)+(x.outs%3))))])) (by simp only [List.map,ev,bN,bO]<;>rfl) (fun w=>by kernel_rfl)))
 rintro l b3 j n ⟨q,_⟩;have bP:l 77=(.agg #[(vi ((a/4)%((1:Int)+(x.states%6)))),(vi (((a/4)/((1:Int)+(x.states%6)))%((1:Int)+(x.outs%3))))]):=q rfl
 exact za rfl rfl rfl (z6y (T:=kEdge) (X:=G1) (ps:=[(0,(.agg #[(vi ((a/4)%((1:Int)+(x.states%6)))),(vi (((a/4)/((1:Int)+(x.states%6)))%((1:Int)+(x.outs%3))))]))]) (css:=[[(vi ((a/4)%((1:Int)+(x.states%6)))),(vi (((a/4)/((1:Int)+(x.states%6)))%((1:Int)+(x.outs%3))))]]) underlying56 zc1 (by simp only [List.map,ev,bP]<;>rfl) rfl (uh ⟨⟨_,_,rfl,rfl,rfl⟩,trivial⟩) rfl rfl (by decide))
 intro b4 aM b5 aN b7 aO b8 aP b9 aQ ca aR cb aS cc aT cd aU ce aV cf aW cg aX ch aY ci aZ;obtain rfl:=Eq.symm aM;obtain rfl:=Eq.symm aN;obtain rfl:=Eq.symm aO;obtain rfl:=Eq.symm aP;obtain rfl:=Eq.symm aQ;obtain rfl:=Eq.symm aR;obtain rfl:=Eq.symm aS;obtain rfl:=Eq.symm aT;obtain rfl:=Eq.symm aU
 obtain rfl:=Eq.symm aV;obtain rfl:=Eq.symm aW;obtain rfl:=Eq.symm aX;obtain rfl:=Eq.symm aY;obtain⟨W,e⟩:=ze e;refine bu (i:=3) (X:=y) (Y:=G1) rfl underlying56 zc1 rfl rfl rfl (ah.mono (p.trans F)) (ja (Sub.v (B:=(tSl false kEdge)) (ku Sub.refl (fun _=>rfl)) aZ)) W.1 W.2 fun Z a0 a1=>?_
 refine zf Z (z8 ?_);exact⟨dkt,(p.trans F),jq,((y++G1),Z,a0),⟨rfl,trivial⟩,prm,(Option.some.inj e).symm,a1,trivial⟩;rintro⟨ai,bQ,ak⟩ cj cP a2 ⟨rfl,bR,_⟩;refine zz (zh (vi k) ?_);obtain⟨a3,d⟩:=ze d;refine zq (jf rfl rfl a3) (zf (vi (k+1)) (z8 ?_))
 exact⟨dkt,a2,jq,(O,ai,k+1,bQ,ak),Nat.lt_succ_self _,⟨rfl,rfl,trivial⟩,prm,d,bR,trivial⟩;refine jm ?_;exact⟨dkt,t,jq,(y,ag,ao),⟨rfl,trivial⟩,prm,(Option.some.inj d).symm,ah,trivial⟩;rintro⟨m,Q,cQ⟩ ck cR aa ⟨rfl,bS,_⟩
 refine zz (zq (qd uf rfl) (zq (qi (i:=1) zc2 rfl rfl rfl) (zh Q (wu (i:=3) rfl bS fun a4 G a5=>?_))));have ab:VRep (tSl false kEdge) a4 Q m:=(z4u a5)
 refine rf (T:=(tSl false kEdge)) (X:=([m]:List (List Edge))) (ps:=[(0,Q)]) (css:=[[Q]]) rfl underlying28 zjt rfl (by simp only [List.map_cons,List.map_nil,z4o ab];rfl) (uh ⟨(je rfl ab),trivial⟩) rfl rfl (by decide) fun a6 cl S a7=>?_;refine wu (i:=0) rfl a7 fun a8 H a9=>?_
 have ba:VRep (tSl true (tSl false kEdge)) a8 a6 ([m]:List (List Edge)):=(z1b a9 S);obtain⟨ac,c⟩:=ze c
 refine bu (i:=2) (X:=M) (Y:=([m]:List (List Edge))) rfl underlying28 zjt rfl rfl rfl (an.mono ((aa.trans G).trans H)) (ja (Sub.v (B:=(tSl false (tSl false kEdge))) (ku Sub.refl (fun _=>rfl)) ba)) ac.1 ac.2 fun ad bb I=>?_
 refine zq (qd uf rfl) (jd (i:=1) (vs:=[ad]) zxp rfl rfl (r9 I) rfl rfl rfl (zu (z01 I) jh) ?_);refine z8 (zz (zh (vi f) ?_));obtain⟨bc,c⟩:=ze c;refine zq (jf rfl rfl bc) (zf (vi (f+1)) (z8 ?_))
 exact⟨dkt,((aa.trans G).trans H),jq,(L,f+1,(M++([m]:List (List Edge))),ad,bb),Nat.lt_succ_self _,⟨rfl,trivial⟩,prm,c,I,trivial⟩;refine jm ?_;exact⟨dkt,s,jq,(M,z,C),trivial,prm,(Option.some.inj c).symm,an,trivial⟩;rintro⟨u,K,cS⟩ cm cT be ⟨rfl,bf,_⟩
 refine zn (zq (ql (i:=1) ry yh rfl rfl rfl rfl) (jd (i:=0) (vs:=[(vi ((1:Int)+(x.ins%3))),(vi ((1:Int)+(x.outs%3))),K]) yh rfl rfl rfl rfl rfl rfl (zu rfl (zu rfl (zu (z01 bf) jh))) ?_));refine z8 (rz (i:=2) rfl bf fun bg al bh=>?_)
 have bi:VRep (tSl false (tSl false kEdge)) bg K u:=(z4u bh);refine qp ?_;obtain rfl:=Option.some.inj b
 refine q9 (D:=[]) (J:=[box b6 [(vi ((1:Int)+(x.ins%3))),(vi ((1:Int)+(x.outs%3))),K] 30,box o [(vi ((1:Int)+(x.ins%3))),(vi ((1:Int)+(x.outs%3))),K] 30]) (rs:=[.cell 2 30]) (vs:=[(.agg #[(vi ((1:Int)+(x.ins%3))),(vi ((1:Int)+(x.outs%3))),K])]) ((bl.trans be).trans al) rfl rfl ⟨⟨_,rfl,fun w hh=>z05 (i:=0) hh rfl rfl ry yh rfl rfl⟩,trivial⟩ ?_
 exact⟨rfl,(⟨_,⟨_,_,rfl,rfl,⟨_,_,rfl,rfl,(je rfl bi)⟩⟩,rfl⟩:VRep (qz false false) _ _ (⟨(1:Int)+(x.ins%3),(1:Int)+(x.outs%3),u⟩:Mach))⟩
theorem en9:Enters prog 9:=enters_of func9 rfl (by kernel_rfl)
end GV
end Go.Proofs.YtkcccdcloealfaaGreat
