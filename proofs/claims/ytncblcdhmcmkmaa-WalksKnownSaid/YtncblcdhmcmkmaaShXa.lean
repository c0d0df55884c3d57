import Derived.Test.YtncblcdhmcmkmaaShWd
import Derived.Test.YtncblcdhmcmkmaaRows
set_option linter.unusedVariables false
set_option linter.unusedSimpArgs false
namespace Go.Proofs.Ytncblcdhmcmkmaa
namespace GV
open _root_.Go.Proofs.Try
open Go.IntWalk
set_option maxRecDepth 100000
set_option maxHeartbeats 20000000
theorem zng{a:Bool}:TyOk prog 24 (z1v a):=by
 obtain⟨i,hi,b⟩: ∃ i,prog.info? 24=some i∧i.size=5:=wu (by kernel_rfl);exact z1c underlying24 hi rfl b
theorem ztk:FieldOk prog 24 0 0:=by
 obtain⟨i,hi,a⟩: ∃ i,prog.info? 5=some i∧i.size=1:=wu (by kernel_rfl);exact o8 underlying24 rfl rfl hi (by rw [a];rfl)
theorem zss:FieldOk prog 24 1 1:=by
 obtain⟨i,hi,a⟩: ∃ i,prog.info? 5=some i∧i.size=1:=wu (by kernel_rfl);exact o8 underlying24 rfl rfl hi (by rw [a];rfl)
theorem zst:FieldOk prog 24 2 2:=by
 obtain⟨i,hi,a⟩: ∃ i,prog.info? 5=some i∧i.size=1:=wu (by kernel_rfl);exact o8 underlying24 rfl rfl hi (by rw [a];rfl)
theorem zpu:FieldOk prog 24 4 4:=by
 obtain⟨i,hi,a⟩: ∃ i,prog.info? 22=some i∧i.size=1:=wu (by kernel_rfl);exact o8 underlying24 rfl rfl hi (by rw [a];rfl)
theorem zt9:FieldOk prog 24 3 3:=by
 obtain⟨i,hi,a⟩: ∃ i,prog.info? 4=some i∧i.size=1:=wu (by kernel_rfl);exact o8 underlying24 rfl rfl hi (by rw [a];rfl)
theorem l6{N:Nat}{R:RH}{x:MDat}{ae:Value}(bm:VRep (z1v false) R ae x){r:Mach}(b:ni N x=some r):CallP prog 11 #[ae] R (fun v R'=>VRep (qy false false) R' v r):=by
 refine ql (args:=[ae]) func11 rfl rfl fun A=>?_;rw [ni] at b;refine zn (uj (T:=(z1v false)) rfl rfl rfl bm fun v1 R3 bn h5 h2=>?_);refine vw rfl z4a fun b6=>?_;refine jd (jy rfl ztk zpd rfl h2 fun v8 h9=>?_);refine qp rfl ty5 rfl h9 fun cp bo=>?_;obtain rfl:=jc.1 bo;obtain⟨bp,b⟩:=ze b
 refine zq (oo rfl rfl bp) ?_;obtain⟨bq,b⟩:=ze b;refine zq (ib underlying5 underlying3 rfl bq) ?_;obtain⟨br,b⟩:=ze b;refine zq (jl rfl rfl br) (zi (vi ((1:Int)+(x.states%6))) (jd (jy rfl zss zqa rfl h2 fun cq bs=>?_)));refine qp rfl ty5 rfl bs fun cr bt=>?_;obtain rfl:=jc.1 bt
 obtain⟨bu,b⟩:=ze b;refine zq (oo rfl rfl bu) ?_;obtain⟨bv,b⟩:=ze b;refine zq (ib underlying5 underlying3 rfl bv) ?_;obtain⟨bw,b⟩:=ze b;refine zq (jl rfl rfl bw) (jy rfl zst zpo rfl h2 fun cs bx=>?_);refine qp rfl ty5 rfl bx fun ct bA=>?_;obtain rfl:=jc.1 bA
 obtain⟨bB,b⟩:=ze b;refine zq (oo rfl rfl bB) ?_;obtain⟨bC,b⟩:=ze b;refine zq (ib underlying5 underlying3 rfl bC) ?_;obtain⟨bD,b⟩:=ze b
 refine zq (jl rfl rfl bD) (zq (af (ps:=[(0,(vi ((1:Int)+(x.ins%3)))),(1,(vi ((1:Int)+(x.outs%3))))]) (v:=(.agg #[(vi ((1:Int)+(x.ins%3))),(vi ((1:Int)+(x.outs%3))),vs0])) rfl (fun w=>by kernel_rfl)) (vw rfl z4a fun o=>?_))
 refine jv (i:=0) (vs:=[(vi ((1:Int)+(x.ins%3))),(vi ((1:Int)+(x.outs%3))),vs0]) xx rfl rfl rfl rfl rfl rfl (zy rfl (zy rfl (zy rfl uh))) ?_;refine za ?_;obtain⟨u,c,b⟩:=zk b
 refine je (γ:=(List (List Edge))×Value×Frag) (rs [5,10,26,86]) (fun g=>[]) (fun g=>[box b6 [(vi 0),(vi 0),vs0] 27,box o [(vi ((1:Int)+(x.ins%3))),(vi ((1:Int)+(x.outs%3))),g.2.1] 27,g.2.2]++A) (fun g R=>u=g.1∧ORep (tSl false kEdge) R g.2.2 g.2.1 g.1∧True) ?_ ?_
 refine zn (zi (vi 0) (za (qc (z1z ?_))))
 refine jq (γ:=Nat×Int×(List (List Edge))×Value×Frag) (rs [5,10,26,86]) (fun g=>[(5,(vi g.2.1))]) (fun g=>[box b6 [(vi 0),(vi 0),vs0] 27,box o [(vi ((1:Int)+(x.ins%3))),(vi ((1:Int)+(x.outs%3))),g.2.2.2.1] 27,g.2.2.2.2]++A) (fun g R=>nu N x g.1 g.2.1 g.2.2.1=some u∧ORep (tSl false kEdge) R g.2.2.2.2 g.2.2.2.1 g.2.2.1∧True) (fun g=>g.1) (N,0,[],vs0,emp) ⟨[],(pk 2 rfl (pk 1 rfl (pk 0 rfl (List.Perm.refl _))))⟩ ⟨c,(l8 (T:=(tSl false kEdge))),trivial⟩ ?_
 clear c;rintro⟨L,f,M,z,C⟩ bU cu s ⟨c,ao,_⟩;rcases L with _|L;exact jf c;replace c:nu N x (L+1) f M=some u:=c;rw [nu] at c
 refine q8 (zn (zl (vi f) (zl (vi ((1:Int)+(x.states%6))) (zq (jh rfl rfl) (za (zz rfl c (fun c=>?_) (fun c=>?_)))))));refine qg (q8 (qc (zn (zi vs0 (za ?_)))));obtain⟨m,d,c⟩:=zk c
 refine je (γ:=(List Edge)×Value×Frag) (rs [6,10,31,80]) (fun g=>[(6,g.2.1)]) (fun g=>[box b6 [(vi 0),(vi 0),vs0] 27,box o [(vi ((1:Int)+(x.ins%3))),(vi ((1:Int)+(x.outs%3))),z] 27,C,g.2.2]++A) (fun g R=>m=g.1∧ORep kEdge R g.2.2 g.2.1 g.1∧True) ?_ ?_
 refine zn (zi (vi 0) (za (qc (z1z ?_))))
 refine jq (γ:=Nat×(List Edge)×Int×Value×Frag) (rs [6,10,31,80]) (fun g=>[(6,g.2.2.2.1),(7,(vi g.2.2.1))]) (fun g=>[box b6 [(vi 0),(vi 0),vs0] 27,box o [(vi ((1:Int)+(x.ins%3))),(vi ((1:Int)+(x.outs%3))),z] 27,C,g.2.2.2.2]++A) (fun g R=>bz N x f g.1 g.2.1 g.2.2.1=some m∧ORep kEdge R g.2.2.2.2 g.2.2.2.1 g.2.1∧True) (fun g=>g.1) (N,[],0,vs0,emp) ⟨[],(pk 1 rfl (pk 1 rfl (pk 1 rfl (pk 0 rfl (List.Perm.refl _)))))⟩ ⟨d,(l8 (T:=kEdge)),trivial⟩ ?_
 clear d;rintro⟨O,y,k,ah,ap⟩ bV cv t ⟨d,ai,_⟩;rcases O with _|O;exact jf d;replace d:bz N x f (O+1) y k=some m:=d;rw [bz] at d
 refine q8 (zn (zl (vi k) (zq (j3 sj rfl) (zq (qz (i:=1) ag3 rfl rfl rfl) (zq (jh rfl rfl) (za (zz rfl d (fun d=>?_) (fun d=>?_))))))));refine qg ?_;obtain⟨aj,e,d⟩:=zk d
 refine je (γ:=(List Edge)×Value×Frag) (rs [6,7,8,10,37,80]) (fun g=>[(6,g.2.1)]) (fun g=>[box b6 [(vi 0),(vi 0),vs0] 27,box o [(vi ((1:Int)+(x.ins%3))),(vi ((1:Int)+(x.outs%3))),z] 27,C,g.2.2]++A) (fun g R=>aj=g.1∧ORep kEdge R g.2.2 g.2.1 g.1∧True) ?_ ?_
 refine qc (zn (zi (vi 0) (za ?_)));obtain⟨a,h,e⟩:=zk e;refine je (γ:=Int) (rs [8,10,37,54]) (fun g=>[(8,(vi g))]) (fun g=>[box b6 [(vi 0),(vi 0),vs0] 27,box o [(vi ((1:Int)+(x.ins%3))),(vi ((1:Int)+(x.outs%3))),z] 27,C,ap]++A) (fun g R=>a=g∧True) ?_ ?_
 refine zn (zl (vi f) (zq (j3 sj rfl) (zq (qz (i:=1) ag3 rfl rfl rfl) ?_)));obtain⟨bE,h⟩:=ze h;refine zq (z8h rfl rfl bE) (zl (vi k) ?_);obtain⟨bF,h⟩:=ze h
 refine zq (jl rfl rfl bF) (zi (vi ((f*((1:Int)+(x.ins%3)))+k)) (jd (zl (vi ((f*((1:Int)+(x.ins%3)))+k)) (jy rfl zpu zj9 rfl (h2.mono (s.trans t)) fun cw bG=>?_))));refine qp rfl zrl rfl bG fun cx bH=>?_
 refine zq (qh rfl underlying22 rfl (j4 bH)) (zq (jh rfl rfl) (za (zz rfl h (fun h=>?_) (fun h=>?_))));refine qf (jy rfl zpu zj9 rfl (h2.mono (s.trans t)) fun cy bI=>?_);refine qp rfl zrl rfl bI fun cz bJ=>?_;refine zl (vi ((f*((1:Int)+(x.ins%3)))+k)) ?_;obtain⟨aq,h⟩:=ze h
 refine ky (i:=((f*((1:Int)+(x.ins%3)))+k).toNat) rfl ztz rfl (j4 bJ) (zg rfl aq.1) (qb aq) fun cA bK=>?_;refine qp rfl zsv rfl bK fun cB bL=>?_;obtain rfl:=jc.1 bL;obtain⟨bM,h⟩:=ze h
 refine zq (ib underlying80 underlying3 rfl bM) (zi (vi (ix x.edges ((f*((1:Int)+(x.ins%3)))+k))) (za ?_));exact⟨dkt,(RH.le.refl _),uf,(ix x.edges ((f*((1:Int)+(x.ins%3)))+k)),⟨rfl,trivial⟩,prm,(Option.some.inj h).symm,trivial⟩;refine qg ?_
 exact⟨dkt,(RH.le.refl _),uf,0,⟨rfl,trivial⟩,prm,(Option.some.inj h).symm,trivial⟩;rintro a cC cD p ⟨rfl,_⟩;refine zn (zbj rfl (uk zt9 zod rfl (h2.mono ((s.trans t).trans p))) fun cE bN=>?_)
 refine qi rfl (z5a (j5 ty4 rfl bN)) (qi (v:=(.bool x.part)) rfl (z8 rfl) (zu rfl rfl rfl rfl (fun hB=>zo (v:=(vi a)) (z8 rfl)) fun bW av=>?_));obtain⟨aw,e⟩:=ze e;refine zu rfl rfl rfl rfl (fun hB=>zo (oo (av.1 (zf rfl hB)) rfl (aw (zf rfl hB)))) fun bX az=>?_
 refine zu rfl rfl rfl rfl (fun hB=>zo (lq (az.1 (zf rfl hB)) rfl)) fun bY aA=>?_;refine qi rfl (vk rfl (fun hb=>(aA.1 (zf rfl hb))) rfl) (za (zz rfl e (fun e=>?_) (fun e=>?_)))
 refine qf (zl ah (zq (af (ps:=[(0,(vi (-1))),(1,(vi (-1)))]) (v:=(.agg #[(vi (-1)),(vi (-1))])) rfl (fun w=>by kernel_rfl)) (ax (T:=kEdge) (X:=([(⟨(-1),(-1)⟩:Edge)]:List Edge)) (ps:=[(0,(.agg #[(vi (-1)),(vi (-1))]))]) (css:=[[(vi (-1)),(vi (-1))]]) rfl underlying50 z9b rfl rfl (kg ⟨⟨_,_,rfl,rfl,rfl⟩,trivial⟩) rfl rfl (by decide) fun aB bZ P aC=>?_)))
 refine ww (i:=0) rfl aC fun aD E aE=>?_;have aF:VRep (tSl true kEdge) aD aB ([(⟨(-1),(-1)⟩:Edge)]:List Edge):=(z1b aE P);obtain⟨U,e⟩:=ze e
 refine dw (i:=3) (X:=y) (Y:=([(⟨(-1),(-1)⟩:Edge)]:List Edge)) rfl underlying50 z9b rfl rfl rfl (ai.mono (p.trans E)) (j4 (Sub.v (B:=(tSl false kEdge)) (jk Sub.refl (fun _=>rfl)) aF)) U.1 U.2 fun V aG aH=>?_;refine zi V (za ?_)
 exact⟨dkt,(p.trans E),uf,((y++([(⟨(-1),(-1)⟩:Edge)]:List Edge)),V,aG),⟨rfl,trivial⟩,prm,(Option.some.inj e).symm,aH,trivial⟩;obtain⟨aI,aJ,aK,aL,aM,e⟩:=zow e
 let G1:=([(⟨(a/4)%((1:Int)+(x.states%6)),((a/4)/((1:Int)+(x.states%6)))%((1:Int)+(x.outs%3))⟩:Edge)]:List Edge)
 refine tq 14 [] [phX ah,phX (vi a),phX (vi (a/4)),phX (vi ((1:Int)+(x.states%6))),phX (vi ((a/4)%((1:Int)+(x.states%6)))),phX (vi a),phX (vi (a/4)),phX (vi ((1:Int)+(x.states%6))),phX (vi ((a/4)/((1:Int)+(x.states%6)))),phX (.pointer (some ⟨o,1,none⟩)),phX (vi ((1:Int)+(x.outs%3))),phX (vi (((a/4)/((1:Int)+(x.states%6)))%((1:Int)+(x.outs%3)))),phX (.agg #[(vi ((a/4)%((1:Int)+(x.states%6)))),(vi (((a/4)/((1:Int)+(x.states%6)))%((1:Int)+(x.outs%3))))]),phR (tSl true kEdge) G1] mixed (by kernel_rfl) (di ⟨zm,zm,zm,zm,zm,zm,zm,zm,zm,zm,zm,zm,zm,gz,trivial⟩) ⟨?_,?_,?_,?_,?_,?_,?_,?_,?_,?_,?_,?_,?_,?_,trivial⟩ fun b0 F=>?_
 intro l cG j n hd;exact zb rfl rfl rfl (zt (z8 (n 6 rfl)));intro l cH j n hd;exact zb rfl rfl rfl (zt (z8 (n 8 rfl)));rintro l cI j n ⟨q,_⟩;exact zb rfl rfl rfl (zt (z2f (q rfl) rfl aI));intro l cJ j n hd;exact zb rfl rfl rfl (zt (z8 (n 3 rfl)));rintro l cK j n ⟨q,d1,_⟩
 exact zb rfl rfl rfl (zt (oo (q rfl) (d1 rfl) aJ));intro l cL j n hd;exact zb rfl rfl rfl (zt (z8 (n 8 rfl)));rintro l cM j n ⟨q,_⟩;exact zb rfl rfl rfl (zt (z2f (q rfl) rfl aK));intro l cN j n hd;exact zb rfl rfl rfl (zt (z8 (n 3 rfl)));rintro l cO j n ⟨q,d1,_⟩;have al:=q rfl
 exact zb rfl rfl rfl (zt (z2f al (d1 rfl) aL));intro l cP j n hd;exact zb rfl rfl rfl (zt (j3 z4b (n 4 rfl)));rintro l b1 j n ⟨q,_⟩;exact zb rfl rfl rfl (zt (qz (i:=1) ag3 (q rfl) rfl rfl));rintro l b2 j n ⟨q,d1,_⟩;exact zb rfl rfl rfl (zt (oo (q rfl) (d1 rfl) aM))
 rintro l b3 j n ⟨q,d1,_⟩;have bO:l 69=(vi ((a/4)%((1:Int)+(x.states%6)))):=q rfl;have bP:l 76=(vi (((a/4)/((1:Int)+(x.states%6)))%((1:Int)+(x.outs%3)))):=d1 rfl
 exact zb rfl rfl rfl (zt (af (ps:=[(0,(vi ((a/4)%((1:Int)+(x.states%6))))),(1,(vi (((a/4)/((1:Int)+(x.states%6)))%((1:Int)+(x.outs%3)))))]) (v:=(.agg #[(vi ((a/4)%((1:Int)+(x.states%6)))),(vi (((a/4)/((1:Int)+(x.states%6)))%((1:Int)+(x.outs%3))))])) (by simp only [List.map,ev,bO,bP]<;>rfl) (fun w=>by kernel_rfl)))
 rintro l b4 j n ⟨q,_⟩;have bQ:l 77=(.agg #[(vi ((a/4)%((1:Int)+(x.states%6)))),(vi (((a/4)/((1:Int)+(x.states%6)))%((1:Int)+(x.outs%3))))]):=q rfl
 exact zb rfl rfl rfl (z2c (T:=kEdge) (X:=G1) (ps:=[(0,(.agg #[(vi ((a/4)%((1:Int)+(x.states%6)))),(vi (((a/4)/((1:Int)+(x.states%6)))%((1:Int)+(x.outs%3))))]))]) (css:=[[(vi ((a/4)%((1:Int)+(x.states%6)))),(vi (((a/4)/((1:Int)+(x.states%6)))%((1:Int)+(x.outs%3))))]]) underlying50 z9b (by simp only [List.map,ev,bQ]<;>rfl) rfl (kg ⟨⟨_,_,rfl,rfl,rfl⟩,trivial⟩) rfl rfl (by decide))
 intro b5 aO b7 aP b8 aQ b9 aR ca aS cb aT cc aU cd aV ce aW cf aX cg aY ch aZ ci a0 cj a1;obtain rfl:=Eq.symm aO;obtain rfl:=Eq.symm aP;obtain rfl:=Eq.symm aQ;obtain rfl:=Eq.symm aR;obtain rfl:=Eq.symm aS;obtain rfl:=Eq.symm aT;obtain rfl:=Eq.symm aU;obtain rfl:=Eq.symm aV;obtain rfl:=Eq.symm aW
 obtain rfl:=Eq.symm aX;obtain rfl:=Eq.symm aY;obtain rfl:=Eq.symm aZ;obtain rfl:=Eq.symm a0;obtain⟨W,e⟩:=ze e;refine dw (i:=3) (X:=y) (Y:=G1) rfl underlying50 z9b rfl rfl rfl (ai.mono (p.trans F)) (j4 (Sub.v (B:=(tSl false kEdge)) (jk Sub.refl (fun _=>rfl)) a1)) W.1 W.2 fun Z a2 a3=>?_
 refine zi Z (za ?_);exact⟨dkt,(p.trans F),uf,((y++G1),Z,a2),⟨rfl,trivial⟩,prm,(Option.some.inj e).symm,a3,trivial⟩;rintro⟨aj,bR,al⟩ ck cQ a4 ⟨rfl,bS,_⟩;refine qf (zl (vi k) ?_);obtain⟨a5,d⟩:=ze d;refine zq (jl rfl rfl a5) (zi (vi (k+1)) (za ?_))
 exact⟨dkt,a4,uf,(O,aj,k+1,bR,al),Nat.lt_succ_self _,⟨rfl,rfl,trivial⟩,prm,d,bS,trivial⟩;refine kv ?_;exact⟨dkt,t,uf,(y,ah,ap),⟨rfl,trivial⟩,prm,(Option.some.inj d).symm,ai,trivial⟩;rintro⟨m,Q,cR⟩ cl cS aa ⟨rfl,bT,_⟩
 refine qf (zq (j3 uw rfl) (zq (qz (i:=1) z8y rfl rfl rfl) (zl Q (ww (i:=3) rfl bT fun a6 G a7=>?_))));have ab:VRep (tSl false kEdge) a6 Q m:=(z3l a7)
 refine ax (T:=(tSl false kEdge)) (X:=([m]:List (List Edge))) (ps:=[(0,Q)]) (css:=[[Q]]) rfl underlying25 zjk rfl (by simp only [List.map_cons,List.map_nil,z3n ab];rfl) (kg ⟨(j6 rfl ab),trivial⟩) rfl rfl (by decide) fun a8 cm S a9=>?_;refine ww (i:=0) rfl a9 fun ba H bb=>?_
 have bc:VRep (tSl true (tSl false kEdge)) ba a8 ([m]:List (List Edge)):=(z1b bb S);obtain⟨ac,c⟩:=ze c
 refine dw (i:=2) (X:=M) (Y:=([m]:List (List Edge))) rfl underlying25 zjk rfl rfl rfl (ao.mono ((aa.trans G).trans H)) (j4 (Sub.v (B:=(tSl false (tSl false kEdge))) (jk Sub.refl (fun _=>rfl)) bc)) ac.1 ac.2 fun ad be I=>?_
 refine zq (j3 uw rfl) (jv (i:=1) (vs:=[ad]) zrp rfl rfl (ay I) rfl rfl rfl (zy (yw I) uh) ?_);refine za (qf (zl (vi f) ?_));obtain⟨bf,c⟩:=ze c;refine zq (jl rfl rfl bf) (zi (vi (f+1)) (za ?_))
 exact⟨dkt,((aa.trans G).trans H),uf,(L,f+1,(M++([m]:List (List Edge))),ad,be),Nat.lt_succ_self _,⟨rfl,trivial⟩,prm,c,I,trivial⟩;refine kv ?_;exact⟨dkt,s,uf,(M,z,C),trivial,prm,(Option.some.inj c).symm,ao,trivial⟩;rintro⟨u,K,cT⟩ cn cU bg ⟨rfl,bh,_⟩
 refine zn (zq (qj (i:=1) au xx rfl rfl rfl rfl) (jv (i:=0) (vs:=[(vi ((1:Int)+(x.ins%3))),(vi ((1:Int)+(x.outs%3))),K]) xx rfl rfl rfl rfl rfl rfl (zy rfl (zy rfl (zy (yw bh) uh))) ?_));refine za (lh (i:=2) rfl bh fun bi am bj=>?_)
 have bk:VRep (tSl false (tSl false kEdge)) bi K u:=(z3l bj);refine qw ?_;obtain rfl:=Option.some.inj b
 refine qd (D:=[]) (J:=[box b6 [(vi ((1:Int)+(x.ins%3))),(vi ((1:Int)+(x.outs%3))),K] 27,box o [(vi ((1:Int)+(x.ins%3))),(vi ((1:Int)+(x.outs%3))),K] 27]) (rs:=[.cell 2 27]) (vs:=[(.agg #[(vi ((1:Int)+(x.ins%3))),(vi ((1:Int)+(x.outs%3))),K])]) ((bn.trans bg).trans am) rfl rfl ⟨⟨_,rfl,fun w hh=>z0l (i:=0) hh rfl rfl au xx rfl rfl⟩,trivial⟩ ?_
 exact⟨rfl,(⟨_,⟨_,_,rfl,rfl,⟨_,_,rfl,rfl,(j6 rfl bk)⟩⟩,rfl⟩:VRep (qy false false) _ _ (⟨(1:Int)+(x.ins%3),(1:Int)+(x.outs%3),u⟩:Mach))⟩
theorem znc:Enters prog 11:=enters_of func11 rfl (by kernel_rfl)
end GV
end Go.Proofs.Ytncblcdhmcmkmaa
