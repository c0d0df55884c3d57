import Derived.Test.YtdhccodneoebpaaShWe
import Derived.Test.YtdhccodneoebpaaShXa
import Derived.Test.YtdhccodneoebpaaShXb
import Derived.Test.YtdhccodneoebpaaShXd
import Derived.Test.YtdhccodneoebpaaShXf
import Derived.Test.YtdhccodneoebpaaRows
set_option linter.unusedVariables false
set_option linter.unusedSimpArgs false
set_option linter.unusedSectionVars false
namespace Go.Proofs.Ytdhccodneoebpaa
namespace GV
open _root_.Go.Proofs.Try
open Go.IntWalk
set_option maxRecDepth 100000
set_option maxHeartbeats 20000000
theorem zzh{a:Bool}:TyOk prog 24 (zax a):=by
 obtain⟨i,hi,b⟩: ∃ i,prog.info? 24=some i∧i.size=5:=jv (by kernel_rfl);exact ai underlying24 hi rfl b
theorem zvj:FieldOk prog 24 0 0:=by
 obtain⟨i,hi,a⟩: ∃ i,prog.info? 5=some i∧i.size=1:=jv (by kernel_rfl);exact vg underlying24 rfl rfl hi (by rw [a];rfl)
theorem zv4:FieldOk prog 24 1 1:=by
 obtain⟨i,hi,a⟩: ∃ i,prog.info? 5=some i∧i.size=1:=jv (by kernel_rfl);exact vg underlying24 rfl rfl hi (by rw [a];rfl)
theorem zux:FieldOk prog 24 2 2:=by
 obtain⟨i,hi,a⟩: ∃ i,prog.info? 5=some i∧i.size=1:=jv (by kernel_rfl);exact vg underlying24 rfl rfl hi (by rw [a];rfl)
theorem zsc:FieldOk prog 24 4 4:=by
 obtain⟨i,hi,a⟩: ∃ i,prog.info? 22=some i∧i.size=1:=jv (by kernel_rfl);exact vg underlying24 rfl rfl hi (by rw [a];rfl)
theorem zwv{a:Bool}:TyOk prog 22 (tSl a (q9 .u16)):=by
 obtain⟨i,hi,b⟩: ∃ i,prog.info? 22=some i∧i.size=1:=jv (by kernel_rfl);exact ai underlying22 hi rfl b
theorem zxp:TyOk prog 72 (q9 .u16):=by
 obtain⟨i,hi,a⟩: ∃ i,prog.info? 72=some i∧i.size=1:=jv (by kernel_rfl);exact ai underlying72 hi rfl a
theorem zzn:SlOk prog 22 72 (q9 .u16):=⟨underlying22,zxp⟩
theorem zuy:FieldOk prog 24 3 3:=by
 obtain⟨i,hi,a⟩: ∃ i,prog.info? 4=some i∧i.size=1:=jv (by kernel_rfl);exact vg underlying24 rfl rfl hi (by rw [a];rfl)
theorem zbe{N:Nat}{R:RH}{x:MDat}{ae:Value}(bi:VRep (zax false) R ae x){r:Mach}(b:z0s N x=some r):CallP prog 12 #[ae] R (fun v R'=>VRep (jl false false) R' v r):=by
 refine qo (args:=[ae]) func12 rfl rfl fun A=>?_;rw [z0s] at b;refine zl (uz (T:=(zax false)) rfl rfl rfl bi fun v1 R3 bj h5 h2=>?_);refine jb rfl zdu fun b6=>?_;refine j4 (jg rfl zvj zrs rfl h2 fun v8 h9=>?_);refine qp rfl ty5 rfl h9 fun cm bk=>?_;obtain rfl:=qh.1 bk;obtain⟨bl,b⟩:=zb b
 refine zi (z3k rfl rfl bl) ?_;obtain⟨bm,b⟩:=zb b;refine zi (z3m underlying5 underlying3 rfl bm) ?_;obtain⟨bo,b⟩:=zb b;refine zi (je rfl rfl bo) (zk (vi ((1:Int)+(x.states%6))) (j4 (jg rfl zv4 zrv rfl h2 fun cn bp=>?_)));refine qp rfl ty5 rfl bp fun co bq=>?_;obtain rfl:=qh.1 bq
 obtain⟨br,b⟩:=zb b;refine zi (z3k rfl rfl br) ?_;obtain⟨bs,b⟩:=zb b;refine zi (z3m underlying5 underlying3 rfl bs) ?_;obtain⟨bt,b⟩:=zb b;refine zi (je rfl rfl bt) (jg rfl zux zre rfl h2 fun cp bu=>?_);refine qp rfl ty5 rfl bu fun cq bw=>?_;obtain rfl:=qh.1 bw
 obtain⟨bx,b⟩:=zb b;refine zi (z3k rfl rfl bx) ?_;obtain⟨bz,b⟩:=zb b;refine zi (z3m underlying5 underlying3 rfl bz) ?_;obtain⟨bA,b⟩:=zb b
 refine zi (je rfl rfl bA) (zi (kw (ps:=[(0,(vi ((1:Int)+(x.ins%3)))),(1,(vi ((1:Int)+(x.outs%3))))]) (v:=(.agg #[(vi ((1:Int)+(x.ins%3))),(vi ((1:Int)+(x.outs%3))),vs0])) rfl (fun w=>by kernel_rfl)) (jb rfl zdu fun o=>?_))
 refine qj (i:=0) (vs:=[(vi ((1:Int)+(x.ins%3))),(vi ((1:Int)+(x.outs%3))),vs0]) z4c rfl rfl rfl rfl rfl rfl (qa rfl (qa rfl (qa rfl qw))) ?_;refine z8 ?_;obtain⟨u,c,b⟩:=zn b
 refine j6 (γ:=(List (List Edge))×Value×Frag) (rs [5,10,26,86]) (fun g=>[]) (fun g=>[box b6 [(vi 0),(vi 0),vs0] 27,box o [(vi ((1:Int)+(x.ins%3))),(vi ((1:Int)+(x.outs%3))),g.2.1] 27,g.2.2]++A) (fun g R=>u=g.1∧ORep (tSl false kEdge) R g.2.2 g.2.1 g.1∧True) ?_ ?_
 refine zl (zk (vi 0) (z8 (zy (z4n ?_))))
 refine kg (γ:=Nat×Int×(List (List Edge))×Value×Frag) (rs [5,10,26,86]) (fun g=>[(5,(vi g.2.1))]) (fun g=>[box b6 [(vi 0),(vi 0),vs0] 27,box o [(vi ((1:Int)+(x.ins%3))),(vi ((1:Int)+(x.outs%3))),g.2.2.2.1] 27,g.2.2.2.2]++A) (fun g R=>bn N x g.1 g.2.1 g.2.2.1=some u∧ORep (tSl false kEdge) R g.2.2.2.2 g.2.2.2.1 g.2.2.1∧True) (fun g=>g.1) (N,0,[],vs0,emp) ⟨[],(pk 2 rfl (pk 1 rfl (pk 0 rfl (List.Perm.refl _))))⟩ ⟨c,(z0v (T:=(tSl false kEdge))),trivial⟩ ?_
 clear c;rintro⟨L,f,M,z,C⟩ bR cr s ⟨c,an,_⟩;rcases L with _|L;exact qy c;replace c:bn N x (L+1) f M=some u:=c;rw [bn] at c
 refine zx (zl (zm (vi f) (zm (vi ((1:Int)+(x.states%6))) (zi (jd rfl rfl) (z8 (zw rfl c (fun c=>?_) (fun c=>?_)))))));refine qc (zx (zy (zl (zk vs0 (z8 ?_)))));obtain⟨m,d,c⟩:=zn c
 refine j6 (γ:=(List Edge)×Value×Frag) (rs [6,10,31,80]) (fun g=>[(6,g.2.1)]) (fun g=>[box b6 [(vi 0),(vi 0),vs0] 27,box o [(vi ((1:Int)+(x.ins%3))),(vi ((1:Int)+(x.outs%3))),z] 27,C,g.2.2]++A) (fun g R=>m=g.1∧ORep kEdge R g.2.2 g.2.1 g.1∧True) ?_ ?_
 refine zl (zk (vi 0) (z8 (zy (z4n ?_))))
 refine kg (γ:=Nat×(List Edge)×Int×Value×Frag) (rs [6,10,31,80]) (fun g=>[(6,g.2.2.2.1),(7,(vi g.2.2.1))]) (fun g=>[box b6 [(vi 0),(vi 0),vs0] 27,box o [(vi ((1:Int)+(x.ins%3))),(vi ((1:Int)+(x.outs%3))),z] 27,C,g.2.2.2.2]++A) (fun g R=>xh N x f g.1 g.2.1 g.2.2.1=some m∧ORep kEdge R g.2.2.2.2 g.2.2.2.1 g.2.1∧True) (fun g=>g.1) (N,[],0,vs0,emp) ⟨[],(pk 1 rfl (pk 1 rfl (pk 1 rfl (pk 0 rfl (List.Perm.refl _)))))⟩ ⟨d,(z0v (T:=kEdge)),trivial⟩ ?_
 clear d;rintro⟨O,y,k,ag,ao⟩ bS cs t ⟨d,ah,_⟩;rcases O with _|O;exact qy d;replace d:xh N x f (O+1) y k=some m:=d;rw [xh] at d
 refine zx (zl (zm (vi k) (zi (qg z06 rfl) (zi (zg (i:=1) ag3 rfl rfl rfl) (zi (jd rfl rfl) (z8 (zw rfl d (fun d=>?_) (fun d=>?_))))))));refine qc ?_;obtain⟨ai,e,d⟩:=zn d
 refine j6 (γ:=(List Edge)×Value×Frag) (rs [6,7,8,10,37,80]) (fun g=>[(6,g.2.1)]) (fun g=>[box b6 [(vi 0),(vi 0),vs0] 27,box o [(vi ((1:Int)+(x.ins%3))),(vi ((1:Int)+(x.outs%3))),z] 27,C,g.2.2]++A) (fun g R=>ai=g.1∧ORep kEdge R g.2.2 g.2.1 g.1∧True) ?_ ?_
 refine zy (zl (zk (vi 0) (z8 ?_)));obtain⟨a,h,e⟩:=zn e;refine j6 (γ:=Int) (rs [8,10,37,54]) (fun g=>[(8,(vi g))]) (fun g=>[box b6 [(vi 0),(vi 0),vs0] 27,box o [(vi ((1:Int)+(x.ins%3))),(vi ((1:Int)+(x.outs%3))),z] 27,C,ao]++A) (fun g R=>a=g∧True) ?_ ?_
 refine zl (zm (vi f) (zi (qg z06 rfl) (zi (zg (i:=1) ag3 rfl rfl rfl) ?_)));obtain⟨bB,h⟩:=zb h;refine zi (zj4 rfl rfl bB) (zm (vi k) ?_);obtain⟨bC,h⟩:=zb h
 refine zi (je rfl rfl bC) (zk (vi ((f*((1:Int)+(x.ins%3)))+k)) (j4 (zm (vi ((f*((1:Int)+(x.ins%3)))+k)) (jg rfl zsc zk5 rfl (h2.mono (s.trans t)) fun ct bD=>?_))));refine qp rfl zwv rfl bD fun cu bE=>?_
 refine zi (qm rfl underlying22 rfl (jc bE)) (zi (jd rfl rfl) (z8 (zw rfl h (fun h=>?_) (fun h=>?_))));refine zq (jg rfl zsc zk5 rfl (h2.mono (s.trans t)) fun cv bF=>?_);refine qp rfl zwv rfl bF fun cw bG=>?_;refine zm (vi ((f*((1:Int)+(x.ins%3)))+k)) ?_;obtain⟨ap,h⟩:=zb h
 refine ww (i:=((f*((1:Int)+(x.ins%3)))+k).toNat) rfl zzn rfl (jc bG) (ze rfl ap.1) (zo ap) fun cx bH=>?_;refine qp rfl zxp rfl bH fun cy bI=>?_;obtain rfl:=qh.1 bI;obtain⟨bJ,h⟩:=zb h
 refine zi (z3m underlying72 underlying3 rfl bJ) (zk (vi (ix x.edges ((f*((1:Int)+(x.ins%3)))+k))) (z8 ?_));exact⟨dkt,(RH.le.refl _),jr,(ix x.edges ((f*((1:Int)+(x.ins%3)))+k)),⟨rfl,trivial⟩,prm,(Option.some.inj h).symm,trivial⟩;refine qc ?_
 exact⟨dkt,(RH.le.refl _),jr,0,⟨rfl,trivial⟩,prm,(Option.some.inj h).symm,trivial⟩;rintro a cz cA p ⟨rfl,_⟩;refine zl (zj1 rfl (ym zuy zr9 rfl (h2.mono ((s.trans t).trans p))) fun cB bK=>?_)
 refine j5 rfl (zfa (jm ty4 rfl bK)) (j5 (v:=(.bool x.part)) rfl (za rfl) (qi rfl rfl rfl rfl (fun hB=>qf (v:=(vi a)) (za rfl)) fun bT ar=>?_));obtain⟨au,e⟩:=zb e;refine qi rfl rfl rfl rfl (fun hB=>qf (z3k (ar.1 (zh rfl hB)) rfl (au (zh rfl hB)))) fun bU av=>?_
 refine qi rfl rfl rfl rfl (fun hB=>qf (ul (av.1 (zh rfl hB)) rfl)) fun bV aw=>?_;refine j5 rfl (u6 rfl (fun hb=>(aw.1 (zh rfl hb))) rfl) (z8 (zw rfl e (fun e=>?_) (fun e=>?_)))
 refine zq (zm ag (zi (kw (ps:=[(0,(vi (-1))),(1,(vi (-1)))]) (v:=(.agg #[(vi (-1)),(vi (-1))])) rfl (fun w=>by kernel_rfl)) (p8 (T:=kEdge) (X:=([(⟨(-1),(-1)⟩:Edge)]:List Edge)) (ps:=[(0,(.agg #[(vi (-1)),(vi (-1))]))]) (css:=[[(vi (-1)),(vi (-1))]]) rfl underlying54 zcs rfl rfl (kv ⟨⟨_,_,rfl,rfl,rfl⟩,trivial⟩) rfl rfl (by decide) fun ax bW P ay=>?_)))
 refine uk (i:=0) rfl ay fun az E aA=>?_;have aB:VRep (tSl true kEdge) az ax ([(⟨(-1),(-1)⟩:Edge)]:List Edge):=(z01 aA P);obtain⟨U,e⟩:=zb e
 refine bv (i:=3) (X:=y) (Y:=([(⟨(-1),(-1)⟩:Edge)]:List Edge)) rfl underlying54 zcs rfl rfl rfl (ah.mono (p.trans E)) (jc (Sub.v (B:=(tSl false kEdge)) (kz Sub.refl (fun _=>rfl)) aB)) U.1 U.2 fun V aC aD=>?_;refine zk V (z8 ?_)
 exact⟨dkt,(p.trans E),jr,((y++([(⟨(-1),(-1)⟩:Edge)]:List Edge)),V,aC),⟨rfl,trivial⟩,prm,(Option.some.inj e).symm,aD,trivial⟩;obtain⟨aE,aF,aG,aH,aI,e⟩:=zr1 e
 let G1:=([(⟨(a/4)%((1:Int)+(x.states%6)),((a/4)/((1:Int)+(x.states%6)))%((1:Int)+(x.outs%3))⟩:Edge)]:List Edge)
 refine ma 14 [] [phX ag,phX (vi a),phX (vi (a/4)),phX (vi ((1:Int)+(x.states%6))),phX (vi ((a/4)%((1:Int)+(x.states%6)))),phX (vi a),phX (vi (a/4)),phX (vi ((1:Int)+(x.states%6))),phX (vi ((a/4)/((1:Int)+(x.states%6)))),phX (.pointer (some ⟨o,1,none⟩)),phX (vi ((1:Int)+(x.outs%3))),phX (vi (((a/4)/((1:Int)+(x.states%6)))%((1:Int)+(x.outs%3)))),phX (.agg #[(vi ((a/4)%((1:Int)+(x.states%6)))),(vi (((a/4)/((1:Int)+(x.states%6)))%((1:Int)+(x.outs%3))))]),phR (tSl true kEdge) G1] mixed (by kernel_rfl) (pq ⟨zt,zt,zt,zt,zt,zt,zt,zt,zt,zt,zt,zt,zt,rf,trivial⟩) ⟨?_,?_,?_,?_,?_,?_,?_,?_,?_,?_,?_,?_,?_,?_,trivial⟩ fun bX F=>?_
 intro l cD j n hd;exact zf rfl rfl rfl (zz (za (n 6 rfl)));intro l cE j n hd;exact zf rfl rfl rfl (zz (za (n 8 rfl)));rintro l cF j n ⟨q,_⟩;exact zf rfl rfl rfl (zz (zfr (q rfl) rfl aE));intro l cG j n hd;exact zf rfl rfl rfl (zz (za (n 3 rfl)));rintro l cH j n ⟨q,d1,_⟩
 exact zf rfl rfl rfl (zz (z3k (q rfl) (d1 rfl) aF));intro l cI j n hd;exact zf rfl rfl rfl (zz (za (n 8 rfl)));rintro l cJ j n ⟨q,_⟩;exact zf rfl rfl rfl (zz (zfr (q rfl) rfl aG));intro l cK j n hd;exact zf rfl rfl rfl (zz (za (n 3 rfl)));rintro l cL j n ⟨q,d1,_⟩;have ak:=q rfl
 exact zf rfl rfl rfl (zz (zfr ak (d1 rfl) aH));intro l cM j n hd;exact zf rfl rfl rfl (zz (qg zb7 (n 4 rfl)));rintro l bY j n ⟨q,_⟩;exact zf rfl rfl rfl (zz (zg (i:=1) ag3 (q rfl) rfl rfl));rintro l bZ j n ⟨q,d1,_⟩;exact zf rfl rfl rfl (zz (z3k (q rfl) (d1 rfl) aI))
 rintro l b0 j n ⟨q,d1,_⟩;have bL:l 69=(vi ((a/4)%((1:Int)+(x.states%6)))):=q rfl;have bM:l 76=(vi (((a/4)/((1:Int)+(x.states%6)))%((1:Int)+(x.outs%3)))):=d1 rfl
 exact zf rfl rfl rfl (zz (kw (ps:=[(0,(vi ((a/4)%((1:Int)+(x.states%6))))),(1,(vi (((a/4)/((1:Int)+(x.states%6)))%((1:Int)+(x.outs%3)))))]) (v:=(.agg #[(vi ((a/4)%((1:Int)+(x.states%6)))),(vi (((a/4)/((1:Int)+(x.states%6)))%((1:Int)+(x.outs%3))))])) (by simp only [List.map,ev,bL,bM]<;>rfl) (fun w=>by kernel_rfl)))
 rintro l b1 j n ⟨q,_⟩;have bN:l 77=(.agg #[(vi ((a/4)%((1:Int)+(x.states%6)))),(vi (((a/4)/((1:Int)+(x.states%6)))%((1:Int)+(x.outs%3))))]):=q rfl
 exact zf rfl rfl rfl (z3v (T:=kEdge) (X:=G1) (ps:=[(0,(.agg #[(vi ((a/4)%((1:Int)+(x.states%6)))),(vi (((a/4)/((1:Int)+(x.states%6)))%((1:Int)+(x.outs%3))))]))]) (css:=[[(vi ((a/4)%((1:Int)+(x.states%6)))),(vi (((a/4)/((1:Int)+(x.states%6)))%((1:Int)+(x.outs%3))))]]) underlying54 zcs (by simp only [List.map,ev,bN]<;>rfl) rfl (kv ⟨⟨_,_,rfl,rfl,rfl⟩,trivial⟩) rfl rfl (by decide))
 intro b2 aK b3 aL b4 aM b5 aN b7 aO b8 aP b9 aQ ca aR cb aS cc aT cd aU ce aV cf aW cg aX;obtain rfl:=Eq.symm aK;obtain rfl:=Eq.symm aL;obtain rfl:=Eq.symm aM;obtain rfl:=Eq.symm aN;obtain rfl:=Eq.symm aO;obtain rfl:=Eq.symm aP;obtain rfl:=Eq.symm aQ;obtain rfl:=Eq.symm aR;obtain rfl:=Eq.symm aS
 obtain rfl:=Eq.symm aT;obtain rfl:=Eq.symm aU;obtain rfl:=Eq.symm aV;obtain rfl:=Eq.symm aW;obtain⟨W,e⟩:=zb e;refine bv (i:=3) (X:=y) (Y:=G1) rfl underlying54 zcs rfl rfl rfl (ah.mono (p.trans F)) (jc (Sub.v (B:=(tSl false kEdge)) (kz Sub.refl (fun _=>rfl)) aX)) W.1 W.2 fun Z aY aZ=>?_
 refine zk Z (z8 ?_);exact⟨dkt,(p.trans F),jr,((y++G1),Z,aY),⟨rfl,trivial⟩,prm,(Option.some.inj e).symm,aZ,trivial⟩;rintro⟨ai,bO,ak⟩ ch cN a0 ⟨rfl,bP,_⟩;refine zq (zm (vi k) ?_);obtain⟨a1,d⟩:=zb d;refine zi (je rfl rfl a1) (zk (vi (k+1)) (z8 ?_))
 exact⟨dkt,a0,jr,(O,ai,k+1,bO,ak),Nat.lt_succ_self _,⟨rfl,rfl,trivial⟩,prm,d,bP,trivial⟩;refine jq ?_;exact⟨dkt,t,jr,(y,ag,ao),⟨rfl,trivial⟩,prm,(Option.some.inj d).symm,ah,trivial⟩;rintro⟨m,Q,cO⟩ ci cP aa ⟨rfl,bQ,_⟩
 refine zq (zi (qg vz rfl) (zi (zg (i:=1) zuh rfl rfl rfl) (zm Q (uk (i:=3) rfl bQ fun a2 G a3=>?_))));have ab:VRep (tSl false kEdge) a2 Q m:=(z6a a3)
 refine p8 (T:=(tSl false kEdge)) (X:=([m]:List (List Edge))) (ps:=[(0,Q)]) (css:=[[Q]]) rfl underlying25 zhf rfl (by simp only [List.map_cons,List.map_nil,lv ab];rfl) (kv ⟨(u7 rfl ab),trivial⟩) rfl rfl (by decide) fun a4 cj S a5=>?_;refine uk (i:=0) rfl a5 fun a6 H a7=>?_
 have a8:VRep (tSl true (tSl false kEdge)) a6 a4 ([m]:List (List Edge)):=(z01 a7 S);obtain⟨ac,c⟩:=zb c
 refine bv (i:=2) (X:=M) (Y:=([m]:List (List Edge))) rfl underlying25 zhf rfl rfl rfl (an.mono ((aa.trans G).trans H)) (jc (Sub.v (B:=(tSl false (tSl false kEdge))) (kz Sub.refl (fun _=>rfl)) a8)) ac.1 ac.2 fun ad a9 I=>?_
 refine zi (qg vz rfl) (qj (i:=1) (vs:=[ad]) zv3 rfl rfl (uh I) rfl rfl rfl (qa (uu I) qw) ?_);refine z8 (zq (zm (vi f) ?_));obtain⟨ba,c⟩:=zb c;refine zi (je rfl rfl ba) (zk (vi (f+1)) (z8 ?_))
 exact⟨dkt,((aa.trans G).trans H),jr,(L,f+1,(M++([m]:List (List Edge))),ad,a9),Nat.lt_succ_self _,⟨rfl,trivial⟩,prm,c,I,trivial⟩;refine jq ?_;exact⟨dkt,s,jr,(M,z,C),trivial,prm,(Option.some.inj c).symm,an,trivial⟩;rintro⟨u,K,cQ⟩ ck cR bb ⟨rfl,bc,_⟩
 refine zl (zi (nu (i:=1) z9v z4c rfl rfl rfl rfl) (qj (i:=0) (vs:=[(vi ((1:Int)+(x.ins%3))),(vi ((1:Int)+(x.outs%3))),K]) z4c rfl rfl rfl rfl rfl rfl (qa rfl (qa rfl (qa (uu bc) qw))) ?_));refine z8 (nz (i:=2) rfl bc fun be al bf=>?_)
 have bg:VRep (tSl false (tSl false kEdge)) be K u:=(z6a bf);refine ql ?_;obtain rfl:=Option.some.inj b
 refine qd (D:=[]) (J:=[box b6 [(vi ((1:Int)+(x.ins%3))),(vi ((1:Int)+(x.outs%3))),K] 27,box o [(vi ((1:Int)+(x.ins%3))),(vi ((1:Int)+(x.outs%3))),K] 27]) (rs:=[.cell 2 27]) (vs:=[(.agg #[(vi ((1:Int)+(x.ins%3))),(vi ((1:Int)+(x.outs%3))),K])]) ((bj.trans bb).trans al) rfl rfl ⟨⟨_,rfl,fun w hh=>z2s (i:=0) hh rfl rfl z9v z4c rfl rfl⟩,trivial⟩ ?_
 exact⟨rfl,(⟨_,⟨_,_,rfl,rfl,⟨_,_,rfl,rfl,(u7 rfl bg)⟩⟩,rfl⟩:VRep (jl false false) _ _ (⟨(1:Int)+(x.ins%3),(1:Int)+(x.outs%3),u⟩:Mach))⟩
theorem zy5:Enters prog 12:=enters_of func12 rfl (by kernel_rfl)
end GV
end Go.Proofs.Ytdhccodneoebpaa
