import Derived.Test.YtkkcidhcfkmbjaaGreatDoorShPlain
import Derived.Test.YtkkcidhcfkmbjaaGreatDoorRows
set_option linter.unusedVariables false
set_option linter.unusedSimpArgs false
set_option linter.unusedSectionVars false
namespace Go.Proofs.YtkkcidhcfkmbjaaGreatDoor
namespace GV
open _root_.Go.Proofs.Tryz
open Go.IntWalk
set_option maxRecDepth 100000
set_option maxHeartbeats 20000000
theorem zpt{a:Bool}:TyOk prog 24 (z4g a):=by
 obtain⟨i,hi,b⟩: ∃ i,prog.info? 24=some i∧i.size=5:=jm (by kernel_rfl);exact mi underlying24 hi rfl b
theorem zna: ∀ w,∃ z,(zeroValue 32).run prog w= .ok z w∧z.cells=([.int .i64 0,.int .i64 0,.slice none 0 0]:List Value).toArray:=fun w=>⟨(.agg #[(vi 0),(vi 0),vs0]),by kernel_rfl,rfl⟩
theorem zni:FieldOk prog 24 0 0:=by
 obtain⟨i,hi,a⟩: ∃ i,prog.info? 5=some i∧i.size=1:=jm (by kernel_rfl);exact xn underlying24 rfl rfl hi (by rw [a];rfl)
theorem ty5:TyOk prog 5 (zo .u8):=by
 obtain⟨i,hi,a⟩: ∃ i,prog.info? 5=some i∧i.size=1:=jm (by kernel_rfl);exact mi underlying5 hi rfl a
theorem zny:FieldOk prog 24 1 1:=by
 obtain⟨i,hi,a⟩: ∃ i,prog.info? 5=some i∧i.size=1:=jm (by kernel_rfl);exact xn underlying24 rfl rfl hi (by rw [a];rfl)
theorem zn7:FieldOk prog 24 2 2:=by
 obtain⟨i,hi,a⟩: ∃ i,prog.info? 5=some i∧i.size=1:=jm (by kernel_rfl);exact xn underlying24 rfl rfl hi (by rw [a];rfl)
theorem zaq: ∀ w,(sizeOf 32).run prog w= .ok 3 w:=fun w=>by kernel_rfl
theorem z1t:FieldOk prog 32 0 0:=by
 obtain⟨i,hi,a⟩: ∃ i,prog.info? 3=some i∧i.size=1:=jm (by kernel_rfl);exact xn underlying32 rfl rfl hi (by rw [a];rfl)
theorem ag3: ∀ w,(isAgg 3).run prog w= .ok false w:=fun w=>by kernel_rfl
theorem zjk:FieldOk prog 24 4 4:=by
 obtain⟨i,hi,a⟩: ∃ i,prog.info? 22=some i∧i.size=1:=jm (by kernel_rfl);exact xn underlying24 rfl rfl hi (by rw [a];rfl)
theorem zol{a:Bool}:TyOk prog 22 (tSl a (zo .u16)):=by
 obtain⟨i,hi,b⟩: ∃ i,prog.info? 22=some i∧i.size=1:=jm (by kernel_rfl);exact mi underlying22 hi rfl b
theorem zmo:TyOk prog 125 (zo .u16):=by
 obtain⟨i,hi,a⟩: ∃ i,prog.info? 125=some i∧i.size=1:=jm (by kernel_rfl);exact mi underlying125 hi rfl a
theorem zpn:SlOk prog 22 125 (zo .u16):=⟨underlying22,zmo⟩
theorem znn:FieldOk prog 24 3 3:=by
 obtain⟨i,hi,a⟩: ∃ i,prog.info? 4=some i∧i.size=1:=jm (by kernel_rfl);exact xn underlying24 rfl rfl hi (by rw [a];rfl)
theorem ty4:TyOk prog 4 z00:=by
 obtain⟨i,hi,a⟩: ∃ i,prog.info? 4=some i∧i.size=1:=jm (by kernel_rfl);exact mi underlying4 hi rfl a
theorem zld:ZeroOk prog 27 kEdge (⟨(0:Int),(0:Int)⟩:Edge) 16:=by
 obtain⟨i,zv,hi,a,c,d,f⟩:=z08 (P:=prog) (e:=27) (zv:=(.agg #[(vi 0),(vi 0)])) (k:=2) (b:=16) (by kernel_rfl);exact⟨i,zv,hi,a,c,d,fun R=>by subst f;exact⟨_,_,rfl,rfl,rfl⟩⟩
theorem zca:FieldOk prog 32 1 1:=by
 obtain⟨i,hi,a⟩: ∃ i,prog.info? 3=some i∧i.size=1:=jm (by kernel_rfl);exact xn underlying32 rfl rfl hi (by rw [a];rfl)
theorem mixed:prog.follows .mixedOrders=true:=by kernel_rfl
theorem dw:FieldOk prog 32 2 2:=by
 obtain⟨i,hi,a⟩: ∃ i,prog.info? 30=some i∧i.size=1:=jm (by kernel_rfl);exact xn underlying32 rfl rfl hi (by rw [a];rfl)
theorem zij: ∀ w,(isAgg 30).run prog w= .ok false w:=fun w=>by kernel_rfl
theorem zpf{a:Bool}:ZeroOk prog 93 (tSl a kEdge) ([]:List Edge) 24:=by
 obtain⟨i,zv,hi,c,d,f,g⟩:=z08 (P:=prog) (e:=93) (zv:=vs0) (k:=1) (b:=24) (by kernel_rfl);exact⟨i,zv,hi,c,d,f,fun R=>by subst g;exact(pg rfl su)⟩
theorem zq9: ∀ w,(sizeOf 30).run prog w= .ok 1 w:=fun w=>by kernel_rfl
theorem zfw: ∀ w,(isAgg 32).run prog w= .ok true w:=fun w=>by kernel_rfl
theorem z4f{N:Nat}{R:RH}{x:MDat}{ae:Value}(bj:VRep (z4g false) R ae x){r:Mach}(b:p8 N x=some r):CallP prog 15 #[ae] R (fun v R'=>VRep (vg false false) R' v r):=by
 refine qa (args:=[ae]) func15 rfl rfl fun A=>?_;rw [p8] at b;refine ze (xy (T:=(z4g false)) rfl rfl rfl bj fun v1 R3 bk h5 h2=>?_);refine wu rfl zna fun b6=>?_;refine qo (vz rfl zni zku rfl h2 fun v8 h9=>?_);refine qj rfl ty5 rfl h9 fun cl bl=>?_;obtain rfl:=uj.1 bl
 obtain⟨bm,b⟩:=zb b;refine zk (z11 rfl rfl bm) ?_;obtain⟨bn,b⟩:=zb b;refine zk (z2m underlying5 underlying3 rfl bn) ?_;obtain⟨bo,b⟩:=zb b;refine zk (jg rfl rfl bo) (zf (vi ((1:Int)+(x.states%6))) (qo (vz rfl zny zkt rfl h2 fun cm bp=>?_)))
 refine qj rfl ty5 rfl bp fun cn bq=>?_;obtain rfl:=uj.1 bq;obtain⟨br,b⟩:=zb b;refine zk (z11 rfl rfl br) ?_;obtain⟨bs,b⟩:=zb b;refine zk (z2m underlying5 underlying3 rfl bs) ?_;obtain⟨bt,b⟩:=zb b;refine zk (jg rfl rfl bt) (vz rfl zn7 zjd rfl h2 fun co bu=>?_)
 refine qj rfl ty5 rfl bu fun cp bv=>?_;obtain rfl:=uj.1 bv;obtain⟨bw,b⟩:=zb b;refine zk (z11 rfl rfl bw) ?_;obtain⟨bx,b⟩:=zb b;refine zk (z2m underlying5 underlying3 rfl bx) ?_;obtain⟨bz,b⟩:=zb b
 refine zk (jg rfl rfl bz) (zk (o5 (ps:=[(0,(vi ((1:Int)+(x.ins%3)))),(1,(vi ((1:Int)+(x.outs%3))))]) (v:=(.agg #[(vi ((1:Int)+(x.ins%3))),(vi ((1:Int)+(x.outs%3))),vs0])) rfl (fun w=>by kernel_rfl)) (wu rfl zna fun o=>?_))
 refine uo (i:=0) (vs:=[(vi ((1:Int)+(x.ins%3))),(vi ((1:Int)+(x.outs%3))),vs0]) zaq rfl rfl rfl rfl rfl rfl (qh rfl (qh rfl (qh rfl uq))) ?_;refine z8 ?_;obtain⟨u,c,b⟩:=zm b
 refine qw (γ:=(List (List Edge))×Value×Frag) (rs [5,10,26,86]) (fun g=>[]) (fun g=>[box b6 [(vi 0),(vi 0),vs0] 32,box o [(vi ((1:Int)+(x.ins%3))),(vi ((1:Int)+(x.outs%3))),g.2.1] 32,g.2.2]++A) (fun g R=>u=g.1∧ORep (tSl false kEdge) R g.2.2 g.2.1 g.1∧True) ?_ ?_
 refine ze (zf (vi 0) (z8 (zx (z7m ?_))))
 refine jl (γ:=Nat×Int×(List (List Edge))×Value×Frag) (rs [5,10,26,86]) (fun g=>[(5,(vi g.2.1))]) (fun g=>[box b6 [(vi 0),(vi 0),vs0] 32,box o [(vi ((1:Int)+(x.ins%3))),(vi ((1:Int)+(x.outs%3))),g.2.2.2.1] 32,g.2.2.2.2]++A) (fun g R=>uk N x g.1 g.2.1 g.2.2.1=some u∧ORep (tSl false kEdge) R g.2.2.2.2 g.2.2.2.1 g.2.2.1∧True) (fun g=>g.1) (N,0,[],vs0,emp) ⟨[],(pk 2 rfl (pk 1 rfl (pk 0 rfl (List.Perm.refl _))))⟩ ⟨c,(z0z (T:=(tSl false kEdge))),trivial⟩ ?_
 clear c;rintro⟨L,f,M,z,C⟩ bQ cq s ⟨c,an,_⟩;rcases L with _|L;exact qp c;replace c:uk N x (L+1) f M=some u:=c;rw [uk] at c
 refine zy (ze (za (vi f) (za (vi ((1:Int)+(x.states%6))) (zk (j6 rfl rfl) (z8 (zn rfl c (fun c=>?_) (fun c=>?_)))))));refine zz (zy (zx (ze (zf vs0 (z8 ?_)))));obtain⟨m,d,c⟩:=zm c
 refine qw (γ:=(List Edge)×Value×Frag) (rs [6,10,31,80]) (fun g=>[(6,g.2.1)]) (fun g=>[box b6 [(vi 0),(vi 0),vs0] 32,box o [(vi ((1:Int)+(x.ins%3))),(vi ((1:Int)+(x.outs%3))),z] 32,C,g.2.2]++A) (fun g R=>m=g.1∧ORep kEdge R g.2.2 g.2.1 g.1∧True) ?_ ?_
 refine ze (zf (vi 0) (z8 (zx (z7m ?_))))
 refine jl (γ:=Nat×(List Edge)×Int×Value×Frag) (rs [6,10,31,80]) (fun g=>[(6,g.2.2.2.1),(7,(vi g.2.2.1))]) (fun g=>[box b6 [(vi 0),(vi 0),vs0] 32,box o [(vi ((1:Int)+(x.ins%3))),(vi ((1:Int)+(x.outs%3))),z] 32,C,g.2.2.2.2]++A) (fun g R=>ku N x f g.1 g.2.1 g.2.2.1=some m∧ORep kEdge R g.2.2.2.2 g.2.2.2.1 g.2.1∧True) (fun g=>g.1) (N,[],0,vs0,emp) ⟨[],(pk 1 rfl (pk 1 rfl (pk 1 rfl (pk 0 rfl (List.Perm.refl _)))))⟩ ⟨d,(z0z (T:=kEdge)),trivial⟩ ?_
 clear d;rintro⟨O,y,k,ag,ao⟩ bR cr t ⟨d,ah,_⟩;rcases O with _|O;exact qp d;replace d:ku N x f (O+1) y k=some m:=d;rw [ku] at d
 refine zy (ze (za (vi k) (zk (jd z1t rfl) (zk (q9 (i:=1) ag3 rfl rfl rfl) (zk (j6 rfl rfl) (z8 (zn rfl d (fun d=>?_) (fun d=>?_))))))));refine zz ?_;obtain⟨ai,e,d⟩:=zm d
 refine qw (γ:=(List Edge)×Value×Frag) (rs [6,7,8,10,37,80]) (fun g=>[(6,g.2.1)]) (fun g=>[box b6 [(vi 0),(vi 0),vs0] 32,box o [(vi ((1:Int)+(x.ins%3))),(vi ((1:Int)+(x.outs%3))),z] 32,C,g.2.2]++A) (fun g R=>ai=g.1∧ORep kEdge R g.2.2 g.2.1 g.1∧True) ?_ ?_
 refine zx (ze (zf (vi 0) (z8 ?_)));obtain⟨a,h,e⟩:=zm e;refine qw (γ:=Int) (rs [8,10,37,54]) (fun g=>[(8,(vi g))]) (fun g=>[box b6 [(vi 0),(vi 0),vs0] 32,box o [(vi ((1:Int)+(x.ins%3))),(vi ((1:Int)+(x.outs%3))),z] 32,C,ao]++A) (fun g R=>a=g∧True) ?_ ?_
 refine ze (za (vi f) (zk (jd z1t rfl) (zk (q9 (i:=1) ag3 rfl rfl rfl) ?_)));obtain⟨bA,h⟩:=zb h;refine zk (zgu rfl rfl bA) (za (vi k) ?_);obtain⟨bB,h⟩:=zb h
 refine zk (jg rfl rfl bB) (zf (vi ((f*((1:Int)+(x.ins%3)))+k)) (qo (za (vi ((f*((1:Int)+(x.ins%3)))+k)) (vz rfl zjk zeo rfl (h2.mono (s.trans t)) fun cs bC=>?_))));refine qj rfl zol rfl bC fun ct bD=>?_
 refine zk (qc rfl underlying22 rfl (ja bD)) (zk (j6 rfl rfl) (z8 (zn rfl h (fun h=>?_) (fun h=>?_))));refine zu (vz rfl zjk zeo rfl (h2.mono (s.trans t)) fun cu bE=>?_);refine qj rfl zol rfl bE fun cv bF=>?_;refine za (vi ((f*((1:Int)+(x.ins%3)))+k)) ?_;obtain⟨ap,h⟩:=zb h
 refine ui (i:=((f*((1:Int)+(x.ins%3)))+k).toNat) rfl zpn rfl (ja bF) (zg rfl ap.1) (jb ap) fun cw bG=>?_;refine qj rfl zmo rfl bG fun cx bH=>?_;obtain rfl:=uj.1 bH;obtain⟨bI,h⟩:=zb h
 refine zk (z2m underlying125 underlying3 rfl bI) (zf (vi (ix x.edges ((f*((1:Int)+(x.ins%3)))+k))) (z8 ?_));exact⟨dkt,(RH.le.refl _),kw,(ix x.edges ((f*((1:Int)+(x.ins%3)))+k)),⟨rfl,trivial⟩,prm,(Option.some.inj h).symm,trivial⟩;refine zz ?_
 exact⟨dkt,(RH.le.refl _),kw,0,⟨rfl,trivial⟩,prm,(Option.some.inj h).symm,trivial⟩;rintro a cy cz p ⟨rfl,_⟩;refine ze (zlg rfl (au znn zkh rfl (h2.mono ((s.trans t).trans p))) fun cA bJ=>?_)
 refine uh rfl (zmi (uw ty4 rfl bJ)) (uh (v:=(.bool x.part)) rfl (zh rfl) (ky rfl rfl rfl rfl (fun hB=>jh (v:=(vi a)) (zh rfl)) fun bS ar=>?_));obtain⟨av,e⟩:=zb e;refine ky rfl rfl rfl rfl (fun hB=>jh (z11 (ar.1 (qd rfl hB)) rfl (av (qd rfl hB)))) fun bT aw=>?_
 refine ky rfl rfl rfl rfl (fun hB=>jh (z1g (aw.1 (qd rfl hB)) rfl)) fun bU ax=>?_;refine uh rfl (z0i rfl (fun hb=>(ax.1 (qd rfl hb))) rfl) (z8 (zn rfl e (fun e=>?_) (fun e=>?_)))
 refine zu (za ag (zk (o5 (ps:=[(0,(vi (-1))),(1,(vi (-1)))]) (v:=(.agg #[(vi (-1)),(vi (-1))])) rfl (fun w=>by kernel_rfl)) (z4o (T:=kEdge) (X:=([(⟨(-1),(-1)⟩:Edge)]:List Edge)) (ps:=[(0,(.agg #[(vi (-1)),(vi (-1))]))]) (css:=[[(vi (-1)),(vi (-1))]]) rfl underlying93 zld rfl rfl (o9 ⟨⟨_,_,rfl,rfl,rfl⟩,trivial⟩) rfl rfl (by decide) fun ay bV P az=>?_)))
 refine oq (i:=0) rfl az fun aA E aB=>?_;have aC:VRep (tSl true kEdge) aA ay ([(⟨(-1),(-1)⟩:Edge)]:List Edge):=(z1u aB P);obtain⟨U,e⟩:=zb e
 refine l7 (i:=3) (X:=y) (Y:=([(⟨(-1),(-1)⟩:Edge)]:List Edge)) rfl underlying93 zld rfl rfl rfl (ah.mono (p.trans E)) (ja (Sub.v (B:=(tSl false kEdge)) (yu Sub.refl (fun _=>rfl)) aC)) U.1 U.2 fun V aD aE=>?_;refine zf V (z8 ?_)
 exact⟨dkt,(p.trans E),kw,((y++([(⟨(-1),(-1)⟩:Edge)]:List Edge)),V,aD),⟨rfl,trivial⟩,prm,(Option.some.inj e).symm,aE,trivial⟩;obtain⟨aF,aG,aH,aI,aJ,e⟩:=zjz e
 let G1:=([(⟨(a/4)%((1:Int)+(x.states%6)),((a/4)/((1:Int)+(x.states%6)))%((1:Int)+(x.outs%3))⟩:Edge)]:List Edge)
 refine z16 14 [] [phX ag,phX (vi a),phX (vi (a/4)),phX (vi ((1:Int)+(x.states%6))),phX (vi ((a/4)%((1:Int)+(x.states%6)))),phX (vi a),phX (vi (a/4)),phX (vi ((1:Int)+(x.states%6))),phX (vi ((a/4)/((1:Int)+(x.states%6)))),phX (.pointer (some ⟨o,1,none⟩)),phX (vi ((1:Int)+(x.outs%3))),phX (vi (((a/4)/((1:Int)+(x.states%6)))%((1:Int)+(x.outs%3)))),phX (.agg #[(vi ((a/4)%((1:Int)+(x.states%6)))),(vi (((a/4)/((1:Int)+(x.states%6)))%((1:Int)+(x.outs%3))))]),phR (tSl true kEdge) G1] mixed (by kernel_rfl) (z0f ⟨zt,zt,zt,zt,zt,zt,zt,zt,zt,zt,zt,zt,zt,z1q,trivial⟩) ⟨?_,?_,?_,?_,?_,?_,?_,?_,?_,?_,?_,?_,?_,?_,trivial⟩ fun bW F=>?_
 intro l cC j n hd;exact zl rfl rfl rfl (zq (zh (n 6 rfl)));intro l cD j n hd;exact zl rfl rfl rfl (zq (zh (n 8 rfl)));rintro l cE j n ⟨q,_⟩;exact zl rfl rfl rfl (zq (z6s (q rfl) rfl aF));intro l cF j n hd;exact zl rfl rfl rfl (zq (zh (n 3 rfl)));rintro l cG j n ⟨q,d1,_⟩
 exact zl rfl rfl rfl (zq (z11 (q rfl) (d1 rfl) aG));intro l cH j n hd;exact zl rfl rfl rfl (zq (zh (n 8 rfl)));rintro l cI j n ⟨q,_⟩;exact zl rfl rfl rfl (zq (z6s (q rfl) rfl aH));intro l cJ j n hd;exact zl rfl rfl rfl (zq (zh (n 3 rfl)));rintro l cK j n ⟨q,d1,_⟩;have ak:=q rfl
 exact zl rfl rfl rfl (zq (z6s ak (d1 rfl) aI));intro l cL j n hd;exact zl rfl rfl rfl (zq (jd zca (n 4 rfl)));rintro l bX j n ⟨q,_⟩;exact zl rfl rfl rfl (zq (q9 (i:=1) ag3 (q rfl) rfl rfl));rintro l bY j n ⟨q,d1,_⟩;exact zl rfl rfl rfl (zq (z11 (q rfl) (d1 rfl) aJ))
 rintro l bZ j n ⟨q,d1,_⟩;have bK:l 69=(vi ((a/4)%((1:Int)+(x.states%6)))):=q rfl;have bL:l 76=(vi (((a/4)/((1:Int)+(x.states%6)))%((1:Int)+(x.outs%3)))):=d1 rfl
 exact zl rfl rfl rfl (zq (o5 (ps:=[(0,(vi ((a/4)%((1:Int)+(x.states%6))))),(1,(vi (((a/4)/((1:Int)+(x.states%6)))%((1:Int)+(x.outs%3)))))]) (v:=(.agg #[(vi ((a/4)%((1:Int)+(x.states%6)))),(vi (((a/4)/((1:Int)+(x.states%6)))%((1:Int)+(x.outs%3))))])) (by simp only [List.map,ev,bK,bL]<;>rfl) (fun w=>by kernel_rfl)))
 rintro l b0 j n ⟨q,_⟩;have bM:l 77=(.agg #[(vi ((a/4)%((1:Int)+(x.states%6)))),(vi (((a/4)/((1:Int)+(x.states%6)))%((1:Int)+(x.outs%3))))]):=q rfl
 exact zl rfl rfl rfl (zch (T:=kEdge) (X:=G1) (ps:=[(0,(.agg #[(vi ((a/4)%((1:Int)+(x.states%6)))),(vi (((a/4)/((1:Int)+(x.states%6)))%((1:Int)+(x.outs%3))))]))]) (css:=[[(vi ((a/4)%((1:Int)+(x.states%6)))),(vi (((a/4)/((1:Int)+(x.states%6)))%((1:Int)+(x.outs%3))))]]) underlying93 zld (by simp only [List.map,ev,bM]<;>rfl) rfl (o9 ⟨⟨_,_,rfl,rfl,rfl⟩,trivial⟩) rfl rfl (by decide))
 intro b1 aL b2 aM b3 aN b4 aO b5 aP b7 aQ b8 aR b9 aS ca aT cb aU cc aV cd aW ce aX cf aY;obtain rfl:=Eq.symm aL;obtain rfl:=Eq.symm aM;obtain rfl:=Eq.symm aN;obtain rfl:=Eq.symm aO;obtain rfl:=Eq.symm aP;obtain rfl:=Eq.symm aQ;obtain rfl:=Eq.symm aR;obtain rfl:=Eq.symm aS;obtain rfl:=Eq.symm aT
 obtain rfl:=Eq.symm aU;obtain rfl:=Eq.symm aV;obtain rfl:=Eq.symm aW;obtain rfl:=Eq.symm aX;obtain⟨W,e⟩:=zb e;refine l7 (i:=3) (X:=y) (Y:=G1) rfl underlying93 zld rfl rfl rfl (ah.mono (p.trans F)) (ja (Sub.v (B:=(tSl false kEdge)) (yu Sub.refl (fun _=>rfl)) aY)) W.1 W.2 fun Z aZ a0=>?_
 refine zf Z (z8 ?_);exact⟨dkt,(p.trans F),kw,((y++G1),Z,aZ),⟨rfl,trivial⟩,prm,(Option.some.inj e).symm,a0,trivial⟩;rintro⟨ai,bN,ak⟩ cg cM a1 ⟨rfl,bO,_⟩;refine zu (za (vi k) ?_);obtain⟨a2,d⟩:=zb d;refine zk (jg rfl rfl a2) (zf (vi (k+1)) (z8 ?_))
 exact⟨dkt,a1,kw,(O,ai,k+1,bN,ak),Nat.lt_succ_self _,⟨rfl,rfl,trivial⟩,prm,d,bO,trivial⟩;refine ko ?_;exact⟨dkt,t,kw,(y,ag,ao),⟨rfl,trivial⟩,prm,(Option.some.inj d).symm,ah,trivial⟩;rintro⟨m,Q,cN⟩ ch cO aa ⟨rfl,bP,_⟩
 refine zu (zk (jd dw rfl) (zk (q9 (i:=1) zij rfl rfl rfl) (za Q (oq (i:=3) rfl bP fun a3 G a4=>?_))));have ab:VRep (tSl false kEdge) a3 Q m:=(zcz a4)
 refine z4o (T:=(tSl false kEdge)) (X:=([m]:List (List Edge))) (ps:=[(0,Q)]) (css:=[[Q]]) rfl underlying30 zpf rfl (by simp only [List.map_cons,List.map_nil,z06 ab];rfl) (o9 ⟨(pg rfl ab),trivial⟩) rfl rfl (by decide) fun a5 ci S a6=>?_;refine oq (i:=0) rfl a6 fun a7 H a8=>?_
 have a9:VRep (tSl true (tSl false kEdge)) a7 a5 ([m]:List (List Edge)):=(z1u a8 S);obtain⟨ac,c⟩:=zb c
 refine l7 (i:=2) (X:=M) (Y:=([m]:List (List Edge))) rfl underlying30 zpf rfl rfl rfl (an.mono ((aa.trans G).trans H)) (ja (Sub.v (B:=(tSl false (tSl false kEdge))) (yu Sub.refl (fun _=>rfl)) a9)) ac.1 ac.2 fun ad ba I=>?_
 refine zk (jd dw rfl) (uo (i:=1) (vs:=[ad]) zq9 rfl rfl (z2n I) rfl rfl rfl (qh (z05 I) uq) ?_);refine z8 (zu (za (vi f) ?_));obtain⟨bb,c⟩:=zb c;refine zk (jg rfl rfl bb) (zf (vi (f+1)) (z8 ?_))
 exact⟨dkt,((aa.trans G).trans H),kw,(L,f+1,(M++([m]:List (List Edge))),ad,ba),Nat.lt_succ_self _,⟨rfl,trivial⟩,prm,c,I,trivial⟩;refine ko ?_;exact⟨dkt,s,kw,(M,z,C),trivial,prm,(Option.some.inj c).symm,an,trivial⟩;rintro⟨u,K,cP⟩ cj cQ bc ⟨rfl,be,_⟩
 refine ze (zk (dm (i:=1) zfw zaq rfl rfl rfl rfl) (uo (i:=0) (vs:=[(vi ((1:Int)+(x.ins%3))),(vi ((1:Int)+(x.outs%3))),K]) zaq rfl rfl rfl rfl rfl rfl (qh rfl (qh rfl (qh (z05 be) uq))) ?_));refine z8 (nk (i:=2) rfl be fun bf al bg=>?_)
 have bh:VRep (tSl false (tSl false kEdge)) bf K u:=(zcz bg);refine qg ?_;obtain rfl:=Option.some.inj b
 refine zw (D:=[]) (J:=[box b6 [(vi ((1:Int)+(x.ins%3))),(vi ((1:Int)+(x.outs%3))),K] 32,box o [(vi ((1:Int)+(x.ins%3))),(vi ((1:Int)+(x.outs%3))),K] 32]) (rs:=[.cell 2 32]) (vs:=[(.agg #[(vi ((1:Int)+(x.ins%3))),(vi ((1:Int)+(x.outs%3))),K])]) ((bk.trans bc).trans al) rfl rfl ⟨⟨_,rfl,fun w hh=>z7j (i:=0) hh rfl rfl zfw zaq rfl rfl⟩,trivial⟩ ?_
 exact⟨rfl,(⟨_,⟨_,_,rfl,rfl,⟨_,_,rfl,rfl,(pg rfl bh)⟩⟩,rfl⟩:VRep (vg false false) _ _ (⟨(1:Int)+(x.ins%3),(1:Int)+(x.outs%3),u⟩:Mach))⟩
theorem zq4:Enters prog 15:=enters_of func15 rfl (by kernel_rfl)
theorem z5a{a b:Bool}:TyOk prog 32 (vg a b):=by
 obtain⟨i,hi,c⟩: ∃ i,prog.info? 32=some i∧i.size=3:=jm (by kernel_rfl);exact mi underlying32 hi rfl c
theorem ty3:TyOk prog 3 (zo .i64):=by
 obtain⟨i,hi,a⟩: ∃ i,prog.info? 3=some i∧i.size=1:=jm (by kernel_rfl);exact mi underlying3 hi rfl a
theorem z5c{a b:Bool}:TyOk prog 30 (tSl a (tSl b kEdge)):=by
 obtain⟨i,hi,c⟩: ∃ i,prog.info? 30=some i∧i.size=1:=jm (by kernel_rfl);exact mi underlying30 hi rfl c
theorem zht{a:Bool}:TyOk prog 93 (tSl a kEdge):=by
 obtain⟨i,hi,b⟩: ∃ i,prog.info? 93=some i∧i.size=1:=jm (by kernel_rfl);exact mi underlying93 hi rfl b
theorem zjy{a:Bool}:SlOk prog 30 93 (tSl a kEdge):=⟨underlying30,zht⟩
theorem zd2:TyOk prog 27 kEdge:=by
 obtain⟨i,hi,a⟩: ∃ i,prog.info? 27=some i∧i.size=2:=jm (by kernel_rfl);exact mi underlying27 hi rfl a
theorem zjf:SlOk prog 93 27 kEdge:=⟨underlying93,zd2⟩
theorem z0u{N:Nat}{R:RH}{s:(List Edge)}{c:Value}(k:VRep (tSl false kEdge) R c s){f:Edge→Option Bool}{e:Value}(n:FOk1 prog R e kEdge z00 f){r:Int}(b:y5 N s f=some r):CallP prog 187 #[c,e] R (fun v R'=>v=(vi r)):=by
 refine qa (args:=[c,e]) func187 rfl rfl fun A=>?_;rw [y5] at b;refine ze (zf (vi 0) (z8 ?_));obtain⟨o,a,b⟩:=zm b;refine qw (γ:=Unit) (rs [4,19]) (fun g=>[]) (fun g=>[]++A) (fun g R=>o=Ex.go g∧True) ?_ ?_
 refine ze (za c (zk (qc rfl underlying93 rfl (ja k)) (za (vi 0) (z8 (zx (jl (γ:=Nat×Int) (rs [4,6,8,19]) (fun g=>[(8,(vi g.2))]) (fun g=>[]++A) (fun g R=>qm N s f g.1 g.2=some o∧True) (fun g=>g.1) (N,0) prm ⟨a,trivial⟩ ?_))))));clear a;rintro⟨m,d⟩ y H h ⟨a,_⟩
 rcases m with _|m;exact qp a;replace a:qm N s f (m+1) d=some o:=a;rw [qm] at a;refine ze (zk (j6 rfl rfl) (z8 (zy (zn rfl a (fun a=>?_) (fun a=>?_)))))
 refine zz (zy (zx (ze (za (vi d) (zf (vi d) (qo (za e (za c (za (vi d) ?_)))))))));obtain⟨l,a⟩:=zb a;refine ui (i:=d.toNat) rfl zjf rfl (ja (k.mono h)) (zg rfl l.1) (jb l) fun z p=>?_;refine qj rfl zd2 rfl p fun B q=>?_;obtain rfl:=ny.1 q
 obtain⟨C,t,a⟩:=zm a;refine zab rfl rfl rfl ((n.mono h) _ (RH.le.refl _) (ix s d) _ _ (ny.2 rfl) t) fun E F j u=>?_;obtain rfl:=z0c.1 u;refine z8 (zn rfl a (fun a=>?_) (fun a=>?_));refine ze (za (vi d) (zf (vi d) (z8 (qg ?_))));replace b:=z1j a b;obtain rfl:=Option.some.inj b
 refine zw (D:=[]) (J:=[]) (rs:=[.tmp 4]) (vs:=[(vi d)]) (h.trans j) rfl rfl ⟨rfl,trivial⟩ ?_;exact⟨rfl,rfl⟩;refine zz (zu ?_);obtain⟨w,a⟩:=zb a;refine zk (jg rfl rfl w) (za (vi (d+1)) (z8 ?_));exact⟨dkt,j,kw,(m,d+1),Nat.lt_succ_self _,⟨rfl,trivial⟩,prm,a,trivial⟩;refine ko ?_
 exact⟨dkt,h,kw,(),trivial,prm,(Option.some.inj a).symm,trivial⟩;rintro I G K x ⟨rfl,_⟩;replace b:=z2f b;refine ze (zf (vi (-1)) (z8 (qg ?_)));obtain rfl:=Option.some.inj b;refine zw (D:=[]) (J:=[]) (rs:=[.tmp 4]) (vs:=[(vi (-1))]) x rfl rfl ⟨rfl,trivial⟩ ?_;exact⟨rfl,rfl⟩
theorem zpk:Enters prog 187:=enters_of func187 rfl (by kernel_rfl)
theorem z07{N:Nat}{R:RH}{s:(List Edge)}{a:Value}(d:VRep (tSl false kEdge) R a s){f:Edge→Option Bool}{b:Value}(e:FOk1 prog R b kEdge z00 f){r:Bool}(c:uz N s f=some r):CallP prog 134 #[a,b] R (fun v R'=>v=(.bool r)):=by
 refine qa (args:=[a,b]) func134 rfl rfl fun A=>?_;rw [uz] at c;refine ze (zf (.bool false) (qo (za a (za b ?_))));obtain⟨h,i,c⟩:=zm c;refine j4 rfl zpk rfl (z0u d e i) fun k l g j=>?_;obtain rfl:=j
 refine zk (z1f rfl rfl) (zf (.bool (decide (0≤h))) (z8 (qg ?_)));obtain rfl:=Option.some.inj c;refine zw (D:=[]) (J:=[]) (rs:=[.tmp 4]) (vs:=[(.bool (decide (0≤h)))]) g rfl rfl ⟨rfl,trivial⟩ ?_;exact⟨rfl,rfl⟩
theorem zo4:Enters prog 134:=enters_of func134 rfl (by kernel_rfl)
theorem zkx: ∀ w,∃ z,(zeroValue 27).run prog w= .ok z w∧z.cells=([.int .i64 0,.int .i64 0]:List Value).toArray:=fun w=>⟨(.agg #[(vi 0),(vi 0)]),by kernel_rfl,rfl⟩
theorem zg5: ∀ w,(sizeOf 27).run prog w= .ok 2 w:=fun w=>by kernel_rfl
theorem zpp: ∀ w,(isAgg 27).run prog w= .ok true w:=fun w=>by kernel_rfl
theorem z3i{N:Nat}{R:RH}  {r:Edge} (a:fe N  =some r):CallP prog 158 #[] R (fun v R'=>v=(z0l r)):=by
 refine qa (args:=[]) func158 rfl rfl fun A=>?_;rw [fe] at a;refine ze (wu rfl zkx fun b=>?_)
 refine qo (zk (o5 (ps:=[(0,(vi (-1))),(1,(vi (-1)))]) (v:=(.agg #[(vi (-1)),(vi (-1))])) rfl (fun w=>by kernel_rfl)) (uo (i:=0) (vs:=[(vi (-1)),(vi (-1))]) zg5 rfl rfl rfl rfl rfl rfl (qh rfl (qh rfl uq)) ?_));refine z8 (qg ?_);obtain rfl:=Option.some.inj a
 refine zw (D:=[]) (J:=[box b [(vi (-1)),(vi (-1))] 27]) (rs:=[.cell 0 27]) (vs:=[(.agg #[(vi (-1)),(vi (-1))])]) (RH.le.refl _) rfl rfl ⟨⟨_,rfl,fun w c=>z7j (i:=0) c rfl rfl zpp zg5 rfl rfl⟩,trivial⟩ ?_;exact⟨rfl,rfl⟩
theorem zmr:Enters prog 158:=enters_of func158 rfl (by kernel_rfl)
theorem zqh:zla prog 27:=zcv (f0:=((prog.fieldsOf 27).toList.getD 0 default)) (f1:=((prog.fieldsOf 27).toList.getD 1 default)) (by kernel_rfl) (by kernel_rfl) (by kernel_rfl) (by kernel_rfl) (by kernel_rfl) (by kernel_rfl) (by kernel_rfl) (by kernel_rfl) (by kernel_rfl) (by kernel_rfl)
theorem z1v:FieldOk prog 27 0 0:=by
 obtain⟨i,hi,a⟩: ∃ i,prog.info? 3=some i∧i.size=1:=jm (by kernel_rfl);exact xn underlying27 rfl rfl hi (by rw [a];rfl)
theorem z7h:FieldOk prog 27 1 1:=by
 obtain⟨i,hi,a⟩: ∃ i,prog.info? 3=some i∧i.size=1:=jm (by kernel_rfl);exact xn underlying27 rfl rfl hi (by rw [a];rfl)
theorem z8m{N:Nat}{R:RH}{m:Mach}{p:Value}(w:VRep (vg false false) R p m){x:Edge}{r:Bool}(n:z1r N m x=some r):CallP prog 136 #[p,(z0l x)] R (fun v R'=>v=(.bool r)):=by
 refine qa (args:=[p,(z0l x)]) func136 rfl rfl fun A=>?_;rw [z1r] at n;refine ze (xy (T:=(vg false false)) rfl rfl rfl w fun v1 R3 y h5 K=>?_);refine z8u (T:=kEdge) rfl rfl (ny.2 rfl) fun v6 R8 q t=>?_;refine zf (.bool false) (z8 (zy ?_));obtain⟨b,z,n⟩:=zm n
 let B:=((decide (x.to=b.to∧x.out=b.out))||((((decide (0≤x.to))&&(decide (x.to<(↑m.rows.length:Int))))&&(decide (0≤x.out)))&&(decide (x.out<m.outputs))));let L:=((((decide (0≤x.to))&&(decide (x.to<(↑m.rows.length:Int))))&&(decide (0≤x.out)))&&(decide (x.out<m.outputs)))
 let o:=(((decide (0≤x.to))&&(decide (x.to<(↑m.rows.length:Int))))&&(decide (0≤x.out)));let k:=((decide (0≤x.to))&&(decide (x.to<(↑m.rows.length:Int))));let e:=(true&&((decide (x.to=b.to∧x.out=b.out))==false))
 refine z16 29 [] [phX (z0l x),phX (z0l b),phX (.bool (decide (x.to=b.to∧x.out=b.out))),phX (.bool (decide (x.to=b.to∧x.out=b.out))),phG e (phP (zo .i64) x.to),phG e (phX (vi x.to)),phG e (phX (.bool (decide (0≤x.to)))),phG e (phX (.bool (decide (0≤x.to)))),phG (e&&((decide (0≤x.to))==true)) (phP (zo .i64) x.to),phG (e&&((decide (0≤x.to))==true)) (phX (vi x.to)),phG (e&&((decide (0≤x.to))==true)) (phP (tSl false (tSl false kEdge)) m.rows),phG (e&&((decide (0≤x.to))==true)) (phR (tSl false (tSl false kEdge)) m.rows),phG (e&&((decide (0≤x.to))==true)) (phX (vi (↑m.rows.length:Int))),phG (e&&((decide (0≤x.to))==true)) (phX (.bool (decide (x.to<(↑m.rows.length:Int))))),phG e (phX (.bool k)),phG e (phX (.bool k)),phG (e&&(k==true)) (phP (zo .i64) x.out),phG (e&&(k==true)) (phX (vi x.out)),phG (e&&(k==true)) (phX (.bool (decide (0≤x.out)))),phG e (phX (.bool o)),phG e (phX (.bool o)),phG (e&&(o==true)) (phP (zo .i64) x.out),phG (e&&(o==true)) (phX (vi x.out)),phG (e&&(o==true)) (phP (zo .i64) m.outputs),phG (e&&(o==true)) (phX (vi m.outputs)),phG (e&&(o==true)) (phX (.bool (decide (x.out<m.outputs)))),phG e (phX (.bool L)),phX (.bool B),phX (.bool B)] mixed (by kernel_rfl) (z0f ⟨zt,zt,zt,zt,(uu z4k),(uu zt),(uu zt),(uu zt),(uu z4k),(uu zt),(uu z4k),(uu z1q),(uu zt),(uu zt),(uu zt),(uu zt),(uu z4k),(uu zt),(uu zt),(uu zt),(uu zt),(uu z4k),(uu zt),(uu z4k),(uu zt),(uu zt),(uu zt),zt,zt,trivial⟩) ⟨?_,?_,?_,?_,?_,?_,?_,?_,?_,?_,?_,?_,?_,?_,?_,?_,?_,?_,?_,?_,?_,?_,?_,?_,?_,?_,?_,?_,?_,trivial⟩ fun aj u=>?_
 intro l ak a g hd;exact zl rfl rfl rfl (z2g (z0k zd2 (g 3 rfl) (t.mono a)) (fun _ _ h=>ny.1 h));intro l am a g hd;exact zl rfl rfl rfl (r9 (vs:=[]) zmr rfl (z3i  z) (fun _ _ h=>h));rintro l an a g ⟨c,f,_⟩;exact zl rfl rfl rfl (zq (zix zqh (c rfl) (f rfl)));rintro l ao a g ⟨c,f,_⟩
 exact zl rfl rfl rfl (zq (zh (c rfl)));rintro l ap a g ⟨c,_⟩;exact qf (Gj:=true) (Bj:=decide (x.to=b.to∧x.out=b.out)) rfl rfl rfl (ng (c rfl)) rfl (fun i d=>z0d z1v zew (g 3 rfl) (t.mono a));rintro l aq a g ⟨c,f,_⟩
 exact qf (Gj:=true) (Bj:=decide (x.to=b.to∧x.out=b.out)) rfl rfl rfl (ng (f rfl)) rfl (fun i d=>z2g (z0k ty3 rfl ((c rfl).1 (qd rfl d))) (fun _ _ h=>uj.1 h));rintro l ar a g ⟨c,f,_⟩
 exact qf (Gj:=true) (Bj:=decide (x.to=b.to∧x.out=b.out)) rfl rfl rfl (ng (f rfl)) rfl (fun i d=>zq (z1f (show l 10=(vi x.to) from(c rfl).1 (qd rfl d)) rfl));rintro l au a g ⟨c,f,j,_⟩
 exact qf (Gj:=true) (Bj:=decide (x.to=b.to∧x.out=b.out)) rfl rfl rfl (ng (f rfl)) rfl (fun i d=>zq (zh (show l 11=(.bool (decide (0≤x.to))) from(c rfl).1 (qd rfl d))));rintro l av a g ⟨c,_⟩;exact qf (Gj:=e) (Bj:=decide (0≤x.to)) rfl rfl rfl (c rfl) rfl (fun i d=>z0d z1v zew (g 3 rfl) (t.mono a))
 rintro l aw a g ⟨c,f,_⟩;exact qf (Gj:=e) (Bj:=decide (0≤x.to)) rfl rfl rfl (f rfl) rfl (fun i d=>z2g (z0k ty3 rfl ((c rfl).1 (qd i d))) (fun _ _ h=>uj.1 h));rintro l M a g ⟨c,_⟩;exact qf (Gj:=e) (Bj:=decide (0≤x.to)) rfl rfl rfl (c rfl) rfl (fun i d=>z0d dw bi (g 2 rfl) ((K.mono q).mono a))
 rintro l O a g ⟨c,f,_⟩;exact qf (Gj:=e) (Bj:=decide (0≤x.to)) rfl rfl rfl (f rfl) rfl (fun i d=>z0k z5c rfl ((c rfl).1 (qd i d)));rintro l P a g ⟨c,f,_⟩;exact qf (Gj:=e) (Bj:=decide (0≤x.to)) rfl rfl rfl (f rfl) rfl (fun i d=>zq (qc rfl underlying30 rfl (ja ((c rfl).1 (qd i d)))))
 rintro l Q a g ⟨c,f,j,_⟩;exact qf (Gj:=e) (Bj:=decide (0≤x.to)) rfl rfl rfl (j rfl) rfl (fun i d=>zq (j6 (show l 14=(vi x.to) from(c rfl).1 (qd i d)) (show l 17=(vi (↑m.rows.length:Int)) from(f rfl).1 (qd i d))));rintro l S a g ⟨c,f,j,_⟩
 exact qf (Gj:=true) (Bj:=decide (x.to=b.to∧x.out=b.out)) rfl rfl rfl (ng (j rfl)) rfl (fun i d=>zq (z0i (show l 12=(.bool (decide (0≤x.to))) from(c rfl).1 (qd rfl d)) (fun s=>(show l 18=(.bool (decide (x.to<(↑m.rows.length:Int)))) from(f rfl).1 (qd (qd rfl d) s))) rfl));rintro l U a g ⟨c,f,j,_⟩
 exact qf (Gj:=true) (Bj:=decide (x.to=b.to∧x.out=b.out)) rfl rfl rfl (ng (j rfl)) rfl (fun i d=>zq (zh (show l 19=(.bool k) from(c rfl).1 (qd rfl d))));rintro l V a g ⟨c,_⟩
 exact qf (Gj:=e) (Bj:=(decide (0≤x.to))&&(decide (x.to<(↑m.rows.length:Int)))) rfl rfl rfl (c rfl) rfl (fun i d=>z0d z7h zd6 (g 3 rfl) (t.mono a));rintro l W a g ⟨c,f,_⟩
 exact qf (Gj:=e) (Bj:=(decide (0≤x.to))&&(decide (x.to<(↑m.rows.length:Int)))) rfl rfl rfl (f rfl) rfl (fun i d=>z2g (z0k ty3 rfl ((c rfl).1 (qd i d))) (fun _ _ h=>uj.1 h));rintro l X a g ⟨c,f,_⟩
 exact qf (Gj:=e) (Bj:=(decide (0≤x.to))&&(decide (x.to<(↑m.rows.length:Int)))) rfl rfl rfl (f rfl) rfl (fun i d=>zq (z1f (show l 22=(vi x.out) from(c rfl).1 (qd i d)) rfl));rintro l Y a g ⟨c,f,j,_⟩
 exact qf (Gj:=true) (Bj:=decide (x.to=b.to∧x.out=b.out)) rfl rfl rfl (ng (j rfl)) rfl (fun i d=>zq (z0i (show l 20=(.bool k) from(c rfl).1 (qd rfl d)) (fun s=>(show l 23=(.bool (decide (0≤x.out))) from(f rfl).1 (qd (qd rfl d) s))) rfl));rintro l Z a g ⟨c,f,j,_⟩
 exact qf (Gj:=true) (Bj:=decide (x.to=b.to∧x.out=b.out)) rfl rfl rfl (ng (j rfl)) rfl (fun i d=>zq (zh (show l 24=(.bool o) from(c rfl).1 (qd rfl d))));rintro l aa a g ⟨c,_⟩;exact qf (Gj:=e) (Bj:=k&&(decide (0≤x.out))) rfl rfl rfl (c rfl) rfl (fun i d=>z0d z7h zd6 (g 3 rfl) (t.mono a))
 rintro l ab a g ⟨c,f,_⟩;exact qf (Gj:=e) (Bj:=k&&(decide (0≤x.out))) rfl rfl rfl (f rfl) rfl (fun i d=>z2g (z0k ty3 rfl ((c rfl).1 (qd i d))) (fun _ _ h=>uj.1 h));rintro l ac a g ⟨c,_⟩
 exact qf (Gj:=e) (Bj:=k&&(decide (0≤x.out))) rfl rfl rfl (c rfl) rfl (fun i d=>z0d zca z9b (g 2 rfl) ((K.mono q).mono a));rintro l ad a g ⟨c,f,_⟩;exact qf (Gj:=e) (Bj:=k&&(decide (0≤x.out))) rfl rfl rfl (f rfl) rfl (fun i d=>z2g (z0k ty3 rfl ((c rfl).1 (qd i d))) (fun _ _ h=>uj.1 h))
 rintro l ae a g ⟨c,f,j,_⟩;exact qf (Gj:=e) (Bj:=k&&(decide (0≤x.out))) rfl rfl rfl (j rfl) rfl (fun i d=>zq (j6 (show l 27=(vi x.out) from(c rfl).1 (qd i d)) (show l 29=(vi m.outputs) from(f rfl).1 (qd i d))));rintro l af a g ⟨c,f,j,_⟩
 exact qf (Gj:=true) (Bj:=decide (x.to=b.to∧x.out=b.out)) rfl rfl rfl (ng (j rfl)) rfl (fun i d=>zq (z0i (show l 25=(.bool o) from(c rfl).1 (qd rfl d)) (fun s=>(show l 30=(.bool (decide (x.out<m.outputs))) from(f rfl).1 (qd (qd rfl d) s))) rfl));rintro l ag a g ⟨c,f,_⟩
 exact zl rfl rfl rfl (zq (ai (c rfl) rfl (fun s=>(show l 31=(.bool L) from(f rfl).1 (qd rfl s)))));rintro l ah a g ⟨c,f,j,d3,d4,d5,d6,d7,d8,d9,ax,ay,az,aA,aB,aC,aD,aE,aF,aG,aH,aI,aJ,aK,aL,aM,aN,aO,aP,aQ,_⟩;exact zl rfl rfl rfl (zq (bf (c rfl)))
 intro aR C aS E aT F aU G aV aW aX aY aZ a0 a1 a2 a3 a4 a5 a6 a7 a8 a9 ba bb bc be bg bh bj bk bl bm bn bo bp bq br bs bt bu bv bw bx bz bA bB bC bD bE bF bG bH bI bJ H bK I;obtain rfl:=Eq.symm C;obtain rfl:=Eq.symm E;obtain rfl:=Eq.symm F;obtain rfl:=Eq.symm G;obtain rfl:=Eq.symm H;obtain rfl:=Eq.symm I
 refine z8 (qg ?_);obtain rfl:=Option.some.inj n;refine zw (D:=[]) (J:=[]) (rs:=[.tmp 4]) (vs:=[(.bool B)]) ((y.trans q).trans u) rfl rfl ⟨rfl,trivial⟩ ?_;exact⟨rfl,rfl⟩
theorem znz:Enters prog 136:=enters_of func136 rfl (by kernel_rfl)
theorem z6a{N:Nat}{R:RH}{x:Edge}{p0_:Mach}{a:Value}(c:PRep (vg false false) R a p0_){r:Bool}(b:z0b N x p0_=some r):CallP prog 135 #[(z0l x),a] R (fun v R'=>v=(.bool r)):=by
 refine qa (args:=[(z0l x),a]) func135 rfl rfl fun A=>?_;rw [z0b] at b;refine ze (z8u (T:=kEdge) rfl rfl (ny.2 rfl) fun n o d i=>?_);refine zf (.bool false) (qo (qj rfl z5a rfl (c.mono d) fun p j=>?_));refine qj rfl zd2 rfl i fun q k=>?_;obtain rfl:=ny.1 k
 obtain⟨h,f,b⟩:=zm b;refine j4 rfl znz rfl (z8m j f) fun l m e g=>?_;obtain rfl:=g;refine zk (z6l rfl) (zf (.bool (!h)) (z8 (qg ?_)));obtain rfl:=Option.some.inj b;refine zw (D:=[]) (J:=[]) (rs:=[.tmp 3]) (vs:=[(.bool (!h))]) (d.trans e) rfl rfl ⟨rfl,trivial⟩ ?_;exact⟨rfl,rfl⟩
theorem zox:Enters prog 135:=enters_of func135 rfl (by kernel_rfl)
theorem iw{N:Nat}{R:RH}{m:Mach}{q:Value}(F:VRep (vg false false) R q m){r:Int}(b:xc N m=some r):CallP prog 66 #[q] R (fun v R'=>v=(vi r)):=by
 refine qa (args:=[q]) func66 rfl rfl fun A=>?_;rw [xc] at b;refine ze (xy (T:=(vg false false)) rfl rfl rfl F fun E R3 k h5 l=>?_);refine zf (vi 0) (z8 (zy (ze (zlg rfl (au z1t z4c rfl l) fun v6 h7=>?_))))
 refine uh rfl (cu (uw ty3 rfl h7)) (uh rfl (ow rfl rfl) (uh (v:=(.bool (decide (16<m.inputs)))) rfl (zh rfl) (ky rfl rfl rfl rfl (fun c=>au zca z9b rfl l) fun al G=>?_)));refine ky rfl rfl rfl rfl (fun c=>jh (cu (uw ty3 rfl (G.1 (qd rfl c))))) fun am H=>?_
 refine ky rfl rfl rfl rfl (fun c=>jh (ow (H.1 (qd rfl c)) rfl)) fun an I=>?_;refine uh rfl (ai rfl rfl (fun n=>(I.1 (qd rfl n)))) (uh (v:=(.bool ((decide (16<m.inputs))||(decide (16<m.outputs))))) rfl (zh rfl) (ky rfl rfl rfl rfl (fun c=>au dw bi rfl l) fun ao K=>?_))
 refine ky rfl rfl rfl rfl (fun c=>uw z5c rfl (K.1 (qd rfl c))) fun ap L=>?_;refine ky rfl rfl rfl rfl (fun c=>jh (qc rfl underlying30 rfl (ja (L.1 (qd rfl c))))) fun aq M=>?_;refine ky rfl rfl rfl rfl (fun c=>jh (ow (M.1 (qd rfl c)) rfl)) fun ar O=>?_
 refine uh rfl (ai rfl rfl (fun n=>(O.1 (qd rfl n)))) (z8 (zn rfl b (fun b=>?_) (fun b=>?_)));refine ze (zf (vi 3) (z8 (qg ?_)));obtain rfl:=Option.some.inj b;refine zw (D:=[]) (J:=[]) (rs:=[.tmp 2]) (vs:=[(vi 3)]) k rfl rfl ⟨rfl,trivial⟩ ?_;exact⟨rfl,rfl⟩
 refine zz (zy (ze (zlg rfl (au z1t z4c rfl l) fun av P=>?_)));refine uh rfl (cu (uw ty3 rfl P)) (uh rfl (j6 rfl rfl) (uh (v:=(.bool (decide (m.inputs<1)))) rfl (zh rfl) (ky rfl rfl rfl rfl (fun c=>au zca z9b rfl l) fun aw Q=>?_)))
 refine ky rfl rfl rfl rfl (fun c=>jh (cu (uw ty3 rfl (Q.1 (qd rfl c))))) fun ax S=>?_;refine ky rfl rfl rfl rfl (fun c=>jh (j6 (S.1 (qd rfl c)) rfl)) fun ay U=>?_
 refine uh rfl (ai rfl rfl (fun n=>(U.1 (qd rfl n)))) (uh (v:=(.bool ((decide (m.inputs<1))||(decide (m.outputs<1))))) rfl (zh rfl) (ky rfl rfl rfl rfl (fun c=>au dw bi rfl l) fun az V=>?_));refine ky rfl rfl rfl rfl (fun c=>uw z5c rfl (V.1 (qd rfl c))) fun aA W=>?_
 refine ky rfl rfl rfl rfl (fun c=>jh (qc rfl underlying30 rfl (ja (W.1 (qd rfl c))))) fun aB X=>?_;refine ky rfl rfl rfl rfl (fun c=>jh (j6 (X.1 (qd rfl c)) rfl)) fun aC Y=>?_;refine uh rfl (ai rfl rfl (fun n=>(Y.1 (qd rfl n)))) (z8 (zn rfl b (fun b=>?_) (fun b=>?_)))
 refine ze (zf (vi 1) (z8 (qg ?_)));obtain rfl:=Option.some.inj b;refine zw (D:=[]) (J:=[]) (rs:=[.tmp 2]) (vs:=[(vi 1)]) k rfl rfl ⟨rfl,trivial⟩ ?_;exact⟨rfl,rfl⟩;refine zz ?_;obtain⟨s,a,b⟩:=zm b;refine qw (γ:=Unit) (rs [2,3,4,5,33,51]) (fun g=>[]) (fun g=>[]++A) (fun g R=>s=Ex.go g∧True) ?_ ?_
 refine ze (vz rfl dw bi rfl l fun aD Z=>?_);refine qj rfl z5c rfl Z fun aE t=>?_
 refine zk (qc rfl underlying30 rfl (ja t)) (za (vi 0) (z8 (zx (jl (γ:=Nat×Int) (rs [2,3,4,5,36,51]) (fun g=>[(36,(vi g.2))]) (fun g=>[]++A) (fun g R=>wm N m g.1 g.2=some s∧True) (fun g=>g.1) (N,0) prm ⟨a,trivial⟩ ?_))));clear a;rintro⟨o,e⟩ ah aF d ⟨a,_⟩;rcases o with _|o
 exact qp a;replace a:wm N m (o+1) e=some s:=a;rw [wm] at a;refine ze (zk (j6 rfl rfl) (z8 (zy (zn rfl a (fun a=>?_) (fun a=>?_)))));refine zz (zy (zx (ze ?_)));obtain⟨u,a⟩:=zb a
 refine ui (i:=e.toNat) rfl zjy rfl (ja (t.mono d)) (zg rfl u.1) (jb u) fun aG aa=>?_;refine qj rfl zht rfl aa fun p w=>?_;refine zf p (qo (uh (v:=p) rfl (zh rfl) (uh rfl (qc rfl underlying93 rfl (ja w)) (zlg rfl (au z1t z4c rfl (l.mono d)) fun aH ab=>?_))))
 refine uh rfl (cu (uw ty3 rfl ab)) (uh rfl (yf rfl rfl) (uh (v:=(.bool (decide ((↑(ix m.rows e).length:Int)≠m.inputs)))) rfl (zh rfl) (ky rfl rfl rfl rfl (fun c=>jh (v:=p) (zh rfl)) fun aI ac=>?_)))
 refine ky rfl rfl rfl rfl (fun c=>jh (v:=(.func (.func 135) #[] #[E])) (rf (fs:=[]) (cs:=[E]) rfl rfl)) fun aJ ad=>?_;obtain⟨ae,af,a⟩:=zm a
 refine za6 rfl rfl rfl rfl (fun c=>r9 (vs:=[p,(.func (.func 135) #[] #[E])]) zo4 (zfg (ac.1 (qd rfl c)) (zfg (ad.1 (qd rfl c)) rfl)) ((by have ag:=(z6h af (qd rfl c));exact z07 w (zcd (cs:=[E]) zox fun R1 hq z0 u0 y k0 hy=>by obtain rfl:=ny.1 k0;exact CallP.mono (z6a ((l.mono d).mono hq) hy) fun v R2 _ hv=>z0c.2 hv) ag)) (fun _ _ h=>h)) fun x z f j=>?_
 replace j:phG (true&&((decide ((↑(ix m.rows e).length:Int)≠m.inputs))==false)) (phX (.bool (ae.getD default))) x z:=j;refine uh rfl (ai rfl rfl (fun n=>(j.1 (qd rfl n)))) (z8 (zn rfl a (fun a=>?_) (fun a=>?_)));refine ze (zf (vi 1) (z8 (qg ?_)));replace b:=z1j a b;obtain rfl:=Option.some.inj b
 refine zw (D:=[]) (J:=[]) (rs:=[.tmp 2]) (vs:=[(vi 1)]) ((k.trans d).trans f) rfl rfl ⟨rfl,trivial⟩ ?_;exact⟨rfl,rfl⟩;refine zz (zu ?_);obtain⟨B,a⟩:=zb a;refine zk (jg rfl rfl B) (za (vi (e+1)) (z8 ?_));exact⟨dkt,f,kw,(o,e+1),Nat.lt_succ_self _,⟨rfl,trivial⟩,prm,a,trivial⟩
 refine ko ?_;exact⟨dkt,d,kw,(),trivial,prm,(Option.some.inj a).symm,trivial⟩;rintro aO aj aP C ⟨rfl,_⟩;replace b:=z2f b;refine ze (zf (vi 0) (z8 (qg ?_)));obtain rfl:=Option.some.inj b;refine zw (D:=[]) (J:=[]) (rs:=[.tmp 2]) (vs:=[(vi 0)]) (k.trans C) rfl rfl ⟨rfl,trivial⟩ ?_;exact⟨rfl,rfl⟩
theorem zlm:Enters prog 66:=enters_of func66 rfl (by kernel_rfl)
noncomputable def zv192:Value:=((prog.info? 192).bind fun i=>i.zero).getD undef
theorem zoz:zv192.cells=(([]:List Value)++(bu 4096 (fun _:Nat=>(Value.slice none 0 0))++([]:List Value))).toArray:=by kernel_rfl
theorem zmj: ∀ w,∃ z,(zeroValue 115).run prog w= .ok z w∧z.cells=([.pointer none]:List Value).toArray:=fun w=>⟨(.pointer none),by kernel_rfl,rfl⟩
theorem zn3: ∀ w,(sizeOf 115).run prog w= .ok 1 w:=fun w=>by kernel_rfl
theorem za3: ∀ w,∃ z,(zeroValue 3).run prog w= .ok z w∧z.cells=([.int .i64 0]:List Value).toArray:=fun w=>⟨(vi 0),by kernel_rfl,rfl⟩
theorem sz3: ∀ w,(sizeOf 3).run prog w= .ok 1 w:=fun w=>by kernel_rfl
theorem zov: ∀ w,∃ z,(zeroValue 50).run prog w= .ok z w∧z.cells=([.slice none 0 0]:List Value).toArray:=fun w=>⟨vs0,by kernel_rfl,rfl⟩
theorem z3n{N:Nat}{R:RH}{m:Mach}{a:Value}(d:VRep (vg false false) R a m){r:Mach}(b:mq N m=some r):CallP prog 67 #[a] R (fun v R'=> ∃ f,v= .func (.func 137) #[] #[f]∧PRep (vg false false) R' f r):=by
 refine qa (args:=[a]) func67 rfl rfl fun A=>?_;rw [mq] at b;refine ze (xy (T:=(vg false false)) rfl rfl rfl d fun c h e i g=>?_);refine zf .nilFunc (qo (zk (rf (fs:=[]) (cs:=[c]) rfl rfl) (zf (.func (.func 137) #[] #[c]) (z8 (qg ?_)))));obtain rfl:=Option.some.inj b
 refine zw (D:=[]) (J:=[]) (rs:=[.tmp 2]) (vs:=[(.func (.func 137) #[] #[c])]) e rfl rfl ⟨rfl,trivial⟩ ?_;exact⟨rfl,⟨c,rfl,g⟩⟩
theorem zok:Enters prog 67:=enters_of func67 rfl (by kernel_rfl)
theorem z2a{N:Nat}{R:RH}{p0_:Mach}{d:Value}(h:PRep (vg false false) R d p0_):zl6 prog 137 [d] R (fun(x:(Int×Int)) vs R=>vs=[(vi x.1),(vi x.2)])  (fun σ B s=>mf N p0_ σ B s):=by
 intro yv σ B I R1 O S P k T U a V W;refine l8 (args:=[yv,d]) func137 rfl rfl fun A=>?_;dsimp only at a;rw [mf] at a;refine ze (vz rfl dw bi rfl (h.mono k) fun v1 X=>?_);refine qj rfl z5c rfl X fun v3 Y=>?_
 refine zk (qc rfl underlying30 rfl (ja Y)) (za (vi 0) (z8 (zx (jl (γ:=Nat×σ×Int×(List Frag)) (rs [3,5,8,26]) (fun g=>[(8,(vi g.2.2.1))]) (fun g=>[]++(g.2.2.2++A)) (fun g R=>yx N σ B p0_ g.1 g.2.1 g.2.2.1=some P∧I g.2.1 R g.2.2.2∧True) (fun g=>g.1) (N,S,0,O) prm ⟨a,U,trivial⟩ ?_))));clear a
 rintro⟨C,Q,e,l⟩ Z R8 i ⟨a,m,_⟩;rcases C with _|C;exact qp a;replace a:yx N σ B p0_ (C+1) Q e=some P:=a;rw [yx] at a;refine ze (zk (j6 rfl rfl) (z8 (zy (zn rfl a (fun a=>?_) (fun a=>?_)))));refine zz ?_;obtain⟨t,b,a⟩:=zm a
 refine qw (γ:=σ×(List Frag)) (rs [3,5,10,25]) (fun g=>[]) (fun g=>[]++(g.2++A)) (fun g R=>t=Ex.go g.1∧I g.1 R g.2∧True) ?_ ?_;refine zx (ze (za (vi e) (zf (vi e) (qo (za (vi e) ?_)))));obtain⟨E,b⟩:=zb b
 refine zk (jg rfl rfl E) (zf (vi (e+1)) (z8 (zx (jl (γ:=Nat×σ×Int×(List Frag)) (rs [4,5,13,25]) (fun g=>[(4,(vi g.2.2.1))]) (fun g=>[]++(g.2.2.2++A)) (fun g R=>yz N σ B p0_ e g.1 g.2.1 g.2.2.1=some t∧I g.2.1 R g.2.2.2∧True) (fun g=>g.1) (N,Q,e+1,l) prm ⟨b,m,trivial⟩ ?_))));clear b
 rintro⟨j,u,c,n⟩ aa ab f ⟨b,o,_⟩;rcases j with _|j;exact qp b;replace b:yz N σ B p0_ e (j+1) u c=some t:=b;rw [yz] at b;refine zy (ze (za (vi c) (vz rfl dw bi rfl (h.mono ((k.trans i).trans f)) fun ac F=>?_)))
 refine qj rfl z5c rfl F fun ad G=>?_;refine zk (qc rfl underlying30 rfl (ja G)) (zk (j6 rfl rfl) (z8 (zn rfl b (fun b=>?_) (fun b=>?_))));refine zz (zy (zx (ze (za yv (za (vi e) (za (vi c) ?_))))));obtain⟨v,H,b⟩:=zm b
 refine zbw (vs:=[(vi e),(vi c)]) (J:=[]) (Oc:=n) (A:=A) rfl rfl rfl rfl (V (e,c) u v.1 v.2 _ _ [(vi e),(vi c)] (i.trans f) rfl o H) fun ae p q r=>?_;refine zk (z6l rfl) (z8 (zn rfl b (fun b=>?_) (fun b=>?_)));refine qg ?_;replace a:=z1j b a;obtain rfl:=Option.some.inj a
 refine l6 (D:=[]) (J:=[]) (O':=p) (rs:=[]) (vs:=[]) ((i.trans f).trans q) (List.Perm.refl _) rfl trivial ?_;exact r;refine zz (zu (za (vi c) ?_));obtain⟨K,b⟩:=zb b;refine zk (jg rfl rfl K) (zf (vi (c+1)) (z8 ?_))
 exact⟨dkt,q,kw,(j,v.2,c+1,p),Nat.lt_succ_self _,⟨rfl,trivial⟩,prm,b,r,trivial⟩;refine ko ?_;exact⟨dkt,f,kw,(u,n),trivial,prm,(Option.some.inj b).symm,o,trivial⟩;rintro⟨L,w⟩ af ag y ⟨rfl,z,_⟩;replace a:=z2f a;refine zu ?_;obtain⟨M,a⟩:=zb a
 refine zk (jg rfl rfl M) (za (vi (e+1)) (z8 ?_));exact⟨dkt,y,kw,(C,L,e+1,w),Nat.lt_succ_self _,⟨rfl,trivial⟩,prm,a,z,trivial⟩;refine ko ?_;show z8a _ _ _ _ _ .ret _ [] _ _;obtain rfl:=Option.some.inj a;refine l6 (D:=[]) (J:=[]) (O':=l) (rs:=[]) (vs:=[]) i (List.Perm.refl _) rfl trivial ?_;exact m
theorem zmw:Enters prog 137:=enters_of func137 rfl (by kernel_rfl)
theorem zdu: ∀ w,(isAgg 115).run prog w= .ok false w:=fun w=>by kernel_rfl
theorem zb0:ArrOk prog 192 64 64:=z6z (e:=114) underlying192 (fun w=>by kernel_rfl)
theorem zba:ArrOk prog 114 64 1:=z6z (e:=40) underlying114 (fun w=>by kernel_rfl)
theorem zdk: ∀ w,(isAgg 40).run prog w= .ok false w:=fun w=>by kernel_rfl
theorem zo3:ZeroOk prog 3 (zo .i64) (0:Int) 8:=by
 obtain⟨i,zv,hi,a,c,d,f⟩:=z08 (P:=prog) (e:=3) (zv:=(vi 0)) (k:=1) (b:=8) (by kernel_rfl);exact⟨i,zv,hi,a,c,d,fun R=>by subst f;exact rfl⟩
theorem zdd{a:Bool}:TyOk prog 40 (tSl a (zo .i64)):=by
 obtain⟨i,hi,b⟩: ∃ i,prog.info? 40=some i∧i.size=1:=jm (by kernel_rfl);exact mi underlying40 hi rfl b
theorem zhq{a:Bool}:SlOk prog 88 40 (tSl a (zo .i64)):=⟨underlying88,zdd⟩
theorem z0g:SlOk prog 40 3 (zo .i64):=⟨underlying40,ty3⟩
theorem zo9:Enters prog 218:=enters_of func218 rfl (by kernel_rfl)
theorem z5f{N:Nat}{R:RH}{n:Int}{r:(List Int)}(b:pz N n=some r):CallG prog 218 #[vs0,(vi n)] R [] (fun v R' O'=> ∃ u0_0 g0_0,v=u0_0∧O'=[g0_0]∧ORep (zo .i64) R' g0_0 u0_0 r):=by
 refine l8 (args:=[vs0,(vi n)]) func218 rfl rfl fun A=>?_;rw [pz] at b;refine ze (zf vs0 (z8 (zy (ze (za (vi n) (zk (j6 rfl rfl) (z8 (zn rfl b (fun b=>?_) (fun b=>?_)))))))));exact qp b;refine zz ?_;obtain⟨q,a,b⟩:=zm b
 refine qw (γ:=(List Int)×Value×Frag) (rs [0,2,8,26]) (fun g=>[(0,g.2.1)]) (fun g=>[g.2.2]++A) (fun g R=>q=g.1∧ORep (zo .i64) R g.2.2 g.2.1 g.1∧True) ?_ ?_;refine ze (za (vi n) (za vs0 (zk (zgl rfl underlying40 rfl) (za vs0 (zk (z8z rfl underlying40 rfl) ?_)))));obtain⟨t,a⟩:=zb a
 refine zk (z7d rfl rfl t) ?_;obtain⟨j,a⟩:=zb a;refine zk (z7d rfl rfl j) (zf (vi (n-((0:Int)-0))) (qo (za (vi (n-((0:Int)-0))) (zk (ow rfl rfl) (z8 (zn rfl a (fun a=>?_) (fun a=>?_)))))))
 refine zu (za vs0 (za vs0 (zk (zgl rfl underlying40 rfl) (zk (v:= .slice none 0 0) (zep (T:=(zo .i64)) (X:=[]) (lo:=0) (hi:=0) z0g rfl (z0z (R:=R)) (.inl ⟨rfl,rfl⟩) (.inr ⟨_,rfl⟩) (Nat.le_refl _) (Nat.le_refl _)) (za (vi (n-((0:Int)-0))) ?_)))));obtain⟨c,a⟩:=zb a
 refine zf3 (T:=(zo .i64)) (m:=(n-((0:Int)-0)).toNat) rfl underlying40 underlying3 zo3 rfl (zg rfl (Int.le_of_lt c.1)) (by have:=c.1;omega) (by decide) c.2.2 (by have:=c.2.1;omega) fun e k f=>?_;refine za vs0 (zk (z8z rfl underlying40 rfl) ?_);obtain⟨d,a⟩:=zb a
 refine zic (v:=e) (lo:=(0:Int).toNat) (hi:=(0:Int).toNat) (mx:=(capOf e)) rfl z0g rfl f (.inl ⟨rfl,rfl⟩) (.inr ⟨_,congrArg some (zg rfl (zb1 d))⟩) (.inl ⟨rfl,rfl⟩) (zeh d) (z8i d) (Nat.le_trans (z8i d) (zjl f)) (Nat.le_refl _) fun h l o=>?_;refine zf h (z8 ?_)
 exact⟨dkt,(RH.le.refl _),kw,((cut (mk (n-((0:Int)-0)) (0:Int)) 0 0),h,k),⟨rfl,trivial⟩,prm,(Option.some.inj a).symm,l,trivial⟩;refine z7m ?_;refine zz ?_;exact⟨dkt,(RH.le.refl _),kw,(([]:List Int),vs0,emp),⟨rfl,trivial⟩,prm,(Option.some.inj a).symm,(z0z (T:=(zo .i64))),trivial⟩;rintro⟨q,i,s⟩ u x p ⟨rfl,w,_⟩
 refine ze (za i (zf i (z8 (qg ?_))));obtain rfl:=Option.some.inj b;refine l6 (D:=[]) (J:=[]) (O':=[s]) (rs:=[.tmp 4]) (vs:=[i]) p ((pk 0 rfl (List.Perm.refl _))) rfl ⟨rfl,trivial⟩ ?_;exact⟨i,s,rfl,rfl,w⟩
theorem z5b{N:Nat}{R:RH}{slices:(List (List Int))}{b:Value}(c:VRep (tSl false (tSl false (zo .i64))) R b slices){r:(List Int)}(d:gq N slices=some r):CallP prog 174 #[b] R (fun v R'=>VRep (tSl false (zo .i64)) R' v r):=by
 refine qa (args:=[b]) func174 rfl rfl fun A=>?_;rw [gq] at d;refine ze (zf vs0 (qo (zf (vi 0) (z8 ?_))));obtain⟨p,a,d⟩:=zm d;refine qw (γ:=Int) (rs [3,4,5,6,9,23]) (fun g=>[(3,(vi g))]) (fun g=>[]++A) (fun g R=>p=g∧True) ?_ ?_
 refine ze (za b (zk (qc rfl underlying88 rfl (ja c)) (za (vi 0) (z8 (zx (jl (γ:=Nat×Int×Int) (rs [3,4,5,6,11,23]) (fun g=>[(3,(vi g.2.1)),(11,(vi g.2.2))]) (fun g=>[]++A) (fun g R=>wy N slices g.1 g.2.1 g.2.2=some p∧True) (fun g=>g.1) (N,0,0) prm ⟨a,trivial⟩ ?_))))))
 clear a;rintro⟨H,q,n⟩ ah R7 s ⟨a,_⟩;rcases H with _|H;exact qp a;replace a:wy N slices (H+1) q n=some p:=a;rw [wy] at a;refine ze (zk (j6 rfl rfl) (z8 (zy (zn rfl a (fun a=>?_) (fun a=>?_)))));refine zz (zy (zx (ze ?_)));obtain⟨t,a⟩:=zb a
 refine ui (i:=n.toNat) rfl zhq rfl (ja (c.mono s)) (zg rfl t.1) (jb t) fun ai I=>?_;refine qj rfl zdd rfl I fun u K=>?_;refine zf u (qo (za (vi q) (za u (zk (qc rfl underlying40 rfl (ja K)) ?_))));obtain⟨L,a⟩:=zb a
 refine zk (jg rfl rfl L) (zf (vi (q+(↑(ix slices n).length:Int))) (qo (za (vi (q+(↑(ix slices n).length:Int))) (zk (j6 rfl rfl) (z8 (zn rfl a (fun a=>?_) (fun a=>?_)))))));exact qp a;refine zz (zu ?_);obtain⟨M,a⟩:=zb a;refine zk (jg rfl rfl M) (za (vi (n+1)) (z8 ?_))
 exact⟨dkt,(RH.le.refl _),kw,(H,q+(↑(ix slices n).length:Int),n+1),Nat.lt_succ_self _,⟨rfl,rfl,trivial⟩,prm,a,trivial⟩;refine ko ?_;exact⟨dkt,s,kw,q,⟨rfl,trivial⟩,prm,(Option.some.inj a).symm,trivial⟩;rintro p aj R2 o ⟨rfl,_⟩;refine ze (za (vi p) ?_);obtain⟨O,P,d⟩:=zm d
 refine za8 (Oc:=[]) (Or:=[]++A) (cs:=[]) (vs:=[vs0,(vi p)]) rfl zo9 rfl rfl ((List.Perm.refl _)) (z5f  P) fun w ak ag f Q=>?_;obtain⟨_,S,rfl,rfl,T⟩:=Q;refine zf w (z8 ?_);obtain⟨h,a,d⟩:=zm d
 refine qw (γ:=(List Int)×Value×Frag) (rs [6,7,8,9,25,35]) (fun g=>[(6,g.2.1)]) (fun g=>[g.2.2]++A) (fun g R=>h=g.1∧ORep (zo .i64) R g.2.2 g.2.1 g.1∧True) ?_ ?_
 refine ze (za b (zk (qc rfl underlying88 rfl (ja (c.mono (o.trans f)))) (za (vi 0) (z8 (zx (jl (γ:=Nat×Int×(List Int)×Value×Frag) (rs [6,7,8,9,27,35]) (fun g=>[(6,g.2.2.2.1),(27,(vi g.2.1))]) (fun g=>[g.2.2.2.2]++A) (fun g R=>wz N slices g.1 g.2.1 g.2.2.1=some h∧ORep (zo .i64) R g.2.2.2.2 g.2.2.2.1 g.2.2.1∧True) (fun g=>g.1) (N,0,O,w,S) prm ⟨a,T,trivial⟩ ?_))))))
 clear a;rintro⟨j,e,k,x,U⟩ al am m ⟨a,y,_⟩;rcases j with _|j;exact qp a;replace a:wz N slices (j+1) e k=some h:=a;rw [wz] at a;refine ze (zk (j6 rfl rfl) (z8 (zy (zn rfl a (fun a=>?_) (fun a=>?_)))));refine zz (zy (zx (ze ?_)))
 obtain⟨z,a⟩:=zb a;refine ui (i:=e.toNat) rfl zhq rfl (ja (c.mono ((o.trans f).trans m))) (zg rfl z.1) (jb z) fun an V=>?_;refine qj rfl zdd rfl V fun B W=>?_;refine zf B (z8 (zu (za x (za B ?_))));obtain⟨C,a⟩:=zb a
 refine l7 (i:=0) (X:=k) (Y:=(ix slices e)) rfl underlying40 zo3 rfl rfl rfl y (ja W) C.1 C.2 fun E Z aa=>?_;refine zf E (z8 (zu ?_));obtain⟨ab,a⟩:=zb a;refine zk (jg rfl rfl ab) (za (vi (e+1)) (z8 ?_))
 exact⟨dkt,(RH.le.refl _),kw,(j,e+1,(k++(ix slices e)),E,Z),Nat.lt_succ_self _,⟨rfl,rfl,trivial⟩,prm,a,aa,trivial⟩;refine ko ?_;exact⟨dkt,m,kw,(k,x,U),⟨rfl,trivial⟩,prm,(Option.some.inj a).symm,y,trivial⟩;rintro⟨h,l,ao⟩ ap aq F ⟨rfl,ac,_⟩
 refine ze (za l (zf l (z8 (nk (i:=0) rfl ac fun ad G ae=>?_))));have af:VRep (tSl false (zo .i64)) ad l h:=(zcz ae);refine qg ?_;obtain rfl:=Option.some.inj d;refine zw (D:=[]) (J:=[]) (rs:=[.tmp 2]) (vs:=[l]) (((o.trans f).trans F).trans G) rfl rfl ⟨rfl,trivial⟩ ?_;exact⟨rfl,af⟩
theorem zpi{a:Bool}:ZeroOk prog 40 (tSl a (zo .i64)) ([]:List Int) 24:=by
 obtain⟨i,zv,hi,c,d,f,g⟩:=z08 (P:=prog) (e:=40) (zv:=vs0) (k:=1) (b:=24) (by kernel_rfl);exact⟨i,zv,hi,c,d,f,fun R=>by subst g;exact(pg rfl su)⟩
theorem zoc:Enters prog 174:=enters_of func174 rfl (by kernel_rfl)
theorem z1d{N:Nat}{R:RH}{s:(List Int)}{a:Value}(b:VRep (tSl false (zo .i64)) R a s){r:(List Int)}(c:gy N s=some r):CallP prog 54 #[a] R (fun v R'=>VRep (tSl true (zo .i64)) R' v r):=by
 refine qa (args:=[a]) func54 rfl rfl fun A=>?_;rw [gy] at c;refine ze (zf vs0 (qo (za a (za a (zk (qc rfl underlying40 rfl (ja b)) (za a (zk (qc rfl underlying40 rfl (ja b)) ?_)))))));obtain⟨d,c⟩:=zb c
 refine zbr (v:=a) (lo:=(0:Int).toNat) (hi:=(↑s.length:Int).toNat) (mx:=(↑s.length:Int).toNat) rfl z0g rfl (ja b) (.inl ⟨rfl,rfl⟩) (.inr ⟨_,congrArg some (zg rfl (zb1 d))⟩) (.inr ⟨_,congrArg some (zg rfl (zb1 d))⟩) (zeh d) (z8i d) (Nat.le_refl _) (Nat.le_trans (z8i d) (zp5 (ja b))) (X':=(cut s 0 (↑s.length:Int))) rfl fun f g e=>?_
 have h:VRep (tSl true (zo .i64)) R f (cut s 0 (↑s.length:Int)):=z1u g (e.trans (zh4 d).symm);refine zf f (z8 (qg ?_));obtain rfl:=Option.some.inj c;refine zw (D:=[]) (J:=[]) (rs:=[.tmp 2]) (vs:=[f]) (RH.le.refl _) rfl rfl ⟨rfl,trivial⟩ ?_;exact⟨rfl,h⟩
theorem zoa:Enters prog 54:=enters_of func54 rfl (by kernel_rfl)
theorem z5e{N:Nat}{R:RH}{m:Mach}{O:Value}(aJ:VRep (vg false false) R O m){s:Int}{t:Int}{n:Int}{j:Nat}{fC:(List (List Int))}{b:Nat→Value}(y:AG (tNz false (zo .i64)) R 4096 b fC){r:(List Int)}(u:gu N m s t n fC=some r):CallG prog 117 #[(.pointer (some ⟨j,0,none⟩)),O,(vi s),(vi t),(vi n)] R [box j (([]:List Value)++(bu 4096 b++([]:List Value))) 192] (fun v R' O'=> ∃ u0,v=u0∧O'=[box j (([]:List Value)++(bu 4096 b++([]:List Value))) 192]∧VRep (tNz true (zo .i64)) R' u0 r):=by
 refine l8 (args:=[(.pointer (some ⟨j,0,none⟩)),O,(vi s),(vi t),(vi n)]) func117 rfl rfl fun A=>?_;rw [gu] at u;refine ze (xy (T:=(vg false false)) rfl rfl rfl aJ fun v1 R3 G h5 h2=>?_);refine zf vs0 (z8 (zke (fun _ _ _ _ _ h=>h) ?_))
 refine ze (zf vs0 (z8 (zy (zjg ?_))));obtain⟨o6,d,u⟩:=zm u;refine qw (γ:=((List Int))×Value) (rs [11,79]) (fun g=>[(11,g.2)]) (fun g=>[box j (([]:List Value)++(bu 4096 b++([]:List Value))) 192]++A) (fun g R=>o6=g.1∧VRep (tSl false (zo .i64)) R g.2 g.1∧True) ?_ ?_
 refine ze (vz rfl dw bi rfl h2 fun b2 aK=>?_);refine qj rfl z5c rfl aK fun b3 aL=>?_;refine za (vi s) ?_;obtain⟨Y,d⟩:=zb d;refine ui (i:=s.toNat) rfl zjy rfl (ja aL) (zg rfl Y.1) (jb Y) fun b4 aM=>?_;refine qj rfl zht rfl aM fun b5 Z=>?_
 refine zk (qc rfl underlying93 rfl (ja Z)) (za (vi 0) (z8 (zx (jl (γ:=Nat×Int) (rs [11,15,21,79]) (fun g=>[(11,vs0),(21,(vi g.2))]) (fun g=>[box j (([]:List Value)++(bu 4096 b++([]:List Value))) 192]++A) (fun g R=>u7 N m s t n fC g.1 g.2=some o6∧True) (fun g=>g.1) (N,0) prm ⟨d,trivial⟩ ?_))))
 clear d;rintro⟨L,a⟩ bn b6 q ⟨d,_⟩;rcases L with _|L;exact qp d;replace d:u7 N m s t n fC (L+1) a=some o6:=d;rw [u7] at d;refine ze (zk (j6 rfl rfl) (z8 (zy (zn rfl d (fun d=>?_) (fun d=>?_)))));refine zz (zy (zx (ze (za (vi a) ?_))))
 obtain⟨aa,d⟩:=zb d;refine ui (i:=a.toNat) rfl zjf rfl (ja (Z.mono q)) (zg rfl aa.1) (jb aa) fun b7 aN=>?_;refine qj rfl zd2 rfl aN fun b8 aO=>?_;obtain rfl:=ny.1 aO;refine wu rfl zkx fun z=>?_
 refine zf (vi a) (uo (i:=0) (vs:=[(vi ((ix (ix m.rows s) a).to)),(vi ((ix (ix m.rows s) a).out))]) zg5 rfl rfl rfl rfl rfl rfl (qh rfl (qh rfl uq)) ?_);refine qo (vz rfl dw bi rfl (h2.mono q) fun b9 aP=>?_);refine qj rfl z5c rfl aP fun ca aQ=>?_;refine za (vi t) ?_
 obtain⟨ab,d⟩:=zb d;refine ui (i:=t.toNat) rfl zjy rfl (ja aQ) (zg rfl ab.1) (jb ab) fun cb aR=>?_;refine qj rfl zht rfl aR fun cc aS=>?_;refine za (vi a) ?_;obtain⟨ac,d⟩:=zb d;refine ui (i:=a.toNat) rfl zjf rfl (ja aS) (zg rfl ac.1) (jb ac) fun cd aT=>?_
 refine qj rfl zd2 rfl aT fun ce aU=>?_;obtain rfl:=ny.1 aU;refine wu rfl zkx fun F=>?_;refine uo (i:=0) (vs:=[(vi ((ix (ix m.rows t) a).to)),(vi ((ix (ix m.rows t) a).out))]) zg5 rfl rfl rfl rfl rfl rfl (qh rfl (qh rfl uq)) ?_
 refine z8 (zx (ze (zk (jd z7h rfl) (zk (q9 (i:=1) ag3 rfl rfl rfl) (zk (jd z7h rfl) (zk (q9 (i:=0) ag3 rfl rfl rfl) (zk (yf rfl rfl) (zf (.bool (decide (((ix (ix m.rows s) a).out)≠((ix (ix m.rows t) a).out)))) (z8 (zn rfl d (fun d=>?_) (fun d=>?_)))))))))))
 refine ze (za (vi a) (z4o (T:=(zo .i64)) (X:=([a]:List Int)) (ps:=[(0,(vi a))]) (css:=[[(vi a)]]) rfl underlying40 zo3 rfl rfl (o9 ⟨rfl,trivial⟩) rfl rfl (by decide) fun P ad Q aV=>?_));refine zf P (z8 (nk (i:=0) rfl aV fun aW ae aX=>?_))
 have aY:VRep (tSl true (zo .i64)) aW P ([a]:List Int):=(z1u aX Q);refine ko ?_
 exact⟨dkt,(q.trans ae),kw,(([a]:List Int),P),⟨rfl,trivial⟩,⟨[box F [(vi ((ix (ix m.rows t) a).to)),(vi ((ix (ix m.rows t) a).out))] 27,box z [(vi ((ix (ix m.rows s) a).to)),(vi ((ix (ix m.rows s) a).out))] 27],(List.Perm.refl _)⟩,(Option.some.inj d).symm,(Sub.v (B:=(tSl false (zo .i64))) (yu Sub.refl (fun _=>rfl)) aY),trivial⟩
 refine zy ?_;obtain⟨H,S,aZ,d⟩:=ziw d
 refine z16 23 [] [phX (vi n),phX (.bool (decide (1<n))),phX (.bool (decide (1<n))),phG (true&&((decide (1<n))==true)) (phX (.pointer (some ⟨z,0,none⟩))),phG (true&&((decide (1<n))==true)) (phX (vi ((ix (ix m.rows s) a).to))),phG (true&&((decide (1<n))==true)) (phX (.bool (decide (((ix (ix m.rows s) a).to)≠(-1))))),phX (.bool ((decide (1<n))&&(decide (((ix (ix m.rows s) a).to)≠(-1))))),phX (.bool ((decide (1<n))&&(decide (((ix (ix m.rows s) a).to)≠(-1))))),phG (true&&(((decide (1<n))&&(decide (((ix (ix m.rows s) a).to)≠(-1))))==true)) (phX (.pointer (some ⟨j,0,none⟩))),phG (true&&(((decide (1<n))&&(decide (((ix (ix m.rows s) a).to)≠(-1))))==true)) (phX (.pointer (some ⟨z,0,none⟩))),phG (true&&(((decide (1<n))&&(decide (((ix (ix m.rows s) a).to)≠(-1))))==true)) (phX (vi ((ix (ix m.rows s) a).to))),phG (true&&(((decide (1<n))&&(decide (((ix (ix m.rows s) a).to)≠(-1))))==true)) (phX (.pointer (some ⟨F,0,none⟩))),phG (true&&(((decide (1<n))&&(decide (((ix (ix m.rows s) a).to)≠(-1))))==true)) (phX (vi ((ix (ix m.rows t) a).to))),phG (true&&(((decide (1<n))&&(decide (((ix (ix m.rows s) a).to)≠(-1))))==true)) (phX (.pointer (some ⟨j,0,none⟩))),phG (true&&(((decide (1<n))&&(decide (((ix (ix m.rows s) a).to)≠(-1))))==true)) (phX (.pointer (some ⟨j,0+((ix (ix m.rows s) a).to).toNat*64,none⟩))),phG (true&&(((decide (1<n))&&(decide (((ix (ix m.rows s) a).to)≠(-1))))==true)) (phX (.pointer (some ⟨j,0+(i2 ((ix (ix m.rows s) a).to) ((ix (ix m.rows t) a).to)).toNat*1,none⟩))),phG (true&&(((decide (1<n))&&(decide (((ix (ix m.rows s) a).to)≠(-1))))==true)) (phX (b ((i2 ((ix (ix m.rows s) a).to) ((ix (ix m.rows t) a).to)).toNat))),phG (true&&(((decide (1<n))&&(decide (((ix (ix m.rows s) a).to)≠(-1))))==true)) (phX (vi (↑(ix fC (i2 ((ix (ix m.rows s) a).to) ((ix (ix m.rows t) a).to))).length:Int))),phG (true&&(((decide (1<n))&&(decide (((ix (ix m.rows s) a).to)≠(-1))))==true)) (phX (vi n)),phG (true&&(((decide (1<n))&&(decide (((ix (ix m.rows s) a).to)≠(-1))))==true)) (phX (vi (n-1))),phG (true&&(((decide (1<n))&&(decide (((ix (ix m.rows s) a).to)≠(-1))))==true)) (phX (.bool (decide ((↑(ix fC (i2 ((ix (ix m.rows s) a).to) ((ix (ix m.rows t) a).to))).length:Int)=(n-1))))),phX (.bool (((decide (1<n))&&(decide (((ix (ix m.rows s) a).to)≠(-1))))&&(decide ((↑(ix fC (i2 ((ix (ix m.rows s) a).to) ((ix (ix m.rows t) a).to))).length:Int)=(n-1))))),phX (.bool (((decide (1<n))&&(decide (((ix (ix m.rows s) a).to)≠(-1))))&&(decide ((↑(ix fC (i2 ((ix (ix m.rows s) a).to) ((ix (ix m.rows t) a).to))).length:Int)=(n-1)))))] mixed (by kernel_rfl) (z0f ⟨zt,zt,zt,(uu zt),(uu zt),(uu zt),zt,zt,(uu zt),(uu zt),(uu zt),(uu zt),(uu zt),(uu zt),(uu zt),(uu zt),(uu zt),(uu zt),(uu zt),(uu zt),(uu zt),zt,zt,trivial⟩) ⟨?_,?_,?_,?_,?_,?_,?_,?_,?_,?_,?_,?_,?_,?_,?_,?_,?_,?_,?_,?_,?_,?_,?_,trivial⟩ fun cf C=>?_
 intro l a0 c f hd;exact zl rfl rfl rfl (zq (zh (f 4 rfl)));rintro l a1 c f ⟨e,_⟩;exact zl rfl rfl rfl (zq (ow (e rfl) rfl));rintro l a2 c f ⟨e,_⟩;exact zl rfl rfl rfl (zq (zh (e rfl)));rintro l a3 c f ⟨e,_⟩
 exact qf (Gj:=true) (Bj:=decide (1<n)) rfl rfl rfl (ng (e rfl)) rfl (fun w o=>zq (jd z1v (f 13 rfl)));rintro l a4 c f ⟨e,p,_⟩;exact qf (Gj:=true) (Bj:=decide (1<n)) rfl rfl rfl (ng (p rfl)) rfl (fun w o=>zq (q9 (i:=1) ag3 (show l 46=(.pointer (some ⟨z,0,none⟩)) from(e rfl).1 (qd rfl o)) rfl rfl))
 rintro l a5 c f ⟨e,p,_⟩;exact qf (Gj:=true) (Bj:=decide (1<n)) rfl rfl rfl (ng (p rfl)) rfl (fun w o=>zq (yf (show l 47=(vi ((ix (ix m.rows s) a).to)) from(e rfl).1 (qd rfl o)) rfl));rintro l a6 c f ⟨e,p,_⟩
 exact zl rfl rfl rfl (zq (z0i (e rfl) (fun hb=>(show l 48=(.bool (decide (((ix (ix m.rows s) a).to)≠(-1)))) from(p rfl).1 (qd rfl hb))) rfl));rintro l a8 c f ⟨e,p,_⟩;exact zl rfl rfl rfl (zq (zh (e rfl)));rintro l a9 c f ⟨e,_⟩
 exact qf (Gj:=true) (Bj:=(decide (1<n))&&(decide (((ix (ix m.rows s) a).to)≠(-1)))) rfl rfl rfl (ng (e rfl)) rfl (fun w o=>zq (zh (f 0 rfl)));rintro l ba c f ⟨e,_⟩;exact qf (Gj:=true) (Bj:=(decide (1<n))&&(decide (((ix (ix m.rows s) a).to)≠(-1)))) rfl rfl rfl (ng (e rfl)) rfl (fun w o=>zq (jd z1v (f 13 rfl)))
 rintro l af c f ⟨e,p,_⟩;exact qf (Gj:=true) (Bj:=(decide (1<n))&&(decide (((ix (ix m.rows s) a).to)≠(-1)))) rfl rfl rfl (ng (p rfl)) rfl (fun w o=>zq (q9 (i:=1) ag3 (show l 52=(.pointer (some ⟨z,0,none⟩)) from(e rfl).1 (qd rfl o)) rfl rfl));rintro l M c f ⟨e,_⟩
 exact qf (Gj:=true) (Bj:=(decide (1<n))&&(decide (((ix (ix m.rows s) a).to)≠(-1)))) rfl rfl rfl (ng (e rfl)) rfl (fun w o=>zq (jd z1v (f 14 rfl)));rintro l ag c f ⟨e,p,_⟩
 exact qf (Gj:=true) (Bj:=(decide (1<n))&&(decide (((ix (ix m.rows s) a).to)≠(-1)))) rfl rfl rfl (ng (p rfl)) rfl (fun w o=>zq (q9 (i:=0) ag3 (show l 54=(.pointer (some ⟨F,0,none⟩)) from(e rfl).1 (qd rfl o)) rfl rfl));rintro l ah c f ⟨e,p,_⟩
 exact qf (Gj:=true) (Bj:=(decide (1<n))&&(decide (((ix (ix m.rows s) a).to)≠(-1)))) rfl rfl rfl (ng (p rfl)) rfl (fun w o=>zq (ll (show l 51=(.pointer (some ⟨j,0,none⟩)) from(e rfl).1 (qd rfl o))));rintro l bo c f ⟨e,p,W,_⟩
 exact qf (Gj:=true) (Bj:=(decide (1<n))&&(decide (((ix (ix m.rows s) a).to)≠(-1)))) rfl rfl rfl (ng (W rfl)) rfl (fun w o=>zq (bv (i:=((ix (ix m.rows s) a).to).toNat) zb0 (show l 56=(.pointer (some ⟨j,0,none⟩)) from(e rfl).1 (qd rfl o)) (zg (show l 53=(vi ((ix (ix m.rows s) a).to)) from(p rfl).1 (qd rfl o)) (H (qd w o)).1) (aj (H (qd w o)))))
 rintro l bp c f ⟨e,p,W,_⟩
 exact qf (Gj:=true) (Bj:=(decide (1<n))&&(decide (((ix (ix m.rows s) a).to)≠(-1)))) rfl rfl rfl (ng (W rfl)) rfl (fun w o=>zq (z09 (s:=(ix (ix m.rows s) a).to) (t:=(ix (ix m.rows t) a).to) zba (show l 57=(.pointer (some ⟨j,0+((ix (ix m.rows s) a).to).toNat*64,none⟩)) from(e rfl).1 (qd rfl o)) (show l 55=(vi ((ix (ix m.rows t) a).to)) from(p rfl).1 (qd rfl o)) (H (qd w o)) (S (qd w o))))
 rintro l bq c f ⟨e,p,_⟩
 exact qf (Gj:=true) (Bj:=(decide (1<n))&&(decide (((ix (ix m.rows s) a).to)≠(-1)))) rfl rfl rfl (ng (p rfl)) rfl (fun w o=>zq (z7l (i:=2) (k:=(i2 ((ix (ix m.rows s) a).to) ((ix (ix m.rows t) a).to)).toNat) (g:=b) [] [] zdk (show l 58=(.pointer (some ⟨j,0+(i2 ((ix (ix m.rows s) a).to) ((ix (ix m.rows t) a).to)).toNat*1,none⟩)) from(e rfl).1 (qd rfl o)) rfl rfl (aj (zat (H (qd w o)) (S (qd w o))))))
 rintro l br c f ⟨e,p,_⟩
 exact qf (Gj:=true) (Bj:=(decide (1<n))&&(decide (((ix (ix m.rows s) a).to)≠(-1)))) rfl rfl rfl (ng (p rfl)) rfl (fun w o=>zq (qc rfl underlying40 (show l 59=(b ((i2 ((ix (ix m.rows s) a).to) ((ix (ix m.rows t) a).to)).toNat)) from(e rfl).1 (qd rfl o)) (ja ((z2c ((y.mono (G.trans q)).2 _ (aj (zat (H (qd w o)) (S (qd w o))))).1).mono c))))
 rintro l bs c f ⟨e,_⟩;exact qf (Gj:=true) (Bj:=(decide (1<n))&&(decide (((ix (ix m.rows s) a).to)≠(-1)))) rfl rfl rfl (ng (e rfl)) rfl (fun w o=>zq (zh (f 4 rfl)));rintro l bt c f ⟨e,p,_⟩
 exact qf (Gj:=true) (Bj:=(decide (1<n))&&(decide (((ix (ix m.rows s) a).to)≠(-1)))) rfl rfl rfl (ng (p rfl)) rfl (fun w o=>zq (z7d (show l 61=(vi n) from(e rfl).1 (qd rfl o)) rfl (aZ (qd w o))));rintro l bw c f ⟨e,p,W,_⟩
 exact qf (Gj:=true) (Bj:=(decide (1<n))&&(decide (((ix (ix m.rows s) a).to)≠(-1)))) rfl rfl rfl (ng (W rfl)) rfl (fun w o=>zq (z1g (show l 60=(vi (↑(ix fC (i2 ((ix (ix m.rows s) a).to) ((ix (ix m.rows t) a).to))).length:Int)) from(e rfl).1 (qd rfl o)) (show l 62=(vi (n-1)) from(p rfl).1 (qd rfl o))))
 rintro l bx c f ⟨e,p,_⟩;have ad:=e rfl;exact zl rfl rfl rfl (zq (z0i ad (fun hb=>(show l 63=(.bool (decide ((↑(ix fC (i2 ((ix (ix m.rows s) a).to) ((ix (ix m.rows t) a).to))).length:Int)=(n-1)))) from(p rfl).1 (qd rfl hb))) rfl));rintro l bz c f ⟨e,p,_⟩;exact zl rfl rfl rfl (zq (bf (e rfl)))
 intro cg bb ch bc ci be cj ck cl cm cn co cp bg cq bh cr cs ct cu cv cw cx cy cz cA cB cC cD cE cF cG cH cI cJ cK cL bA bB bC bD bE bF ai bG ak;obtain rfl:=Eq.symm bb;obtain rfl:=Eq.symm bc;obtain rfl:=Eq.symm be;obtain rfl:=Eq.symm bg;obtain rfl:=Eq.symm bh;obtain rfl:=Eq.symm ai;obtain rfl:=Eq.symm ak
 refine z8 (zn rfl d (fun d=>?_) (fun d=>?_));refine zy ?_;obtain⟨x,E,d⟩:=zka d;obtain⟨I,al,d⟩:=zm d
 refine z16 14 [] [phX (vi a),phR (tSl true (zo .i64)) ([a]:List Int),phX (.pointer (some ⟨j,0,none⟩)),phX (.pointer (some ⟨z,0,none⟩)),phX (vi ((ix (ix m.rows s) a).to)),phX (.pointer (some ⟨F,0,none⟩)),phX (vi ((ix (ix m.rows t) a).to)),phX (.pointer (some ⟨j,0,none⟩)),phX (.pointer (some ⟨j,0+((ix (ix m.rows s) a).to).toNat*64,none⟩)),phX (.pointer (some ⟨j,0+(i2 ((ix (ix m.rows s) a).to) ((ix (ix m.rows t) a).to)).toNat*1,none⟩)),phX (b ((i2 ((ix (ix m.rows s) a).to) ((ix (ix m.rows t) a).to)).toNat)),phR (tSl true (tSl false (zo .i64))) ([([a]:List Int),(ix fC (i2 ((ix (ix m.rows s) a).to) ((ix (ix m.rows t) a).to)))]:List (List Int)),phR (tSl false (zo .i64)) I,phR (tSl false (zo .i64)) I] mixed (by kernel_rfl) (z0f ⟨zt,z1q,zt,zt,zt,zt,zt,zt,zt,zt,zt,z1q,z1q,z1q,trivial⟩) ⟨?_,?_,?_,?_,?_,?_,?_,?_,?_,?_,?_,?_,?_,?_,trivial⟩ fun bH U=>?_
 intro l a0 c f hd;exact zl rfl rfl rfl (zq (zh (f 12 rfl)));rintro l a1 c f ⟨e,_⟩;have bj:l 65=(vi a):=e rfl
 exact zl rfl rfl rfl (zch (T:=(zo .i64)) (X:=([a]:List Int)) (ps:=[(0,(vi a))]) (css:=[[(vi a)]]) underlying40 zo3 (by simp only [List.map,ev,bj]<;>rfl) rfl (o9 ⟨rfl,trivial⟩) rfl rfl (by decide));intro l a2 c f hd;exact zl rfl rfl rfl (zq (zh (f 0 rfl)));intro l a3 c f hd
 exact zl rfl rfl rfl (zq (jd z1v (f 13 rfl)));rintro l a4 c f ⟨e,_⟩;exact zl rfl rfl rfl (zq (q9 (i:=1) ag3 (e rfl) rfl rfl));intro l a5 c f hd;exact zl rfl rfl rfl (zq (jd z1v (f 14 rfl)));rintro l a6 c f ⟨e,_⟩;exact zl rfl rfl rfl (zq (q9 (i:=0) ag3 (e rfl) rfl rfl))
 rintro l a8 c f ⟨e,_⟩;exact zl rfl rfl rfl (zq (ll (e rfl)));rintro l a9 c f ⟨e,p,_⟩;exact zl rfl rfl rfl (zq (bv (i:=((ix (ix m.rows s) a).to).toNat) zb0 (e rfl) (zg (p rfl) x.1) (aj x)));rintro l ba c f ⟨e,p,_⟩
 exact zl rfl rfl rfl (zq (z09 (s:=(ix (ix m.rows s) a).to) (t:=(ix (ix m.rows t) a).to) zba (e rfl) (p rfl) x E));rintro l af c f ⟨e,_⟩;exact zl rfl rfl rfl (zq (z7l (i:=2) (k:=(i2 ((ix (ix m.rows s) a).to) ((ix (ix m.rows t) a).to)).toNat) (g:=b) [] [] zdk (e rfl) rfl rfl (aj (zat x E))))
 rintro l M c f ⟨e,p,_⟩;have am:phR (tSl true (zo .i64)) ([a]:List Int) (l 66) M:=e rfl;have bk:l 75=(b ((i2 ((ix (ix m.rows s) a).to) ((ix (ix m.rows t) a).to)).toNat)):=p rfl
 exact zl rfl rfl rfl (zch (T:=(tSl false (zo .i64))) (X:=([([a]:List Int),(ix fC (i2 ((ix (ix m.rows s) a).to) ((ix (ix m.rows t) a).to)))]:List (List Int))) (ps:=[(0,(l 66)),(1,(b ((i2 ((ix (ix m.rows s) a).to) ((ix (ix m.rows t) a).to)).toNat)))]) (css:=[[(l 66)],[(b ((i2 ((ix (ix m.rows s) a).to) ((ix (ix m.rows t) a).to)).toNat))]]) underlying88 zpi (by simp only [List.map,ev,bk]<;>rfl) (by simp only [List.map_cons,List.map_nil,z06 (Sub.v (B:=(tSl false (zo .i64))) (yu Sub.refl (fun _=>rfl)) am),z06 ((z2c ((y.mono ((G.trans q).trans C)).2 _ (aj (zat x E))).1).mono c)];rfl) (o9 ⟨(pg rfl (Sub.v (B:=(tSl false (zo .i64))) (yu Sub.refl (fun _=>rfl)) am)),(pg rfl ((z2c ((y.mono ((G.trans q).trans C)).2 _ (aj (zat x E))).1).mono c)),trivial⟩) rfl rfl (by decide))
 rintro l ag c f ⟨e,_⟩;exact zl rfl rfl rfl (r9 (vs:=[(l 76)]) zoc rfl (z5b (Sub.v (B:=(tSl false (tSl false (zo .i64)))) (yu Sub.refl (fun _=>rfl)) (e rfl)) al) (fun _ _ h=>h));rintro l ah c f ⟨e,p,W,d3,d4,d5,d6,d7,d8,d9,cM,cN,cO,cP,cQ,_⟩;exact zl rfl rfl rfl (zcm (bf rfl) (e rfl))
 intro bI an bJ bK bL ao bM ap bN aq bO ar bP au bQ av bR aw bS ax bT ay bU bV bW bX az aA;obtain rfl:=Eq.symm an;obtain rfl:=Eq.symm ao;obtain rfl:=Eq.symm ap;obtain rfl:=Eq.symm aq;obtain rfl:=Eq.symm ar;obtain rfl:=Eq.symm au;obtain rfl:=Eq.symm av;obtain rfl:=Eq.symm aw;obtain rfl:=Eq.symm ax
 obtain rfl:=Eq.symm ay;refine z8 (ko ?_);exact⟨dkt,((q.trans C).trans U),kw,(I,az),⟨rfl,trivial⟩,⟨[box F [(vi ((ix (ix m.rows t) a).to)),(vi ((ix (ix m.rows t) a).out))] 27,box z [(vi ((ix (ix m.rows s) a).to)),(vi ((ix (ix m.rows s) a).out))] 27],(List.Perm.refl _)⟩,(Option.some.inj d).symm,aA,trivial⟩
 refine zz (zu ?_);obtain⟨aB,d⟩:=zb d;refine zk (jg rfl rfl aB) (za (vi (a+1)) (z8 ?_))
 exact⟨dkt,C,kw,(L,a+1),Nat.lt_succ_self _,⟨rfl,rfl,trivial⟩,⟨[box F [(vi ((ix (ix m.rows t) a).to)),(vi ((ix (ix m.rows t) a).out))] 27,box z [(vi ((ix (ix m.rows s) a).to)),(vi ((ix (ix m.rows s) a).out))] 27],(List.Perm.refl _)⟩,d,trivial⟩;refine ko ?_
 exact⟨dkt,q,kw,(([]:(List Int)),vs0),⟨rfl,trivial⟩,prm,(Option.some.inj d).symm,su,trivial⟩;rintro⟨o6,v9⟩ bZ R7 aC ⟨rfl,aD,_⟩;refine zy (ze (za v9 (zk (qc rfl underlying40 rfl (ja aD)) (za (vi n) (zk (yf rfl rfl) (z8 (zn rfl u (fun u=>?_) (fun u=>?_))))))))
 refine ze (zf vs0 (z8 (qg ?_)));obtain rfl:=Option.some.inj u;refine l6 (D:=[]) (J:=[]) (O':=[box j (([]:List Value)++(bu 4096 b++([]:List Value))) 192]) (rs:=[.tmp 10]) (vs:=[vs0]) (G.trans aC) ((pk 0 rfl (List.Perm.refl _))) rfl ⟨rfl,trivial⟩ ?_;exact⟨vs0,rfl,rfl,zkd⟩
 refine zz (ze (za v9 ?_));obtain⟨b0,aE,u⟩:=zm u;refine j4 rfl zoa rfl (z1d aD aE) fun K b1 V aF=>?_;refine zf K (z8 (qg ?_));obtain⟨aG,u⟩:=zb u;obtain rfl:=Option.some.inj u
 refine l6 (D:=[]) (J:=[]) (O':=[box j (([]:List Value)++(bu 4096 b++([]:List Value))) 192]) (rs:=[.tmp 10]) (vs:=[K]) ((G.trans aC).trans V) ((pk 0 rfl (List.Perm.refl _))) rfl ⟨rfl,trivial⟩ ?_;exact⟨K,rfl,rfl,(z2z aF aG)⟩
end GV
end Go.Proofs.YtkkcidhcfkmbjaaGreatDoor
