import Derived.Test.YtdhccodneoebpaaShWe
import Derived.Test.YtdhccodneoebpaaShXa
import Derived.Test.YtdhccodneoebpaaShXb
import Derived.Test.YtdhccodneoebpaaShXd
import Derived.Test.YtdhccodneoebpaaShXf
import Derived.Test.YtdhccodneoebpaaRows
set_option linter.unusedVariables false
set_option linter.unusedSimpArgs false
set_option linter.unusedSectionVars false
namespace Go.Proofs.Ytdhccodneoebpaa
namespace GV
open _root_.Go.Proofs.Try
open Go.IntWalk
set_option maxRecDepth 100000
set_option maxHeartbeats 20000000
theorem q5t{a:Bool}:TyOk prog 24 (zcf a):=by
 obtain⟨i,hi,b⟩: ∃ i,prog.info? 24=some i∧i.size=5:=jf (by kernel_rfl);exact ib underlying24 hi rfl b
theorem q1k:FieldOk prog 24 0 0:=by
 obtain⟨i,hi,a⟩: ∃ i,prog.info? 5=some i∧i.size=1:=jf (by kernel_rfl);exact uo underlying24 rfl rfl hi (by rw [a];rfl)
theorem q1p:FieldOk prog 24 1 1:=by
 obtain⟨i,hi,a⟩: ∃ i,prog.info? 5=some i∧i.size=1:=jf (by kernel_rfl);exact uo underlying24 rfl rfl hi (by rw [a];rfl)
theorem q1n:FieldOk prog 24 2 2:=by
 obtain⟨i,hi,a⟩: ∃ i,prog.info? 5=some i∧i.size=1:=jf (by kernel_rfl);exact uo underlying24 rfl rfl hi (by rw [a];rfl)
theorem zv5:FieldOk prog 24 4 4:=by
 obtain⟨i,hi,a⟩: ∃ i,prog.info? 22=some i∧i.size=1:=jf (by kernel_rfl);exact uo underlying24 rfl rfl hi (by rw [a];rfl)
theorem q40{a:Bool}:TyOk prog 22 (tSl a (zy .u16)):=by
 obtain⟨i,hi,b⟩: ∃ i,prog.info? 22=some i∧i.size=1:=jf (by kernel_rfl);exact ib underlying22 hi rfl b
theorem q4e:TyOk prog 72 (zy .u16):=by
 obtain⟨i,hi,a⟩: ∃ i,prog.info? 72=some i∧i.size=1:=jf (by kernel_rfl);exact ib underlying72 hi rfl a
theorem q5x:SlOk prog 22 72 (zy .u16):=⟨underlying22,q4e⟩
theorem q0v:FieldOk prog 24 3 3:=by
 obtain⟨i,hi,a⟩: ∃ i,prog.info? 4=some i∧i.size=1:=jf (by kernel_rfl);exact uo underlying24 rfl rfl hi (by rw [a];rfl)
theorem zc0{N:Nat}{R:RH}{x:MDat}{ae:Value}(bj:VRep (zcf false) R ae x){r:Mach}(b:z1c N x=some r):CallP prog 12 #[ae] R (fun v R'=>VRep (jg false false) R' v r):=by
 refine qp (args:=[ae]) func12 rfl rfl fun A=>?_;rw [z1c] at b;refine zo (y5 (T:=(zcf false)) rfl rfl rfl bj fun v1 R3 bk h5 h2=>?_);refine jc rfl zg0 fun b6=>?_;refine j4 (jq rfl q1k zx9 rfl h2 fun v8 h9=>?_);refine j3 rfl ty5 rfl h9 fun cm bl=>?_;obtain rfl:=qj.1 bl;obtain⟨bm,b⟩:=za b
 refine zi (z4i rfl rfl bm) ?_;obtain⟨bn,b⟩:=za b;refine zi (z4d underlying5 underlying3 rfl bn) ?_;obtain⟨bo,b⟩:=za b;refine zi (ji rfl rfl bo) (zm (vi ((1:Int)+(x.states%6))) (j4 (jq rfl q1p zxk rfl h2 fun cn bp=>?_)));refine j3 rfl ty5 rfl bp fun co bq=>?_;obtain rfl:=qj.1 bq
 obtain⟨br,b⟩:=za b;refine zi (z4i rfl rfl br) ?_;obtain⟨bs,b⟩:=za b;refine zi (z4d underlying5 underlying3 rfl bs) ?_;obtain⟨bt,b⟩:=za b;refine zi (ji rfl rfl bt) (jq rfl q1n zvo rfl h2 fun cp bu=>?_);refine j3 rfl ty5 rfl bu fun cq bw=>?_;obtain rfl:=qj.1 bw
 obtain⟨bx,b⟩:=za b;refine zi (z4i rfl rfl bx) ?_;obtain⟨bz,b⟩:=za b;refine zi (z4d underlying5 underlying3 rfl bz) ?_;obtain⟨bA,b⟩:=za b
 refine zi (ji rfl rfl bA) (zi (jy (ps:=[(0,(vi ((1:Int)+(x.ins%3)))),(1,(vi ((1:Int)+(x.outs%3))))]) (v:=(.agg #[(vi ((1:Int)+(x.ins%3))),(vi ((1:Int)+(x.outs%3))),vs0])) rfl (fun w=>by kernel_rfl)) (jc rfl zg0 fun o=>?_))
 refine ql (i:=0) (vs:=[(vi ((1:Int)+(x.ins%3))),(vi ((1:Int)+(x.outs%3))),vs0]) z3d rfl rfl rfl rfl rfl rfl (qb rfl (qb rfl (qb rfl qy))) ?_;refine z8 ?_;obtain⟨u,c,b⟩:=zu b
 refine jb (γ:=(List (List Edge))×Value×Frag) (rs [5,10,26,86]) (fun g=>[]) (fun g=>[box b6 [(vi 0),(vi 0),vs0] 27,box o [(vi ((1:Int)+(x.ins%3))),(vi ((1:Int)+(x.outs%3))),g.2.1] 27,g.2.2]++A) (fun g R=>u=g.1∧ORep (tSl false kEdge) R g.2.2 g.2.1 g.1∧True) ?_ ?_
 refine zo (zm (vi 0) (z8 (zz (z4z ?_))))
 refine ky (γ:=Nat×Int×(List (List Edge))×Value×Frag) (rs [5,10,26,86]) (fun g=>[(5,(vi g.2.1))]) (fun g=>[box b6 [(vi 0),(vi 0),vs0] 27,box o [(vi ((1:Int)+(x.ins%3))),(vi ((1:Int)+(x.outs%3))),g.2.2.2.1] 27,g.2.2.2.2]++A) (fun g R=>pz N x g.1 g.2.1 g.2.2.1=some u∧ORep (tSl false kEdge) R g.2.2.2.2 g.2.2.2.1 g.2.2.1∧True) (fun g=>g.1) (N,0,[],vs0,emp) ⟨[],(pk 2 rfl (pk 1 rfl (pk 0 rfl (List.Perm.refl _))))⟩ ⟨c,(z0y (T:=(tSl false kEdge))),trivial⟩ ?_
 clear c;rintro⟨L,f,M,z,C⟩ bR cr s ⟨c,ao,_⟩;rcases L with _|L;exact j6 c;replace c:pz N x (L+1) f M=some u:=c;rw [pz] at c
 refine q9 (zo (zl (vi f) (zl (vi ((1:Int)+(x.states%6))) (zi (jk rfl rfl) (z8 (qa rfl c (fun c=>?_) (fun c=>?_)))))));refine qc (q9 (zz (zo (zm vs0 (z8 ?_)))));obtain⟨m,d,c⟩:=zu c
 refine jb (γ:=(List Edge)×Value×Frag) (rs [6,10,31,80]) (fun g=>[(6,g.2.1)]) (fun g=>[box b6 [(vi 0),(vi 0),vs0] 27,box o [(vi ((1:Int)+(x.ins%3))),(vi ((1:Int)+(x.outs%3))),z] 27,C,g.2.2]++A) (fun g R=>m=g.1∧ORep kEdge R g.2.2 g.2.1 g.1∧True) ?_ ?_
 refine zo (zm (vi 0) (z8 (zz (z4z ?_))))
 refine ky (γ:=Nat×(List Edge)×Int×Value×Frag) (rs [6,10,31,80]) (fun g=>[(6,g.2.2.2.1),(7,(vi g.2.2.1))]) (fun g=>[box b6 [(vi 0),(vi 0),vs0] 27,box o [(vi ((1:Int)+(x.ins%3))),(vi ((1:Int)+(x.outs%3))),z] 27,C,g.2.2.2.2]++A) (fun g R=>xk N x f g.1 g.2.1 g.2.2.1=some m∧ORep kEdge R g.2.2.2.2 g.2.2.2.1 g.2.1∧True) (fun g=>g.1) (N,[],0,vs0,emp) ⟨[],(pk 1 rfl (pk 1 rfl (pk 1 rfl (pk 0 rfl (List.Perm.refl _)))))⟩ ⟨d,(z0y (T:=kEdge)),trivial⟩ ?_
 clear d;rintro⟨O,y,k,ag,ap⟩ bS cs t ⟨d,ah,_⟩;rcases O with _|O;exact j6 d;replace d:xk N x f (O+1) y k=some m:=d;rw [xk] at d
 refine q9 (zo (zl (vi k) (zi (qd z3q rfl) (zi (zf (i:=1) ag3 rfl rfl rfl) (zi (jk rfl rfl) (z8 (qa rfl d (fun d=>?_) (fun d=>?_))))))));refine qc ?_;obtain⟨ai,e,d⟩:=zu d
 refine jb (γ:=(List Edge)×Value×Frag) (rs [6,7,8,10,37,80]) (fun g=>[(6,g.2.1)]) (fun g=>[box b6 [(vi 0),(vi 0),vs0] 27,box o [(vi ((1:Int)+(x.ins%3))),(vi ((1:Int)+(x.outs%3))),z] 27,C,g.2.2]++A) (fun g R=>ai=g.1∧ORep kEdge R g.2.2 g.2.1 g.1∧True) ?_ ?_
 refine zz (zo (zm (vi 0) (z8 ?_)));obtain⟨a,h,e⟩:=zu e;refine jb (γ:=Int) (rs [8,10,37,54]) (fun g=>[(8,(vi g))]) (fun g=>[box b6 [(vi 0),(vi 0),vs0] 27,box o [(vi ((1:Int)+(x.ins%3))),(vi ((1:Int)+(x.outs%3))),z] 27,C,ap]++A) (fun g R=>a=g∧True) ?_ ?_
 refine zo (zl (vi f) (zi (qd z3q rfl) (zi (zf (i:=1) ag3 rfl rfl rfl) ?_)));obtain⟨bB,h⟩:=za h;refine zi (zd4 rfl rfl bB) (zl (vi k) ?_);obtain⟨bC,h⟩:=za h
 refine zi (ji rfl rfl bC) (zm (vi ((f*((1:Int)+(x.ins%3)))+k)) (j4 (zl (vi ((f*((1:Int)+(x.ins%3)))+k)) (jq rfl zv5 zp3 rfl (h2.mono (s.trans t)) fun ct bD=>?_))));refine j3 rfl q40 rfl bD fun cu bE=>?_
 refine zi (qx rfl underlying22 rfl (je bE)) (zi (jk rfl rfl) (z8 (qa rfl h (fun h=>?_) (fun h=>?_))));refine zt (jq rfl zv5 zp3 rfl (h2.mono (s.trans t)) fun cv bF=>?_);refine j3 rfl q40 rfl bF fun cw bG=>?_;refine zl (vi ((f*((1:Int)+(x.ins%3)))+k)) ?_;obtain⟨aq,h⟩:=za h
 refine yj (i:=((f*((1:Int)+(x.ins%3)))+k).toNat) rfl q5x rfl (je bG) (zb rfl aq.1) (zn aq) fun cx bH=>?_;refine j3 rfl q4e rfl bH fun cy bI=>?_;obtain rfl:=qj.1 bI;obtain⟨bJ,h⟩:=za h
 refine zi (z4d underlying72 underlying3 rfl bJ) (zm (vi (ix x.edges ((f*((1:Int)+(x.ins%3)))+k))) (z8 ?_));exact⟨dkt,(RH.le.refl _),jr,(ix x.edges ((f*((1:Int)+(x.ins%3)))+k)),⟨rfl,trivial⟩,prm,(Option.some.inj h).symm,trivial⟩;refine qc ?_
 exact⟨dkt,(RH.le.refl _),jr,0,⟨rfl,trivial⟩,prm,(Option.some.inj h).symm,trivial⟩;rintro a cz cA p ⟨rfl,_⟩;refine zo (zqp rfl (ak q0v zxc rfl (h2.mono ((s.trans t).trans p))) fun cB bK=>?_)
 refine jd rfl (zh7 (u6 ty4 rfl bK)) (jd (v:=(.bool x.part)) rfl (zg rfl) (j5 rfl rfl rfl rfl (fun hB=>qi (v:=(vi a)) (zg rfl)) fun bT au=>?_));obtain⟨av,e⟩:=za e;refine j5 rfl rfl rfl rfl (fun hB=>qi (z4i (au.1 (zk rfl hB)) rfl (av (zk rfl hB)))) fun bU aw=>?_
 refine j5 rfl rfl rfl rfl (fun hB=>qi (uu (aw.1 (zk rfl hB)) rfl)) fun bV ax=>?_;refine jd rfl (uk rfl (fun hb=>(ax.1 (zk rfl hb))) rfl) (z8 (qa rfl e (fun e=>?_) (fun e=>?_)))
 refine zt (zl ag (zi (jy (ps:=[(0,(vi (-1))),(1,(vi (-1)))]) (v:=(.agg #[(vi (-1)),(vi (-1))])) rfl (fun w=>by kernel_rfl)) (bv (T:=kEdge) (X:=([(⟨(-1),(-1)⟩:Edge)]:List Edge)) (ps:=[(0,(.agg #[(vi (-1)),(vi (-1))]))]) (css:=[[(vi (-1)),(vi (-1))]]) rfl underlying54 ze1 rfl rfl (jv ⟨⟨_,_,rfl,rfl,rfl⟩,trivial⟩) rfl rfl (by decide) fun ay bW P az=>?_)))
 refine u7 (i:=0) rfl az fun aA E aB=>?_;have aC:VRep (tSl true kEdge) aA ay ([(⟨(-1),(-1)⟩:Edge)]:List Edge):=(z0d aB P);obtain⟨U,e⟩:=za e
 refine gq (i:=3) (X:=y) (Y:=([(⟨(-1),(-1)⟩:Edge)]:List Edge)) rfl underlying54 ze1 rfl rfl rfl (ah.mono (p.trans E)) (je (Sub.v (B:=(tSl false kEdge)) (uh Sub.refl (fun _=>rfl)) aC)) U.1 U.2 fun V aD aE=>?_;refine zm V (z8 ?_)
 exact⟨dkt,(p.trans E),jr,((y++([(⟨(-1),(-1)⟩:Edge)]:List Edge)),V,aD),⟨rfl,trivial⟩,prm,(Option.some.inj e).symm,aE,trivial⟩;obtain⟨aF,aG,aH,aI,aJ,e⟩:=zxo e
 let G1:=([(⟨(a/4)%((1:Int)+(x.states%6)),((a/4)/((1:Int)+(x.states%6)))%((1:Int)+(x.outs%3))⟩:Edge)]:List Edge)
 refine ou 14 [] [phX ag,phX (vi a),phX (vi (a/4)),phX (vi ((1:Int)+(x.states%6))),phX (vi ((a/4)%((1:Int)+(x.states%6)))),phX (vi a),phX (vi (a/4)),phX (vi ((1:Int)+(x.states%6))),phX (vi ((a/4)/((1:Int)+(x.states%6)))),phX (.pointer (some ⟨o,1,none⟩)),phX (vi ((1:Int)+(x.outs%3))),phX (vi (((a/4)/((1:Int)+(x.states%6)))%((1:Int)+(x.outs%3)))),phX (.agg #[(vi ((a/4)%((1:Int)+(x.states%6)))),(vi (((a/4)/((1:Int)+(x.states%6)))%((1:Int)+(x.outs%3))))]),phR (tSl true kEdge) G1] mixed (by kernel_rfl) (ng ⟨zq,zq,zq,zq,zq,zq,zq,zq,zq,zq,zq,zq,zq,l9,trivial⟩) ⟨?_,?_,?_,?_,?_,?_,?_,?_,?_,?_,?_,?_,?_,?_,trivial⟩ fun bX F=>?_
 intro l cD j n hd;exact ze rfl rfl rfl (zx (zg (n 6 rfl)));intro l cE j n hd;exact ze rfl rfl rfl (zx (zg (n 8 rfl)));rintro l cF j n ⟨q,_⟩;exact ze rfl rfl rfl (zx (zjo (q rfl) rfl aF));intro l cG j n hd;exact ze rfl rfl rfl (zx (zg (n 3 rfl)));rintro l cH j n ⟨q,d1,_⟩
 exact ze rfl rfl rfl (zx (z4i (q rfl) (d1 rfl) aG));intro l cI j n hd;exact ze rfl rfl rfl (zx (zg (n 8 rfl)));rintro l cJ j n ⟨q,_⟩;exact ze rfl rfl rfl (zx (zjo (q rfl) rfl aH));intro l cK j n hd;exact ze rfl rfl rfl (zx (zg (n 3 rfl)));rintro l cL j n ⟨q,d1,_⟩;have al:=q rfl
 exact ze rfl rfl rfl (zx (zjo al (d1 rfl) aI));intro l cM j n hd;exact ze rfl rfl rfl (zx (qd zk0 (n 4 rfl)));rintro l bY j n ⟨q,_⟩;exact ze rfl rfl rfl (zx (zf (i:=1) ag3 (q rfl) rfl rfl));rintro l bZ j n ⟨q,d1,_⟩;exact ze rfl rfl rfl (zx (z4i (q rfl) (d1 rfl) aJ))
 rintro l b0 j n ⟨q,d1,_⟩;have bL:l 69=(vi ((a/4)%((1:Int)+(x.states%6)))):=q rfl;have bM:l 76=(vi (((a/4)/((1:Int)+(x.states%6)))%((1:Int)+(x.outs%3)))):=d1 rfl
 exact ze rfl rfl rfl (zx (jy (ps:=[(0,(vi ((a/4)%((1:Int)+(x.states%6))))),(1,(vi (((a/4)/((1:Int)+(x.states%6)))%((1:Int)+(x.outs%3)))))]) (v:=(.agg #[(vi ((a/4)%((1:Int)+(x.states%6)))),(vi (((a/4)/((1:Int)+(x.states%6)))%((1:Int)+(x.outs%3))))])) (by simp only [List.map,ev,bL,bM]<;>rfl) (fun w=>by kernel_rfl)))
 rintro l b1 j n ⟨q,_⟩;have bN:l 77=(.agg #[(vi ((a/4)%((1:Int)+(x.states%6)))),(vi (((a/4)/((1:Int)+(x.states%6)))%((1:Int)+(x.outs%3))))]):=q rfl
 exact ze rfl rfl rfl (z4m (T:=kEdge) (X:=G1) (ps:=[(0,(.agg #[(vi ((a/4)%((1:Int)+(x.states%6)))),(vi (((a/4)/((1:Int)+(x.states%6)))%((1:Int)+(x.outs%3))))]))]) (css:=[[(vi ((a/4)%((1:Int)+(x.states%6)))),(vi (((a/4)/((1:Int)+(x.states%6)))%((1:Int)+(x.outs%3))))]]) underlying54 ze1 (by simp only [List.map,ev,bN]<;>rfl) rfl (jv ⟨⟨_,_,rfl,rfl,rfl⟩,trivial⟩) rfl rfl (by decide))
 intro b2 aL b3 aM b4 aN b5 aO b7 aP b8 aQ b9 aR ca aS cb aT cc aU cd aV ce aW cf aX cg aY;obtain rfl:=Eq.symm aL;obtain rfl:=Eq.symm aM;obtain rfl:=Eq.symm aN;obtain rfl:=Eq.symm aO;obtain rfl:=Eq.symm aP;obtain rfl:=Eq.symm aQ;obtain rfl:=Eq.symm aR;obtain rfl:=Eq.symm aS;obtain rfl:=Eq.symm aT
 obtain rfl:=Eq.symm aU;obtain rfl:=Eq.symm aV;obtain rfl:=Eq.symm aW;obtain rfl:=Eq.symm aX;obtain⟨W,e⟩:=za e;refine gq (i:=3) (X:=y) (Y:=G1) rfl underlying54 ze1 rfl rfl rfl (ah.mono (p.trans F)) (je (Sub.v (B:=(tSl false kEdge)) (uh Sub.refl (fun _=>rfl)) aY)) W.1 W.2 fun Z aZ a0=>?_
 refine zm Z (z8 ?_);exact⟨dkt,(p.trans F),jr,((y++G1),Z,aZ),⟨rfl,trivial⟩,prm,(Option.some.inj e).symm,a0,trivial⟩;rintro⟨ai,bO,al⟩ ch cN a1 ⟨rfl,bP,_⟩;refine zt (zl (vi k) ?_);obtain⟨a2,d⟩:=za d;refine zi (ji rfl rfl a2) (zm (vi (k+1)) (z8 ?_))
 exact⟨dkt,a1,jr,(O,ai,k+1,bO,al),Nat.lt_succ_self _,⟨rfl,rfl,trivial⟩,prm,d,bP,trivial⟩;refine jm ?_;exact⟨dkt,t,jr,(y,ag,ap),⟨rfl,trivial⟩,prm,(Option.some.inj d).symm,ah,trivial⟩;rintro⟨m,Q,cO⟩ ci cP aa ⟨rfl,bQ,_⟩
 refine zt (zi (qd dx rfl) (zi (zf (i:=1) q2b rfl rfl rfl) (zl Q (u7 (i:=3) rfl bQ fun a3 G a4=>?_))));have ab:VRep (tSl false kEdge) a3 Q m:=(z6h a4)
 refine bv (T:=(tSl false kEdge)) (X:=([m]:List (List Edge))) (ps:=[(0,Q)]) (css:=[[Q]]) rfl underlying25 zke rfl (by simp only [List.map_cons,List.map_nil,z0s ab];rfl) (jv ⟨(kw rfl ab),trivial⟩) rfl rfl (by decide) fun a5 cj S a6=>?_;refine u7 (i:=0) rfl a6 fun a7 H a8=>?_
 have a9:VRep (tSl true (tSl false kEdge)) a7 a5 ([m]:List (List Edge)):=(z0d a8 S);obtain⟨ac,c⟩:=za c
 refine gq (i:=2) (X:=M) (Y:=([m]:List (List Edge))) rfl underlying25 zke rfl rfl rfl (ao.mono ((aa.trans G).trans H)) (je (Sub.v (B:=(tSl false (tSl false kEdge))) (uh Sub.refl (fun _=>rfl)) a9)) ac.1 ac.2 fun ad ba I=>?_
 refine zi (qd dx rfl) (ql (i:=1) (vs:=[ad]) q1t rfl rfl (ui I) rfl rfl rfl (qb (uq I) qy) ?_);refine z8 (zt (zl (vi f) ?_));obtain⟨bb,c⟩:=za c;refine zi (ji rfl rfl bb) (zm (vi (f+1)) (z8 ?_))
 exact⟨dkt,((aa.trans G).trans H),jr,(L,f+1,(M++([m]:List (List Edge))),ad,ba),Nat.lt_succ_self _,⟨rfl,trivial⟩,prm,c,I,trivial⟩;refine jm ?_;exact⟨dkt,s,jr,(M,z,C),trivial,prm,(Option.some.inj c).symm,ao,trivial⟩;rintro⟨u,K,cQ⟩ ck cR bc ⟨rfl,be,_⟩
 refine zo (zi (xg (i:=1) z7w z3d rfl rfl rfl rfl) (ql (i:=0) (vs:=[(vi ((1:Int)+(x.ins%3))),(vi ((1:Int)+(x.outs%3))),K]) z3d rfl rfl rfl rfl rfl rfl (qb rfl (qb rfl (qb (uq be) qy))) ?_));refine z8 (tq (i:=2) rfl be fun bf am bg=>?_)
 have bh:VRep (tSl false (tSl false kEdge)) bf K u:=(z6h bg);refine qw ?_;obtain rfl:=Option.some.inj b
 refine qh (D:=[]) (J:=[box b6 [(vi ((1:Int)+(x.ins%3))),(vi ((1:Int)+(x.outs%3))),K] 27,box o [(vi ((1:Int)+(x.ins%3))),(vi ((1:Int)+(x.outs%3))),K] 27]) (rs:=[.cell 2 27]) (vs:=[(.agg #[(vi ((1:Int)+(x.ins%3))),(vi ((1:Int)+(x.outs%3))),K])]) ((bk.trans bc).trans am) rfl rfl ⟨⟨_,rfl,fun w hh=>z3i (i:=0) hh rfl rfl z7w z3d rfl rfl⟩,trivial⟩ ?_
 exact⟨rfl,(⟨_,⟨_,_,rfl,rfl,⟨_,_,rfl,rfl,(kw rfl bh)⟩⟩,rfl⟩:VRep (jg false false) _ _ (⟨(1:Int)+(x.ins%3),(1:Int)+(x.outs%3),u⟩:Mach))⟩
theorem q6a:Enters prog 12:=enters_of func12 rfl (by kernel_rfl)
end GV
end Go.Proofs.Ytdhccodneoebpaa
