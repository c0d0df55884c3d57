import Derived.Test.YtdhccodneoebpaaShWe
import Derived.Test.YtdhccodneoebpaaShXa
import Derived.Test.YtdhccodneoebpaaShXb
import Derived.Test.YtdhccodneoebpaaShXc
import Derived.Test.YtdhccodneoebpaaRows
set_option linter.unusedVariables false
set_option linter.unusedSimpArgs false
set_option linter.unusedSectionVars false
namespace Go.Proofs.Ytdhccodneoebpaa
namespace GV
open _root_.Go.Proofs.Try
open Go.IntWalk
set_option maxRecDepth 100000
set_option maxHeartbeats 20000000
theorem zy3{a:Bool}:TyOk prog 41 (ng a):=by
 obtain⟨i,hi,b⟩: ∃ i,prog.info? 41=some i∧i.size=3:=jv (by kernel_rfl);exact ai underlying41 hi rfl b
theorem zuw:FieldOk prog 41 0 0:=by
 obtain⟨i,hi,a⟩: ∃ i,prog.info? 5=some i∧i.size=1:=jv (by kernel_rfl);exact vg underlying41 rfl rfl hi (by rw [a];rfl)
theorem zuj:FieldOk prog 41 1 1:=by
 obtain⟨i,hi,a⟩: ∃ i,prog.info? 5=some i∧i.size=1:=jv (by kernel_rfl);exact vg underlying41 rfl rfl hi (by rw [a];rfl)
theorem zja:FieldOk prog 41 2 2:=by
 obtain⟨i,hi,a⟩: ∃ i,prog.info? 39=some i∧i.size=1:=jv (by kernel_rfl);exact vg underlying41 rfl rfl hi (by rw [a];rfl)
theorem zt4{a:Bool}:TyOk prog 39 (tSl a (q9 .u8)):=by
 obtain⟨i,hi,b⟩: ∃ i,prog.info? 39=some i∧i.size=1:=jv (by kernel_rfl);exact ai underlying39 hi rfl b
theorem zvn:SlOk prog 39 5 (q9 .u8):=⟨underlying39,ty5⟩
theorem zb0{N:Nat}{R:RH}{x:Sd}{ab:Value}(aX:VRep (ng false) R ab x){r:Mach}(d:z0z N x=some r):CallP prog 17 #[ab] R (fun v R'=>VRep (jl false false) R' v r):=by
 refine qo (args:=[ab]) func17 rfl rfl fun A=>?_;rw [z0z] at d;refine zl (uz (T:=(ng false)) rfl rfl rfl aX fun v1 R3 aY h5 h2=>?_);refine jb rfl zdu fun b6=>?_;refine j4 (jg rfl zuw zaw rfl h2 fun v8 h9=>?_);refine qp rfl ty5 rfl h9 fun bG aZ=>?_;obtain rfl:=qh.1 aZ
 obtain⟨a0,d⟩:=zb d;refine zi (z3m underlying5 underlying3 rfl a0) ?_;obtain⟨a1,d⟩:=zb d;refine zi (z3k rfl rfl a1) ?_;obtain⟨a2,d⟩:=zb d;refine zi (je rfl rfl a2) (zk (vi ((1:Int)+(x.fAc%5))) (j4 (jg rfl zuj zba rfl h2 fun bH a3=>?_)))
 refine qp rfl ty5 rfl a3 fun bI a4=>?_;obtain rfl:=qh.1 a4;obtain⟨a5,d⟩:=zb d;refine zi (z3m underlying5 underlying3 rfl a5) ?_;obtain⟨a6,d⟩:=zb d;refine zi (z3k rfl rfl a6) ?_;obtain⟨a7,d⟩:=zb d
 refine zi (je rfl rfl a7) (zi (kw (ps:=[(0,(vi ((1:Int)+(x.fK%2)))),(1,(vi 2))]) (v:=(.agg #[(vi ((1:Int)+(x.fK%2))),(vi 2),vs0])) rfl (fun w=>by kernel_rfl)) (jb rfl zdu fun o=>?_))
 refine qj (i:=0) (vs:=[(vi ((1:Int)+(x.fK%2))),(vi 2),vs0]) z4c rfl rfl rfl rfl rfl rfl (qa rfl (qa rfl (qa rfl qw))) ?_;refine z8 ?_;obtain⟨p,e,d⟩:=zn d
 refine j6 (γ:=(List (List Edge))×Value×Frag) (rs [5,10,21,80]) (fun g=>[]) (fun g=>[box b6 [(vi 0),(vi 0),vs0] 27,box o [(vi ((1:Int)+(x.fK%2))),(vi 2),g.2.1] 27,g.2.2]++A) (fun g R=>p=g.1∧ORep (tSl false kEdge) R g.2.2 g.2.1 g.1∧True) ?_ ?_;refine zl (zk (vi 0) (z8 (zy (z4n ?_))))
 refine kg (γ:=Nat×Int×(List (List Edge))×Value×Frag) (rs [5,10,21,80]) (fun g=>[(5,(vi g.2.1))]) (fun g=>[box b6 [(vi 0),(vi 0),vs0] 27,box o [(vi ((1:Int)+(x.fK%2))),(vi 2),g.2.2.2.1] 27,g.2.2.2.2]++A) (fun g R=>xw N x g.1 g.2.1 g.2.2.1=some p∧ORep (tSl false kEdge) R g.2.2.2.2 g.2.2.2.1 g.2.2.1∧True) (fun g=>g.1) (N,0,[],vs0,emp) ⟨[],(pk 2 rfl (pk 1 rfl (pk 0 rfl (List.Perm.refl _))))⟩ ⟨e,(z0v (T:=(tSl false kEdge))),trivial⟩ ?_
 clear e;rintro⟨z,a,C,E,F⟩ bo bJ l ⟨e,ah,_⟩;rcases z with _|z;exact qy e;replace e:xw N x (z+1) a C=some p:=e;rw [xw] at e
 refine zx (zl (zm (vi a) (zm (vi ((1:Int)+(x.fAc%5))) (zi (jd rfl rfl) (z8 (zw rfl e (fun e=>?_) (fun e=>?_)))))));refine qc (zx (zy (zl (zk vs0 (z8 ?_)))));obtain⟨k,f,e⟩:=zn e
 refine j6 (γ:=(List Edge)×Value×Frag) (rs [6,10,26,74]) (fun g=>[(6,g.2.1)]) (fun g=>[box b6 [(vi 0),(vi 0),vs0] 27,box o [(vi ((1:Int)+(x.fK%2))),(vi 2),E] 27,F,g.2.2]++A) (fun g R=>k=g.1∧ORep kEdge R g.2.2 g.2.1 g.1∧True) ?_ ?_;refine zl (zk (vi 0) (z8 (zy (z4n ?_))))
 refine kg (γ:=Nat×(List Edge)×Int×Value×Frag) (rs [6,10,26,74]) (fun g=>[(6,g.2.2.2.1),(7,(vi g.2.2.1))]) (fun g=>[box b6 [(vi 0),(vi 0),vs0] 27,box o [(vi ((1:Int)+(x.fK%2))),(vi 2),E] 27,F,g.2.2.2.2]++A) (fun g R=>xm N x a g.1 g.2.1 g.2.2.1=some k∧ORep kEdge R g.2.2.2.2 g.2.2.2.1 g.2.1∧True) (fun g=>g.1) (N,[],0,vs0,emp) ⟨[],(pk 1 rfl (pk 1 rfl (pk 1 rfl (pk 0 rfl (List.Perm.refl _)))))⟩ ⟨f,(z0v (T:=kEdge)),trivial⟩ ?_
 clear f;rintro⟨G,H,c,ai,aj⟩ bp bK m ⟨f,ak,_⟩;rcases G with _|G;exact qy f;replace f:xm N x a (G+1) H c=some k:=f;rw [xm] at f
 refine zx (zl (zm (vi c) (zi (qg z06 rfl) (zi (zg (i:=1) ag3 rfl rfl rfl) (zi (jd rfl rfl) (z8 (zw rfl f (fun f=>?_) (fun f=>?_))))))))
 refine qc (zx (zy (zl (zi (kw (ps:=[(0,(vi (-1))),(1,(vi (-1)))]) (v:=(.agg #[(vi (-1)),(vi (-1))])) rfl (fun w=>by kernel_rfl)) (jb rfl zmq fun al=>?_)))));refine qj (i:=0) (vs:=[(vi (-1)),(vi (-1))]) ze6 rfl rfl rfl rfl rfl rfl (qa rfl (qa rfl qw)) ?_;refine z8 ?_
 obtain⟨h,b,f⟩:=zn f;refine j6 (γ:=(Int×Int)) (rs [9,10,33,70]) (fun g=>[]) (fun g=>[box b6 [(vi 0),(vi 0),vs0] 27,box o [(vi ((1:Int)+(x.fK%2))),(vi 2),E] 27,F,aj,box al [(vi g.1),(vi g.2)] 53]++A) (fun g R=>h=g∧True) ?_ ?_
 refine zl (zm (vi a) (zi (qg z06 rfl) (zi (zg (i:=2) ag3 rfl rfl rfl) ?_)));obtain⟨a8,b⟩:=zb b;refine zi (zj4 rfl rfl a8) (zm (vi c) ?_);obtain⟨a9,b⟩:=zb b
 refine zi (je rfl rfl a9) (zk (vi ((a*((1:Int)+(x.fK%2)))+c)) (j4 (j5 (v:=(vi ((a*((1:Int)+(x.fK%2)))+c))) rfl (za rfl) (zj1 rfl (ym zja z1j rfl (h2.mono (l.trans m))) fun bL ba=>?_))));refine zj1 rfl (jm zt4 rfl ba) fun bM bb=>?_
 refine j5 rfl (qm rfl underlying39 rfl (jc bb)) (j5 rfl (jd rfl rfl) (j5 (v:=(.bool (decide (((a*((1:Int)+(x.fK%2)))+c)<(↑x.fU.length:Int))))) rfl (za rfl) (qi rfl rfl rfl rfl (fun n=>ym zja z1j rfl (h2.mono (l.trans m))) fun bN bc=>?_)))
 refine qi rfl rfl rfl rfl (fun n=>jm zt4 rfl (bc.1 (zh rfl n))) fun bO be=>?_;refine qi rfl rfl rfl rfl (fun n=>qf (v:=(vi ((a*((1:Int)+(x.fK%2)))+c))) (za rfl)) fun bP bf=>?_;obtain⟨am,b⟩:=zb b
 refine qi rfl rfl rfl rfl (fun n=>uq (i:=((a*((1:Int)+(x.fK%2)))+c).toNat) zvn rfl (jc (be.1 (zh rfl n))) (ze (bf.1 (zh rfl n)) (am (zh rfl n)).1) (zo (am (zh rfl n)))) fun bQ bg=>?_;refine qi rfl rfl rfl rfl (fun n=>qf (y5 (jm ty5 rfl (bg.1 (zh rfl n))))) fun bR bh=>?_;obtain⟨bi,b⟩:=zb b
 refine qi rfl rfl rfl rfl (fun n=>qf (z3k (bh.1 (zh rfl n)) rfl (bi (zh rfl n)))) fun bS bj=>?_;refine qi rfl rfl rfl rfl (fun n=>qf (jd (bj.1 (zh rfl n)) rfl)) fun bT bk=>?_;refine j5 rfl (u6 rfl (fun hb=>(bk.1 (zh rfl hb))) rfl) (z8 (zw rfl b (fun b=>?_) (fun b=>?_)))
 refine rq 17 mixed (by kernel_rfl) (by kernel_rfl) ?_;refine df (ym zja z1j rfl (h2.mono (l.trans m))) fun bV bl=>?_;refine df (jm zt4 rfl bl) fun bq an=>?_;refine jy (v:=(vi ((a*((1:Int)+(x.fK%2)))+c))) (za rfl) ?_;obtain⟨M,b⟩:=zb b
 refine df (uq (i:=((a*((1:Int)+(x.fK%2)))+c).toNat) zvn rfl (jc an) (ze rfl M.1) (zo M)) fun br ao=>?_;refine jy (y5 (jm ty5 rfl ao)) ?_;obtain⟨ap,b⟩:=zb b;refine jy (zns rfl rfl ap) ?_;obtain⟨aq,b⟩:=zb b;refine jy (z3m underlying5 underlying3 rfl aq) ?_
 refine jy (v:=(vi ((1:Int)+(x.fAc%5)))) (za rfl) ?_;obtain⟨ar,b⟩:=zb b;refine jy (z3k rfl rfl ar) ?_;refine df (ym zja z1j rfl (h2.mono (l.trans m))) fun bs au=>?_;refine df (jm zt4 rfl au) fun bt av=>?_;refine jy (v:=(vi ((a*((1:Int)+(x.fK%2)))+c))) (za rfl) ?_
 obtain⟨O,b⟩:=zb b;refine df (uq (i:=((a*((1:Int)+(x.fK%2)))+c).toNat) zvn rfl (jc av) (ze rfl O.1) (zo O)) fun bu aw=>?_;refine jy (y5 (jm ty5 rfl aw)) ?_;obtain⟨ax,b⟩:=zb b;refine jy (z3m underlying5 underlying3 rfl ax) ?_;obtain⟨ay,b⟩:=zb b
 refine jy (z3k rfl rfl ay) ?_
 refine jy (v:=(.agg #[(vi ((IntKind.u8.wrap (Int.tdiv (ix x.fU ((a*((1:Int)+(x.fK%2)))+c)) 8))%((1:Int)+(x.fAc%5)))),(vi ((ix x.fU ((a*((1:Int)+(x.fK%2)))+c))%2))])) (kw (ps:=[(0,(vi ((IntKind.u8.wrap (Int.tdiv (ix x.fU ((a*((1:Int)+(x.fK%2)))+c)) 8))%((1:Int)+(x.fAc%5))))),(1,(vi ((ix x.fU ((a*((1:Int)+(x.fK%2)))+c))%2)))]) (v:=(.agg #[(vi ((IntKind.u8.wrap (Int.tdiv (ix x.fU ((a*((1:Int)+(x.fK%2)))+c)) 8))%((1:Int)+(x.fAc%5)))),(vi ((ix x.fU ((a*((1:Int)+(x.fK%2)))+c))%2))])) rfl (fun w=>by kernel_rfl)) ?_
 intro bw ac;refine qj (i:=0) (vs:=[(vi ((IntKind.u8.wrap (Int.tdiv (ix x.fU ((a*((1:Int)+(x.fK%2)))+c)) 8))%((1:Int)+(x.fAc%5)))),(vi ((ix x.fU ((a*((1:Int)+(x.fK%2)))+c))%2))]) ze6 rfl rfl rfl rfl rfl rfl (qa rfl (qa rfl qw)) ?_;refine z8 ?_
 exact⟨dkt,ac,jr,((IntKind.u8.wrap (Int.tdiv (ix x.fU ((a*((1:Int)+(x.fK%2)))+c)) 8))%((1:Int)+(x.fAc%5)),(ix x.fU ((a*((1:Int)+(x.fK%2)))+c))%2),trivial,⟨[],(pk 1 rfl (pk 1 rfl (pk 1 rfl (pk 1 rfl (pk 0 rfl (List.Perm.refl _))))))⟩,(Option.some.inj b).symm,trivial⟩;refine qc ?_
 exact⟨dkt,(RH.le.refl _),jr,((-1),(-1)),trivial,⟨[],(pk 1 rfl (pk 1 rfl (pk 1 rfl (pk 1 rfl (pk 0 rfl (List.Perm.refl _))))))⟩,(Option.some.inj b).symm,trivial⟩;rintro h bx bW P ⟨rfl,_⟩
 refine zq (zm ai (zi (nu (i:=4) zsf ze6 rfl rfl rfl rfl) (p8 (T:=kEdge) (X:=([(⟨h.1,h.2⟩:Edge)]:List Edge)) (ps:=[(0,(.agg #[(vi h.1),(vi h.2)]))]) (css:=[[(vi h.1),(vi h.2)]]) rfl underlying54 zcs rfl rfl (kv ⟨⟨_,_,rfl,rfl,rfl⟩,trivial⟩) rfl rfl (by decide) fun az bz I aA=>?_)))
 refine uk (i:=0) rfl aA fun aB q aC=>?_;have aD:VRep (tSl true kEdge) aB az ([(⟨h.1,h.2⟩:Edge)]:List Edge):=(z01 aC I);obtain⟨Q,f⟩:=zb f
 refine bv (i:=3) (X:=H) (Y:=([(⟨h.1,h.2⟩:Edge)]:List Edge)) rfl underlying54 zcs rfl rfl rfl (ak.mono (P.trans q)) (jc (Sub.v (B:=(tSl false kEdge)) (kz Sub.refl (fun _=>rfl)) aD)) Q.1 Q.2 fun S aE aF=>?_;refine zk S (z8 (zq (zm (vi c) ?_)));obtain⟨aG,f⟩:=zb f
 refine zi (je rfl rfl aG) (zk (vi (c+1)) (z8 ?_));exact⟨dkt,(P.trans q),jr,(G,(H++([(⟨h.1,h.2⟩:Edge)]:List Edge)),c+1,S,aE),Nat.lt_succ_self _,⟨rfl,rfl,trivial⟩,⟨[box al [(vi h.1),(vi h.2)] 53],(pk 4 rfl (pk 0 rfl (pk 0 rfl (pk 0 rfl (pk 0 rfl (List.Perm.refl _))))))⟩,f,aF,trivial⟩;refine jq ?_
 exact⟨dkt,m,jr,(H,ai,aj),⟨rfl,trivial⟩,prm,(Option.some.inj f).symm,ak,trivial⟩;rintro⟨k,K,bX⟩ bA bY U ⟨rfl,bm,_⟩;refine zq (zi (qg vz rfl) (zi (zg (i:=1) zuh rfl rfl rfl) (zm K (uk (i:=3) rfl bm fun aH s aI=>?_))));have V:VRep (tSl false kEdge) aH K k:=(z6a aI)
 refine p8 (T:=(tSl false kEdge)) (X:=([k]:List (List Edge))) (ps:=[(0,K)]) (css:=[[K]]) rfl underlying25 zhf rfl (by simp only [List.map_cons,List.map_nil,lv V];rfl) (kv ⟨(u7 rfl V),trivial⟩) rfl rfl (by decide) fun aJ bB L aK=>?_;refine uk (i:=0) rfl aK fun aL t aM=>?_
 have aN:VRep (tSl true (tSl false kEdge)) aL aJ ([k]:List (List Edge)):=(z01 aM L);obtain⟨W,e⟩:=zb e
 refine bv (i:=2) (X:=C) (Y:=([k]:List (List Edge))) rfl underlying25 zhf rfl rfl rfl (ah.mono ((U.trans s).trans t)) (jc (Sub.v (B:=(tSl false (tSl false kEdge))) (kz Sub.refl (fun _=>rfl)) aN)) W.1 W.2 fun Z aO u=>?_
 refine zi (qg vz rfl) (qj (i:=1) (vs:=[Z]) zv3 rfl rfl (uh u) rfl rfl rfl (qa (uu u) qw) ?_);refine z8 (zq (zm (vi a) ?_));obtain⟨aP,e⟩:=zb e;refine zi (je rfl rfl aP) (zk (vi (a+1)) (z8 ?_))
 exact⟨dkt,((U.trans s).trans t),jr,(z,a+1,(C++([k]:List (List Edge))),Z,aO),Nat.lt_succ_self _,⟨rfl,trivial⟩,prm,e,u,trivial⟩;refine jq ?_;exact⟨dkt,l,jr,(C,E,F),trivial,prm,(Option.some.inj e).symm,ah,trivial⟩;rintro⟨p,aQ,bZ⟩ bC b0 aR ⟨rfl,bn,_⟩
 refine zl (zi (nu (i:=1) z9v z4c rfl rfl rfl rfl) (uk (i:=2) rfl bn fun aS ad aT=>?_));have aU:VRep (tSl false (tSl false kEdge)) aS aQ p:=(z6a aT);obtain⟨j,aV,d⟩:=zn d
 refine ja rfl zwx rfl (z3y (⟨_,⟨_,_,rfl,rfl,⟨_,_,rfl,rfl,(u7 rfl aU)⟩⟩,rfl⟩:VRep (jl false false) _ _ (⟨(1:Int)+(x.fK%2),2,p⟩:Mach)) aV) fun bD bE ae aW=>?_;obtain⟨y,rfl,aa⟩:=z5z aW
 refine qj (i:=0) (vs:=[(vi j.inputs),(vi j.outputs),y]) z4c rfl rfl rfl rfl rfl rfl (qa rfl (qa rfl (qa (ze5 aa) qw))) ?_;refine z8 (ql ?_);obtain rfl:=Option.some.inj d
 refine qd (D:=[]) (J:=[box b6 [(vi j.inputs),(vi j.outputs),y] 27,box o [(vi ((1:Int)+(x.fK%2))),(vi 2),aQ] 27]) (rs:=[.cell 2 27]) (vs:=[(.agg #[(vi j.inputs),(vi j.outputs),y])]) (((aY.trans aR).trans ad).trans ae) rfl rfl ⟨⟨_,rfl,fun w hh=>z2s (i:=0) hh rfl rfl z9v z4c rfl rfl⟩,trivial⟩ ?_
 exact⟨rfl,(⟨_,⟨_,_,rfl,rfl,⟨_,_,rfl,rfl,(u7 rfl aa)⟩⟩,rfl⟩:VRep (jl false false) _ _ (⟨j.inputs,j.outputs,j.rows⟩:Mach))⟩
theorem zzi:Enters prog 17:=enters_of func17 rfl (by kernel_rfl)
end GV
end Go.Proofs.Ytdhccodneoebpaa
